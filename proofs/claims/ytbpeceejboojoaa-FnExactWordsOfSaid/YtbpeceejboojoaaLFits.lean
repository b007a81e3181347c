/- The reference's test of a text by derivatives: the walk. -/
import Derived.Test.YtbpeceejboojoaaLeft
namespace Go.Proofs.Ytbpeceejboojoaa
set_option linter.unusedVariables false
set_option linter.unusedSimpArgs false
open Go.RowKit

theorem ders_snoc (s : List UInt8) (c : UInt8) : ∀ t, ders t (s ++ [c]) = der (ders t s) c := by
  induction s with
  | nil => intro t; rfl
  | cons d s ih => intro t; rw [List.cons_append, ders, ders, ih]
theorem ders_take {s : List UInt8} {k : Nat} {c : UInt8} (h : s[k]? = some c) (t : Tr) : ders t (s.take (k + 1)) = der (ders t (s.take k)) c := by
  obtain ⟨hk, rfl⟩ := List.getElem?_eq_some_iff.1 h
  rw [List.take_succ_eq_append_getElem hk, ders_snoc]
set_option maxRecDepth 100000 in
set_option maxHeartbeats 4000000 in
theorem l5Fits_any (t : Tr) (s : ByteArray) (lo p : Nat) (w : World) (ht : TA w lo t p) (hs : s.size ≤ 1000) :
    Calls Try.prog 23 #[.pointer (some ⟨p, 0, none⟩), .string s] w fun e w' => e = .returned (.bool (mt t s.data.toList)) ∧ Below w.heap.size w w' := by
  have HT := Lib.hid ht
  have hsz : s.data.toList.length = s.size := by simp
  have HL := Lib.hid hsz
  have HM := Lib.hid (nul_ders s.data.toList t)
  have HG := Lib.hid (fun (k : Nat) (h : k < s.size) => (show s.data.toList[k]? = some (getElem s k h) by rw [List.getElem?_eq_getElem (by rw [hsz]; exact h)]; simp [ByteArray.getElem_eq_getElem_data]))
  clear ht hsz
  obtain ⟨l, hl⟩ : ∃ l, s.data.toList = l := ⟨_, rfl⟩
  rw [hl] at HL HM HG ⊢
  clear hl
  go_enter Try.func23, Try.ntmps23
  go_wp2
  go_loopw [0, 5] (fun x i wr => ∃ k q : Nat, k ≤ s.size ∧ i = .int .i64 k ∧ x = .pointer (some ⟨q, 0, none⟩) ∧ TA wr lo (ders t (l.take k)) q ∧ Below w.heap.size w wr) (fun _ i _ => s.size - (intOf i).toNat)
  case atStart => exact ⟨0, p, Nat.zero_le _, rfl, rfl, HT.out, Below.refl _ _⟩
  case round =>
    obtain ⟨k, q, hk, rfl, rfl, hq, hb⟩ := hrel
    have HQ := Lib.hid hq
    have HB := Lib.hid hb
    have hsw := hb.size
    clear hq hb
    by_cases hlt : k < s.size
    · have HD := Lib.hid (ders_take (HG.out k hlt) t)
      go_wp2_with fail
      refine (l5Left_any _ _ lo q wr HQ.out).mono ?_
      rintro e w1 ⟨q1, rfl, hq1, hb1⟩
      have HQ1 := Lib.hid hq1
      have HB1 := Lib.hid (HB.out.trans (hb1.mono hsw))
      clear hq1 hb1
      go_wp2
      go_roundw
      case rel => exact ⟨k + 1, q1, by omega, by go_num, rfl, by rw [HD.out]; exact HQ1.out, HB1.out⟩
      case measure => simp [intOf]; omega
    · have HE := Lib.hid (show nul (ders t (l.take k)) = mt t l by rw [List.take_of_length_le (by have := HL.out; omega)]; exact HM.out)
      go_wp2_with fail
      refine (l5Empty_any _ q lo _ wr HQ.out.wide).mono ?_
      rintro e w' ⟨rfl, rfl⟩
      go_wp2
      go_ret
      rw [HE.out]
      exact ⟨rfl, HB.out⟩
end Go.Proofs.Ytbpeceejboojoaa
