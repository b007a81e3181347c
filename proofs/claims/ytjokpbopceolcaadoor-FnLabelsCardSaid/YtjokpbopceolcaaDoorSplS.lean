/- ReadLabels: the reference's walk. -/
import Derived.Test.YtjokpbopceolcaaDoorSpl
import Derived.Test.YtjokpbopceolcaaDoorAppR
import Derived.Test.YtjokpbopceolcaaDoorGamS
import Derived.Deep.RegionHeld3
namespace Go.Proofs.YtjokpbopceolcaaDoor
set_option linter.unusedVariables false
set_option linter.unusedSimpArgs false
open Go.RowKit

theorem strs_get {l : List ByteArray} {k : Nat} {x : ByteArray} (e : l[k]? = some x) : (strs l)[k]? = some (.string x) := by simp [strs, e]
theorem strs_app (a b : List ByteArray) : strs (a ++ b) = strs a ++ strs b := List.map_append
theorem strs_one (l : List ByteArray) : ∀ u ∈ strs l, u.oneCell' = true := by
  intro u hu
  obtain ⟨x, _, rfl⟩ := List.mem_map.1 hu
  rfl
theorem Rd.str_at {w : World} {B n : Nat} {A : Option Addr} {l : List ByteArray} {k : Nat} (h : Rd w B 1 A n (strs l)) (hk : k < n) : ∃ b off x, A = some ⟨b, off, none⟩ ∧ b < B ∧ l[k]? = some x ∧ w.cell? ⟨b, off + k, none⟩ = some (.string x) := by
  obtain ⟨b, off, e, hb, hc⟩ := h.2 (by omega)
  have hl : k < l.length := by have := h.1; rw [strs_len] at this; omega
  exact ⟨b, off, l[k], e, hb, List.getElem?_eq_getElem hl, hc k _ (strs_get (List.getElem?_eq_getElem hl))⟩
theorem toB_cut (s : ByteArray) (a b : Nat) : toB ((s.data.toList.drop a).take (b - a)) = s.extract a b := by
  rw [← toB_of (s.extract a b), ByteArray.data_extract, Array.toList_extract]
theorem glue_eq (c : UInt8) (cur : List UInt8) (l : List UInt8) (k : Nat) (x : UInt8) (h : l[k]? = some x) : glue cur (sp c (l.drop k)) = if x = c then cur :: sp c (l.drop (k + 1)) else glue (cur ++ [x]) (sp c (l.drop (k + 1))) := by
  obtain ⟨hk, hx⟩ := List.getElem?_eq_some_iff.1 h
  rw [List.drop_eq_getElem_cons hk, hx, sp]
  by_cases e : x = c
  · rw [if_pos e, if_pos e]; simp [glue]
  · rw [if_neg e, if_neg e, glue_glue]
theorem cut_snoc {l : List UInt8} {f k : Nat} {x : UInt8} (hf : f ≤ k) (h : l[k]? = some x) : (l.drop f).take (k + 1 - f) = (l.drop f).take (k - f) ++ [x] := by
  rw [show k + 1 - f = (k - f) + 1 by omega]
  exact take_snoc' (l.drop f) (k - f) x (by rw [List.getElem?_drop, show f + (k - f) = k by omega]; exact h)
set_option maxRecDepth 100000 in
set_option maxHeartbeats 4000000 in
theorem l3Split_any (s : ByteArray) (c : UInt8) (w : World) (hs : s.size ≤ 1048576) :
    Calls Tryd.prog 29 #[.string s, .int .u8 c.toNat] w fun e w' => ∃ A cc, e = .returned (.slice A (sp c s.data.toList).length cc) ∧ w'.ownsRow w.heap.size 9 1 (.slice A (sp c s.data.toList).length cc) (sp c s.data.toList).length (strs ((sp c s.data.toList).map toB)) ∧ Below w.heap.size w w' := by
  obtain ⟨i0, hi, hz0, hz1, hz2⟩ := info_parts infoStr
  have HI := Lib.hid (And.intro hi (And.intro hz0 (And.intro hz1 hz2)))
  clear hi hz0 hz1 hz2
  have HA := Lib.hid (fun (k : Nat) (h : k < s.size) => byte_atG s k h)
  have HCUT := Lib.hid (fun a b => toB_cut s a b)
  obtain ⟨l, hl⟩ : ∃ l, s.data.toList = l := ⟨_, rfl⟩
  have hsz : l.length = s.size := by rw [← hl]; simp
  have hcb := c.toNat_lt
  rw [hl] at HA HCUT ⊢
  clear hl
  obtain ⟨R, hR⟩ : ∃ R, sp c l = R := ⟨_, rfl⟩
  have HR := Lib.hid hR
  have hRl : R.length ≤ 1048577 := by rw [← hR, sp_len]; have := List.count_le_length (a := c) (l := l); omega
  rw [hR]
  clear hR
  go_enter Tryd.func29, Tryd.ntmps29
  go_wp2_with fail
  go_loopw [5, 6, 7] (fun v fr i wr => ∃ (k f m : Nat) (A : Option Addr) (cc : Nat) (ps : List (List UInt8)), k ≤ s.size ∧ f ≤ k ∧ i = .int .i64 k ∧ fr = .int .i64 f ∧ v = .slice A m cc ∧ wr.ownsRow w.heap.size 9 1 (.slice A m cc) m (strs (ps.map toB)) ∧ ps.length = m ∧ m ≤ k ∧ Below w.heap.size w wr ∧ Hid (R = ps ++ glue ((l.drop f).take (k - f)) (sp c (l.drop k)))) (fun _ _ i _ => s.size - (intOf i).toNat)
  case atStart => exact ⟨0, 0, 0, none, 0, [], Nat.zero_le _, Nat.le_refl _, rfl, rfl, rfl, World.ownsRow_nil _ _ _ _, rfl, Nat.le_refl _, Below.refl _ _, Lib.hid (by rw [HR.out.symm]; simp [glue_nil (sp_ne c l)])⟩
  case round =>
    obtain ⟨k, f, m, A, cc, ps, hk, hf, rfl, rfl, rfl, ho, hm, hmk, hb, HQ⟩ := hrel
    have HO := Lib.hid ho
    have HB := Lib.hid hb
    have HM := Lib.hid hm
    have hsr := hb.size
    clear ho hb hm
    by_cases hlt : k < s.size
    · have hx := HA.out k hlt
      obtain ⟨x, hxe⟩ : ∃ x, s[k] = x := ⟨_, rfl⟩
      rw [hxe] at hx
      have hge := glue_eq c ((l.drop f).take (k - f)) l k x hx
      by_cases hc : x = c
      · have h1 : (s[k].toNat : Int) = (c.toNat : Int) := by rw [hxe, hc]
        have h2 : ((s[k].toNat : Int) == (c.toNat : Int)) = true := by rw [h1]; simp
        have h3 : s[k].toNat = c.toNat := by rw [hxe, hc]
        have HE := Lib.hid (show R = (ps ++ [(l.drop f).take (k - f)]) ++ glue ((l.drop (k + 1)).take (k + 1 - (k + 1))) (sp c (l.drop (k + 1))) by
          rw [HQ.out, hge, if_pos hc, Nat.sub_self, List.take_zero, glue_nil (sp_ne c _)]; simp)
        clear hx hxe hge hc HQ
        go_wp2_with (at_builtin; refine wpList_append_own _ rfl (.tmp 19) (.tmp 24) 45 rfl w.heap.size 9 i0 (.string .empty) 1 16 Tryd.underlying45 HI.out.1 HI.out.2.1 HI.out.2.2.1 HI.out.2.2.2 rfl (by decide) _ m _ rfl (HO.out.alloc _) ⟨wr.heap.size, 0, none⟩ 1 1 [.string (s.extract f k)] rfl rfl (by intro j u hj; cases j with | zero => simp at hj; subst hj; simp [Addr.add] | succ j => simp at hj) (by intro u hu; simp at hu; subst hu; rfl) (by unfold maxLen; omega) (by omega) (by simp; omega) ?_)
        intro v' w6 ho6 hg6 _
        obtain ⟨A6, c6, rfl⟩ := own_slice ho6
        have HO6 := Lib.hid (show w6.ownsRow w.heap.size 9 1 (.slice A6 (m + 1) c6) (m + 1) (strs ((ps ++ [(l.drop f).take (k - f)]).map toB)) by rw [List.map_append, strs_app, List.map_singleton, HCUT.out]; exact ho6)
        have HB6 := Lib.hid ((HB.out.alloc (by omega) (.cells #[.string (s.extract f k)] 9)).grown hg6 (by simp; omega) (fun k hk => (HO.out.lt k hk).1))
        clear ho6 hg6
        go_wp2
        go_roundw
        case rel => exact ⟨k + 1, k + 1, m + 1, A6, c6, _, by omega, Nat.le_refl _, by go_num, by go_num, rfl, HO6.out, by rw [List.length_append, HM.out]; rfl, by omega, HB6.out, HE⟩
        case measure => simp [intOf]; omega
      · have h1 : ¬ s[k].toNat = c.toNat := fun e => hc (by rw [← hxe]; exact UInt8.toNat_inj.1 e)
        have h2 : ((s[k].toNat : Int) == (c.toNat : Int)) = false := by rw [beq_eq_false_iff_ne]; omega
        have h3 : ¬ (s[k].toNat : Int) = (c.toNat : Int) := by omega
        have HE := Lib.hid (show R = ps ++ glue ((l.drop f).take (k + 1 - f)) (sp c (l.drop (k + 1))) by rw [HQ.out, hge, if_neg hc, cut_snoc hf hx])
        clear hx hxe hge hc HQ
        go_wp2
        go_roundw
        case rel => exact ⟨k + 1, f, m, A, cc, ps, by omega, by omega, by go_num, rfl, rfl, HO.out, HM.out, by omega, HB.out, HE⟩
        case measure => simp [intOf]; omega
    · obtain rfl : k = s.size := by omega
      have HE := Lib.hid (show R = ps ++ [(l.drop f).take (s.size - f)] by
        have hd : l.drop s.size = [] := List.drop_of_length_le (by omega)
        rw [HQ.out, hd]; simp [sp, glue])
      have hRm : R.length = m + 1 := by rw [HE.out, List.length_append, HM.out]; rfl
      clear HQ
      go_wp2_with (at_builtin; refine wpList_append_own _ rfl (.tmp 28) (.tmp 32) 45 rfl w.heap.size 9 i0 (.string .empty) 1 16 Tryd.underlying45 HI.out.1 HI.out.2.1 HI.out.2.2.1 HI.out.2.2.2 rfl (by decide) _ m _ rfl (HO.out.alloc _) ⟨wr.heap.size, 0, none⟩ 1 1 [.string (s.extract f s.size)] rfl rfl (by intro j u hj; cases j with | zero => simp at hj; subst hj; simp [Addr.add] | succ j => simp at hj) (by intro u hu; simp at hu; subst hu; rfl) (by unfold maxLen; omega) (by omega) (by simp; omega) ?_)
      intro v' w6 ho6 hg6 _
      obtain ⟨A6, c6, rfl⟩ := own_slice ho6
      have HO6 := Lib.hid (show w6.ownsRow w.heap.size 9 1 (.slice A6 (m + 1) c6) (m + 1) (strs (R.map toB)) by rw [HE.out, List.map_append, strs_app, List.map_singleton, HCUT.out]; exact ho6)
      have HB6 := Lib.hid ((HB.out.alloc (by omega) (.cells #[.string (s.extract f s.size)] 9)).grown hg6 (by simp; omega) (fun k hk => (HO.out.lt k hk).1))
      clear ho6 hg6
      go_wp2
      go_ret
      rw [hRm]
      exact ⟨A6, c6, rfl, HO6.out, HB6.out⟩
end Go.Proofs.YtjokpbopceolcaaDoor
