/- The law DecodeChunk. -/
import Derived.Test.YtbemnhdadafnnaaDecI
import Derived.Test.YtbemnhdadafnnaaDeltas
namespace Go.Proofs.Ytbemnhdadafnnaa
set_option linter.unusedVariables false
set_option linter.unusedSimpArgs false
open Go.RowKit

theorem GotS.gotR {w w' : World} {T : Option (List (Int × Int))} {e : Ending} (h : GotS w T e w') : GotR 31 2 w (T.getD []).length (smps (T.getD [])) T.isSome e w' := by
  cases T with
  | none =>
    rw [h.1 rfl]
    exact GotR.nil_ (Ch.of_below h.2.2)
  | some l =>
    obtain ⟨A, c, he, ho⟩ := h.2.1 l rfl
    exact ⟨A, c, he, Row.of_own ho, Ch.of_below h.2.2⟩
set_option maxHeartbeats 1000000 in
theorem sDecodeChunk_any (s : ByteArray) (w : World) (hs : s.size ≤ 1048576) : Calls Try.prog 24 #[.string s] w (GotS w (dec s.data.toList)) := by
  by_cases h6 : s.size ≤ 600
  · have HC := Lib.hid (l2Decode_any s w h6)
    generalize dec s.data.toList = T at HC ⊢
    go_enter Try.func24, Try.ntmps24
    go_wp2_with fail
    refine HC.out.mono ?_
    intro e w1 hg
    cases T with
    | none =>
      obtain rfl := hg.1 rfl
      have HB := Lib.hid hg.2.2
      clear hg
      go_wp2
      go_ret2
      exact GotS.no rfl rfl HB.out
    | some l =>
      obtain ⟨A, c, rfl, ho⟩ := hg.2.1 l rfl
      have HB := Lib.hid hg.2.2
      have HO := Lib.hid ho
      clear hg ho
      go_wp2
      go_ret2
      exact ⟨fun h => (by cases h), fun l' h => (by injection h with h; subst h; exact ⟨A, c, rfl, HO.out⟩), HB.out⟩
  · have e : dec s.data.toList = none := dec_long (by have : s.data.toList.length = s.size := Array.length_toList
                                                      omega)
    have HD := Lib.hid e
    clear e
    go_enter Try.func24, Try.ntmps24
    go_wp2
    go_ret2
    exact GotS.no HD.out rfl (Below.refl _ _)
set_option maxHeartbeats 1000000 in
theorem iDecodeChunk_any (s : ByteArray) (w : World) (hs : s.size ≤ 1048576) : Calls Try.prog 16 #[.string s] w (GotS w (dec s.data.toList)) := by
  have HC := Lib.hid (decodeChunk_any s w hs)
  generalize dec s.data.toList = T at HC ⊢
  go_enter Try.func16, Try.ntmps16
  go_wp2_with fail
  refine HC.out.mono ?_
  intro e w1 hg
  cases T with
  | none =>
    obtain rfl := hg.1 rfl
    have HB := Lib.hid hg.2.2
    clear hg
    go_wp2
    go_ret2
    exact GotS.no rfl rfl HB.out
  | some l =>
    obtain ⟨A, c, rfl, ho⟩ := hg.2.1 l rfl
    have HB := Lib.hid hg.2.2
    have HO := Lib.hid ho
    clear hg ho
    go_wp2
    go_ret2
    exact ⟨fun h => (by cases h), fun l' h => (by injection h with h; subst h; exact ⟨A, c, rfl, HO.out⟩), HB.out⟩
theorem dec_len {s : List UInt8} : ((dec s).getD []).length ≤ 40 := by
  cases e : dec s with
  | none => simp
  | some l => exact goodSmp_len (dec_some e).1
theorem both_DecodeChunk (s : ByteArray) (hs : s.size ≤ 1048576) : ∃ (nr : Nat) (lr : List (Int × Int)) (r1 : Bool), nr ≤ 1048576 ∧
    (∀ w, Calls Try.prog 24 #[.string s] w (GotR 31 2 w nr (smps lr) r1)) ∧
    (∀ w, Calls Try.prog 16 #[.string s] w (GotR 31 2 w nr (smps lr) r1)) :=
  ⟨_, _, _, Nat.le_trans dec_len (by omega), fun w => (sDecodeChunk_any s w hs).mono fun _ _ h => h.gotR, fun w => (iDecodeChunk_any s w hs).mono fun _ _ h => h.gotR⟩
end Go.Proofs.Ytbemnhdadafnnaa
