/- The contract of slices.Clone at slices of integers. -/
import Derived.Test.YtpdclppieicaeaaInts
namespace Go.Proofs.Ytpdclppieicaeaa
set_option linter.unusedVariables false
set_option linter.unusedSimpArgs false
open Go.RowKit

/-- A row of integers in new memory. -/
def Own (B : Nat) (A : Option Addr) (n c : Nat) (zs : List Int) (w : World) : Prop := w.ownsRow B 3 1 (.slice A n c) n (ints zs)
theorem Own.rd {B : Nat} {A : Option Addr} {n c : Nat} {zs : List Int} {w : World} (h : Own B A n c zs w) : Rd w w.heap.size 1 A n (ints zs) := Rd.of_own h

set_option maxRecDepth 100000 in
set_option maxHeartbeats 1000000 in
theorem clone_any (B : Nat) (A : Option Addr) (n c : Nat) (zs : List Int) (w : World) (hBw : B ≤ w.heap.size) (h : Rd w B 1 A n (ints zs)) (hn : n ≤ 1048576) :
    Calls Try.prog 72 #[.slice A n c] w fun e w' => ∃ A' c', e = .returned (.slice A' n c') ∧ Own w.heap.size A' n c' zs w' ∧ Below w.heap.size w w' := by
  obtain ⟨i0, hi, hi0, hi1, hi2⟩ := info_parts infoInt
  have HI := Lib.hid (And.intro hi (And.intro hi0 (And.intro hi1 hi2)))
  clear hi hi0 hi1 hi2
  have hlen := h.int_len
  cases A with
  | none =>
    have hn0 : n = 0 := by
      rcases Nat.eq_zero_or_pos n with h0 | h0
      · exact h0
      · obtain ⟨_, _, e, _⟩ := h.2 h0
        cases e
    subst hn0
    have hz : zs = [] := List.eq_nil_of_length_eq_zero hlen
    subst hz
    clear h hlen
    have hnil := fun (w : World) (a : Option Addr) (n c : Nat) => Lib.run_eql_slice_nil (P := Try.prog) w 27 3 a n c 0 0 Try.underlying27
    go_enter Try.func72, Try.ntmps72
    go_wp2
    go_ret
    exact ⟨none, 0, rfl, World.ownsRow_nil _ _ _ _, Below.refl _ _⟩
  | some ad =>
    have HH := Lib.hid h
    have HL := Lib.hid hlen
    clear h hlen
    obtain ⟨B0, hB0⟩ : ∃ B0, B0 = w.heap.size := ⟨_, rfl⟩
    rw [← hB0]
    have HB := Lib.hid hB0
    clear hB0
    have hnil := fun (w : World) (a : Option Addr) (n c : Nat) => Lib.run_eql_slice_nil (P := Try.prog) w 27 3 a n c 0 0 Try.underlying27
    go_enter Try.func72, Try.ntmps72
    go_wp2_with (at_builtin; refine wpList_append_own _ rfl (.tmp 5) (.tmp 6) 27 rfl B0 3 i0 (.int .i64 0) 1 8 Try.underlying27 HI.out.1 HI.out.2.1 HI.out.2.2.1 HI.out.2.2.2 rfl (by decide) _ 0 [] rfl (World.ownsRow_lit w #[] 0 (by have := HB.out; omega) (by unfold maxLen; omega) rfl) ad n c (ints zs) rfl (by rw [ints_len, HL.out, Nat.mul_one]) ?c1 (ints_one zs) (by unfold maxLen; omega) (by omega) (by have := HB.out; simp; omega) ?_)
    case c1 =>
      intro j u hu
      have hj : j < n := by have := (List.getElem?_eq_some_iff.1 hu).1; rw [ints_len, HL.out] at this; exact this
      obtain ⟨b, off, e, hb, hc⟩ := HH.out.2 (by omega)
      obtain rfl : ad = ⟨b, off, none⟩ := by simpa using e
      rw [Addr.add_lit, World.cell?_alloc_lt _ _ _ (by simp; omega)]
      exact hc j u hu
    intro v' w1 hown' hgrow _
    have hb1 := ((Below.refl w.heap.size w).alloc (Nat.le_refl _) (.cells #[] 3)).grown hgrow (by simp) (fun k hk => by simp [Value.ownBlock] at hk; omega)
    have HB1 := Lib.hid hb1
    obtain ⟨A', c', rfl⟩ := own_slice hown'
    have HO := Lib.hid hown'
    clear hown' hgrow hb1
    go_wp2
    go_ret
    exact ⟨A', c', rfl, HO.out, HB.out ▸ HB1.out⟩
end Go.Proofs.Ytpdclppieicaeaa
