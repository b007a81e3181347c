/- The contract of slices.Clone at slices of structs. -/
import Derived.Test.YtjokpbopceolcaaDoorPairs
import Derived.Test.YtjokpbopceolcaaDoorLabs
namespace Go.Proofs.YtjokpbopceolcaaDoor
set_option linter.unusedVariables false
set_option linter.unusedSimpArgs false
open Go.RowKit

set_option maxRecDepth 100000 in
set_option maxHeartbeats 1000000 in
theorem cloneLabel_any (B : Nat) (A : Option Addr) (n c : Nat) (zs : List Lab) (w : World) (hBw : B ≤ w.heap.size) (h : Rd w B 2 A n (lbls zs)) (hn : n ≤ 1048576) :
    Calls Tryd.prog 77 #[.slice A n c] w fun e w' => ∃ A' c', e = .returned (.slice A' n c') ∧ w'.ownsRow w.heap.size 48 2 (.slice A' n c') n (lbls zs) ∧ Below w.heap.size w w' := by
  obtain ⟨i0, hi, hi0, hi1, hi2⟩ := info_parts infoLabel
  have HI := Lib.hid (And.intro hi (And.intro hi0 (And.intro hi1 hi2)))
  clear hi hi0 hi1 hi2
  have hlen := h.lab_len
  cases A with
  | none =>
    have hn0 : n = 0 := by
      rcases Nat.eq_zero_or_pos n with h0 | h0
      · exact h0
      · obtain ⟨_, _, e, _⟩ := h.2 h0
        cases e
    subst hn0
    have hz : zs = [] := List.eq_nil_of_length_eq_zero hlen
    subst hz
    clear h hlen
    have hnil := fun (w : World) (a : Option Addr) (n c : Nat) => Lib.run_eql_slice_nil (P := Tryd.prog) w 22 48 a n c 0 0 Tryd.underlying22
    go_enter Tryd.func77, Tryd.ntmps77
    go_wp2
    go_ret
    exact ⟨none, 0, rfl, World.ownsRow_nil _ _ _ _, Below.refl _ _⟩
  | some ad =>
    have HH := Lib.hid h
    have HL := Lib.hid hlen
    clear h hlen
    obtain ⟨B0, hB0⟩ : ∃ B0, B0 = w.heap.size := ⟨_, rfl⟩
    rw [← hB0]
    have HB := Lib.hid hB0
    clear hB0
    have hnil := fun (w : World) (a : Option Addr) (n c : Nat) => Lib.run_eql_slice_nil (P := Tryd.prog) w 22 48 a n c 0 0 Tryd.underlying22
    go_enter Tryd.func77, Tryd.ntmps77
    go_wp2_with (at_builtin; refine wpList_append_own _ rfl (.tmp 5) (.tmp 6) 22 rfl B0 48 i0 (.agg #[.string .empty, .string .empty]) 2 32 Tryd.underlying22 HI.out.1 HI.out.2.1 HI.out.2.2.1 HI.out.2.2.2 rfl (by decide) _ 0 [] rfl (World.ownsRow_lit w #[] 0 (by have := HB.out; omega) (by unfold maxLen; omega) rfl) ad n c (lbls zs) rfl (by rw [lbls_len, HL.out]) ?c1 (lbls_one zs) (by unfold maxLen; omega) (by omega) (by have := HB.out; simp; omega) ?_)
    case c1 =>
      intro j u hu
      have hj : j < n * 2 := by have := (List.getElem?_eq_some_iff.1 hu).1; rw [lbls_len, HL.out] at this; exact this
      obtain ⟨b, off, e, hb, hc⟩ := HH.out.2 (by omega)
      obtain rfl : ad = ⟨b, off, none⟩ := by simpa using e
      rw [Addr.add_lit, World.cell?_alloc_lt _ _ _ (by simp; omega)]
      exact hc j u hu
    intro v' w1 hown' hgrow _
    have hb1 := ((Below.refl w.heap.size w).alloc (Nat.le_refl _) (.cells #[] 48)).grown hgrow (by simp) (fun k hk => by simp [Value.ownBlock] at hk; omega)
    have HB1 := Lib.hid hb1
    obtain ⟨A', c', rfl⟩ := own_slice hown'
    have HO := Lib.hid hown'
    clear hown' hgrow hb1
    go_wp2
    go_ret
    exact ⟨A', c', rfl, HO.out, HB.out ▸ HB1.out⟩
end Go.Proofs.YtjokpbopceolcaaDoor
