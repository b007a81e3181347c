/- The library's public ParseUint at base 2 and 32 bits. -/
import Derived.Test.YtpdclppieicaeaaDoorPu
import Derived.Lib.AtoiErrMem
import Derived.Lib.Walk
namespace Go.Proofs.YtpdclppieicaeaaDoor
set_option linter.unusedVariables false
set_option linter.unusedSimpArgs false
open Go.RowKit

/-- What the library's two errors hold. -/
def SentAt (w : World) : Prop := ∃ t0 p0 t1 p1, w.cell? ⟨2, 0, none⟩ = some (.iface t0 p0) ∧ w.cell? ⟨3, 0, none⟩ = some (.iface t1 p1)
theorem SentAt.below {w w' : World} (h : SentAt w) (hb : Below w.heap.size w w') : SentAt w' := by
  obtain ⟨t0, p0, t1, p1, h0, h1⟩ := h
  exact ⟨t0, p0, t1, p1, (bcell hb _ _ (World.block_lt_of_cell? w _ h0)).trans h0, (bcell hb _ _ (World.block_lt_of_cell? w _ h1)).trans h1⟩
theorem errSyn (fn s : ByteArray) (base bits : Int) (w : World) (hlim : s.size ≤ 1048576) (hv : SentAt w) :
    Calls Tryd.prog 48 #[.string fn, .string s, .int .i64 base, .int .i64 bits, .iface 85 (.int .i64 2)] w fun e w' => (∃ N : Nat, e = .returned (.iface 88 (.pointer (some ⟨N, 0, none⟩)))) ∧ Below w.heap.size w w' := by
  obtain ⟨t0, p0, t1, p1, h0, h1⟩ := hv
  exact (AnyPu.strconv_toError_syntax { Tryd.puLay with } fn s base bits _ w (by omega) h0 (Or.inr ⟨_, _, rfl⟩)).mono fun e w' ⟨N, he, _, _, hb⟩ => ⟨⟨N, he⟩, hb⟩
theorem errRan (fn s : ByteArray) (base bits : Int) (w : World) (hlim : s.size ≤ 1048576) (hv : SentAt w) :
    Calls Tryd.prog 48 #[.string fn, .string s, .int .i64 base, .int .i64 bits, .iface 85 (.int .i64 1)] w fun e w' => (∃ N : Nat, e = .returned (.iface 88 (.pointer (some ⟨N, 0, none⟩)))) ∧ Below w.heap.size w w' := by
  obtain ⟨t0, p0, t1, p1, h0, h1⟩ := hv
  exact (AnyPu.strconv_toError_range { Tryd.puLay with } fn s base bits _ w (by omega) h1 (Or.inr ⟨_, _, rfl⟩)).mono fun e w' ⟨N, he, _, _, hb⟩ => ⟨⟨N, he⟩, hb⟩
def puO (o : Option Nat) (v : Value) : Prop := match o with
  | some n => v = .tuple #[.int .u64 n, .nilIface]
  | none => ∃ (m : Int) (N : Nat), v = .tuple #[.int .u64 m, .iface 88 (.pointer (some ⟨N, 0, none⟩))]
set_option maxHeartbeats 4000000 in
set_option maxRecDepth 100000 in
theorem outerPu (t : ByteArray) (hne : t.size ≠ 0) (hmax : t.size ≤ 1048576) (w : World) (hS : SentAt w) :
    Calls Tryd.prog 25 #[.string t, .int .i64 2, .int .i64 32] w fun e w' => (∃ v, e = .returned v ∧ puO (pu 0 t.data.toList) v) ∧ Below w.heap.size w w' := by
  have HI := Lib.hid (innerPu t hne hmax w)
  obtain ⟨o, ho⟩ : ∃ o, pu 0 t.data.toList = o := ⟨_, rfl⟩
  rw [ho] at HI ⊢
  have HS := Lib.hid hS
  have HM := Lib.hid hmax
  clear ho hS hne
  go_enter Tryd.func25, Tryd.ntmps25
  go_wp2_with fail
  refine HI.out.mono ?_
  rintro e w1 ⟨⟨v, rfl, hv⟩, hb⟩
  have HB := Lib.hid hb
  have HS1 := Lib.hid (HS.out.below hb)
  clear hb
  cases o with
  | some n =>
    have hv : v = .tuple #[.int .u64 n, .nilIface] := hv
    subst hv
    go_wp2
    go_ret2
    exact ⟨⟨_, rfl, rfl⟩, HB.out⟩
  | none =>
    rcases hv with hv | hv
    · subst hv
      go_wp2_with fail
      refine (errSyn _ _ _ _ _ HM.out HS1.out).mono ?_
      rintro e w2 ⟨⟨N, rfl⟩, hb⟩
      have HB2 := Lib.hid (HB.out.trans (hb.mono HB.out.size))
      clear hb
      go_wp2
      go_ret2
      exact ⟨⟨_, rfl, ⟨_, _, rfl⟩⟩, HB2.out⟩
    · subst hv
      go_wp2_with fail
      refine (errRan _ _ _ _ _ HM.out HS1.out).mono ?_
      rintro e w2 ⟨⟨N, rfl⟩, hb⟩
      have HB2 := Lib.hid (HB.out.trans (hb.mono HB.out.size))
      clear hb
      go_wp2
      go_ret2
      exact ⟨⟨_, rfl, ⟨_, _, rfl⟩⟩, HB2.out⟩
end Go.Proofs.YtpdclppieicaeaaDoor
