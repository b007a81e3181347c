/- The contracts of the generators' cursor: reading a choice, a number below another one, one of some. -/
import Derived.Test.YtjokpbopceolcaaDoorRowInts
import Derived.Test.YtjokpbopceolcaaDoorVarPlain
import Derived.RegionTactic
import Derived.ChangeAlike
import Derived.BigRegion
import Derived.Laws.BitsAllLaws
import Derived.Outline
import Derived.Deep.QuietTactic
import Derived.BigQuiet
namespace Go.Proofs.YtjokpbopceolcaaDoor
set_option linter.unusedVariables false
set_option linter.unusedSimpArgs false
open Go.RowKit

/-- What a cursor reads: the bytes l, n of them at A, in blocks below B; the cursor lies in block b. -/
structure CU where
  B : Nat
  b : Nat
  n : Nat
  c : Nat
  A : Option Addr
  l : List UInt8
/-- A cursor at a place not beyond m. -/
structure CurAt (u : CU) (m : Nat) (w : World) : Prop where
  hB : u.B ≤ u.b
  hb : u.b < w.heap.size
  hn : u.n ≤ 1048576
  rd : Rd w u.B 1 u.A u.n (bys u.l)
  code : w.cell? ⟨u.b, 0, none⟩ = some (.slice u.A u.n u.c)
  place : ∃ a : Nat, a ≤ m ∧ w.cell? ⟨u.b, 1, none⟩ = some (.int .i64 a)
  seed : ∃ s : Int, w.cell? ⟨u.b, 2, none⟩ = some (.int .u64 s)
  free : ∀ j, w.frozen? ⟨u.b, j, none⟩ = false
theorem CurAt.more {u : CU} {m m' : Nat} {w : World} (h : CurAt u m w) (hm : m ≤ m') : CurAt u m' w :=
  ⟨h.hB, h.hb, h.hn, h.rd, h.code, (by obtain ⟨a, ha, hc⟩ := h.place; exact ⟨a, by omega, hc⟩), h.seed, h.free⟩
theorem CurAt.below {u : CU} {m : Nat} {w w' : World} (h : CurAt u m w) (hb : Below (u.b + 1) w w') : CurAt u m w' :=
  ⟨h.hB, Nat.lt_of_lt_of_le h.hb hb.size, h.hn, h.rd.below (hb.mono (by have := h.hB; omega)), (bcell hb _ _ (by omega)).trans h.code,
    (by obtain ⟨a, ha, hc⟩ := h.place; exact ⟨a, ha, (bcell hb _ _ (by omega)).trans hc⟩), (by obtain ⟨s, hs⟩ := h.seed; exact ⟨s, (bcell hb _ _ (by omega)).trans hs⟩),
    fun j => (hb.frozen (p := ⟨u.b, j, none⟩) (by simp)).trans (h.free j)⟩
theorem CurAt.ch {u : CU} {m lo hi : Nat} {w w' : World} (h : CurAt u m w) (hc : Ch lo hi w w') (hd : u.b < lo ∨ hi = 0) : CurAt u m w' :=
  h.below (hc.below (by have := h.hb; omega) (by omega))
theorem CurAt.alloc {u : CU} {m : Nat} {w : World} (h : CurAt u m w) (o : Obj) : CurAt u m (w.alloc o) := h.below (((Below.refl _ _).alloc (by have := h.hb; omega) o))
/-- What a drawing hands back: a value of which P holds; the cursor is not beyond m, all else is as it was. -/
def Drew (u : CU) (m : Nat) (w : World) (P : World → Value → Prop) (e : Ending) (w' : World) : Prop :=
  ∃ v, e = .returned v ∧ P w' v ∧ CurAt u m w' ∧ Ch u.b (u.b + 1) w w'
theorem Rd.byte_at {w : World} {B n : Nat} {A : Option Addr} {l : List UInt8} {k : Nat} (h : Rd w B 1 A n (bys l)) (hk : k < n) :
    ∃ b off x, A = some ⟨b, off, none⟩ ∧ b < B ∧ l[k]? = some x ∧ w.cell? ⟨b, off + k, none⟩ = some (.int .u8 ((x : UInt8).toNat : Int)) := by
  obtain ⟨b, off, e, hb, hc⟩ := h.2 (by omega)
  have hl : k < l.length := by have := h.1; rw [bys_len] at this; omega
  exact ⟨b, off, l[k], e, hb, List.getElem?_eq_getElem hl, hc k _ (by simp [bys, List.getElem?_eq_getElem hl])⟩
theorem and255 (x : Int) : 0 ≤ bits .and .u64 x 255 ∧ bits .and .u64 x 255 ≤ 255 := by
  have e : bits .and .u64 x 255 = IntKind.u64.wrap ((BitVec.ofInt 64 x &&& BitVec.ofInt 64 255).toNat : Int) := rfl
  have h : (BitVec.ofInt 64 x &&& BitVec.ofInt 64 255).toNat ≤ 255 := by
    rw [BitVec.toNat_and]
    exact Nat.and_le_right
  rw [e, IntKind.wrap_u64]
  omega
theorem cell_same {w w' : World} {b j : Nat} (h : w'.heap[b]? = w.heap[b]?) : w'.cell? ⟨b, j, none⟩ = w.cell? ⟨b, j, none⟩ := by
  simp only [World.cell?, h]
theorem byte_of (z : Int) : ∃ r : Nat, r ≤ 255 ∧ wrap64 (bits .and .u64 z 255) = (r : Int) := by
  obtain ⟨h0, h1⟩ := and255 z
  refine ⟨(bits .and .u64 z 255).toNat, by omega, ?_⟩
  rw [IntWalk.wrap64_in _ (by omega)]
  omega
theorem Ch.setCell {b j : Nat} {w w' : World} {v : Value} (h : Ch b (b + 1) w w') : Ch b (b + 1) w (w'.setCell ⟨b, j, none⟩ v) :=
  ⟨h.os, h.tape, h.output, by rw [World.size_setCell]; exact h.size, fun k hk ho => (Below.heap_setCell _ _ _ _ (by simp; omega)).trans (h.block k hk ho)⟩
theorem CurAt.drewN {u : CU} {m : Nat} {w : World} (h : CurAt u m w) (q : Nat) : CurAt u m (w.drewN q) := ⟨h.hB, h.hb, h.hn, h.rd, h.code, h.place, h.seed, h.free⟩
theorem CurAt.put1 {u : CU} {m m' a : Nat} {x : Int} {w : World} (h : CurAt u m w) (ha : a ≤ m') (hx : x = (a : Int)) : CurAt u m' (w.setCell ⟨u.b, 1, none⟩ (.int .i64 x)) := by
  subst hx
  obtain ⟨y, _, hy⟩ := h.place
  refine ⟨h.hB, by rw [World.size_setCell]; exact h.hb, h.hn, h.rd.keep fun b off hb => World.cell?_setCell_other _ _ _ _ (by have := h.hB; intro e; injection e; omega), ?_, ⟨a, ha, World.cell?_setCell_same _ _ _ hy⟩, ?_, fun j => (World.frozen?_setCell ..).trans (h.free j)⟩
  · exact (World.cell?_setCell_other _ _ _ _ (by simp)).trans h.code
  · obtain ⟨s, hs⟩ := h.seed
    exact ⟨s, (World.cell?_setCell_other _ _ _ _ (by simp)).trans hs⟩
theorem CurAt.put2 {u : CU} {m : Nat} {x : Int} {w : World} (h : CurAt u m w) : CurAt u m (w.setCell ⟨u.b, 2, none⟩ (.int .u64 x)) := by
  obtain ⟨y, hy⟩ := h.seed
  refine ⟨h.hB, by rw [World.size_setCell]; exact h.hb, h.hn, h.rd.keep fun b off hb => World.cell?_setCell_other _ _ _ _ (by have := h.hB; intro e; injection e; omega), ?_, ?_, ⟨x, World.cell?_setCell_same _ _ _ hy⟩, fun j => (World.frozen?_setCell ..).trans (h.free j)⟩
  · exact (World.cell?_setCell_other _ _ _ _ (by simp)).trans h.code
  · obtain ⟨a, ha, hs⟩ := h.place
    exact ⟨a, ha, (World.cell?_setCell_other _ _ _ _ (by simp)).trans hs⟩
def ByteV (_ : World) (v : Value) : Prop := ∃ r : Nat, r ≤ 255 ∧ v = .int .i64 r

set_option maxRecDepth 100000 in
set_option maxHeartbeats 4000000 in
theorem next_any (u : CU) (m : Nat) (w : World) (h : CurAt u m w) (hm : m ≤ 1099511627776) :
    Calls Tryd.prog 109 #[.pointer (some ⟨u.b, 0, none⟩)] w (Drew u (m + 1) w ByteV) := by
  obtain ⟨a, ham, hca⟩ := h.place
  obtain ⟨s, hcs⟩ := h.seed
  have hcc := h.code
  have hf1 := h.free 1
  have hf2 := h.free 2
  have hun := h.hn
  have hub := h.hb
  have HH := Lib.hid h
  clear h
  by_cases hlt : a < u.n
  · obtain ⟨b0, off, x, hA, hb0, hx, hcx⟩ := HH.out.rd.byte_at hlt
    have hBb := HH.out.hB
    rw [hA] at hcc
    have hx2 := x.toNat_lt
    go_enter Tryd.func109, Tryd.ntmps109
    go_wp2
    go_quiet (fail)
    go_wp2
    go_quiet (fail)
    go_wp2
    go_quiet (fail)
    go_wp2
    go_ret
    exact ⟨_, rfl, ⟨x.toNat, by omega, rfl⟩, (((HH.out.drewN _).put1 (a := a + 1) (by omega) (by omega)).put2).drewN _, ((((Ch.refl _ _ _).drewN _).setCell).setCell).drewN _⟩
  · go_enter Tryd.func109, Tryd.ntmps109
    go_wp2
    go_quiet (fail)
    go_wp2
    go_quiet (fail)
    go_wp2
    go_ret
    obtain ⟨r, hr, er⟩ := byte_of (IntKind.u64.wrap (IntKind.u64.wrap (IntKind.u64.wrap (s * 6364136223846793005)) + 1442695040888963407) / 1099511627776)
    exact ⟨_, rfl, ⟨r, hr, congrArg (Value.int .i64) er⟩, (((HH.out.drewN _).put1 (a := a + 1) (by omega) (by omega)).put2).drewN _, ((((Ch.refl _ _ _).drewN _).setCell).setCell).drewN _⟩

/-- A number not less than 0, and less than N or 0. -/
def NumV (N : Int) (_ : World) (v : Value) : Prop := ∃ r : Int, v = .int .i64 r ∧ 0 ≤ r ∧ (r < N ∨ r = 0)
set_option maxRecDepth 100000 in
set_option maxHeartbeats 2000000 in
theorem pick_any (u : CU) (m : Nat) (N : Int) (w : World) (h : CurAt u m w) (hm : m ≤ 549755813888) (hN : N ≤ 1099511627776) :
    Calls Tryd.prog 76 #[.pointer (some ⟨u.b, 0, none⟩), .int .i64 N] w (Drew u (m + 2) w (NumV N)) := by
  have HH := Lib.hid h
  clear h
  by_cases h1 : N ≤ 1
  · go_enter Tryd.func76, Tryd.ntmps76
    go_wp2
    go_ret
    exact ⟨_, rfl, ⟨0, rfl, by omega, .inr rfl⟩, HH.out.more (by omega), Ch.refl _ _ _⟩
  · by_cases h2 : 200 < N
    · go_enter Tryd.func76, Tryd.ntmps76
      go_wp2_with fail
      refine (next_any u m _ HH.out (by omega)).mono ?_
      rintro e w1 ⟨_, rfl, ⟨r, hr, rfl⟩, hcu, hch⟩
      have HC := Lib.hid hcu
      have HW := Lib.hid hch
      clear hcu hch
      go_wp2_with fail
      refine (next_any u (m + 1) _ HC.out (by omega)).mono ?_
      rintro e w2 ⟨_, rfl, ⟨r2, hr2, rfl⟩, hcu, hch⟩
      have HC2 := Lib.hid hcu
      have HW2 := Lib.hid (HW.out.trans hch)
      clear hcu hch
      go_wp2
      go_ret
      exact ⟨_, rfl, ⟨_, rfl, Int.emod_nonneg _ (by omega), .inl (Int.emod_lt_of_pos _ (by omega))⟩, HC2.out, HW2.out⟩
    · go_enter Tryd.func76, Tryd.ntmps76
      go_wp2_with fail
      refine (next_any u m _ HH.out (by omega)).mono ?_
      rintro e w1 ⟨_, rfl, ⟨r, hr, rfl⟩, hcu, hch⟩
      have HC := Lib.hid hcu
      have HW := Lib.hid hch
      clear hcu hch
      go_wp2
      go_ret
      exact ⟨_, rfl, ⟨_, rfl, Int.emod_nonneg _ (by omega), .inl (Int.emod_lt_of_pos _ (by omega))⟩, HC.out.more (by omega), HW.out⟩
def BoolV (_ : World) (v : Value) : Prop := ∃ r : Bool, v = .bool r
set_option maxRecDepth 100000 in
set_option maxHeartbeats 1000000 in
theorem one_any (u : CU) (m : Nat) (N : Int) (w : World) (h : CurAt u m w) (hm : m ≤ 549755813888) (hN : N ≤ 1099511627776) :
    Calls Tryd.prog 46 #[.pointer (some ⟨u.b, 0, none⟩), .int .i64 N] w (Drew u (m + 2) w BoolV) := by
  have HH := Lib.hid h
  clear h
  go_enter Tryd.func46, Tryd.ntmps46
  go_wp2_with fail
  refine (pick_any u m N _ HH.out (by omega) hN).mono ?_
  rintro e w1 ⟨_, rfl, ⟨r, rfl, hr0, hr⟩, hcu, hch⟩
  have HC := Lib.hid hcu
  have HW := Lib.hid hch
  clear hcu hch
  go_wp2
  go_ret
  exact ⟨_, rfl, ⟨_, rfl⟩, HC.out, HW.out⟩
/-- One of some numbers. -/
def AmongV (zs : List Int) (_ : World) (v : Value) : Prop := ∃ x ∈ zs, v = .int .i64 x
end Go.Proofs.YtjokpbopceolcaaDoor
