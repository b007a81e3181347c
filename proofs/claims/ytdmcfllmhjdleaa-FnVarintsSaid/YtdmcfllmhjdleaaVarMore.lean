/- More of the plain law of the encodings: what is read is written the same, greater numbers need no fewer bytes; the contracts at any argument. -/
import Derived.Test.YtdmcfllmhjdleaaChunkPlain
import Derived.Test.YtdmcfllmhjdleaaGetLaw
import Derived.Test.YtdmcfllmhjdleaaGetAllLaw
import Derived.Test.YtdmcfllmhjdleaaPutAllLaw
import Derived.Test.YtdmcfllmhjdleaaLaw1
namespace Go.Proofs.Ytdmcfllmhjdleaa
set_option linter.unusedVariables false
set_option linter.unusedSimpArgs false
open Go.RowKit

theorem gv_inv {l : List UInt8} {n : Int} {k : Nat} (h : gv l = some (n, k)) : isV n = true ∧ vz n = l.take k ∧ k ≤ l.length := by
  have hbd := gv_bd h
  refine ⟨inB_iff.2 ⟨hbd.1, hbd.2.1⟩, ?_, hbd.2.2.2⟩
  unfold gv at h
  split at h
  · cases h
  · rename_i j e
    obtain ⟨hj, hb, hbef⟩ := List.findIdx?_eq_some_iff_getElem.1 e
    split at h
    · rename_i hc
      simp only [Option.some.injEq, Prod.mk.injEq] at h
      obtain ⟨rfl, rfl⟩ := h
      unfold vz
      rw [zig_zag (by omega), Int.toNat_natCast]
      have ht : l.take (j + 1) = l.take j ++ [l[j]] := take_snoc' l j _ (List.getElem?_eq_getElem hj)
      rw [ht]
      refine (canon l[j] (by simpa using hb) (l.take j) ?_).2 ?_
      · intro c hc
        obtain ⟨i, hi⟩ := List.mem_iff_getElem?.1 hc
        rw [List.getElem?_take] at hi
        split at hi
        · have hij : i < j := ‹_›
          have := hbef i hij
          obtain ⟨hi1, hi2⟩ := List.getElem?_eq_some_iff.1 hi
          rw [hi2] at this
          unfold big
          simp at this
          omega
        · cases hi
      · rcases hc.2.1 with h0 | h0
        · left; rw [h0]; rfl
        · right
          rw [List.getD, List.getElem?_eq_getElem hj] at h0
          simpa using h0
    · cases h
theorem vb_mono : ∀ (b a : Nat), a ≤ b → (vb a).length ≤ (vb b).length := by
  intro b
  induction b using Nat.strongRecOn with
  | _ b ih =>
    intro a hab
    by_cases ha : a < 128
    · rw [vb_len1 ha]; exact vb_pos b
    · rw [vb_step (by omega), vb_step (z := b) (by omega)]
      simp only [List.length_cons]
      exact Nat.succ_le_succ (ih (b / 128) (by omega) (a / 128) (by omega))
theorem zig_half (n : Int) : 0 ≤ zig (n.tdiv 2) ∧ zig (n.tdiv 2) ≤ zig n := by
  unfold zig
  rcases Int.lt_or_le n 0 with h | h
  · obtain ⟨m, rfl⟩ : ∃ m : Nat, n = -(m : Int) := ⟨n.natAbs, by omega⟩
    rw [Int.neg_tdiv, Int.tdiv_eq_ediv_of_nonneg (by omega)]
    (repeat' split) <;> omega
  · rw [Int.tdiv_eq_ediv_of_nonneg h]
    (repeat' split) <;> omega
theorem vz_half (n : Int) : (vz (n.tdiv 2)).length ≤ (vz n).length := by
  have := zig_half n
  exact vb_mono _ _ (by omega)
theorem isV_half {n : Int} (h : isV n = true) : isV (n.tdiv 2) = true := by
  obtain ⟨h0, h1⟩ := isV_bd h
  refine inB_iff.2 ?_
  rcases Int.lt_or_le n 0 with hn | hn
  · obtain ⟨m, rfl⟩ : ∃ m : Nat, n = -(m : Int) := ⟨n.natAbs, by omega⟩
    rw [Int.neg_tdiv, Int.tdiv_eq_ediv_of_nonneg (by omega)]
    omega
  · rw [Int.tdiv_eq_ediv_of_nonneg hn]
    omega
theorem rd_putL {zs : List Int} (h : allV zs = true) : rd (putL zs) = some zs := by
  induction zs with
  | nil => rfl
  | cons x zs ih =>
    have hx : isV x = true := List.all_eq_true.1 h x (List.mem_cons_self ..)
    have hz : allV zs = true := List.all_eq_true.2 fun y hy => List.all_eq_true.1 h y (List.mem_cons_of_mem _ hy)
    show rd (vz x ++ putL zs) = _
    rw [rd_put hx, ih hz]
    rfl

/-! The contracts at any argument. -/
def pvB (n : Int) : ByteArray := if isV n then str (vz n) else str []
def zgB (n : Int) : Int := if isV n then zig n else 0
def lnB (n : Int) : Int := if isV n then ((vz n).length : Nat) else 0
def isU (n : Int) : Bool := inB n 0 2000000000000
def uzB (n : Int) : Int := if isU n then zag n else 0
theorem sPutVarint_u (n : Int) (w : World) : Calls Try.prog 45 #[.int .i64 n] w fun e w' => e = .returned (.tuple #[.string (pvB n), .bool (isV n)]) ∧ Below w.heap.size w w' := by
  cases h : isV n with
  | true => have e : pvB n = str (vz n) := by unfold pvB; rw [h]; rfl
            rw [e]; exact sPutVarint_t n w h
  | false => have e : pvB n = str [] := by unfold pvB; rw [h]; rfl
             rw [e]; exact sPutVarint_f n w h
theorem sZigZag_u (n : Int) (w : World) : Calls Try.prog 47 #[.int .i64 n] w fun e w' => e = .returned (.tuple #[.int .i64 (zgB n), .bool (isV n)]) ∧ w = w' := by
  cases h : isV n with
  | true => have e : zgB n = zig n := by unfold zgB; rw [h]; rfl
            rw [e]; exact sZigZag_t n w h
  | false => have e : zgB n = 0 := by unfold zgB; rw [h]; rfl
             rw [e]; exact sZigZag_f n w h
theorem sLengthOf_u (n : Int) (w : World) : Calls Try.prog 49 #[.int .i64 n] w fun e w' => e = .returned (.tuple #[.int .i64 (lnB n), .bool (isV n)]) ∧ Below w.heap.size w w' := by
  cases h : isV n with
  | true => have e : lnB n = ((vz n).length : Nat) := by unfold lnB; rw [h]; rfl
            rw [e]; exact sLengthOf_t n w h
  | false => have e : lnB n = 0 := by unfold lnB; rw [h]; rfl
             rw [e]; exact sLengthOf_f n w h
theorem iPutVarint_u (n : Int) (w : World) : Calls Try.prog 44 #[.int .i64 n] w fun e w' => e = .returned (.tuple #[.string (pvB n), .bool (isV n)]) ∧ Below w.heap.size w w' := by
  cases h : isV n with
  | true => have e : pvB n = str (vz n) := by unfold pvB; rw [h]; rfl
            rw [e]; exact iPutVarint_t n w h
  | false => have e : pvB n = str [] := by unfold pvB; rw [h]; rfl
             rw [e]; exact iPutVarint_f n w h
theorem iZigZag_u (n : Int) (w : World) : Calls Try.prog 46 #[.int .i64 n] w fun e w' => e = .returned (.tuple #[.int .i64 (zgB n), .bool (isV n)]) ∧ w = w' := by
  cases h : isV n with
  | true => have e : zgB n = zig n := by unfold zgB; rw [h]; rfl
            rw [e]; exact iZigZag_t n w h
  | false => have e : zgB n = 0 := by unfold zgB; rw [h]; rfl
             rw [e]; exact iZigZag_f n w h
theorem iLengthOf_u (n : Int) (w : World) : Calls Try.prog 48 #[.int .i64 n] w fun e w' => e = .returned (.tuple #[.int .i64 (lnB n), .bool (isV n)]) ∧ Below w.heap.size w w' := by
  cases h : isV n with
  | true => have e : lnB n = ((vz n).length : Nat) := by unfold lnB; rw [h]; rfl
            rw [e]; exact iLengthOf_t n w h
  | false => have e : lnB n = 0 := by unfold lnB; rw [h]; rfl
             rw [e]; exact iLengthOf_f n w h
theorem sPutVarint_b (n : Int) (b : Bool) (h : isV n = b) (w : World) : Calls Try.prog 45 #[.int .i64 n] w fun e w' => e = .returned (.tuple #[.string (pvB n), .bool b]) ∧ Below w.heap.size w w' := by subst h; exact sPutVarint_u n w
theorem sZigZag_b (n : Int) (b : Bool) (h : isV n = b) (w : World) : Calls Try.prog 47 #[.int .i64 n] w fun e w' => e = .returned (.tuple #[.int .i64 (zgB n), .bool b]) ∧ w = w' := by subst h; exact sZigZag_u n w
theorem sLengthOf_b (n : Int) (b : Bool) (h : isV n = b) (w : World) : Calls Try.prog 49 #[.int .i64 n] w fun e w' => e = .returned (.tuple #[.int .i64 (lnB n), .bool b]) ∧ Below w.heap.size w w' := by subst h; exact sLengthOf_u n w
theorem iPutVarint_b (n : Int) (b : Bool) (h : isV n = b) (w : World) : Calls Try.prog 44 #[.int .i64 n] w fun e w' => e = .returned (.tuple #[.string (pvB n), .bool b]) ∧ Below w.heap.size w w' := by subst h; exact iPutVarint_u n w
theorem iZigZag_b (n : Int) (b : Bool) (h : isV n = b) (w : World) : Calls Try.prog 46 #[.int .i64 n] w fun e w' => e = .returned (.tuple #[.int .i64 (zgB n), .bool b]) ∧ w = w' := by subst h; exact iZigZag_u n w
theorem iLengthOf_b (n : Int) (b : Bool) (h : isV n = b) (w : World) : Calls Try.prog 48 #[.int .i64 n] w fun e w' => e = .returned (.tuple #[.int .i64 (lnB n), .bool b]) ∧ Below w.heap.size w w' := by subst h; exact iLengthOf_u n w
theorem iUnZigZag_u (n : Int) (w : World) : Calls Try.prog 51 #[.int .i64 n] w fun e w' => e = .returned (.tuple #[.int .i64 (uzB n), .bool (isU n)]) ∧ w = w' := by
  cases h : isU n with
  | true => have e : uzB n = zag n := by unfold uzB; rw [h]; rfl
            rw [e]; exact iUnZigZag_t n w h
  | false => have e : uzB n = 0 := by unfold uzB; rw [h]; rfl
             rw [e]; exact iUnZigZag_f n w h
set_option maxHeartbeats 1000000 in
theorem sameInts_same (B : Nat) (A A' : Option Addr) (n c c' : Nat) (zs : List Int) (w : World) (h : Rd w B 1 A n (ints zs)) (h' : Rd w B 1 A' n (ints zs)) (hn : n ≤ 1048576) :
    Calls Try.prog 60 #[.slice A n c, .slice A' n c'] w fun e w' => e = .returned (.bool true) ∧ Below w.heap.size w w' := by
  have H := Lib.hid h
  have H' := Lib.hid h'
  clear h h'
  go_enter Try.func60, Try.ntmps60
  go_wp2
  go_loopw [13] (fun i wr => ∃ k q : Nat, k ≤ n ∧ i = .int .i64 k ∧ wr = w.drewN q) (fun i _ => n - (intOf i).toNat)
  case atStart => exact ⟨0, 0, Nat.zero_le _, rfl, rfl⟩
  case round =>
    obtain ⟨k, q, hk, rfl, rfl⟩ := hrel
    by_cases hlt : k < n
    · obtain ⟨b, off, x, rfl, hB, hx, hc⟩ := H.out.int_at hlt
      obtain ⟨b', off', x', rfl, hB', hx', hc'⟩ := H'.out.int_at hlt
      obtain rfl : x = x' := by rw [hx] at hx'; injection hx'
      clear hx hx'
      go_wp2
      go_quiet (fail)
      go_wp2
      go_roundw
      case rel => exact ⟨k + 1, q + nq, by omega, by go_num, rfl⟩
      case measure => simp [intOf]; omega
    · go_wp2
      go_ret
      exact ⟨rfl, Below.drewN (Below.refl _ _) _⟩
end Go.Proofs.Ytdmcfllmhjdleaa
