/- Owners of a ring: the contracts of the reference's and the program's functions. -/
import Derived.Test.YtkpofdfikmcjgaaRingPlain
import Derived.Test.YtkpofdfikmcjgaaDelPairs
import Derived.Test.YtkpofdfikmcjgaaCloneP
import Derived.Test.YtkpofdfikmcjgaaHas
import Derived.Test.YtkpofdfikmcjgaaGotR
namespace Go.Proofs.Ytkpofdfikmcjgaa
set_option linter.unusedVariables false
set_option linter.unusedSimpArgs false
open Go.RowKit

set_option maxHeartbeats 1000000 in
theorem ownersOf1_any (bq : Nat) (v x y : Int) (w : World) (h0 : w.cell? ⟨bq, 0, none⟩ = some (.int .i64 v)) (hb : bq < w.heap.size) :
    Calls Try.prog 81 #[.agg #[.int .i64 x, .int .i64 y], .pointer (some ⟨bq, 0, none⟩)] w fun e w' => e = .returned (.bool (decide (v ≤ x))) ∧ Below w.heap.size w w' := by
  have d0 : (w.alloc (.cells #[.int .i64 x, .int .i64 y] 75)).cell? ⟨bq, 0, none⟩ = some (.int .i64 v) := (World.cell?_alloc_lt _ _ _ (by simp; omega)).trans h0
  clear h0
  go_enter Try.func81, Try.ntmps81
  go_wp2
  go_ret
  exact ⟨rfl, (Below.refl _ _).alloc (Nat.le_refl _) _⟩
set_option maxHeartbeats 1000000 in
theorem hasOwner1_any (bq : Nat) (v x y : Int) (w : World) (h0 : w.cell? ⟨bq, 0, none⟩ = some (.int .i64 v)) (hb : bq < w.heap.size) :
    Calls Try.prog 84 #[.agg #[.int .i64 x, .int .i64 y], .pointer (some ⟨bq, 0, none⟩)] w fun e w' => e = .returned (.bool (y == v)) ∧ Below w.heap.size w w' := by
  have d0 : (w.alloc (.cells #[.int .i64 x, .int .i64 y] 75)).cell? ⟨bq, 0, none⟩ = some (.int .i64 v) := (World.cell?_alloc_lt _ _ _ (by simp; omega)).trans h0
  clear h0
  go_enter Try.func84, Try.ntmps84
  go_wp2
  go_ret
  exact ⟨rfl, (Below.refl _ _).alloc (Nat.le_refl _) _⟩
set_option maxHeartbeats 1000000 in
theorem DropOwner1_any (bq : Nat) (v x y : Int) (w : World) (h0 : w.cell? ⟨bq, 0, none⟩ = some (.int .i64 v)) (hb : bq < w.heap.size) :
    Calls Try.prog 65 #[.agg #[.int .i64 x, .int .i64 y], .pointer (some ⟨bq, 0, none⟩)] w fun e w' => e = .returned (.bool (y == v)) ∧ Below w.heap.size w w' := by
  have d0 : (w.alloc (.cells #[.int .i64 x, .int .i64 y] 75)).cell? ⟨bq, 0, none⟩ = some (.int .i64 v) := (World.cell?_alloc_lt _ _ _ (by simp; omega)).trans h0
  clear h0
  go_enter Try.func65, Try.ntmps65
  go_wp2
  go_ret
  exact ⟨rfl, (Below.refl _ _).alloc (Nat.le_refl _) _⟩
theorem idx_ge {α : Type} (p : α → Bool) (l : List α) : decide (0 ≤ idxZ (fstAt p l)) = l.any p := by
  have h := List.findIdx?_isSome (xs := l) (p := p)
  rw [← h]
  unfold fstAt
  cases List.findIdx? p l <;> simp [idxZ]
set_option maxHeartbeats 1000000 in
theorem hasOwner_any (B : Nat) (A : Option Addr) (n c : Nat) (l : List Tok) (o : Int) (w : World) (hBw : B ≤ w.heap.size) (h : Rd w B 2 A n (smps l)) (hn : n ≤ 1048576) :
    Calls Try.prog 62 #[.slice A n c, .int .i64 o] w fun e w' => e = .returned (.bool (ownsT l o)) ∧ Below w.heap.size w w' := by
  obtain ⟨R, hR⟩ : ∃ R, R = ownsT l o := ⟨_, rfl⟩
  rw [← hR]
  have hge := idx_ge (fun t : Tok => t.2 == o) l
  have hR2 : R = l.any (fun t : Tok => t.2 == o) := hR
  obtain ⟨wb, hwb⟩ : ∃ wb, wb = w.alloc (.cells #[.int .i64 o] 3) := ⟨_, rfl⟩
  have hb0 : Below w.heap.size w wb := hwb ▸ (Below.refl _ _).alloc (Nat.le_refl _) _
  have hsz : w.heap.size + 1 ≤ wb.heap.size := by rw [hwb]; simp
  have hcb : wb.cell? ⟨w.heap.size, 0, none⟩ = some (.int .i64 o) := by rw [hwb]; simp
  have HI := Lib.hid (hasO_idx wb.heap.size wb (some ⟨w.heap.size, 0, none⟩) (fun t => t.2 == o) (Nat.le_refl _)
    (fun x y w' hw => hasOwner1_any w.heap.size o x y w' ((bcell hw _ _ (by omega)).trans hcb) (by have := hw.size; omega)) B A n c l wb (Below.refl _ _) (by omega) (h.below (hb0.mono hBw)) hn)
  generalize idxZ (fstAt (fun t : Tok => t.2 == o) l) = k at HI hge
  have HE := Lib.hid (show decide (0 ≤ k) = R from hge.trans hR2.symm)
  have H0 := Lib.hid hb0
  have HW := Lib.hid hwb
  clear hR hR2 hge hb0 hsz hcb h hwb
  go_enter Try.func62, Try.ntmps62
  go_wp2_with fail
  rw [← HW.out]
  have HC : Calls Try.prog 83 #[.slice A n c, .func (.func 84) #[] #[.pointer (some ⟨w.heap.size, 0, none⟩)]] wb fun e w' => e = .returned (.bool R) ∧ Below wb.heap.size wb w' := by
    go_enter Try.func83, Try.ntmps83
    go_wp2_with fail
    refine HI.out.mono ?_
    rintro e w1 ⟨rfl, hb⟩
    have HB := Lib.hid hb
    clear hb
    go_wp2
    go_ret
    exact ⟨retB HE.out, HB.out⟩
  refine HC.mono ?_
  rintro e w1 ⟨rfl, hb⟩
  have HB := Lib.hid (H0.out.trans (hb.mono H0.out.size))
  clear hb HC
  go_wp2
  go_ret
  exact ⟨rfl, HB.out⟩
set_option maxRecDepth 100000 in
set_option maxHeartbeats 2000000 in
theorem l3Owns_any (B : Nat) (A : Option Addr) (n c : Nat) (l : List Tok) (o : Int) (w : World) (hBw : B ≤ w.heap.size) (h : Rd w B 2 A n (smps l)) (hn : n ≤ 1048576) :
    Calls Try.prog 61 #[.slice A n c, .int .i64 o] w fun e w' => e = .returned (.bool (ownsT l o)) ∧ Below w.heap.size w w' := by
  obtain ⟨R, hR⟩ : ∃ R, R = ownsT l o := ⟨_, rfl⟩
  rw [← hR]
  have HR := Lib.hid (show R = l.any (fun t : Tok => t.2 == o) from hR)
  have hlen := h.smp_len
  have HL := Lib.hid hlen
  have H := Lib.hid h
  clear h hlen hR
  go_enter Try.func61, Try.ntmps61
  go_wp2
  go_loopw [9] (fun i wr => ∃ k : Nat, k ≤ n ∧ i = .int .i64 k ∧ (l.take k).any (fun t : Tok => t.2 == o) = false ∧ Below w.heap.size w wr) (fun i _ => n - (intOf i).toNat)
  case atStart => exact ⟨0, Nat.zero_le _, rfl, rfl, Below.refl _ _⟩
  case round =>
    obtain ⟨k, hk, rfl, hok, hb⟩ := hrel
    have HK := Lib.hid hok
    have HB := Lib.hid hb
    have hsz := hb.size
    clear hok hb
    by_cases hlt : k < n
    · obtain ⟨b, off, x, y, rfl, hB, hx, hc0, hc1⟩ := H.out.smp_at hlt
      have hc0' : wr.cell? ⟨b, off + k * 2, none⟩ = some (.int .i64 x) := (bcell HB.out _ _ (by omega)).trans hc0
      have hc1' : wr.cell? ⟨b, off + k * 2 + 1, none⟩ = some (.int .i64 y) := (bcell HB.out _ _ (by omega)).trans hc1
      have HX := Lib.hid hx
      have HBA := Lib.hid (HB.out.alloc hsz (.cells #[.int .i64 x, .int .i64 y] 75))
      clear hx hc0 hc1
      by_cases hxy : y = o
      · have e : R = true := HR.out.trans (List.any_eq_true.2 ⟨_, List.mem_of_getElem? HX.out, by simpa using hxy⟩)
        subst e
        have hd : (y == o) = true := by simpa using hxy
        clear hxy HR HK HX
        go_wp2
        go_ret
        exact ⟨rfl, HBA.out⟩
      · have hd : (y == o) = false := by simpa using hxy
        have HN := Lib.hid (show (l.take (k + 1)).any (fun t : Tok => t.2 == o) = false by
          rw [take_snoc' l k _ HX.out, List.any_append, HK.out]
          simpa using hxy)
        clear hxy
        go_wp2
        go_roundw
        case rel => exact ⟨k + 1, by omega, by go_num, HN.out, HBA.out⟩
        case measure => simp [intOf]; omega
    · have e : R = false := by
        have := HK.out
        rw [List.take_of_length_le (by rw [HL.out]; omega)] at this
        exact HR.out.trans this
      subst e
      clear HR HK
      go_wp2
      go_ret
      exact ⟨rfl, HB.out⟩
set_option maxRecDepth 100000 in
set_option maxHeartbeats 2000000 in
theorem l3First_any (B : Nat) (A : Option Addr) (n c : Nat) (l : List Tok) (v : Int) (w : World) (hBw : B ≤ w.heap.size) (h : Rd w B 2 A n (smps l)) (hn : n ≤ 1048576) :
    Calls Try.prog 55 #[.slice A n c, .int .i64 v] w fun e w' => e = .returned (.int .i64 (firstT l v : Nat)) ∧ Below w.heap.size w w' := by
  obtain ⟨R, hR⟩ : ∃ R, R = firstT l v := ⟨_, rfl⟩
  rw [← hR]
  have HR := Lib.hid (show R = match fstAt (fun t : Tok => decide (v ≤ t.1)) l with | some k => k | none => 0 from hR)
  have hlen := h.smp_len
  have HL := Lib.hid hlen
  have H := Lib.hid h
  clear h hlen hR
  go_enter Try.func55, Try.ntmps55
  go_wp2
  go_loopw [9] (fun i wr => ∃ k : Nat, k ≤ n ∧ i = .int .i64 k ∧ (∀ j y, j < k → l[j]? = some y → decide (v ≤ y.1) = false) ∧ Below w.heap.size w wr) (fun i _ => n - (intOf i).toNat)
  case atStart => exact ⟨0, Nat.zero_le _, rfl, fun j y hj => absurd hj (by omega), Below.refl _ _⟩
  case round =>
    obtain ⟨k, hk, rfl, hok, hb⟩ := hrel
    have HK := Lib.hid hok
    have HB := Lib.hid hb
    have hsz := hb.size
    clear hok hb
    by_cases hlt : k < n
    · obtain ⟨b, off, x, y, rfl, hB, hx, hc0, hc1⟩ := H.out.smp_at hlt
      have hc0' : wr.cell? ⟨b, off + k * 2, none⟩ = some (.int .i64 x) := (bcell HB.out _ _ (by omega)).trans hc0
      have hc1' : wr.cell? ⟨b, off + k * 2 + 1, none⟩ = some (.int .i64 y) := (bcell HB.out _ _ (by omega)).trans hc1
      have HX := Lib.hid hx
      have HBA := Lib.hid (HB.out.alloc hsz (.cells #[.int .i64 x, .int .i64 y] 75))
      clear hx hc0 hc1
      by_cases hxy : v ≤ x
      · have e : R = k := by rw [HR.out, fstAt_hit HX.out (by simpa using hxy) HK.out]
        subst e
        clear HR HK HX
        go_wp2
        go_ret
        exact ⟨rfl, HBA.out⟩
      · have HN := Lib.hid (show ∀ j y, j < k + 1 → l[j]? = some y → decide (v ≤ y.1) = false from fun j z hj hz => by
          by_cases hjk : j < k
          · exact HK.out j z hjk hz
          · obtain rfl : j = k := by omega
            have := HX.out
            rw [hz] at this
            injection this with this
            rw [this]; simpa using hxy)
        go_wp2
        go_roundw
        case rel => exact ⟨k + 1, by omega, by go_num, HN.out, HBA.out⟩
        case measure => simp [intOf]; omega
    · have e : R = 0 := by rw [HR.out, fstAt_none fun j y hy => HK.out j y (by have := (List.getElem?_eq_some_iff.1 hy).1; have := HL.out; omega) hy]
      subst e
      clear HR HK
      go_wp2
      go_ret
      exact ⟨rfl, HB.out⟩
/-- A ring that has a token, and a place. -/
def okOwn (l : List Tok) (v : Int) : Bool := goodTok l && decide (0 < l.length) && inB v 0 1008
set_option maxHeartbeats 1000000 in
theorem l3Ring_any (B : Nat) (A : Option Addr) (n c : Nat) (l : List Tok) (v : Int) (w : World) (hBw : B ≤ w.heap.size) (h : Rd w B 2 A n (smps l)) (hn : n ≤ 1048576) :
    Calls Try.prog 54 #[.slice A n c, .int .i64 v] w fun e w' => e = .returned (.bool (okOwn l v)) ∧ Below w.heap.size w w' := by
  have C1 := Lib.hid (sGoodRing_any B A n c l w hBw h hn)
  have hlen := h.smp_len
  obtain ⟨R, hR⟩ : ∃ R, R = okOwn l v := ⟨_, rfl⟩
  rw [← hR]
  have hR2 : R = (goodTok l && decide (0 < n) && inB v 0 1008) := by rw [hR, ← hlen]; rfl
  generalize goodTok l = g at C1 hR2
  clear h hlen hR
  cases g with
  | false =>
    have e : R = false := by rw [hR2]; rfl
    subst e
    clear hR2
    go_enter Try.func54, Try.ntmps54
    go_wp2_with fail
    refine C1.out.mono ?_
    rintro e w1 ⟨rfl, hb⟩
    have HB := Lib.hid hb
    clear hb
    go_wp2
    go_ret
    exact ⟨rfl, HB.out⟩
  | true =>
    by_cases h0 : 0 < n
    · have HR := Lib.hid (show R = inB v 0 1008 by rw [hR2]; simp [h0])
      clear hR2
      go_enter Try.func54, Try.ntmps54
      go_wp2_with fail
      refine C1.out.mono ?_
      rintro e w1 ⟨rfl, hb⟩
      have HB := Lib.hid hb
      clear hb
      go_wp2_with (go_at_call 66; refine (l1In_any _ _ _ _).mono ?_; rintro e w' ⟨rfl, rfl⟩)
      go_ret
      exact ⟨retB HR.out.symm, HB.out⟩
    · have e : R = false := by rw [hR2]; simp [h0]
      subst e
      clear hR2
      go_enter Try.func54, Try.ntmps54
      go_wp2_with fail
      refine C1.out.mono ?_
      rintro e w1 ⟨rfl, hb⟩
      have HB := Lib.hid hb
      clear hb
      go_wp2
      go_ret
      exact ⟨rfl, HB.out⟩
end Go.Proofs.Ytkpofdfikmcjgaa
