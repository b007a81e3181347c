/- The tests on samples of the reference and of the program, and the law GoodSamples. -/
import Derived.Test.YtbemnhdadafnnaaPairs
import Derived.Test.YtbemnhdadafnnaaAllAt
namespace Go.Proofs.Ytbemnhdadafnnaa
set_option linter.unusedVariables false
set_option linter.unusedSimpArgs false
open Go.RowKit

def smpOk (p : Int × Int) : Bool := inB p.1 0 1000000000 && inB p.2 (-1000000000) 1000000000
def smpAt (l : List (Int × Int)) (k : Nat) : Bool := smpOk (l.getD k (0, 0)) && (k == 0 || decide ((l.getD (k - 1) (0, 0)).1 < (l.getD k (0, 0)).1))
def goodSmp (l : List (Int × Int)) : Bool := allAt (smpAt l) l.length && decide (l.length ≤ 40)
theorem smpAt_zero {l : List (Int × Int)} {p : Int × Int} (h : l[0]? = some p) : smpAt l 0 = smpOk p := by unfold smpAt; simp [List.getD, h]
theorem smpAt_succ {l : List (Int × Int)} {k : Nat} {q p : Int × Int} (hq : l[k]? = some q) (h : l[k + 1]? = some p) : smpAt l (k + 1) = (smpOk p && decide (q.1 < p.1)) := by unfold smpAt; simp [List.getD, h, hq]
theorem smpAt_bad {l : List (Int × Int)} {k : Nat} {p : Int × Int} (h : l[k]? = some p) (hb : smpOk p = false) : smpAt l k = false := by
  unfold smpAt; rw [show l.getD k (0, 0) = p from by simp [List.getD, h], hb]; rfl
theorem smpOk_t {x y : Int} (h : smpOk (x, y) = true) : inB x 0 1000000000 = true ∧ inB y (-1000000000) 1000000000 = true := by unfold smpOk at h; simpa using h
theorem smpOk_f {x y : Int} (h : smpOk (x, y) = false) : inB x 0 1000000000 = false ∨ (inB x 0 1000000000 = true ∧ inB y (-1000000000) 1000000000 = false) := by
  unfold smpOk at h
  cases hx : inB x 0 1000000000
  · exact .inl rfl
  · rw [hx] at h; exact .inr ⟨rfl, by simpa using h⟩
theorem goodSmp_bad {l : List (Int × Int)} {k : Nat} (hk : k < l.length) (h : smpAt l k = false) : goodSmp l = false := by unfold goodSmp; rw [allAt_f k hk h]; rfl
theorem goodSmp_all {l : List (Int × Int)} (h : ∀ k, k < l.length → smpAt l k = true) : goodSmp l = decide (l.length ≤ 40) := by unfold goodSmp; rw [allAt_t h]; rfl

set_option maxRecDepth 100000 in
set_option maxHeartbeats 1000000 in
theorem isSample_any (x y : Int) (w : World) : Calls Try.prog 56 #[.agg #[.int .i64 x, .int .i64 y]] w fun e w' => e = .returned (.bool (smpOk (x, y))) ∧ Below w.heap.size w w' := by
  by_cases h : inB x 0 1000000000 = true
  · have HS := Lib.hid (show smpOk (x, y) = inB y (-1000000000) 1000000000 by unfold smpOk; rw [h]; rfl)
    go_enter Try.func56, Try.ntmps56
    go_wp2_with (go_at_call 69; refine (within_any _ _ _ _).mono ?_; rintro e w' ⟨rfl, rfl⟩)
    go_ret
    exact ⟨retB HS.out.symm, (Below.refl _ _).alloc (Nat.le_refl _) _⟩
  · replace h : inB x 0 1000000000 = false := by simpa using h
    have HS := Lib.hid (show smpOk (x, y) = false by unfold smpOk; rw [h]; rfl)
    go_enter Try.func56, Try.ntmps56
    go_wp2_with (go_at_call 69; refine (within_any _ _ _ _).mono ?_; rintro e w' ⟨rfl, rfl⟩)
    go_ret
    exact ⟨retB HS.out.symm, (Below.refl _ _).alloc (Nat.le_refl _) _⟩

set_option maxRecDepth 100000 in
set_option maxHeartbeats 4000000 in
theorem areSamples_any (B : Nat) (A : Option Addr) (n c : Nat) (l : List (Int × Int)) (w : World) (hBw : B ≤ w.heap.size) (h : Rd w B 2 A n (smps l)) (hn : n ≤ 1048576) :
    Calls Try.prog 39 #[.slice A n c] w fun e w' => e = .returned (.bool (goodSmp l)) ∧ Below w.heap.size w w' := by
  have hlen := h.smp_len
  have HL := Lib.hid hlen
  have H := Lib.hid h
  clear h hlen
  go_enter Try.func39, Try.ntmps39
  go_wp2
  go_loopw [7] (fun i wr => ∃ k : Nat, k ≤ n ∧ i = .int .i64 k ∧ (∀ j, j < k → smpAt l j = true) ∧ Below w.heap.size w wr) (fun i _ => n - (intOf i).toNat)
  case atStart => exact ⟨0, Nat.zero_le _, rfl, fun j hj => absurd hj (by omega), Below.refl _ _⟩
  case round =>
    obtain ⟨k, hk, rfl, hok, hb⟩ := hrel
    have HK := Lib.hid hok
    have HB := Lib.hid hb
    have hsz := hb.size
    clear hok hb
    by_cases hlt : k < n
    · obtain ⟨b, off, x, y, rfl, hbB, hx, hc0, hc1⟩ := H.out.smp_at hlt
      have hc0' : wr.cell? ⟨b, off + k * 2, none⟩ = some (.int .i64 x) := (bcell HB.out _ _ (by omega)).trans hc0
      have hc1' : wr.cell? ⟨b, off + k * 2 + 1, none⟩ = some (.int .i64 y) := (bcell HB.out _ _ (by omega)).trans hc1
      have HX := Lib.hid hx
      obtain ⟨v, hv⟩ : ∃ v, smpOk (x, y) = v := ⟨_, rfl⟩
      have hS := isSample_any x y
      rw [hv] at hS
      have HS := Lib.hid hS
      have HV := Lib.hid hv
      clear hS hv
      clear hx hc0 hc1
      rcases k with _ | j
      · simp only [Nat.zero_mul, Nat.add_zero] at hc0' hc1'
        have e0 := beyond_cell (B := wr.heap.size + 1) (W := wr.alloc (.cells #[.int .i64 x, .int .i64 y] 31)) (b := wr.heap.size) (off := 0) (v := .int .i64 x) (by simp) (by omega)
        have e1 := beyond_cell (B := wr.heap.size + 1) (W := wr.alloc (.cells #[.int .i64 x, .int .i64 y] 31)) (b := wr.heap.size) (off := 1) (v := .int .i64 y) (by simp) (by omega)
        cases v with
        | true =>
          go_wp2_with fail
          refine wp_region_beyond (B := wr.heap.size + 1) (W := wr.alloc (.cells #[.int .i64 x, .int .i64 y] 31)) (Below.refl _ _) (by kernel_rfl) (by kernel_rfl) ?_
          repeat (go_big_quiet_step ((go_at_call 56; exact calls_beyond (by simp) (HS.out _))))
          refine wpQuiet_nil ?_
          intro _ hw'
          obtain ⟨z, rfl⟩ := hw'
          have HZ := Lib.hid (((HB.out.alloc hsz (.cells #[.int .i64 x, .int .i64 y] 31)).trans (z.2.mono (by omega)) : Below w.heap.size w z.1))
          generalize z.1 = wz at HZ ⊢
          clear e0 e1
          go_wp2
          go_roundw
          case rel => exact ⟨1, by omega, rfl, fun i hi => by obtain rfl : i = 0 := by omega
                                                              exact (smpAt_zero HX.out).trans HV.out, HZ.out⟩
          case measure => simp [intOf]; omega
        | false =>
          go_wp2_with fail
          refine wp_region_beyond (B := wr.heap.size + 1) (W := wr.alloc (.cells #[.int .i64 x, .int .i64 y] 31)) (Below.refl _ _) (by kernel_rfl) (by kernel_rfl) ?_
          repeat (go_big_quiet_step ((go_at_call 56; exact calls_beyond (by simp) (HS.out _))))
          refine wpQuiet_nil ?_
          intro _ hw'
          obtain ⟨z, rfl⟩ := hw'
          have HZ := Lib.hid (((HB.out.alloc hsz (.cells #[.int .i64 x, .int .i64 y] 31)).trans (z.2.mono (by omega)) : Below w.heap.size w z.1))
          generalize z.1 = wz at HZ ⊢
          clear e0 e1
          go_wp2
          go_ret
          exact ⟨retB (goodSmp_bad (k := 0) (by have := HL.out; omega) (smpAt_bad HX.out HV.out)).symm, HZ.out⟩
      · obtain ⟨b', off', p, q, he, hbB', hp, hcp0, hcp1⟩ := H.out.smp_at (k := j) (by omega)
        obtain ⟨rfl, rfl⟩ : b = b' ∧ off = off' := by simpa using he
        have HP := Lib.hid hp
        have e0 := beyond_cell (B := wr.heap.size + 1) (W := wr.alloc (.cells #[.int .i64 x, .int .i64 y] 31)) (b := wr.heap.size) (off := 0) (v := .int .i64 x) (by simp) (by omega)
        have e1 := beyond_cell (B := wr.heap.size + 1) (W := wr.alloc (.cells #[.int .i64 x, .int .i64 y] 31)) (b := wr.heap.size) (off := 1) (v := .int .i64 y) (by simp) (by omega)
        have e2 := beyond_cell (B := wr.heap.size + 1) (W := wr.alloc (.cells #[.int .i64 x, .int .i64 y] 31)) (b := b) (off := off + j * 2) (v := .int .i64 p) ((World.cell?_alloc_lt _ _ _ (by simp; omega)).trans ((bcell HB.out _ _ (by omega)).trans hcp0)) (by omega)
        clear hp he hcp0 hcp1
        cases v with
        | true =>
          by_cases hlt2 : p < x
          · have hd : decide (x ≤ p) = false := by simp; omega
            go_wp2_with fail
            refine wp_region_beyond (B := wr.heap.size + 1) (W := wr.alloc (.cells #[.int .i64 x, .int .i64 y] 31)) (Below.refl _ _) (by kernel_rfl) (by kernel_rfl) ?_
            repeat (go_big_quiet_step ((go_at_call 56; exact calls_beyond (by simp) (HS.out _))))
            refine wpQuiet_nil ?_
            intro _ hw'
            obtain ⟨z, rfl⟩ := hw'
            have HZ := Lib.hid (((HB.out.alloc hsz (.cells #[.int .i64 x, .int .i64 y] 31)).trans (z.2.mono (by omega)) : Below w.heap.size w z.1))
            generalize z.1 = wz at HZ ⊢
            clear e0 e1 e2
            go_wp2
            go_roundw
            case rel => exact ⟨j + 1 + 1, by omega, by go_num, fun i hi => by
                                by_cases h : i < j + 1
                                · exact HK.out i h
                                · obtain rfl : i = j + 1 := by omega
                                  rw [smpAt_succ HP.out HX.out, HV.out]; simpa using hlt2, HZ.out⟩
            case measure => simp [intOf]; omega
          · have hd : decide (x ≤ p) = true := by simp; omega
            go_wp2_with fail
            refine wp_region_beyond (B := wr.heap.size + 1) (W := wr.alloc (.cells #[.int .i64 x, .int .i64 y] 31)) (Below.refl _ _) (by kernel_rfl) (by kernel_rfl) ?_
            repeat (go_big_quiet_step ((go_at_call 56; exact calls_beyond (by simp) (HS.out _))))
            refine wpQuiet_nil ?_
            intro _ hw'
            obtain ⟨z, rfl⟩ := hw'
            have HZ := Lib.hid (((HB.out.alloc hsz (.cells #[.int .i64 x, .int .i64 y] 31)).trans (z.2.mono (by omega)) : Below w.heap.size w z.1))
            generalize z.1 = wz at HZ ⊢
            clear e0 e1 e2
            go_wp2
            go_ret
            exact ⟨retB (goodSmp_bad (k := j + 1) (by have := HL.out; omega) (by rw [smpAt_succ HP.out HX.out]; simp; intro _; omega)).symm, HZ.out⟩
        | false =>
          go_wp2_with fail
          refine wp_region_beyond (B := wr.heap.size + 1) (W := wr.alloc (.cells #[.int .i64 x, .int .i64 y] 31)) (Below.refl _ _) (by kernel_rfl) (by kernel_rfl) ?_
          repeat (go_big_quiet_step ((go_at_call 56; exact calls_beyond (by simp) (HS.out _))))
          refine wpQuiet_nil ?_
          intro _ hw'
          obtain ⟨z, rfl⟩ := hw'
          have HZ := Lib.hid (((HB.out.alloc hsz (.cells #[.int .i64 x, .int .i64 y] 31)).trans (z.2.mono (by omega)) : Below w.heap.size w z.1))
          generalize z.1 = wz at HZ ⊢
          clear e0 e1 e2
          go_wp2
          go_ret
          exact ⟨retB (goodSmp_bad (k := j + 1) (by have := HL.out; omega) (smpAt_bad HX.out HV.out)).symm, HZ.out⟩
    · have hk' : k = n := by omega
      subst hk'
      have e := goodSmp_all (l := l) (by rw [HL.out]; exact HK.out)
      rw [HL.out] at e
      go_wp2
      go_ret
      refine ⟨retB ?_, HB.out⟩
      rw [e]
      simp
      omega
set_option maxRecDepth 100000 in
set_option maxHeartbeats 4000000 in
theorem sGoodSamples_any (B : Nat) (A : Option Addr) (n c : Nat) (l : List (Int × Int)) (w : World) (hBw : B ≤ w.heap.size) (h : Rd w B 2 A n (smps l)) (hn : n ≤ 1048576) :
    Calls Try.prog 41 #[.slice A n c] w fun e w' => e = .returned (.bool (goodSmp l)) ∧ Below w.heap.size w w' := by
  have hlen := h.smp_len
  have HL := Lib.hid hlen
  have H := Lib.hid h
  clear h hlen
  go_enter Try.func41, Try.ntmps41
  go_wp2
  go_loopw [7] (fun i wr => ∃ k : Nat, k ≤ n ∧ i = .int .i64 k ∧ (∀ j, j < k → smpAt l j = true) ∧ Below w.heap.size w wr) (fun i _ => n - (intOf i).toNat)
  case atStart => exact ⟨0, Nat.zero_le _, rfl, fun j hj => absurd hj (by omega), Below.refl _ _⟩
  case round =>
    obtain ⟨k, hk, rfl, hok, hb⟩ := hrel
    have HK := Lib.hid hok
    have HB := Lib.hid hb
    have hsz := hb.size
    clear hok hb
    by_cases hlt : k < n
    · obtain ⟨b, off, x, y, rfl, hbB, hx, hc0, hc1⟩ := H.out.smp_at hlt
      have hc0' : wr.cell? ⟨b, off + k * 2, none⟩ = some (.int .i64 x) := (bcell HB.out _ _ (by omega)).trans hc0
      have hc1' : wr.cell? ⟨b, off + k * 2 + 1, none⟩ = some (.int .i64 y) := (bcell HB.out _ _ (by omega)).trans hc1
      have HX := Lib.hid hx
      obtain ⟨v, hv⟩ : ∃ v, smpOk (x, y) = v := ⟨_, rfl⟩
      have HV := Lib.hid hv
      clear hv
      have HVt := Lib.hid (fun (e : v = true) => smpOk_t (HV.out.trans e))
      have HVf := Lib.hid (fun (e : v = false) => smpOk_f (HV.out.trans e))
      clear hx hc0 hc1
      rcases k with _ | j
      · simp only [Nat.zero_mul, Nat.add_zero] at hc0' hc1'
        have e0 := beyond_cell (B := wr.heap.size + 1) (W := wr.alloc (.cells #[.int .i64 x, .int .i64 y] 31)) (b := wr.heap.size) (off := 0) (v := .int .i64 x) (by simp) (by omega)
        have e1 := beyond_cell (B := wr.heap.size + 1) (W := wr.alloc (.cells #[.int .i64 x, .int .i64 y] 31)) (b := wr.heap.size) (off := 1) (v := .int .i64 y) (by simp) (by omega)
        cases v with
        | true =>
          obtain ⟨hbx, hby⟩ := HVt.out rfl
          go_wp2_with fail
          refine wp_region_beyond (B := wr.heap.size + 1) (W := wr.alloc (.cells #[.int .i64 x, .int .i64 y] 31)) (Below.refl _ _) (by kernel_rfl) (by kernel_rfl) ?_
          repeat (go_big_quiet_step ((go_at_call 58; exact calls_beyond_same (l1In_any _ _ _ _))))
          refine wpQuiet_nil ?_
          intro _ hw'
          obtain ⟨z, rfl⟩ := hw'
          have HZ := Lib.hid (((HB.out.alloc hsz (.cells #[.int .i64 x, .int .i64 y] 31)).trans (z.2.mono (by omega)) : Below w.heap.size w z.1))
          generalize z.1 = wz at HZ ⊢
          clear e0 e1
          go_wp2
          go_roundw
          case rel => exact ⟨1, by omega, rfl, fun i hi => by obtain rfl : i = 0 := by omega
                                                              exact (smpAt_zero HX.out).trans HV.out, HZ.out⟩
          case measure => simp [intOf]; omega
        | false =>
          rcases HVf.out rfl with hbx | ⟨hbx, hby⟩
          · skip
            go_wp2_with fail
            refine wp_region_beyond (B := wr.heap.size + 1) (W := wr.alloc (.cells #[.int .i64 x, .int .i64 y] 31)) (Below.refl _ _) (by kernel_rfl) (by kernel_rfl) ?_
            repeat (go_big_quiet_step ((go_at_call 58; exact calls_beyond_same (l1In_any _ _ _ _))))
            refine wpQuiet_nil ?_
            intro _ hw'
            obtain ⟨z, rfl⟩ := hw'
            have HZ := Lib.hid (((HB.out.alloc hsz (.cells #[.int .i64 x, .int .i64 y] 31)).trans (z.2.mono (by omega)) : Below w.heap.size w z.1))
            generalize z.1 = wz at HZ ⊢
            clear e0 e1
            go_wp2
            go_ret
            exact ⟨retB (goodSmp_bad (k := 0) (by have := HL.out; omega) (smpAt_bad HX.out HV.out)).symm, HZ.out⟩
          · skip
            go_wp2_with fail
            refine wp_region_beyond (B := wr.heap.size + 1) (W := wr.alloc (.cells #[.int .i64 x, .int .i64 y] 31)) (Below.refl _ _) (by kernel_rfl) (by kernel_rfl) ?_
            repeat (go_big_quiet_step ((go_at_call 58; exact calls_beyond_same (l1In_any _ _ _ _))))
            refine wpQuiet_nil ?_
            intro _ hw'
            obtain ⟨z, rfl⟩ := hw'
            have HZ := Lib.hid (((HB.out.alloc hsz (.cells #[.int .i64 x, .int .i64 y] 31)).trans (z.2.mono (by omega)) : Below w.heap.size w z.1))
            generalize z.1 = wz at HZ ⊢
            clear e0 e1
            go_wp2
            go_ret
            exact ⟨retB (goodSmp_bad (k := 0) (by have := HL.out; omega) (smpAt_bad HX.out HV.out)).symm, HZ.out⟩
      · obtain ⟨b', off', p, q, he, hbB', hp, hcp0, hcp1⟩ := H.out.smp_at (k := j) (by omega)
        obtain ⟨rfl, rfl⟩ : b = b' ∧ off = off' := by simpa using he
        have HP := Lib.hid hp
        have e0 := beyond_cell (B := wr.heap.size + 1) (W := wr.alloc (.cells #[.int .i64 x, .int .i64 y] 31)) (b := wr.heap.size) (off := 0) (v := .int .i64 x) (by simp) (by omega)
        have e1 := beyond_cell (B := wr.heap.size + 1) (W := wr.alloc (.cells #[.int .i64 x, .int .i64 y] 31)) (b := wr.heap.size) (off := 1) (v := .int .i64 y) (by simp) (by omega)
        have e2 := beyond_cell (B := wr.heap.size + 1) (W := wr.alloc (.cells #[.int .i64 x, .int .i64 y] 31)) (b := b) (off := off + j * 2) (v := .int .i64 p) ((World.cell?_alloc_lt _ _ _ (by simp; omega)).trans ((bcell HB.out _ _ (by omega)).trans hcp0)) (by omega)
        clear hp he hcp0 hcp1
        cases v with
        | true =>
          obtain ⟨hbx, hby⟩ := HVt.out rfl
          by_cases hlt2 : p < x
          · have hd : decide (x ≤ p) = false := by simp; omega
            go_wp2_with fail
            refine wp_region_beyond (B := wr.heap.size + 1) (W := wr.alloc (.cells #[.int .i64 x, .int .i64 y] 31)) (Below.refl _ _) (by kernel_rfl) (by kernel_rfl) ?_
            repeat (go_big_quiet_step ((go_at_call 58; exact calls_beyond_same (l1In_any _ _ _ _))))
            refine wpQuiet_nil ?_
            intro _ hw'
            obtain ⟨z, rfl⟩ := hw'
            have HZ := Lib.hid (((HB.out.alloc hsz (.cells #[.int .i64 x, .int .i64 y] 31)).trans (z.2.mono (by omega)) : Below w.heap.size w z.1))
            generalize z.1 = wz at HZ ⊢
            clear e0 e1 e2
            go_wp2
            go_roundw
            case rel => exact ⟨j + 1 + 1, by omega, by go_num, fun i hi => by
                                by_cases h : i < j + 1
                                · exact HK.out i h
                                · obtain rfl : i = j + 1 := by omega
                                  rw [smpAt_succ HP.out HX.out, HV.out]; simpa using hlt2, HZ.out⟩
            case measure => simp [intOf]; omega
          · have hd : decide (x ≤ p) = true := by simp; omega
            go_wp2_with fail
            refine wp_region_beyond (B := wr.heap.size + 1) (W := wr.alloc (.cells #[.int .i64 x, .int .i64 y] 31)) (Below.refl _ _) (by kernel_rfl) (by kernel_rfl) ?_
            repeat (go_big_quiet_step ((go_at_call 58; exact calls_beyond_same (l1In_any _ _ _ _))))
            refine wpQuiet_nil ?_
            intro _ hw'
            obtain ⟨z, rfl⟩ := hw'
            have HZ := Lib.hid (((HB.out.alloc hsz (.cells #[.int .i64 x, .int .i64 y] 31)).trans (z.2.mono (by omega)) : Below w.heap.size w z.1))
            generalize z.1 = wz at HZ ⊢
            clear e0 e1 e2
            go_wp2
            go_ret
            exact ⟨retB (goodSmp_bad (k := j + 1) (by have := HL.out; omega) (by rw [smpAt_succ HP.out HX.out]; simp; intro _; omega)).symm, HZ.out⟩
        | false =>
          rcases HVf.out rfl with hbx | ⟨hbx, hby⟩
          · skip
            go_wp2_with fail
            refine wp_region_beyond (B := wr.heap.size + 1) (W := wr.alloc (.cells #[.int .i64 x, .int .i64 y] 31)) (Below.refl _ _) (by kernel_rfl) (by kernel_rfl) ?_
            repeat (go_big_quiet_step ((go_at_call 58; exact calls_beyond_same (l1In_any _ _ _ _))))
            refine wpQuiet_nil ?_
            intro _ hw'
            obtain ⟨z, rfl⟩ := hw'
            have HZ := Lib.hid (((HB.out.alloc hsz (.cells #[.int .i64 x, .int .i64 y] 31)).trans (z.2.mono (by omega)) : Below w.heap.size w z.1))
            generalize z.1 = wz at HZ ⊢
            clear e0 e1 e2
            go_wp2
            go_ret
            exact ⟨retB (goodSmp_bad (k := j + 1) (by have := HL.out; omega) (smpAt_bad HX.out HV.out)).symm, HZ.out⟩
          · skip
            go_wp2_with fail
            refine wp_region_beyond (B := wr.heap.size + 1) (W := wr.alloc (.cells #[.int .i64 x, .int .i64 y] 31)) (Below.refl _ _) (by kernel_rfl) (by kernel_rfl) ?_
            repeat (go_big_quiet_step ((go_at_call 58; exact calls_beyond_same (l1In_any _ _ _ _))))
            refine wpQuiet_nil ?_
            intro _ hw'
            obtain ⟨z, rfl⟩ := hw'
            have HZ := Lib.hid (((HB.out.alloc hsz (.cells #[.int .i64 x, .int .i64 y] 31)).trans (z.2.mono (by omega)) : Below w.heap.size w z.1))
            generalize z.1 = wz at HZ ⊢
            clear e0 e1 e2
            go_wp2
            go_ret
            exact ⟨retB (goodSmp_bad (k := j + 1) (by have := HL.out; omega) (smpAt_bad HX.out HV.out)).symm, HZ.out⟩
    · have hk' : k = n := by omega
      subst hk'
      have e := goodSmp_all (l := l) (by rw [HL.out]; exact HK.out)
      rw [HL.out] at e
      go_wp2
      go_ret
      refine ⟨retB ?_, HB.out⟩
      rw [e]
      simp
      omega
end Go.Proofs.Ytbemnhdadafnnaa
