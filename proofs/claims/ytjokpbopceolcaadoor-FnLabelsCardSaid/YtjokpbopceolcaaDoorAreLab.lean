/- The tests on lists of labels of the reference and of the program. Written by a program of mine (mkarelab.py). -/
import Derived.Test.YtjokpbopceolcaaDoorGoodLab
namespace Go.Proofs.YtjokpbopceolcaaDoor
set_option linter.unusedVariables false
set_option linter.unusedSimpArgs false
open Go.RowKit

def lblFit (l : List Lab) : Prop := ∀ p ∈ l, p.1.size ≤ 1048576 ∧ p.2.size ≤ 1048576
theorem sum_mem_le : ∀ (l : List Nat) (x : Nat), x ∈ l → x ≤ l.sum
  | [], x, h => by simp at h
  | y :: l, x, h => by
    rw [List.sum_cons]
    rcases List.mem_cons.1 h with e | e
    · omega
    · have := sum_mem_le l x e; omega
theorem lblFit_of {l : List Lab} (h : lblSz l ≤ 1048576) : lblFit l := fun p hp => by
  have h1 := sum_mem_le (l.map lblSz1) (lblSz1 p) (List.mem_map_of_mem hp)
  unfold lblSz at h
  have h2 : lblSz1 p = p.1.size + p.2.size := rfl
  omega

set_option maxRecDepth 100000 in
set_option maxHeartbeats 8000000 in
theorem sGoodLabels_any (B : Nat) (A : Option Addr) (n c : Nat) (l : List Lab) (w : World) (hBw : B ≤ w.heap.size) (h : Rd w B 2 A n (lbls l)) (hn : n ≤ 1048576) (hf : lblFit l) :
    Calls Tryd.prog 30 #[.slice A n c] w fun e w' => e = .returned (.bool (goodLab l)) ∧ Below w.heap.size w w' := by
  have hlen := h.lab_len
  have HL := Lib.hid hlen
  have H := Lib.hid h
  have HF := Lib.hid hf
  clear h hlen hf
  go_enter Tryd.func30, Tryd.ntmps30
  go_wp2
  go_loopw [7] (fun i wr => ∃ k : Nat, k ≤ n ∧ i = .int .i64 k ∧ (∀ j, j < k → labAt l j = true) ∧ Below w.heap.size w wr) (fun i _ => n - (intOf i).toNat)
  case atStart => exact ⟨0, Nat.zero_le _, rfl, fun j hj => absurd hj (by omega), Below.refl _ _⟩
  case round =>
    obtain ⟨k, hk, rfl, hok, hb⟩ := hrel
    have HK := Lib.hid hok
    have HB := Lib.hid hb
    have hsz := hb.size
    clear hok hb
    by_cases hlt : k < n
    · obtain ⟨b, off, x, y, rfl, hbB, hx, hc0, hc1⟩ := H.out.lab_at hlt
      have hc0' : wr.cell? ⟨b, off + k * 2, none⟩ = some (.string x) := (bcell HB.out _ _ (by omega)).trans hc0
      have hc1' : wr.cell? ⟨b, off + k * 2 + 1, none⟩ = some (.string y) := (bcell HB.out _ _ (by omega)).trans hc1
      obtain ⟨hsx, hsy⟩ := HF.out _ (List.mem_of_getElem? hx)
      simp only at hsx hsy
      have HX := Lib.hid hx
      obtain ⟨v, hv⟩ : ∃ v, labOk (x, y) = v := ⟨_, rfl⟩
      have HV := Lib.hid hv
      clear hv
      have HVt := Lib.hid (fun (e : v = true) => labOk_t (HV.out.trans e))
      have HVf := Lib.hid (fun (e : v = false) => labOk_f (HV.out.trans e))
      clear hx hc0 hc1
      rcases k with _ | j
      · simp only [Nat.zero_mul, Nat.add_zero] at hc0' hc1'
        have e0 := beyond_cell (B := wr.heap.size + 1) (W := wr.alloc (.cells #[.string x, .string y] 48)) (b := wr.heap.size) (off := 0) (v := .string x) (by simp) (by omega)
        have e1 := beyond_cell (B := wr.heap.size + 1) (W := wr.alloc (.cells #[.string x, .string y] 48)) (b := wr.heap.size) (off := 1) (v := .string y) (by simp) (by omega)
        cases v with
        | true =>
          obtain ⟨hbx, hby⟩ := HVt.out rfl
          go_wp2_with fail
          refine wp_region_beyond (B := wr.heap.size + 1) (W := wr.alloc (.cells #[.string x, .string y] 48)) (Below.refl _ _) (by kernel_rfl) (by kernel_rfl) ?_
          repeat (go_big_quiet_step ((go_at_call 51; exact calls_beyond_same (l3Name_any _ _ _ (by assumption)))))
          refine wpQuiet_nil ?_
          intro _ hw'
          obtain ⟨z, rfl⟩ := hw'
          have HZ := Lib.hid (((HB.out.alloc hsz (.cells #[.string x, .string y] 48)).trans (z.2.mono (by omega)) : Below w.heap.size w z.1))
          generalize z.1 = wz at HZ ⊢
          clear e0 e1
          go_wp2
          go_roundw
          case rel => exact ⟨1, by omega, rfl, fun i hi => by obtain rfl : i = 0 := by omega
                                                              exact (labAt_zero HX.out).trans HV.out, HZ.out⟩
          case measure => simp [intOf]; omega
        | false =>
          rcases HVf.out rfl with hbx | ⟨hbx, hby⟩
          · skip
            go_wp2_with fail
            refine wp_region_beyond (B := wr.heap.size + 1) (W := wr.alloc (.cells #[.string x, .string y] 48)) (Below.refl _ _) (by kernel_rfl) (by kernel_rfl) ?_
            repeat (go_big_quiet_step ((go_at_call 51; exact calls_beyond_same (l3Name_any _ _ _ (by assumption)))))
            refine wpQuiet_nil ?_
            intro _ hw'
            obtain ⟨z, rfl⟩ := hw'
            have HZ := Lib.hid (((HB.out.alloc hsz (.cells #[.string x, .string y] 48)).trans (z.2.mono (by omega)) : Below w.heap.size w z.1))
            generalize z.1 = wz at HZ ⊢
            clear e0 e1
            go_wp2
            go_ret
            exact ⟨retB (goodLab_bad (k := 0) (by have := HL.out; omega) (labAt_bad HX.out HV.out)).symm, HZ.out⟩
          · skip
            go_wp2_with fail
            refine wp_region_beyond (B := wr.heap.size + 1) (W := wr.alloc (.cells #[.string x, .string y] 48)) (Below.refl _ _) (by kernel_rfl) (by kernel_rfl) ?_
            repeat (go_big_quiet_step ((go_at_call 51; exact calls_beyond_same (l3Name_any _ _ _ (by assumption)))))
            refine wpQuiet_nil ?_
            intro _ hw'
            obtain ⟨z, rfl⟩ := hw'
            have HZ := Lib.hid (((HB.out.alloc hsz (.cells #[.string x, .string y] 48)).trans (z.2.mono (by omega)) : Below w.heap.size w z.1))
            generalize z.1 = wz at HZ ⊢
            clear e0 e1
            go_wp2
            go_ret
            exact ⟨retB (goodLab_bad (k := 0) (by have := HL.out; omega) (labAt_bad HX.out HV.out)).symm, HZ.out⟩
      · obtain ⟨b', off', p, q, he, hbB', hp, hcp0, hcp1⟩ := H.out.lab_at (k := j) (by omega)
        obtain ⟨rfl, rfl⟩ : b = b' ∧ off = off' := by simpa using he
        have HP := Lib.hid hp
        have e0 := beyond_cell (B := wr.heap.size + 1) (W := wr.alloc (.cells #[.string x, .string y] 48)) (b := wr.heap.size) (off := 0) (v := .string x) (by simp) (by omega)
        have e1 := beyond_cell (B := wr.heap.size + 1) (W := wr.alloc (.cells #[.string x, .string y] 48)) (b := wr.heap.size) (off := 1) (v := .string y) (by simp) (by omega)
        have e2 := beyond_cell (B := wr.heap.size + 1) (W := wr.alloc (.cells #[.string x, .string y] 48)) (b := b) (off := off + j * 2) (v := .string p) ((World.cell?_alloc_lt _ _ _ (by simp; omega)).trans ((bcell HB.out _ _ (by omega)).trans hcp0)) (by omega)
        clear hp he hcp0 hcp1
        cases v with
        | true =>
          obtain ⟨hbx, hby⟩ := HVt.out rfl
          cases hd : Op.bytesLess p.toList x.toList with
          | true =>
            go_wp2_with fail
            refine wp_region_beyond (B := wr.heap.size + 1) (W := wr.alloc (.cells #[.string x, .string y] 48)) (Below.refl _ _) (by kernel_rfl) (by kernel_rfl) ?_
            repeat (go_big_quiet_step ((go_at_call 51; exact calls_beyond_same (l3Name_any _ _ _ (by assumption)))))
            refine wpQuiet_nil ?_
            intro _ hw'
            obtain ⟨z, rfl⟩ := hw'
            have HZ := Lib.hid (((HB.out.alloc hsz (.cells #[.string x, .string y] 48)).trans (z.2.mono (by omega)) : Below w.heap.size w z.1))
            generalize z.1 = wz at HZ ⊢
            clear e0 e1 e2
            go_wp2
            go_roundw
            case rel => exact ⟨j + 1 + 1, by omega, by go_num, fun i hi => by
                                by_cases h : i < j + 1
                                · exact HK.out i h
                                · obtain rfl : i = j + 1 := by omega
                                  rw [labAt_succ HP.out HX.out, HV.out]; exact hd, HZ.out⟩
            case measure => simp [intOf]; omega
          | false =>
            go_wp2_with fail
            refine wp_region_beyond (B := wr.heap.size + 1) (W := wr.alloc (.cells #[.string x, .string y] 48)) (Below.refl _ _) (by kernel_rfl) (by kernel_rfl) ?_
            repeat (go_big_quiet_step ((go_at_call 51; exact calls_beyond_same (l3Name_any _ _ _ (by assumption)))))
            refine wpQuiet_nil ?_
            intro _ hw'
            obtain ⟨z, rfl⟩ := hw'
            have HZ := Lib.hid (((HB.out.alloc hsz (.cells #[.string x, .string y] 48)).trans (z.2.mono (by omega)) : Below w.heap.size w z.1))
            generalize z.1 = wz at HZ ⊢
            clear e0 e1 e2
            go_wp2
            go_ret
            exact ⟨retB (goodLab_bad (k := j + 1) (by have := HL.out; omega) (by rw [labAt_succ HP.out HX.out, HV.out]; exact hd)).symm, HZ.out⟩
        | false =>
          rcases HVf.out rfl with hbx | ⟨hbx, hby⟩
          · skip
            go_wp2_with fail
            refine wp_region_beyond (B := wr.heap.size + 1) (W := wr.alloc (.cells #[.string x, .string y] 48)) (Below.refl _ _) (by kernel_rfl) (by kernel_rfl) ?_
            repeat (go_big_quiet_step ((go_at_call 51; exact calls_beyond_same (l3Name_any _ _ _ (by assumption)))))
            refine wpQuiet_nil ?_
            intro _ hw'
            obtain ⟨z, rfl⟩ := hw'
            have HZ := Lib.hid (((HB.out.alloc hsz (.cells #[.string x, .string y] 48)).trans (z.2.mono (by omega)) : Below w.heap.size w z.1))
            generalize z.1 = wz at HZ ⊢
            clear e0 e1 e2
            go_wp2
            go_ret
            exact ⟨retB (goodLab_bad (k := j + 1) (by have := HL.out; omega) (labAt_bad HX.out HV.out)).symm, HZ.out⟩
          · skip
            go_wp2_with fail
            refine wp_region_beyond (B := wr.heap.size + 1) (W := wr.alloc (.cells #[.string x, .string y] 48)) (Below.refl _ _) (by kernel_rfl) (by kernel_rfl) ?_
            repeat (go_big_quiet_step ((go_at_call 51; exact calls_beyond_same (l3Name_any _ _ _ (by assumption)))))
            refine wpQuiet_nil ?_
            intro _ hw'
            obtain ⟨z, rfl⟩ := hw'
            have HZ := Lib.hid (((HB.out.alloc hsz (.cells #[.string x, .string y] 48)).trans (z.2.mono (by omega)) : Below w.heap.size w z.1))
            generalize z.1 = wz at HZ ⊢
            clear e0 e1 e2
            go_wp2
            go_ret
            exact ⟨retB (goodLab_bad (k := j + 1) (by have := HL.out; omega) (labAt_bad HX.out HV.out)).symm, HZ.out⟩
    · have hk' : k = n := by omega
      subst hk'
      have e := goodLab_all (l := l) (by rw [HL.out]; exact HK.out)
      rw [HL.out] at e
      go_wp2
      go_ret
      refine ⟨retB ?_, HB.out⟩
      rw [e]
      simp
      omega

set_option maxRecDepth 100000 in
set_option maxHeartbeats 8000000 in
theorem areLabels_any (B : Nat) (A : Option Addr) (n c : Nat) (l : List Lab) (w : World) (hBw : B ≤ w.heap.size) (h : Rd w B 2 A n (lbls l)) (hn : n ≤ 1048576) (hf : lblFit l) :
    Calls Tryd.prog 42 #[.slice A n c] w fun e w' => e = .returned (.bool (goodLab l)) ∧ Below w.heap.size w w' := by
  have hlen := h.lab_len
  have HL := Lib.hid hlen
  have H := Lib.hid h
  have HF := Lib.hid hf
  clear h hlen hf
  go_enter Tryd.func42, Tryd.ntmps42
  go_wp2
  go_loopw [7] (fun i wr => ∃ k : Nat, k ≤ n ∧ i = .int .i64 k ∧ (∀ j, j < k → labAt l j = true) ∧ Below w.heap.size w wr) (fun i _ => n - (intOf i).toNat)
  case atStart => exact ⟨0, Nat.zero_le _, rfl, fun j hj => absurd hj (by omega), Below.refl _ _⟩
  case round =>
    obtain ⟨k, hk, rfl, hok, hb⟩ := hrel
    have HK := Lib.hid hok
    have HB := Lib.hid hb
    have hsz := hb.size
    clear hok hb
    by_cases hlt : k < n
    · obtain ⟨b, off, x, y, rfl, hbB, hx, hc0, hc1⟩ := H.out.lab_at hlt
      have hc0' : wr.cell? ⟨b, off + k * 2, none⟩ = some (.string x) := (bcell HB.out _ _ (by omega)).trans hc0
      have hc1' : wr.cell? ⟨b, off + k * 2 + 1, none⟩ = some (.string y) := (bcell HB.out _ _ (by omega)).trans hc1
      obtain ⟨hsx, hsy⟩ := HF.out _ (List.mem_of_getElem? hx)
      simp only at hsx hsy
      have HX := Lib.hid hx
      obtain ⟨v, hv⟩ : ∃ v, labOk (x, y) = v := ⟨_, rfl⟩
      have HV := Lib.hid hv
      clear hv
      have HVt := Lib.hid (fun (e : v = true) => labOk_t (HV.out.trans e))
      have HVf := Lib.hid (fun (e : v = false) => labOk_f (HV.out.trans e))
      clear hx hc0 hc1
      have HL1 := Lib.hid (fun w => HV.out ▸ isLabel_any x y w hsx hsy : ∀ w, Calls Tryd.prog 73 #[.agg #[.string x, .string y]] w fun e w' => e = .returned (.bool v) ∧ Below w.heap.size w w')
      rcases k with _ | j
      · simp only [Nat.zero_mul, Nat.add_zero] at hc0' hc1'
        have e0 := beyond_cell (B := wr.heap.size + 1) (W := wr.alloc (.cells #[.string x, .string y] 48)) (b := wr.heap.size) (off := 0) (v := .string x) (by simp) (by omega)
        have e1 := beyond_cell (B := wr.heap.size + 1) (W := wr.alloc (.cells #[.string x, .string y] 48)) (b := wr.heap.size) (off := 1) (v := .string y) (by simp) (by omega)
        cases v with
        | true =>
          obtain ⟨hbx, hby⟩ := HVt.out rfl
          go_wp2_with fail
          refine wp_region_beyond (B := wr.heap.size + 1) (W := wr.alloc (.cells #[.string x, .string y] 48)) (Below.refl _ _) (by kernel_rfl) (by kernel_rfl) ?_
          repeat (go_big_quiet_step ((go_at_call 73; exact calls_beyond (by simp) (HL1.out _))))
          refine wpQuiet_nil ?_
          intro _ hw'
          obtain ⟨z, rfl⟩ := hw'
          have HZ := Lib.hid (((HB.out.alloc hsz (.cells #[.string x, .string y] 48)).trans (z.2.mono (by omega)) : Below w.heap.size w z.1))
          generalize z.1 = wz at HZ ⊢
          clear e0 e1
          go_wp2
          go_roundw
          case rel => exact ⟨1, by omega, rfl, fun i hi => by obtain rfl : i = 0 := by omega
                                                              exact (labAt_zero HX.out).trans HV.out, HZ.out⟩
          case measure => simp [intOf]; omega
        | false =>
          go_wp2_with fail
          refine wp_region_beyond (B := wr.heap.size + 1) (W := wr.alloc (.cells #[.string x, .string y] 48)) (Below.refl _ _) (by kernel_rfl) (by kernel_rfl) ?_
          repeat (go_big_quiet_step ((go_at_call 73; exact calls_beyond (by simp) (HL1.out _))))
          refine wpQuiet_nil ?_
          intro _ hw'
          obtain ⟨z, rfl⟩ := hw'
          have HZ := Lib.hid (((HB.out.alloc hsz (.cells #[.string x, .string y] 48)).trans (z.2.mono (by omega)) : Below w.heap.size w z.1))
          generalize z.1 = wz at HZ ⊢
          clear e0 e1
          go_wp2
          go_ret
          exact ⟨retB (goodLab_bad (k := 0) (by have := HL.out; omega) (labAt_bad HX.out HV.out)).symm, HZ.out⟩
      · obtain ⟨b', off', p, q, he, hbB', hp, hcp0, hcp1⟩ := H.out.lab_at (k := j) (by omega)
        obtain ⟨rfl, rfl⟩ : b = b' ∧ off = off' := by simpa using he
        have HP := Lib.hid hp
        have e0 := beyond_cell (B := wr.heap.size + 1) (W := wr.alloc (.cells #[.string x, .string y] 48)) (b := wr.heap.size) (off := 0) (v := .string x) (by simp) (by omega)
        have e1 := beyond_cell (B := wr.heap.size + 1) (W := wr.alloc (.cells #[.string x, .string y] 48)) (b := wr.heap.size) (off := 1) (v := .string y) (by simp) (by omega)
        have e2 := beyond_cell (B := wr.heap.size + 1) (W := wr.alloc (.cells #[.string x, .string y] 48)) (b := b) (off := off + j * 2) (v := .string p) ((World.cell?_alloc_lt _ _ _ (by simp; omega)).trans ((bcell HB.out _ _ (by omega)).trans hcp0)) (by omega)
        clear hp he hcp0 hcp1
        cases v with
        | true =>
          obtain ⟨hbx, hby⟩ := HVt.out rfl
          cases hd : Op.bytesLess p.toList x.toList with
          | true =>
            go_wp2_with fail
            refine wp_region_beyond (B := wr.heap.size + 1) (W := wr.alloc (.cells #[.string x, .string y] 48)) (Below.refl _ _) (by kernel_rfl) (by kernel_rfl) ?_
            repeat (go_big_quiet_step ((go_at_call 73; exact calls_beyond (by simp) (HL1.out _))))
            refine wpQuiet_nil ?_
            intro _ hw'
            obtain ⟨z, rfl⟩ := hw'
            have HZ := Lib.hid (((HB.out.alloc hsz (.cells #[.string x, .string y] 48)).trans (z.2.mono (by omega)) : Below w.heap.size w z.1))
            generalize z.1 = wz at HZ ⊢
            clear e0 e1 e2
            go_wp2
            go_roundw
            case rel => exact ⟨j + 1 + 1, by omega, by go_num, fun i hi => by
                                by_cases h : i < j + 1
                                · exact HK.out i h
                                · obtain rfl : i = j + 1 := by omega
                                  rw [labAt_succ HP.out HX.out, HV.out]; exact hd, HZ.out⟩
            case measure => simp [intOf]; omega
          | false =>
            go_wp2_with fail
            refine wp_region_beyond (B := wr.heap.size + 1) (W := wr.alloc (.cells #[.string x, .string y] 48)) (Below.refl _ _) (by kernel_rfl) (by kernel_rfl) ?_
            repeat (go_big_quiet_step ((go_at_call 73; exact calls_beyond (by simp) (HL1.out _))))
            refine wpQuiet_nil ?_
            intro _ hw'
            obtain ⟨z, rfl⟩ := hw'
            have HZ := Lib.hid (((HB.out.alloc hsz (.cells #[.string x, .string y] 48)).trans (z.2.mono (by omega)) : Below w.heap.size w z.1))
            generalize z.1 = wz at HZ ⊢
            clear e0 e1 e2
            go_wp2
            go_ret
            exact ⟨retB (goodLab_bad (k := j + 1) (by have := HL.out; omega) (by rw [labAt_succ HP.out HX.out, HV.out]; exact hd)).symm, HZ.out⟩
        | false =>
          go_wp2_with fail
          refine wp_region_beyond (B := wr.heap.size + 1) (W := wr.alloc (.cells #[.string x, .string y] 48)) (Below.refl _ _) (by kernel_rfl) (by kernel_rfl) ?_
          repeat (go_big_quiet_step ((go_at_call 73; exact calls_beyond (by simp) (HL1.out _))))
          refine wpQuiet_nil ?_
          intro _ hw'
          obtain ⟨z, rfl⟩ := hw'
          have HZ := Lib.hid (((HB.out.alloc hsz (.cells #[.string x, .string y] 48)).trans (z.2.mono (by omega)) : Below w.heap.size w z.1))
          generalize z.1 = wz at HZ ⊢
          clear e0 e1 e2
          go_wp2
          go_ret
          exact ⟨retB (goodLab_bad (k := j + 1) (by have := HL.out; omega) (labAt_bad HX.out HV.out)).symm, HZ.out⟩
    · have hk' : k = n := by omega
      subst hk'
      have e := goodLab_all (l := l) (by rw [HL.out]; exact HK.out)
      rw [HL.out] at e
      go_wp2
      go_ret
      refine ⟨retB ?_, HB.out⟩
      rw [e]
      simp
      omega

set_option maxHeartbeats 1000000 in
theorem iGoodLabels_any (B : Nat) (A : Option Addr) (n c : Nat) (l : List Lab) (w : World) (hBw : B ≤ w.heap.size) (h : Rd w B 2 A n (lbls l)) (hn : n ≤ 1048576) (hf : lblFit l) :
    Calls Tryd.prog 19 #[.slice A n c] w fun e w' => e = .returned (.bool (goodLab l)) ∧ Below w.heap.size w w' := by
  have HS := Lib.hid (areLabels_any B A n c l w hBw h hn hf)
  clear h
  go_enter Tryd.func19, Tryd.ntmps19
  go_wp2_with fail
  refine HS.out.mono ?_
  rintro e w1 ⟨rfl, hb⟩
  have HB := Lib.hid hb
  clear hb
  go_wp2
  go_ret
  exact ⟨rfl, HB.out⟩
end Go.Proofs.YtjokpbopceolcaaDoor
