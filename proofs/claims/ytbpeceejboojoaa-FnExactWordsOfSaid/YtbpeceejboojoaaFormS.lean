/- GoodForm: the reference's walk. -/
import Derived.Test.YtbpeceejboojoaaPrtS
namespace Go.Proofs.Ytbpeceejboojoaa
set_option linter.unusedVariables false
set_option linter.unusedSimpArgs false
open Go.RowKit

/-- How often each place is named. -/
def cntL (l : List Prt) (n : Nat) : List Int := (List.range n).map fun j => (usesOf l j : Int)
theorem cntL_len (l : List Prt) (n : Nat) : (cntL l n).length = n := by simp [cntL]
theorem cntL_get {l : List Prt} {n j : Nat} (h : j < n) : (cntL l n)[j]? = some (usesOf l j : Int) := by simp [cntL, h]
theorem cntL_nil (n : Nat) : ints (cntL [] n) = List.replicate n (.int .i64 0) := by
  have e : cntL [] n = List.replicate n 0 := by
    apply List.ext_getElem?
    intro j
    by_cases h : j < n
    · rw [cntL_get h]; simp [usesOf, h]
    · rw [List.getElem?_eq_none (by rw [cntL_len]; omega), List.getElem?_eq_none (by simp; omega)]
  rw [e]; simp [ints]
theorem ints_set (zs : List Int) (k : Nat) (x : Int) : (ints zs).set k (.int .i64 x) = ints (zs.set k x) := by simp [ints, List.map_set]
/-- One more at a place. -/
def bump (zs : List Int) (j : Nat) : List Int := zs.set j (zs.getD j 0 + 1)
theorem bump_len (zs : List Int) (j : Nat) : (bump zs j).length = zs.length := by simp [bump]
theorem bump_get {zs : List Int} {j i : Nat} {x : Int} (hx : zs[i]? = some x) : (bump zs j)[i]? = some (if i = j then x + 1 else x) := by
  unfold bump
  have hi := (List.getElem?_eq_some_iff.1 hx).1
  rw [List.getElem?_set]
  by_cases h : j = i
  · subst h
    obtain ⟨_, rfl⟩ := List.getElem?_eq_some_iff.1 hx
    simp [hi, List.getD]
  · rw [if_neg h, if_neg (fun e => h e.symm), hx]
theorem cnt_no {l : List Prt} {k n : Nat} {p : Prt} (hp : l[k]? = some p) (hu : ∀ j, use1 p j = 0) : cntL (l.take (k + 1)) n = cntL (l.take k) n := by
  unfold cntL
  refine List.map_congr_left fun j _ => ?_
  rw [take_snoc' _ _ _ hp, usesOf_snoc, hu, Nat.add_zero]
theorem cnt_one {l : List Prt} {k n a : Nat} {p : Prt} (hp : l[k]? = some p) (hu : ∀ j, use1 p j = if j = a then 1 else 0) : cntL (l.take (k + 1)) n = bump (cntL (l.take k) n) a := by
  apply List.ext_getElem?
  intro j
  by_cases h : j < n
  · rw [cntL_get h, bump_get (cntL_get h), take_snoc' _ _ _ hp, usesOf_snoc, hu]
    split <;> simp
  · rw [List.getElem?_eq_none (by rw [cntL_len]; omega), List.getElem?_eq_none (by rw [bump_len, cntL_len]; omega)]
theorem cnt_two {l : List Prt} {k n a b : Nat} {p : Prt} (hp : l[k]? = some p) (hu : ∀ j, use1 p j = (if j = b then 1 else 0) + (if j = a then 1 else 0)) :
    cntL (l.take (k + 1)) n = bump (bump (cntL (l.take k) n) b) a := by
  apply List.ext_getElem?
  intro j
  by_cases h : j < n
  · rw [cntL_get h, bump_get (bump_get (cntL_get h)), take_snoc' _ _ _ hp, usesOf_snoc, hu]
    split <;> split <;> simp <;> omega
  · rw [List.getElem?_eq_none (by rw [cntL_len]; omega), List.getElem?_eq_none (by rw [bump_len, bump_len, cntL_len]; omega)]
theorem beqN (a j : Nat) : (((a : Nat) : Int) == (j : Int)) = decide (j = a) := by
  rw [Bool.eq_iff_iff]; simp; omega
theorem use_two {k : Int} {x : ByteArray} {a b : Nat} (h : twK k = true) (j : Nat) : use1 ⟨k, x, a, b⟩ j = (if j = b then 1 else 0) + (if j = a then 1 else 0) := by
  unfold use1
  simp only [h, Bool.true_and, Bool.true_or, beqN, decide_eq_true_eq]
theorem use_two' {k : Int} {x : ByteArray} {a b : Nat} (h : twK k = true) (j : Nat) : use1 ⟨k, x, a, b⟩ j = (if j = a then 1 else 0) + (if j = b then 1 else 0) := by
  rw [use_two h]; omega
theorem use_one {k : Int} {x : ByteArray} {a : Nat} {b : Int} (h : twK k = false) (h1 : onK k = true) (j : Nat) : use1 ⟨k, x, a, b⟩ j = if j = a then 1 else 0 := by
  unfold use1
  simp only [h, h1, Bool.false_and, Bool.false_or, Bool.true_and, beqN, decide_eq_true_eq, Bool.false_eq_true, if_false, Nat.zero_add]
theorem use_no {k : Int} {x : ByteArray} {a b : Int} (h : twK k = false) (h1 : onK k = false) (j : Nat) : use1 ⟨k, x, a, b⟩ j = 0 := by
  unfold use1
  simp [h, h1]
theorem prtAt_eq {l : List Prt} {k : Nat} {p : Prt} (h : l[k]? = some p) : prtAt l k = prtOk p k := by unfold prtAt; rw [List.getD, h]; rfl
theorem prt_bad {l : List Prt} {k : Nat} (hk : k < l.length) (h : prtAt l k = false) : goodPrt l = false := by unfold goodPrt; rw [allAt_f k hk h]; simp
theorem prt_cnt {l : List Prt} {j : Nat} (hj : j < l.length - 1) (h : ¬ usesOf l j = 1) : goodPrt l = false := by
  unfold goodPrt
  rw [allAt_f (ok := fun j => decide (usesOf l j = 1)) j hj (by simpa using h)]
  simp
theorem prt_all {l : List Prt} (h : ∀ k, k < l.length → prtAt l k = true) (h2 : ∀ j, j < l.length - 1 → usesOf l j = 1) : goodPrt l = inB l.length 1 24 := by
  unfold goodPrt
  rw [allAt_t h, allAt_t (ok := fun j => decide (usesOf l j = 1)) (fun j hj => by simpa using h2 j hj)]
  unfold inB
  rw [Bool.eq_iff_iff]
  simp
  omega
theorem prtFit_two {p : Prt} {k : Nat} (h : prtOk p k = true) (h2 : twK p.kind = true) : ∃ a b : Nat, p.a = a ∧ p.b = b ∧ a < k ∧ b < k := by
  have := shape_of h
  cases this with
  | seq a b ha hb => exact ⟨a, b, rfl, rfl, ha, hb⟩
  | alt a b ha hb => exact ⟨a, b, rfl, rfl, ha, hb⟩
  | _ => simp [twK] at h2
theorem prtFit_one {p : Prt} {k : Nat} (h : prtOk p k = true) (h1 : onK p.kind = true) : ∃ a : Nat, p.a = a ∧ a < k := by
  have := shape_of h
  cases this with
  | star a ha => exact ⟨a, rfl, ha⟩
  | not_ a ha => exact ⟨a, rfl, ha⟩
  | _ => simp [onK] at h1
theorem tw_on {k : Int} (h : twK k = true) : onK k = false := by
  unfold twK at h
  simp only [Bool.or_eq_true, beq_iff_eq] at h
  unfold onK
  simp
  omega
section
variable {w w' : World} {base T g n c : Nat} {zs : List Int}
/-- One more at a place of a row of the call's own. -/
theorem own_bump (h : w.ownsRow base T 1 (.slice (some ⟨g, 0, none⟩) n c) n (ints zs)) {j : Nat} (hj : j < n) :
    ∃ x : Int, zs[j]? = some x ∧ w.cell? ⟨g, j, none⟩ = some (.int .i64 x) ∧ w.frozen? ⟨g, j, none⟩ = false ∧ (w.setCell ⟨g, j, none⟩ (.int .i64 (x + 1))).ownsRow base T 1 (.slice (some ⟨g, 0, none⟩) n c) n (ints (bump zs j)) := by
  have hl : zs.length = n := by have := h.1; rw [ints_len] at this; omega
  have hx : zs[j]? = some zs[j] := List.getElem?_eq_getElem (by omega)
  refine ⟨zs[j], hx, ?_, h.frozenAt j, ?_⟩
  · rw [h.cellAt j (by omega)]; simp [ints, hx]
  · have := (h.stored j (.int .i64 (zs[j] + 1))).1
    rw [ints_set] at this
    unfold bump
    rw [show zs.getD j 0 = zs[j] by simp [List.getD, hx]]
    exact this
end
set_option maxRecDepth 100000 in
set_option maxHeartbeats 16000000 in
theorem sGoodForm_any (B : Nat) (A : Option Addr) (n c : Nat) (l : List Prt) (w : World) (hBw : B ≤ w.heap.size) (h : Rd w B 4 A n (prts l)) (hn : n ≤ 1048576) (hf : ∀ p ∈ l, p.text.size ≤ 1048576) :
    Calls Try.prog 20 #[.slice A n c] w fun e w' => e = .returned (.bool (goodPrt l)) ∧ Below w.heap.size w w' := by
  have HL := Lib.hid h.prt_len
  have HF := Lib.hid hf
  have H := Lib.hid h
  obtain ⟨i0, hi, hz0, hz1, hz2⟩ := info_parts infoInt
  clear h hf
  go_enter Try.func20, Try.ntmps20
  go_wp2_with (at_make; refine wpList_make_full _ rfl (.tmp 9) (.tmp 9) 34 rfl w.heap.size 3 i0 (.int .i64 0) 1 Try.underlying34 hi hz0 hz1 _ _ _ _ n rfl rfl rfl rfl (by rw [hz2]; omega) (by unfold maxLen; omega) (Nat.le_refl _) ?_; intro w1 hown hgrow)
  have hb1 : Below w.heap.size w w1 := (Below.refl _ _).grown hgrow (Nat.le_refl _) (by simp)
  have hown1 : w1.ownsRow w.heap.size 3 1 (.slice (some ⟨w.heap.size, 0, none⟩) n n) n (ints (cntL (l.take 0) n)) := by
    rw [List.take_zero, cntL_nil, ← toList_madeCells_one]
    simpa [Value.cells] using hown
  clear hown hgrow hi hz0 hz1 hz2
  have HB := Lib.hid hb1
  have HO := Lib.hid hown1
  clear hb1 hown1
  go_wp2
  go_loopw [13] (fun i wr => ∃ k : Nat, k ≤ n ∧ i = .int .i64 k ∧ (∀ j, j < k → prtAt l j = true) ∧ wr.ownsRow w.heap.size 3 1 (.slice (some ⟨w.heap.size, 0, none⟩) n n) n (ints (cntL (l.take k) n)) ∧ Below w.heap.size w wr ∧ w.heap.size < wr.heap.size) (fun i _ => n - (intOf i).toNat)
  case atStart => exact ⟨0, Nat.zero_le _, rfl, fun j hj => absurd hj (by omega), HO.out, HB.out, (HO.out.lt _ rfl).2⟩
  case round =>
    clear HO HB
    obtain ⟨k, hk, rfl, hok, ho, hb, hgl⟩ := hrel
    have HK := Lib.hid hok
    have HO := Lib.hid ho
    have HB := Lib.hid hb
    have hsz := hb.size
    clear hok ho hb
    by_cases hlt : k < n
    · obtain ⟨b0, off, kd, x, a, b, rfl, hbB, hx, hc0, hc1, hc2, hc3⟩ := H.out.prt_at hlt
      have hd0 : wr.cell? ⟨b0, off + k * 4, none⟩ = some (.int .i64 kd) := (bcell HB.out _ _ (by omega)).trans hc0
      have hd1 : wr.cell? ⟨b0, off + k * 4 + 1, none⟩ = some (.string x) := (bcell HB.out _ _ (by omega)).trans hc1
      have hd2 : wr.cell? ⟨b0, off + k * 4 + 2, none⟩ = some (.int .i64 a) := (bcell HB.out _ _ (by omega)).trans hc2
      have hd3 : wr.cell? ⟨b0, off + k * 4 + 3, none⟩ = some (.int .i64 b) := (bcell HB.out _ _ (by omega)).trans hc3
      have HX := Lib.hid hx
      have hxs : x.size ≤ 1048576 := HF.out _ (List.mem_of_getElem? hx)
      have CP := Lib.hid (fun w => l5Part_any kd x a b k w hxs (by omega))
      obtain ⟨v, hv⟩ : ∃ v, prtOk ⟨kd, x, a, b⟩ k = v := ⟨_, rfl⟩
      rw [hv] at CP
      have HV := Lib.hid hv
      clear hx hc0 hc1 hc2 hc3 hv hxs
      obtain ⟨wb, hwb⟩ : ∃ wb, wb = wr.alloc (.cells #[.int .i64 kd, .string x, .int .i64 a, .int .i64 b] 50) := ⟨_, rfl⟩
      have hbb : Below w.heap.size w wb := hwb ▸ HB.out.alloc hsz _
      have hob := hwb ▸ HO.out.alloc (.cells #[.int .i64 kd, .string x, .int .i64 a, .int .i64 b] 50)
      have hsb : wb.heap.size = wr.heap.size + 1 := by rw [hwb]; simp
      have hq0 : wb.cell? ⟨wr.heap.size, 0, none⟩ = some (.int .i64 kd) := by rw [hwb]; simp
      have hq1 : wb.cell? ⟨wr.heap.size, 1, none⟩ = some (.string x) := by rw [hwb]; simp
      have hq2 : wb.cell? ⟨wr.heap.size, 2, none⟩ = some (.int .i64 a) := by rw [hwb]; simp
      have hq3 : wb.cell? ⟨wr.heap.size, 3, none⟩ = some (.int .i64 b) := by rw [hwb]; simp
      have HWB := Lib.hid hwb
      have HBB := Lib.hid hbb
      have HOB := Lib.hid hob
      clear hwb hbb hob HB HO
      cases v with
      | false =>
        have HE := Lib.hid (prt_bad (l := l) (k := k) (by rw [HL.out]; exact hlt) ((prtAt_eq HX.out).trans HV.out))
        go_wp2_with fail
        rw [← HWB.out]
        refine (CP.out _).mono ?_
        rintro e w5 ⟨rfl, hb5⟩
        have HB5 := Lib.hid (HBB.out.trans (hb5.mono (by omega)))
        clear hb5 hq0 hq1 hq2 hq3
        go_wp2
        go_ret
        exact ⟨retB HE.out.symm, HB5.out⟩
      | true =>
        have HKK := Lib.hid (show ∀ j, j < k + 1 → prtAt l j = true from fun j hj => by
          rcases (show j < k ∨ j = k by omega) with h | rfl
          · exact HK.out j h
          · exact (prtAt_eq HX.out).trans HV.out)
        cases h2 : twK kd with
        | true =>
          obtain ⟨a', b', ha, hb, ha', hb'⟩ := prtFit_two HV.out h2
          simp only at ha hb
          subst ha; subst hb
          have HCN := Lib.hid (cnt_two (n := n) HX.out (use_two h2))
          have C2 := Lib.hid (fun w => l5Two_any kd w)
          rw [h2] at C2
          clear h2
          go_wp2_with fail
          rw [← HWB.out]
          refine (CP.out _).mono ?_
          rintro e w5 ⟨rfl, hb5⟩
          have HB5 := Lib.hid (HBB.out.trans (hb5.mono (by omega)))
          have hs5 := hb5.size
          have ho5 := own_below HOB.out hb5 (Nat.le_refl _)
          have r0 : w5.cell? ⟨wr.heap.size, 0, none⟩ = some (.int .i64 kd) := (bcell hb5 _ _ (by omega)).trans hq0
          have r2 : w5.cell? ⟨wr.heap.size, 2, none⟩ = some (.int .i64 a') := (bcell hb5 _ _ (by omega)).trans hq2
          have r3 : w5.cell? ⟨wr.heap.size, 3, none⟩ = some (.int .i64 b') := (bcell hb5 _ _ (by omega)).trans hq3
          clear hb5 hq0 hq1 hq2 hq3
          obtain ⟨y, hy, hcy, hfy, hoy⟩ := own_bump ho5 (show b' < n by omega)
          obtain ⟨z, hz, hcz, hfz, hoz⟩ := own_bump hoy (show a' < n by omega)
          have hne : w.heap.size ≠ wr.heap.size := by omega
          have hub : (y : Int) = (usesOf (l.take k) b' : Int) := by rw [cntL_get (by omega)] at hy; injection hy with hy; exact hy.symm
          have hyl : 0 ≤ y ∧ y ≤ 2097152 := by
            have := usesOf_le (l.take k) b'
            have h2 : (l.take k).length ≤ k := by rw [List.length_take]; omega
            omega
          have hza : z = y + 1 ∨ (0 ≤ z ∧ z ≤ 2097152) := by
            rw [bump_get (cntL_get (l := l.take k) (show a' < n by omega))] at hz
            injection hz with hz
            have := usesOf_le (l.take k) a'
            have h2 : (l.take k).length ≤ k := by rw [List.length_take]; omega
            split at hz
            · rename_i hab
              subst hab
              left; omega
            · right; omega
          have HOZ := Lib.hid hoz
          clear ho5 hoy hoz hy hz hub
          go_wp2_with (go_at_call 37; refine (C2.out _).mono ?_; rintro e w' ⟨rfl, rfl⟩)
          go_roundw
          case rel => exact ⟨k + 1, by omega, by go_num, HKK.out, by rw [HCN.out]; exact HOZ.out, (HB5.out.setCell (Nat.le_refl _) _).setCell (Nat.le_refl _) _, by simp; omega⟩
          case measure => simp [intOf]; omega
        | false =>
          have C2 := Lib.hid (fun w => l5Two_any kd w)
          rw [h2] at C2
          cases h1 : onK kd with
          | true =>
            obtain ⟨a', ha, ha'⟩ := prtFit_one HV.out h1
            simp only at ha
            subst ha
            have HCN := Lib.hid (cnt_one (n := n) HX.out (use_one h2 h1))
            have C1 := Lib.hid (fun w => l5One_any kd w)
            rw [h1] at C1
            clear h2 h1
            go_wp2_with fail
            rw [← HWB.out]
            refine (CP.out _).mono ?_
            rintro e w5 ⟨rfl, hb5⟩
            have HB5 := Lib.hid (HBB.out.trans (hb5.mono (by omega)))
            have hs5 := hb5.size
            have ho5 := own_below HOB.out hb5 (Nat.le_refl _)
            have r0 : w5.cell? ⟨wr.heap.size, 0, none⟩ = some (.int .i64 kd) := (bcell hb5 _ _ (by omega)).trans hq0
            have r2 : w5.cell? ⟨wr.heap.size, 2, none⟩ = some (.int .i64 a') := (bcell hb5 _ _ (by omega)).trans hq2
            clear hb5 hq0 hq1 hq2 hq3
            obtain ⟨z, hz, hcz, hfz, hoz⟩ := own_bump ho5 (show a' < n by omega)
            have hne : w.heap.size ≠ wr.heap.size := by omega
            have hza : 0 ≤ z ∧ z ≤ 2097152 := by
              rw [cntL_get (by omega)] at hz
              injection hz with hz
              have := usesOf_le (l.take k) a'
              have h2 : (l.take k).length ≤ k := by rw [List.length_take]; omega
              omega
            have HOZ := Lib.hid hoz
            clear ho5 hoz hz
            go_wp2_with (first | (go_at_call 37; refine (C2.out _).mono ?_; rintro e w' ⟨rfl, rfl⟩) | (go_at_call 38; refine (C1.out _).mono ?_; rintro e w' ⟨rfl, rfl⟩))
            go_roundw
            case rel => exact ⟨k + 1, by omega, by go_num, HKK.out, by rw [HCN.out]; exact HOZ.out, HB5.out.setCell (Nat.le_refl _) _, by simp; omega⟩
            case measure => simp [intOf]; omega
          | false =>
            have HCN := Lib.hid (cnt_no (n := n) HX.out (use_no h2 h1))
            have C1 := Lib.hid (fun w => l5One_any kd w)
            rw [h1] at C1
            clear h2 h1
            go_wp2_with fail
            rw [← HWB.out]
            refine (CP.out _).mono ?_
            rintro e w5 ⟨rfl, hb5⟩
            have HB5 := Lib.hid (HBB.out.trans (hb5.mono (by omega)))
            have hs5 := hb5.size
            have HO5 := Lib.hid (own_below HOB.out hb5 (Nat.le_refl _))
            have r0 : w5.cell? ⟨wr.heap.size, 0, none⟩ = some (.int .i64 kd) := (bcell hb5 _ _ (by omega)).trans hq0
            clear hb5 hq0 hq1 hq2 hq3
            go_wp2_with (first | (go_at_call 37; refine (C2.out _).mono ?_; rintro e w' ⟨rfl, rfl⟩) | (go_at_call 38; refine (C1.out _).mono ?_; rintro e w' ⟨rfl, rfl⟩))
            go_roundw
            case rel => exact ⟨k + 1, by omega, by go_num, HKK.out, by rw [HCN.out]; exact HO5.out, HB5.out, by omega⟩
            case measure => simp [intOf]; omega
    · have hk' : k = n := by omega
      subst hk'
      have ht : l.take k = l := List.take_of_length_le (by rw [HL.out]; exact Nat.le_refl _)
      have ho := HO.out
      rw [ht] at ho
      have HO2 := Lib.hid ho
      clear ho ht HO
      obtain ⟨wo, rfl⟩ : ∃ wo : World, wo = wr := ⟨_, rfl⟩
      go_wp2
      go_loop [50] (fun i => ∃ j : Nat, j ≤ k ∧ i = .int .i64 j ∧ ∀ q, q < j → q < k - 1 → usesOf l q = 1) (fun i => k - (intOf i).toNat)
      case atStart => exact ⟨0, Nat.zero_le _, rfl, fun q hq => absurd hq (by omega)⟩
      case round =>
        obtain ⟨j, hj, rfl, hu⟩ := hrel
        have HU := Lib.hid hu
        clear hu
        by_cases hlj : j < k
        · have hcz : wo.cell? ⟨w.heap.size, j, none⟩ = some (.int .i64 (usesOf l j : Nat)) := by
            rw [HO2.out.cellAt j (by omega)]
            have := cntL_get (l := l) hlj
            simp [ints, this]
          obtain ⟨u, huu⟩ : ∃ u : Int, u = (usesOf l j : Nat) := ⟨_, rfl⟩
          rw [← huu] at hcz
          have HUU := Lib.hid huu
          clear huu
          by_cases hlast : j < k - 1
          · have hl1 : (j : Int) < (k : Int) - 1 := by omega
            by_cases hu1 : u = 1
            · subst hu1
              go_wp2
              go_round
              case rel => exact ⟨j + 1, by omega, by go_num, fun q hq hq2 => by
                                  rcases (show q < j ∨ q = j by omega) with h | rfl
                                  · exact HU.out q h hq2
                                  · have := HUU.out; omega⟩
              case measure => simp [intOf]; omega
            · have HE := Lib.hid (prt_cnt (l := l) (j := j) (by rw [HL.out]; exact hlast) (by have := HUU.out; omega))
              go_wp2
              go_ret
              exact ⟨retB HE.out.symm, HB.out⟩
          · have hl1 : ¬ (j : Int) < (k : Int) - 1 := by omega
            go_wp2
            go_round
            case rel => exact ⟨j + 1, by omega, by go_num, fun q hq hq2 => HU.out q (by omega) hq2⟩
            case measure => simp [intOf]; omega
        · have HE := Lib.hid (prt_all (l := l) (by rw [HL.out]; exact HK.out) (fun q hq => HU.out q (by have := HL.out; omega) (by have := HL.out; omega)))
          go_wp2_with fail
          refine (l1In_any _ _ _ _).mono ?_
          rintro e w' ⟨rfl, rfl⟩
          go_wp2
          go_ret
          exact ⟨retB (by rw [HE.out, HL.out]), HB.out⟩
end Go.Proofs.Ytbpeceejboojoaa
