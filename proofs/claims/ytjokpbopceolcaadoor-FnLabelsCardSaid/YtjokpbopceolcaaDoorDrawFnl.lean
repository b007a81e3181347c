/- The generators of the law on labels, the comparing of labels, and the plain facts. -/
import Derived.Test.YtjokpbopceolcaaDoorDrawLab
import Derived.Test.YtjokpbopceolcaaDoorRdlLaw
import Derived.Test.YtjokpbopceolcaaDoorMergeLaw
import Derived.Test.YtjokpbopceolcaaDoorHash
namespace Go.Proofs.YtjokpbopceolcaaDoor
set_option linter.unusedVariables false
set_option linter.unusedSimpArgs false
open Go.RowKit

/-- Drawn labels as a reading. -/
def LabRd (w : World) (A : Option Addr) (k c : Nat) (l : List Lab) : Prop := Rd w w.heap.size 2 A k (lbls l) ∧ k ≤ 7 ∧ k ≤ c ∧ lblFit l
theorem LabRd.below {w w' : World} {A : Option Addr} {k c : Nat} {l : List Lab} (h : LabRd w A k c l) (hb : Below w.heap.size w w') : LabRd w' A k c l := ⟨(h.1.below hb).more hb.size, h.2⟩
theorem LabRd.of {base : Nat} {w : World} {A : Option Addr} {k c : Nat} {l : List Lab} (h : w.ownsRow base 48 2 (.slice A k c) k (lbls l)) (hk : k ≤ 7) (hs : smallLab l) : LabRd w A k c l := by
  refine ⟨Rd.of_own h, hk, ?_, fun p hp => by have := hs p hp; omega⟩
  by_cases h0 : 0 < k
  · obtain ⟨g, cap, hv, _, _, hnc, _⟩ := own_form h h0
    injection hv with _ _ e
    omega
  · omega
def LabDV (w : World) (v : Value) : Prop := ∃ A k c l, v = .slice A k c ∧ LabRd w A k c l
def LabD2 (w : World) (v : Value) : Prop := ∃ A k c l A' k' c' l', v = .tuple #[.slice A k c, .slice A' k' c'] ∧ LabRd w A k c l ∧ LabRd w A' k' c' l'
theorem txtR_size (l : List Lab) : (txtR l).size ≤ 110 := by
  unfold txtR
  split
  · rename_i h
    have h1 := labJ_len18 (good_mem h)
    have h2 := goodLab_len h
    have h3 : (labTxt l).data.toList.length = (labTxt l).size := by simp
    rw [labTxt_data, List.length_cons, List.length_append] at h3
    simp at h3
    omega
  · exact Nat.zero_le _
set_option maxRecDepth 100000 in
set_option maxHeartbeats 2000000 in
theorem DrawGoodLabels_any (A : Option Addr) (n c : Nat) (l : List UInt8) (w : World) (h : Rd w w.heap.size 1 A n (bys l)) (hn : n ≤ 1048576) : Calls Tryd.prog 41 #[.slice A n c] w (DrawnP w LabDV) := by
  have HH := Lib.hid (fun t => cur_newP (c := c) (t := t) h hn)
  clear h
  go_enter Tryd.func41, Tryd.ntmps41
  go_wp2_with fail
  refine (labels_any ⟨w.heap.size, w.heap.size, n, c, A, l⟩ 0 _ (HH.out _) (by omega)).mono ?_
  rintro e w2 ⟨_, rfl, ⟨A2, c2, k2, l2, rfl, hk2, ho2, hsm2⟩, hcu, hch⟩
  have HB := Lib.hid (new_belowP hch)
  have HQ2 := Lib.hid (LabRd.of ho2 hk2 hsm2)
  clear ho2 hsm2 hcu hch
  go_wp2
  go_ret
  exact ⟨_, rfl, ⟨A2, k2, c2, l2, rfl, HQ2.out⟩, HB.out⟩
set_option maxHeartbeats 2000000 in
theorem DrawLabelsText_any (A : Option Addr) (n c : Nat) (l : List UInt8) (w : World) (h : Rd w w.heap.size 1 A n (bys l)) (hn : n ≤ 1048576) : Calls Tryd.prog 16 #[.slice A n c] w (DrawnP w LabDV) := by
  have HH := Lib.hid (DrawGoodLabels_any A n c l w h hn)
  clear h
  go_enter Tryd.func16, Tryd.ntmps16
  go_wp2_with fail
  refine HH.out.mono ?_
  rintro e w1 ⟨v, rfl, hp, hb⟩
  have HP := Lib.hid hp
  have HB := Lib.hid hb
  clear hp hb
  go_wp2
  go_ret
  exact ⟨v, rfl, HP.out, HB.out⟩
set_option maxRecDepth 100000 in
set_option maxHeartbeats 2000000 in
theorem DrawMergeLabels_any (A : Option Addr) (n c : Nat) (l : List UInt8) (w : World) (h : Rd w w.heap.size 1 A n (bys l)) (hn : n ≤ 1048576) : Calls Tryd.prog 22 #[.slice A n c] w (DrawnP w LabD2) := by
  have HH := Lib.hid (fun t => cur_newP (c := c) (t := t) h hn)
  clear h
  go_enter Tryd.func22, Tryd.ntmps22
  go_wp2_with fail
  refine (labels_any ⟨w.heap.size, w.heap.size, n, c, A, l⟩ 0 _ (HH.out _) (by omega)).mono ?_
  rintro e w1 ⟨_, rfl, ⟨A1, c1, k1, l1, rfl, hk1, ho1, hsm1⟩, hcu, hch⟩
  have hs1 := hch.size
  simp at hs1
  have HO1 := Lib.hid ho1
  have HC := Lib.hid hcu
  have HW := Lib.hid hch
  clear ho1 hcu hch
  go_wp2_with fail
  refine (labels_any ⟨w.heap.size, w.heap.size, n, c, A, l⟩ 40 _ (HC.out.more (by omega)) (by omega)).mono ?_
  rintro e w2 ⟨_, rfl, ⟨A2, c2, k2, l2, rfl, hk2, ho2, hsm2⟩, hcu, hch⟩
  have HB := Lib.hid (new_belowP (HW.out.trans hch))
  have HQ1 := Lib.hid (LabRd.of (own_chP HO1.out hch (by simp)) hk1 hsm1)
  have HQ2 := Lib.hid (LabRd.of ho2 hk2 hsm2)
  clear ho2 hsm2 hcu hch
  go_wp2
  go_ret2
  exact ⟨_, rfl, ⟨A1, k1, c1, l1, A2, k2, c2, l2, rfl, HQ1.out, HQ2.out⟩, HB.out⟩
set_option maxRecDepth 100000 in
set_option maxHeartbeats 2000000 in
theorem DrawHashText_any (A : Option Addr) (n c : Nat) (l : List UInt8) (w : World) (h : Rd w w.heap.size 1 A n (bys l)) (hn : n ≤ 1048576) : Calls Tryd.prog 25 #[.slice A n c] w (DrawnP w (TextV 200)) := by
  have HH := Lib.hid (fun t => cur_newP (c := c) (t := t) h hn)
  clear h
  go_enter Tryd.func25, Tryd.ntmps25
  go_wp2_with fail
  refine (labels_any ⟨w.heap.size, w.heap.size, n, c, A, l⟩ 0 _ (HH.out _) (by omega)).mono ?_
  rintro e w1 ⟨_, rfl, ⟨A1, c1, k1, l1, rfl, hk1, ho1, hsm1⟩, hcu, hch⟩
  have hs1 := hch.size
  simp at hs1
  have hub := hcu.hb
  have HC := Lib.hid hcu
  have HW := Lib.hid hch
  have CT := Lib.hid (sLabelsText_any w1.heap.size A1 k1 c1 l1 w1 (Nat.le_refl _) (Rd.of_own ho1) (by omega) (fun p hp => by have := hsm1 p hp; omega))
  have HTS := Lib.hid (txtR_size l1)
  clear ho1 hsm1 hcu hch
  go_wp2_with fail
  refine CT.out.mono ?_
  rintro e w2 ⟨rfl, hc2⟩
  have HC2 := Lib.hid (HC.out.ch hc2 (.inr rfl))
  have HW2 := Lib.hid (HW.out.trans hc2.zero)
  have hts := HTS.out
  obtain ⟨S, hS⟩ : ∃ S, txtR l1 = S := ⟨_, rfl⟩
  rw [hS] at hts ⊢
  clear hc2 HC HW CT hS HTS
  have HB := Lib.hid (new_belowP HW2.out)
  go_wp2
  go_ret
  exact ⟨_, rfl, ⟨S, rfl, by omega⟩, HB.out⟩
set_option maxRecDepth 100000 in
set_option maxHeartbeats 2000000 in
theorem DrawReadLabels_any (A : Option Addr) (n c : Nat) (l : List UInt8) (w : World) (h : Rd w w.heap.size 1 A n (bys l)) (hn : n ≤ 1048576) : Calls Tryd.prog 21 #[.slice A n c] w (DrawnP w (TextV 200)) := by
  have HH := Lib.hid (fun t => cur_newP (c := c) (t := t) h hn)
  clear h
  go_enter Tryd.func21, Tryd.ntmps21
  go_wp2_with fail
  refine (labels_any ⟨w.heap.size, w.heap.size, n, c, A, l⟩ 0 _ (HH.out _) (by omega)).mono ?_
  rintro e w1 ⟨_, rfl, ⟨A1, c1, k1, l1, rfl, hk1, ho1, hsm1⟩, hcu, hch⟩
  have hs1 := hch.size
  simp at hs1
  have hub := hcu.hb
  have HC := Lib.hid hcu
  have HW := Lib.hid hch
  have CT := Lib.hid (sLabelsText_any w1.heap.size A1 k1 c1 l1 w1 (Nat.le_refl _) (Rd.of_own ho1) (by omega) (fun p hp => by have := hsm1 p hp; omega))
  have HTS := Lib.hid (txtR_size l1)
  clear ho1 hsm1 hcu hch
  go_wp2_with fail
  refine CT.out.mono ?_
  rintro e w2 ⟨rfl, hc2⟩
  have HC2 := Lib.hid (HC.out.ch hc2 (.inr rfl))
  have HW2 := Lib.hid (HW.out.trans hc2.zero)
  have hts := HTS.out
  obtain ⟨S, hS⟩ : ∃ S, txtR l1 = S := ⟨_, rfl⟩
  rw [hS] at hts ⊢
  clear hc2 HC HW CT hS HTS
  go_wp2_with fail
  refine (one_any ⟨w.heap.size, w.heap.size, n, c, A, l⟩ 40 3 _ (HC2.out.more (by omega)) (by omega) (by omega)).mono ?_
  rintro e w3 ⟨_, rfl, ⟨q, rfl⟩, hcu, hch⟩
  have HC3 := Lib.hid hcu
  have HW3 := Lib.hid (HW2.out.trans hch)
  clear hcu hch HC2 HW2
  cases q with
  | true =>
    go_wp2_with fail
    refine (spoilt_any ⟨w.heap.size, w.heap.size, n, c, A, l⟩ 42 S ⟨#[123, 125, 61, 44, 97]⟩ _ (HC3.out.more (by omega)) (by omega) (by omega) (by decide) (by decide)).mono ?_
    rintro e w4 ⟨_, rfl, ⟨S2, rfl, hS2⟩, hcu, hch⟩
    have HB := Lib.hid (new_belowP (HW3.out.trans hch))
    clear hcu hch HC3 HW3
    go_wp2
    go_ret
    exact ⟨_, rfl, ⟨S2, rfl, by omega⟩, HB.out⟩
  | false =>
    have HB := Lib.hid (new_belowP HW3.out)
    go_wp2
    go_ret
    exact ⟨_, rfl, ⟨S, rfl, by omega⟩, HB.out⟩
set_option maxHeartbeats 1000000 in
theorem sameLabels_same (B : Nat) (A A' : Option Addr) (n c c' : Nat) (l : List Lab) (w : World) (h : Rd w B 2 A n (lbls l)) (h' : Rd w B 2 A' n (lbls l)) (hn : n ≤ 1048576) :
    Calls Tryd.prog 20 #[.slice A n c, .slice A' n c'] w fun e w' => e = .returned (.bool true) ∧ ∃ q, w' = w.drewN q := by
  have H := Lib.hid h
  have H' := Lib.hid h'
  clear h h'
  go_enter Tryd.func20, Tryd.ntmps20
  go_wp2
  go_loopw [13] (fun i wr => ∃ k q : Nat, k ≤ n ∧ i = .int .i64 k ∧ wr = w.drewN q) (fun i _ => n - (intOf i).toNat)
  case atStart => exact ⟨0, 0, Nat.zero_le _, rfl, rfl⟩
  case round =>
    obtain ⟨k, q, hk, rfl, rfl⟩ := hrel
    by_cases hlt : k < n
    · obtain ⟨b, off, x, y, rfl, hB, hx, hc0, hc1⟩ := H.out.lab_at hlt
      obtain ⟨b', off', x', y', rfl, hB', hx', hc0', hc1'⟩ := H'.out.lab_at hlt
      obtain ⟨rfl, rfl⟩ : x = x' ∧ y = y' := by rw [hx] at hx'; injection hx' with hx'; injection hx' with h1 h2; exact ⟨h1, h2⟩
      clear hx hx'
      go_wp2
      go_quiet (fail)
      go_wp2
      go_roundw
      case rel => exact ⟨k + 1, q + nq, by omega, by go_num, rfl⟩
      case measure => simp [intOf]; omega
    · go_wp2
      go_ret
      exact ⟨rfl, _, rfl⟩
/-! Plain. -/
theorem refL_inv {s : List UInt8} {l : List Lab} (h : refL s = some l) : goodLab l = true ∧ (labTxt l).data.toList = s := by
  rw [← impL_eq] at h
  unfold impL at h
  by_cases h0 : s = [123, 125]
  · rw [if_pos h0] at h
    injection h with h
    subst h
    exact ⟨by decide, by rw [h0]; rfl⟩
  · rw [if_neg h0] at h
    by_cases hb : braced s ∧ s.count 44 < 6
    · rw [if_pos hb] at h
      split at h
      · rename_i hg
        injection h with h
        subst h
        exact hg
      · cases h
    · rw [if_neg hb] at h; cases h
theorem refL_txt {l : List Lab} (h : goodLab l = true) : refL (labTxt l).data.toList = some l := by
  have hm := good_mem h
  have h6 := goodLab_len h
  have h18 := labJ_len18 hm
  have hlen : (labTxt l).data.toList.length = (labJ l).length + 2 := by rw [labTxt_data, List.length_cons, List.length_append]; rfl
  have hbody : bodyOf (labTxt l).data.toList = labJ l := by rw [labTxt_data, body_of]
  have hbr : braced (labTxt l).data.toList := by
    rw [braced_iff, hbody]
    exact ⟨labTxt_data l, by omega⟩
  by_cases hl : l = []
  · subst hl
    exact refL_two ⟨by omega, hbr⟩ (by rw [hlen]; decide)
  · have hsp : sp 44 (labJ l) = (l.map labB).map (·.data.toList) := by
      unfold labJ
      refine sp_join 44 _ (by simp [hl]) fun p hp => ?_
      obtain ⟨b, hb1, rfl⟩ := List.mem_map.1 hp
      obtain ⟨q, hq, rfl⟩ := List.mem_map.1 hb1
      exact (lab_pair (hm q hq)).2
    have hpos : 0 < (labJ l).length := by
      cases e : labJ l with
      | nil =>
        rw [e] at hsp
        have h1 : [([] : List UInt8)] = (l.map labB).map (·.data.toList) := hsp
        cases l with
        | nil => exact absurd rfl hl
        | cons p r =>
          simp only [List.map_cons] at h1
          injection h1 with h1 _
          rw [lab_bytes] at h1
          simp at h1
      | cons x r => simp
    refine ((refL_pairs ⟨by omega, hbr⟩ (by omega)).2 l ?_).1 h
    rw [hbody, hsp]
    exact pairs1_lab hm
theorem merge_idem {a b : List Lab} (h : okMerge a b = true) : okMerge (mergeL a b) b = true ∧ mergeL (mergeL a b) b = mergeL a b ∧ goodLab (mergeL a b) = true := by
  have hm := merge_yes h
  unfold okMerge at h
  simp only [Bool.and_eq_true, decide_eq_true_eq] at h
  obtain ⟨⟨ha, hb⟩, hl⟩ := h
  have hpa := (goodLab_iff.1 ha).1
  have hpb := (goodLab_iff.1 hb).1
  have hgm : goodLab (merge a b) = true := by rw [good_merge ha hb]; exact decide_eq_true hl
  have hpm := merge_pw _ a b (Nat.le_refl _) hpa hpb
  have e : merge (merge a b) b = merge a b := by
    refine pw_ext LtL_irr LtL_tr _ _ (merge_pw _ _ b (Nat.le_refl _) hpm hpb) hpm fun z => ?_
    rw [merge_mem _ _ b (Nat.le_refl _) hpm hpb, merge_mem _ a b (Nat.le_refl _) hpa hpb]
    constructor
    · rintro (h | ⟨h, _⟩)
      · exact .inl h
      · exact h
    · rintro (h | ⟨h1, h2⟩)
      · exact .inl h
      · exact .inr ⟨.inr ⟨h1, h2⟩, h2⟩
  rw [hm]
  have hok : okMerge (merge a b) b = true := by
    unfold okMerge
    rw [hgm, hb, e]
    simpa using hl
  exact ⟨hok, by rw [merge_yes hok, e], hgm⟩
end Go.Proofs.YtjokpbopceolcaaDoor
