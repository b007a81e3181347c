/- MergeLabels: the program's walk. -/
import Derived.Test.YtjokpbopceolcaaDoorSortLab
import Derived.Shelf.SlSortCmp.NoneTotal
import Derived.Test.YtjokpbopceolcaaDoorAreLab
import Derived.Test.YtjokpbopceolcaaDoorCloneP
import Derived.Test.YtjokpbopceolcaaDoorGotR
namespace Go.Proofs.YtjokpbopceolcaaDoor
set_option linter.unusedVariables false
set_option linter.unusedSimpArgs false
open Go.RowKit Go.Sort Go.Lib Go.Shelf

theorem eqS {a b : ByteArray} : (a.toList == b.toList) = decide (a = b) := by
  rw [Bool.eq_iff_iff]
  simp only [beq_iff_eq, decide_eq_true_eq, ByteArray.toList_eq]
  exact ⟨bytes_ext, fun h => by rw [h]⟩
set_option maxHeartbeats 1000000 in
theorem mergeL_idx (Bp : Nat) (wp : World) (qa : Option Addr) (p : Lab → Bool) (hBp : Bp ≤ wp.heap.size)
    (hC : ∀ x y w', Below Bp wp w' → Calls Tryd.prog 79 #[.agg #[.string x, .string y], .pointer qa] w' fun e w'' => e = .returned (.bool (p (x, y))) ∧ Below w'.heap.size w' w'')
    (B : Nat) (A : Option Addr) (n c : Nat) (zs : List Lab) (w : World) (hW : Below Bp wp w) (hBw : B ≤ w.heap.size) (h : Rd w B 2 A n (lbls zs)) (hn : n ≤ 1048576) :
    Calls Tryd.prog 110 #[.slice A n c, .func (.func 79) #[] #[.pointer qa]] w fun e w' => e = .returned (.int .i64 (idxZ (fstAt p zs))) ∧ Below w.heap.size w w' := by
  have hlen := h.lab_len
  have HL := Lib.hid hlen
  have H := Lib.hid h
  have HC := Lib.hid hC
  have HW := Lib.hid hW
  clear h hlen hC
  have hWs := hW.size
  clear hW
  obtain ⟨R, hR⟩ : ∃ R, R = fstAt p zs := ⟨_, rfl⟩
  have HR := Lib.hid hR
  rw [← hR]
  clear hR
  go_enter Tryd.func110, Tryd.ntmps110
  go_wp2
  go_loopw [8] (fun i wr => ∃ k : Nat, k ≤ n ∧ i = .int .i64 k ∧ (∀ j y, j < k → zs[j]? = some y → p y = false) ∧ Below w.heap.size w wr) (fun i _ => n - (intOf i).toNat)
  case atStart => exact ⟨0, Nat.zero_le _, rfl, fun j y hj => absurd hj (by omega), Below.refl _ _⟩
  case round =>
    obtain ⟨k, hk, rfl, hok, hb⟩ := hrel
    have HK := Lib.hid hok
    have HB := Lib.hid hb
    have hsz := hb.size
    clear hok hb
    by_cases hlt : k < n
    · obtain ⟨b, off, x, y, rfl, hB, hx, hc0, hc1⟩ := H.out.lab_at hlt
      have hc0' : wr.cell? ⟨b, off + k * 2, none⟩ = some (.string x) := (bcell HB.out _ _ (by omega)).trans hc0
      have hc1' : wr.cell? ⟨b, off + k * 2 + 1, none⟩ = some (.string y) := (bcell HB.out _ _ (by omega)).trans hc1
      have HX := Lib.hid hx
      clear hx hc0 hc1
      have HC1 := Lib.hid (HC.out x y wr (HW.out.trans (HB.out.mono (by omega))))
      generalize hp : p (x, y) = q at HC1
      have HP := Lib.hid hp
      clear hp
      cases q with
      | false =>
        go_wp2_with (go_at_call 79; refine HC1.out.mono ?_; rintro e w1 ⟨rfl, hb1⟩; have HB1 := Lib.hid (HB.out.trans (hb1.mono hsz)); clear hb1)
        go_roundw
        case rel =>
          refine ⟨k + 1, by omega, by go_num, fun j y hj hy => ?_, HB1.out⟩
          by_cases hjk : j < k
          · exact HK.out j y hjk hy
          · obtain rfl : j = k := by omega
            have := HX.out
            rw [hy] at this
            injection this with this
            rw [this]; exact HP.out
        case measure => simp [intOf]; omega
      | true =>
        have e : R = some k := HR.out.trans (fstAt_hit HX.out HP.out HK.out)
        subst e
        go_wp2_with (go_at_call 79; refine HC1.out.mono ?_; rintro e w1 ⟨rfl, hb1⟩; have HB1 := Lib.hid (HB.out.trans (hb1.mono hsz)); clear hb1)
        go_ret
        exact ⟨rfl, HB1.out⟩
    · have e : R = none := HR.out.trans (fstAt_none fun j y hy => HK.out j y (by have := (List.getElem?_eq_some_iff.1 hy).1; have := HL.out; omega) hy)
      subst e
      go_wp2
      go_ret
      exact ⟨rfl, HB.out⟩
theorem idx_geL {α : Type} (p : α → Bool) (l : List α) : decide (0 ≤ idxZ (fstAt p l)) = l.any p := by
  have h := List.findIdx?_isSome (xs := l) (p := p)
  rw [← h]
  unfold fstAt
  cases List.findIdx? p l <;> simp [idxZ]
set_option maxHeartbeats 1000000 in
theorem mergeLabels1_any (bq : Nat) (u v x y : ByteArray) (w : World) (h0 : w.cell? ⟨bq, 0, none⟩ = some (.string u)) (hb : bq < w.heap.size) :
    Calls Tryd.prog 79 #[.agg #[.string x, .string y], .pointer (some ⟨bq, 0, none⟩)] w fun e w' => e = .returned (.bool (decide (x = u))) ∧ Below w.heap.size w w' := by
  have d0 : (w.alloc (.cells #[.string x, .string y] 48)).cell? ⟨bq, 0, none⟩ = some (.string u) := (World.cell?_alloc_lt _ _ _ (by simp; omega)).trans h0
  clear h0
  rw [← eqS]
  go_enter Tryd.func79, Tryd.ntmps79
  go_wp2
  go_ret
  exact ⟨rfl, (Below.refl _ _).alloc (Nat.le_refl _) _⟩
set_option maxHeartbeats 1000000 in
theorem hasName_any (B bq : Nat) (u : ByteArray) (A : Option Addr) (n c : Nat) (l : List Lab) (w : World) (hBw : B ≤ w.heap.size) (h : Rd w B 2 A n (lbls l)) (hn : n ≤ 1048576) (h0 : w.cell? ⟨bq, 0, none⟩ = some (.string u)) (hb : bq < w.heap.size) :
    Calls Tryd.prog 78 #[.slice A n c, .func (.func 79) #[] #[.pointer (some ⟨bq, 0, none⟩)]] w fun e w' => e = .returned (.bool (l.any fun y => decide (y.1 = u))) ∧ Below w.heap.size w w' := by
  have hge := idx_geL (fun y : Lab => decide (y.1 = u)) l
  have HI := Lib.hid (mergeL_idx w.heap.size w (some ⟨bq, 0, none⟩) (fun y => decide (y.1 = u)) (Nat.le_refl _)
    (fun x y w' hw => mergeLabels1_any bq u u x y w' ((bcell hw _ _ hb).trans h0) (by have := hw.size; omega)) B A n c l w (Below.refl _ _) hBw h hn)
  generalize idxZ (fstAt (fun y : Lab => decide (y.1 = u)) l) = k at HI hge
  rw [← hge]
  clear hge h h0
  go_enter Tryd.func78, Tryd.ntmps78
  go_wp2_with fail
  refine HI.out.mono ?_
  rintro e w1 ⟨rfl, hb1⟩
  have HB := Lib.hid hb1
  clear hb1
  go_wp2
  go_ret
  exact ⟨rfl, HB.out⟩
def okMerge (a b : List Lab) : Bool := goodLab a && goodLab b && decide ((merge a b).length ≤ 6)
def mergeL (a b : List Lab) : List Lab := if okMerge a b then merge a b else []
theorem merge_no {a b : List Lab} (h : okMerge a b = false) : mergeL a b = [] := by unfold mergeL; rw [h]; rfl
theorem merge_yes {a b : List Lab} (h : okMerge a b = true) : mergeL a b = merge a b := by unfold mergeL; rw [h]; rfl
theorem mergeL_len (a b : List Lab) : (mergeL a b).length ≤ 1048576 := by
  cases h : okMerge a b
  · rw [merge_no h]; exact Nat.zero_le _
  · rw [merge_yes h]
    unfold okMerge at h
    simp only [Bool.and_eq_true, decide_eq_true_eq] at h
    omega
theorem fresh_snoc {a b : List Lab} {k : Nat} {x : Lab} (h : a[k]? = some x) : freshL (a.take (k + 1)) b = if (b.any fun y => decide (y.1 = x.1)) then freshL (a.take k) b else freshL (a.take k) b ++ [x] := by
  unfold freshL
  rw [take_snoc' _ _ _ h, List.filter_append]
  cases e : (b.any fun y => decide (y.1 = x.1)) <;> simp [e]
theorem fresh_len (a b : List Lab) : (freshL a b).length ≤ a.length := List.length_filter_le ..
theorem lfit_of {l : List Lab} (h : goodLab l = true) : lblFit l := by
  intro p hp
  obtain ⟨k, hk⟩ := List.mem_iff_getElem?.1 hp
  have := goodLab_ok h hk
  obtain ⟨x, y⟩ := p
  obtain ⟨h1, h2⟩ := labOk_t this
  have := wordOk_len h1
  have := wordOk_len h2
  exact ⟨by simp only; omega, by simp only; omega⟩
set_option maxRecDepth 100000 in
set_option maxHeartbeats 8000000 in
theorem mergeLabels_any (B : Nat) (A A' : Option Addr) (n c n' c' : Nat) (a b : List Lab) (w : World) (hBw : B ≤ w.heap.size) (h : Rd w B 2 A n (lbls a)) (hn : n ≤ 6) (h' : Rd w B 2 A' n' (lbls b)) (hn' : n' ≤ 6) (hga : goodLab a = true) (hgb : goodLab b = true) :
    Calls Tryd.prog 48 #[.slice A n c, .slice A' n' c'] w (GotR 48 2 w (mergeL a b).length (lbls (mergeL a b)) (okMerge a b)) := by
  obtain ⟨i0, hi, hi0, hi1, hi2⟩ := info_parts infoLabel
  have HI := Lib.hid (And.intro hi (And.intro hi0 (And.intro hi1 hi2)))
  clear hi hi0 hi1 hi2
  have C5 := Lib.hid (cloneLabel_any B A' n' c' b w hBw h' (by omega))
  have HAL := Lib.hid h.lab_len
  have HBL := Lib.hid h'.lab_len
  have HG := Lib.hid (And.intro hga hgb)
  have H := Lib.hid h
  have H' := Lib.hid h'
  clear h h' hga hgb
  go_enter Tryd.func48, Tryd.ntmps48
  go_wp2_with fail
  refine C5.out.mono ?_
  rintro e w3 ⟨A3, c3, rfl, ho3, hb3⟩
  have HB3 := Lib.hid hb3
  have HO3 := Lib.hid ho3
  clear ho3 hb3 C5
  go_wp2
  go_loopw [6, 13] (fun out i wr => ∃ (k m : Nat) (A4 : Option Addr) (c4 : Nat), k ≤ n ∧ i = .int .i64 k ∧ m = (freshL (a.take k) b).length ∧ out = .slice A4 (n' + m) c4 ∧
    wr.ownsRow w.heap.size 48 2 (.slice A4 (n' + m) c4) (n' + m) (lbls (b ++ freshL (a.take k) b)) ∧ Below w.heap.size w wr) (fun _ i _ => n - (intOf i).toNat)
  case atStart => exact ⟨0, 0, A3, c3, Nat.zero_le _, rfl, rfl, rfl, by simpa [freshL] using HO3.out, HB3.out⟩
  case round =>
    clear HB3 HO3
    obtain ⟨k, m, A4, c4, hk, rfl, hm, rfl, ho, hb⟩ := hrel
    have HO := Lib.hid ho
    have HB := Lib.hid hb
    have hsz := hb.size
    have hm6 : m ≤ k := by rw [hm]; exact Nat.le_trans (fresh_len _ _) (by rw [List.length_take]; omega)
    have HM := Lib.hid hm
    clear hm ho hb
    by_cases hlt : k < n
    · obtain ⟨b1, off1, x, y, rfl, hb1, hx, hcx, hcy⟩ := H.out.lab_at hlt
      have hdx : wr.cell? ⟨b1, off1 + k * 2, none⟩ = some (.string x) := (bcell HB.out _ _ (by omega)).trans hcx
      have hdy : wr.cell? ⟨b1, off1 + k * 2 + 1, none⟩ = some (.string y) := (bcell HB.out _ _ (by omega)).trans hcy
      have HX := Lib.hid (fresh_snoc (b := b) hx)
      obtain ⟨wb, hwb⟩ : ∃ wb, wb = wr.alloc (.cells #[.string x, .string y] 48) := ⟨_, rfl⟩
      have hbb : Below w.heap.size w wb := hwb ▸ HB.out.alloc hsz _
      have hsb : wb.heap.size = wr.heap.size + 1 := by rw [hwb]; simp
      have hob : wb.ownsRow w.heap.size 48 2 (.slice A4 (n' + m) c4) (n' + m) (lbls (b ++ freshL (a.take k) b)) := hwb ▸ HO.out.alloc _
      have hex : wb.cell? ⟨wr.heap.size, 0, none⟩ = some (.string x) := by rw [hwb]; simp
      have hey : wb.cell? ⟨wr.heap.size, 1, none⟩ = some (.string y) := by rw [hwb]; simp
      have CH := Lib.hid (hasName_any B wr.heap.size x A' n' c' b wb (by omega) (H'.out.below (hbb.mono hBw)) (by omega) hex (by omega))
      have HBB := Lib.hid hbb
      have HOB := Lib.hid hob
      have HWB := Lib.hid hwb
      clear hx hcx hcy hwb hbb hob HO HB
      obtain ⟨q, hq⟩ : ∃ q, (b.any fun z => decide (z.1 = x)) = q := ⟨_, rfl⟩
      rw [hq] at CH
      have HQ := Lib.hid hq
      clear hq
      cases q with
      | true =>
        have HF := Lib.hid (show freshL (a.take (k + 1)) b = freshL (a.take k) b by rw [HX.out, if_pos HQ.out])
        go_wp2_with fail
        rw [← HWB.out]
        refine CH.out.mono ?_
        rintro e w5 ⟨rfl, hb5⟩
        have HB5 := Lib.hid (HBB.out.trans (hb5.mono (by omega)))
        have HO5 := Lib.hid (own_below HOB.out hb5 (Nat.le_refl _))
        clear hb5 hex hey
        go_wp2
        go_roundw
        case rel => exact ⟨k + 1, m, A4, c4, by omega, by go_num, by rw [HF.out]; exact HM.out, rfl, by rw [HF.out]; exact HO5.out, HB5.out⟩
        case measure => simp [intOf]; omega
      | false =>
        have HF := Lib.hid (show freshL (a.take (k + 1)) b = freshL (a.take k) b ++ [(x, y)] by rw [HX.out, if_neg (by rw [HQ.out]; simp)])
        go_wp2_with fail
        rw [← HWB.out]
        refine CH.out.mono ?_
        rintro e w5 ⟨rfl, hb5⟩
        have HB5 := Lib.hid (HBB.out.trans (hb5.mono (by omega)))
        have HO5 := Lib.hid (own_below HOB.out hb5 (Nat.le_refl _))
        have hfx : w5.cell? ⟨wr.heap.size, 0, none⟩ = some (.string x) := (bcell hb5 _ _ (by omega)).trans hex
        have hfy : w5.cell? ⟨wr.heap.size, 1, none⟩ = some (.string y) := (bcell hb5 _ _ (by omega)).trans hey
        have hs5 : w.heap.size ≤ w5.heap.size := by have := hb5.size; omega
        clear hb5 hex hey
        go_wp2_with (at_builtin; refine wpList_append_own _ rfl (.tmp 21) (.tmp 23) 22 rfl w.heap.size 48 i0 (.agg #[.string .empty, .string .empty]) 2 32 Tryd.underlying22 HI.out.1 HI.out.2.1 HI.out.2.2.1 HI.out.2.2.2 rfl (by decide) _ (n' + m) _ rfl (HO5.out.alloc _) ⟨w5.heap.size, 0, none⟩ 1 1 (lbls [(x, y)]) rfl rfl ?c1 (lbls_one _) ?c3 ?c4 ?c5 ?_)
        case c1 =>
          intro i u hj
          match i, hj with
          | 0, hj => simp [lbls] at hj; subst hj; simp [Addr.add]
          | 1, hj => simp [lbls] at hj; subst hj; simp [Addr.add]
          | i + 2, hj => simp [lbls] at hj
        case c3 => unfold maxLen; omega
        case c4 => omega
        case c5 => simp; omega
        intro v' w6 ho6 hg6 _
        have HB6 := Lib.hid ((HB5.out.alloc hs5 (.cells #[.string x, .string y] 48)).grown hg6 (by simp; omega) (fun k hk => (HO5.out.lt k hk).1))
        obtain ⟨A6, c6, rfl⟩ := own_slice ho6
        have HO6 := Lib.hid (show w6.ownsRow w.heap.size 48 2 (.slice A6 (n' + (m + 1)) c6) (n' + (m + 1)) (lbls (b ++ freshL (a.take (k + 1)) b)) by rw [HF.out, ← List.append_assoc, lbls_app (b ++ freshL (a.take k) b)]; exact ho6)
        clear ho6 hg6
        go_wp2
        go_roundw
        case rel => exact ⟨k + 1, m + 1, A6, c6, by omega, by go_num, by rw [HF.out, List.length_append, ← HM.out]; rfl, rfl, HO6.out, HB6.out⟩
        case measure => simp [intOf]; omega
    · have hk' : k = n := by omega
      subst hk'
      have ht : a.take k = a := List.take_of_length_le (by rw [HAL.out]; exact Nat.le_refl _)
      have ho := HO.out
      have hm := HM.out
      rw [ht] at ho hm
      obtain ⟨ga, gb⟩ := HG.out
      have hgm := good_merge ga gb
      have hmo := fun d h1 h2 => merge_of (d := d) (goodLab_iff.1 ga).1 (goodLab_iff.1 gb).1 h1 h2
      have HGM := Lib.hid hgm
      have HMO := Lib.hid hmo
      have HOK := Lib.hid (show okMerge a b = decide ((merge a b).length ≤ 6) by unfold okMerge; rw [ga, gb]; rfl)
      have HFIT := Lib.hid (show lblFit (b ++ freshL a b) by
        intro p hp
        rcases List.mem_append.1 hp with h | h
        · exact lfit_of gb p h
        · exact lfit_of ga p (mem_freshL.1 h).1)
      have HLB := HBL.out
      have hlen0 : (b ++ freshL a b).length = n' + m := by rw [List.length_append, HLB, hm]
      have HLEN := Lib.hid hlen0
      have HO1 := Lib.hid ho
      clear ht ho hgm hmo ga gb HM hm HO hlen0
      have key : ∀ (W : World) (d : List Lab) (A5 : Option Addr) (c5 : Nat), d = merge a b → d.length = n' + m → W.ownsRow w.heap.size 48 2 (.slice A5 (n' + m) c5) (n' + m) (lbls d) → lblFit d →
          Hid (Calls Tryd.prog 42 #[.slice A5 (n' + m) c5] W fun e w' => e = .returned (.bool (decide ((merge a b).length ≤ 6))) ∧ Below W.heap.size W w') := by
        intro W d A5 c5 hd hdl hown hfit
        have := areLabels_any W.heap.size A5 (n' + m) c5 d W (Nat.le_refl _) (Rd.of_own hown) (by omega) hfit
        rw [hd, HGM.out] at this
        exact Lib.hid this
      by_cases h0 : n' + m = 0
      · obtain ⟨hn0, hm0⟩ : n' = 0 ∧ m = 0 := by omega
        have he : b ++ freshL a b = [] := List.eq_nil_of_length_eq_zero (by rw [HLEN.out]; exact h0)
        have hd := HMO.out [] (by rw [he]) (by simp)
        have hown := HO1.out
        rw [he] at hown
        have C6 := key wr [] A4 c4 hd (by simp; omega) hown (by intro p hp; simp at hp)
        have hk : okMerge a b = true := HOK.out.trans (by rw [← hd]; rfl)
        rw [← hd] at C6
        have HK := Lib.hid hk
        have HD := Lib.hid hd
        rw [h0] at C6 hown ⊢
        have HOW := Lib.hid hown
        clear hk he hd hown key
        go_wp2_with fail
        refine (AnyF.slices_SortFunc_none Tryd.sortLab A4 c4 _ wr).mono ?_
        rintro e w5 ⟨rfl, rfl⟩
        go_wp2_with fail
        refine C6.out.mono ?_
        rintro e w6 ⟨rfl, hb6⟩
        have HB6 := Lib.hid (HB.out.trans (hb6.mono HB.out.size))
        have HO6 := Lib.hid (own_below HOW.out hb6 (Nat.le_refl _))
        clear hb6
        go_wp2
        go_ret2
        rw [merge_yes HK.out, HK.out, ← HD.out]
        exact GotR.own_ HO6.out HB6.out
      · obtain ⟨g, cap, e4, hbg, hgl, hnc, _⟩ := own_form HO1.out (by omega)
        obtain ⟨rfl, rfl⟩ : A4 = some ⟨g, 0, none⟩ ∧ c4 = cap := by simpa using e4
        have CS := Lib.hid (sortLab_any w.heap.size g c4 (n' + m) (b ++ freshL a b) wr HO1.out (by omega))
        clear e4
        go_wp2_with fail
        refine CS.out.mono ?_
        rintro e w5 ⟨d, rfl, hperm, hle, ho5, hb5⟩
        have HB5 := Lib.hid (hb5 w.heap.size w HB.out (Nat.le_refl _))
        have HO5 := Lib.hid ho5
        have hd := HMO.out d hperm hle
        have hdl : d.length = n' + m := by rw [hperm.length_eq]; exact HLEN.out
        have C6 := key w5 d _ _ hd hdl ho5 (fun p hp => HFIT.out p (hperm.mem_iff.1 hp))
        rw [hd] at HO5
        have hml : (merge a b).length = n' + m := by rw [← hd]; exact hdl
        have HML := Lib.hid hml
        clear hperm hle ho5 hb5 CS hd hdl hml key
        by_cases h6 : n' + m ≤ 6
        · have hk : okMerge a b = true := HOK.out.trans (decide_eq_true (by rw [HML.out]; exact h6))
          rw [HML.out, decide_eq_true h6] at C6
          have HK := Lib.hid hk
          clear hk
          go_wp2_with fail
          refine C6.out.mono ?_
          rintro e w6 ⟨rfl, hb6⟩
          have HB6 := Lib.hid (HB5.out.trans (hb6.mono HB5.out.size))
          have HO6 := Lib.hid (own_below HO5.out hb6 (Nat.le_refl _))
          clear hb6
          go_wp2
          go_ret2
          rw [merge_yes HK.out, HK.out, HML.out]
          exact GotR.own_ HO6.out HB6.out
        · have hk : okMerge a b = false := HOK.out.trans (decide_eq_false (by rw [HML.out]; exact h6))
          rw [HML.out, decide_eq_false h6] at C6
          have HK := Lib.hid hk
          clear hk
          go_wp2_with fail
          refine C6.out.mono ?_
          rintro e w6 ⟨rfl, hb6⟩
          have HB6 := Lib.hid (HB5.out.trans (hb6.mono HB5.out.size))
          clear hb6
          go_wp2
          go_ret2
          rw [merge_no HK.out, HK.out]
          exact GotR.no_ HB6.out
end Go.Proofs.YtjokpbopceolcaaDoor
