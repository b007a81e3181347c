/- GoodForm: the program's walk, and the law. -/
import Derived.Test.YtbpeceejboojoaaFormS
import Derived.Test.YtbpeceejboojoaaDelPlain
namespace Go.Proofs.Ytbpeceejboojoaa
set_option linter.unusedVariables false
set_option linter.unusedSimpArgs false
open Go.RowKit

theorem own_set_far {w : World} {base T s g n c b j : Nat} {xs : List Value} {v : Value} (h : w.ownsRow base T s (.slice (some ⟨g, 0, none⟩) n c) n xs) (hne : g ≠ b) : (w.setCell ⟨b, j, none⟩ v).ownsRow base T s (.slice (some ⟨g, 0, none⟩) n c) n xs := by
  refine ⟨h.1, ?_⟩
  rcases h.2 with ⟨e0, _⟩ | ⟨g', cap', cur, e0, hb, hg, r⟩
  · cases e0
  · injection e0 with e1 _ e3
    injection e1 with e1
    injection e1 with e1
    subst e1; subst e3
    exact .inr ⟨g, c, cur, rfl, hb, (Below.heap_setCell _ _ _ _ (by simpa using hne)).trans hg, r⟩
theorem prt_long {l : List Prt} (h : inB l.length 1 24 = false) : goodPrt l = false := by
  rw [← Bool.not_eq_true] at *
  intro hg
  have := good_len hg
  exact h (inB_iff.2 (by omega))
theorem one_list {x : ByteArray} (h : x.size = 1) (h0 : 0 < x.size) : x.data.toList = [x[0]] := by
  apply List.ext_getElem?
  intro j
  cases j with
  | zero => rw [byteP x 0 h0]; rfl
  | succ j => rw [List.getElem?_eq_none (by rw [Array.length_toList]; show x.size ≤ _; omega)]; rfl
/-- The program's test on the counts: some count that is not one. -/
def ne1 (x : Int) : Bool := x != 1
set_option maxHeartbeats 1000000 in
theorem idxNe_any (B : Nat) (A : Option Addr) (n c : Nat) (zs : List Int) (w : World) (hBw : B ≤ w.heap.size) (h : Rd w B 1 A n (ints zs)) (hn : n ≤ 1048576) :
    Calls Try.prog 51 #[.slice A n c, .func (.func 42) #[] #[]] w fun e w' => e = .returned (.int .i64 (idxZ (fstAt ne1 zs))) ∧ w = w' := by
  have hlen := h.int_len
  have HL := Lib.hid hlen
  have H := Lib.hid h
  clear h hlen
  obtain ⟨R, hR⟩ : ∃ R, R = fstAt ne1 zs := ⟨_, rfl⟩
  have HR := Lib.hid hR
  rw [← hR]
  clear hR
  go_enter Try.func51, Try.ntmps51
  go_wp2
  go_loop [8] (fun i => ∃ k : Nat, k ≤ n ∧ i = .int .i64 k ∧ (∀ j y, j < k → zs[j]? = some y → ne1 y = false)) (fun i => n - (intOf i).toNat)
  case atStart => exact ⟨0, Nat.zero_le _, rfl, fun j y hj => absurd hj (by omega)⟩
  case round =>
    obtain ⟨k, hk, rfl, hok⟩ := hrel
    have HK := Lib.hid hok
    clear hok
    by_cases hlt : k < n
    · obtain ⟨b, off, x, rfl, hB, hx, hc0⟩ := H.out.int_at hlt
      have HX := Lib.hid hx
      clear hx
      by_cases h1 : x = 1
      · subst h1
        go_wp2
        go_round
        case rel =>
          refine ⟨k + 1, by omega, by go_num, fun j y hj hy => ?_⟩
          by_cases hjk : j < k
          · exact HK.out j y hjk hy
          · obtain rfl : j = k := by omega
            have := HX.out
            rw [hy] at this
            injection this with this
            rw [this]; rfl
        case measure => simp [intOf]; omega
      · have e : R = some k := HR.out.trans (fstAt_hit HX.out (by unfold ne1; simpa using h1) HK.out)
        subst e
        go_wp2
        go_ret
        exact ⟨rfl, rfl⟩
    · have e : R = none := HR.out.trans (fstAt_none fun j y hy => HK.out j y (by have := (List.getElem?_eq_some_iff.1 hy).1; have := HL.out; omega) hy)
      subst e
      go_wp2
      go_ret
      exact ⟨rfl, rfl⟩
theorem idx_geI {α : Type} (p : α → Bool) (l : List α) : decide (0 ≤ idxZ (fstAt p l)) = l.any p := by
  have h := List.findIdx?_isSome (xs := l) (p := p)
  rw [← h]
  unfold fstAt
  cases List.findIdx? p l <;> simp [idxZ]
set_option maxHeartbeats 1000000 in
theorem hasNe_any (B : Nat) (A : Option Addr) (n c : Nat) (zs : List Int) (w : World) (hBw : B ≤ w.heap.size) (h : Rd w B 1 A n (ints zs)) (hn : n ≤ 1048576) :
    Calls Try.prog 41 #[.slice A n c, .func (.func 42) #[] #[]] w fun e w' => e = .returned (.bool (zs.any ne1)) ∧ w = w' := by
  have hge := idx_geI ne1 zs
  have HI := Lib.hid (idxNe_any B A n c zs w hBw h hn)
  generalize idxZ (fstAt ne1 zs) = k at HI hge
  rw [← hge]
  clear hge h
  go_enter Try.func41, Try.ntmps41
  go_wp2_with fail
  refine HI.out.mono ?_
  rintro e w1 ⟨rfl, rfl⟩
  go_wp2
  go_ret
  exact ⟨rfl, rfl⟩
theorem any_cnt {l : List Prt} {n : Nat} (hl : l.length = n) : ((cntL l n).take (n - 1)).any ne1 = !allAt (fun j => decide (usesOf l j = 1)) (l.length - 1) := by
  rw [Bool.eq_iff_iff, Bool.not_eq_true', List.any_eq_true, ← Bool.not_eq_true, allAt_iff]
  constructor
  · rintro ⟨x, hx, h1⟩ hall
    obtain ⟨j, hj⟩ := List.mem_iff_getElem?.1 hx
    rw [List.getElem?_take] at hj
    split at hj
    · rename_i hjn
      rw [cntL_get (by omega)] at hj
      injection hj with hj
      have := hall j (by omega)
      simp only [decide_eq_true_eq] at this
      rw [← hj, this] at h1
      simp [ne1] at h1
    · cases hj
  · intro h
    by_cases hx : ∃ j, j < l.length - 1 ∧ usesOf l j ≠ 1
    · obtain ⟨j, hj, hne⟩ := hx
      refine ⟨(usesOf l j : Int), List.mem_iff_getElem?.2 ⟨j, ?_⟩, by unfold ne1; simp; omega⟩
      rw [List.getElem?_take, if_pos (by omega), cntL_get (by omega)]
    · exfalso
      refine h fun j hj => ?_
      simp only [decide_eq_true_eq]
      rcases Nat.decEq (usesOf l j) 1 with hne | he
      · exact absurd ⟨j, hj, hne⟩ hx
      · exact he
theorem prt_done {l : List Prt} (h : ∀ k, k < l.length → prtAt l k = true) (hb : inB l.length 1 24 = true) : goodPrt l = allAt (fun j => decide (usesOf l j = 1)) (l.length - 1) := by
  unfold goodPrt
  obtain ⟨h1, h2⟩ := inB_iff.1 hb
  rw [allAt_t h, decide_eq_true (show 1 ≤ l.length by omega), decide_eq_true (show l.length ≤ 24 by omega)]
  simp
set_option maxRecDepth 100000 in
set_option maxHeartbeats 16000000 in
theorem isForm_any (B : Nat) (A : Option Addr) (n c : Nat) (l : List Prt) (w : World) (hBw : B ≤ w.heap.size) (h : Rd w B 4 A n (prts l)) (hn : n ≤ 1048576) (hf : ∀ p ∈ l, p.text.size ≤ 1048576) :
    Calls Try.prog 25 #[.slice A n c] w fun e w' => e = .returned (.bool (goodPrt l)) ∧ Below w.heap.size w w' := by
  have HL := Lib.hid h.prt_len
  have HF := Lib.hid hf
  have H := Lib.hid h
  obtain ⟨i0, hi, hz0, hz1, hz2⟩ := info_parts infoInt
  clear h hf
  obtain ⟨vn, hvn⟩ : ∃ v, inB (n : Nat) 1 24 = v := ⟨_, rfl⟩
  have CN := Lib.hid (fun w => within_any n 1 24 w)
  rw [hvn] at CN
  cases vn with
  | false =>
    have HE := Lib.hid (prt_long (l := l) (by rw [HL.out]; exact hvn))
    clear hvn hi hz0 hz1 hz2
    go_enter Try.func25, Try.ntmps25
    go_wp2_with fail
    refine (CN.out _).mono ?_
    rintro e w' ⟨rfl, rfl⟩
    go_wp2
    go_ret
    exact ⟨retB HE.out.symm, Below.refl _ _⟩
  | true =>
    have HVN := Lib.hid hvn
    have hn24 := inB_iff.1 hvn
    clear hvn
    go_enter Try.func25, Try.ntmps25
    go_wp2_with fail
    refine (CN.out _).mono ?_
    rintro e w' ⟨rfl, rfl⟩
    go_wp2_with (at_make; refine wpList_make_full _ rfl (.tmp 12) (.tmp 12) 34 rfl w.heap.size 3 i0 (.int .i64 0) 1 Try.underlying34 hi hz0 hz1 _ _ _ _ n rfl rfl rfl rfl (by rw [hz2]; omega) (by unfold maxLen; omega) (Nat.le_refl _) ?_; intro w1 hown hgrow)
    have hb1 : Below w.heap.size w w1 := (Below.refl _ _).grown hgrow (Nat.le_refl _) (by simp)
    have hown1 : w1.ownsRow w.heap.size 3 1 (.slice (some ⟨w.heap.size, 0, none⟩) n n) n (ints (cntL (l.take 0) n)) := by
      rw [List.take_zero, cntL_nil, ← toList_madeCells_one]
      simpa [Value.cells] using hown
    clear hown hgrow hi hz0 hz1 hz2
    have HB := Lib.hid hb1
    have HO := Lib.hid hown1
    clear hb1 hown1
    go_wp2
    go_loopw [16] (fun i wr => ∃ k : Nat, k ≤ n ∧ i = .int .i64 k ∧ (∀ j, j < k → prtAt l j = true) ∧ wr.ownsRow w.heap.size 3 1 (.slice (some ⟨w.heap.size, 0, none⟩) n n) n (ints (cntL (l.take k) n)) ∧ Below w.heap.size w wr ∧ w.heap.size < wr.heap.size) (fun i _ => n - (intOf i).toNat)
    case atStart => exact ⟨0, Nat.zero_le _, rfl, fun j hj => absurd hj (by omega), HO.out, HB.out, (HO.out.lt _ rfl).2⟩
    case round =>
      clear HO HB
      obtain ⟨k, hk, rfl, hok, ho, hb, hgl⟩ := hrel
      have HK := Lib.hid hok
      have HO := Lib.hid ho
      have HB := Lib.hid hb
      have hsz := hb.size
      clear hok ho hb
      by_cases hlt : k < n
      · obtain ⟨b0, off, kd, x, a, b, rfl, hbB, hx, hc0, hc1, hc2, hc3⟩ := H.out.prt_at hlt
        have hd0 : wr.cell? ⟨b0, off + k * 4, none⟩ = some (.int .i64 kd) := (bcell HB.out _ _ (by omega)).trans hc0
        have hd1 : wr.cell? ⟨b0, off + k * 4 + 1, none⟩ = some (.string x) := (bcell HB.out _ _ (by omega)).trans hc1
        have hd2 : wr.cell? ⟨b0, off + k * 4 + 2, none⟩ = some (.int .i64 a) := (bcell HB.out _ _ (by omega)).trans hc2
        have hd3 : wr.cell? ⟨b0, off + k * 4 + 3, none⟩ = some (.int .i64 b) := (bcell HB.out _ _ (by omega)).trans hc3
        have HX := Lib.hid hx
        have HKN := Lib.hid (show prtOk ⟨kd, x, a, b⟩ k = true → ∀ j, j < k + 1 → prtAt l j = true from fun hv j hj => by
          rcases (show j < k ∨ j = k by omega) with h | rfl
          · exact HK.out j h
          · exact (prtAt_eq HX.out).trans hv)
        clear hx hc0 hc1 hc2 hc3
        have hne1 : w.heap.size ≠ wr.heap.size := by omega
        have hne2 : w.heap.size ≠ wr.heap.size + 1 := by omega
        by_cases h1 : kd = 1
        · subst h1
          have hv : prtOk ⟨1, x, a, b⟩ k = (noText x && a == 0 && b == 0) := rfl
          by_cases hx0 : x.toList = []
          · rw [noText_y hx0] at hv
            by_cases ha : a = 0
            · subst ha
              by_cases hb : b = 0
              · subst hb
                have HKK := Lib.hid (HKN.out hv)
                have HCN := Lib.hid (cnt_no (n := n) HX.out (use_no rfl rfl))
                clear hv
                go_wp2
                go_roundw
                case rel => exact ⟨k + 1, by omega, by go_num, HKK.out, by rw [HCN.out]; exact (HO.out.alloc _).alloc _, by repeat (first | exact HB.out | refine Below.alloc ?_ (by first | omega | (simp; omega)) _ | refine Below.setCell ?_ (by simp) _), by simp; omega⟩
                case measure => simp [intOf]; omega
              · have HV := Lib.hid (show prtOk _ k = false from hv.trans (by simp [hb]))
                clear hv
                have HE := Lib.hid (prt_bad (l := l) (k := k) (by rw [HL.out]; exact hlt) ((prtAt_eq HX.out).trans HV.out))
                go_wp2_with (go_at_call 26; refine (within_any _ _ _ _).mono ?_; rintro e w' ⟨rfl, rfl⟩)
                go_ret
                exact ⟨retB HE.out.symm, by repeat (first | exact HB.out | refine Below.alloc ?_ (by first | omega | (simp; omega)) _ | refine Below.setCell ?_ (by simp) _)⟩
            · have HV := Lib.hid (show prtOk _ k = false from hv.trans (by simp [ha]))
              clear hv
              have HE := Lib.hid (prt_bad (l := l) (k := k) (by rw [HL.out]; exact hlt) ((prtAt_eq HX.out).trans HV.out))
              go_wp2_with (go_at_call 26; refine (within_any _ _ _ _).mono ?_; rintro e w' ⟨rfl, rfl⟩)
              go_ret
              exact ⟨retB HE.out.symm, by repeat (first | exact HB.out | refine Below.alloc ?_ (by first | omega | (simp; omega)) _ | refine Below.setCell ?_ (by simp) _)⟩
          · rw [noText_n hx0] at hv
            have HV := Lib.hid (show prtOk _ k = false from hv.trans (by simp))
            clear hv
            have HE := Lib.hid (prt_bad (l := l) (k := k) (by rw [HL.out]; exact hlt) ((prtAt_eq HX.out).trans HV.out))
            go_wp2_with (go_at_call 26; refine (within_any _ _ _ _).mono ?_; rintro e w' ⟨rfl, rfl⟩)
            go_ret
            exact ⟨retB HE.out.symm, by repeat (first | exact HB.out | refine Below.alloc ?_ (by first | omega | (simp; omega)) _ | refine Below.setCell ?_ (by simp) _)⟩
        by_cases h2 : kd = 2
        · subst h2
          clear h1
          have hv : prtOk ⟨2, x, a, b⟩ k = (noText x && a == 0 && b == 0) := rfl
          by_cases hx0 : x.toList = []
          · rw [noText_y hx0] at hv
            by_cases ha : a = 0
            · subst ha
              by_cases hb : b = 0
              · subst hb
                have HKK := Lib.hid (HKN.out hv)
                have HCN := Lib.hid (cnt_no (n := n) HX.out (use_no rfl rfl))
                clear hv
                go_wp2
                go_roundw
                case rel => exact ⟨k + 1, by omega, by go_num, HKK.out, by rw [HCN.out]; exact (HO.out.alloc _).alloc _, by repeat (first | exact HB.out | refine Below.alloc ?_ (by first | omega | (simp; omega)) _ | refine Below.setCell ?_ (by simp) _), by simp; omega⟩
                case measure => simp [intOf]; omega
              · have HV := Lib.hid (show prtOk _ k = false from hv.trans (by simp [hb]))
                clear hv
                have HE := Lib.hid (prt_bad (l := l) (k := k) (by rw [HL.out]; exact hlt) ((prtAt_eq HX.out).trans HV.out))
                go_wp2_with (go_at_call 26; refine (within_any _ _ _ _).mono ?_; rintro e w' ⟨rfl, rfl⟩)
                go_ret
                exact ⟨retB HE.out.symm, by repeat (first | exact HB.out | refine Below.alloc ?_ (by first | omega | (simp; omega)) _ | refine Below.setCell ?_ (by simp) _)⟩
            · have HV := Lib.hid (show prtOk _ k = false from hv.trans (by simp [ha]))
              clear hv
              have HE := Lib.hid (prt_bad (l := l) (k := k) (by rw [HL.out]; exact hlt) ((prtAt_eq HX.out).trans HV.out))
              go_wp2_with (go_at_call 26; refine (within_any _ _ _ _).mono ?_; rintro e w' ⟨rfl, rfl⟩)
              go_ret
              exact ⟨retB HE.out.symm, by repeat (first | exact HB.out | refine Below.alloc ?_ (by first | omega | (simp; omega)) _ | refine Below.setCell ?_ (by simp) _)⟩
          · rw [noText_n hx0] at hv
            have HV := Lib.hid (show prtOk _ k = false from hv.trans (by simp))
            clear hv
            have HE := Lib.hid (prt_bad (l := l) (k := k) (by rw [HL.out]; exact hlt) ((prtAt_eq HX.out).trans HV.out))
            go_wp2_with (go_at_call 26; refine (within_any _ _ _ _).mono ?_; rintro e w' ⟨rfl, rfl⟩)
            go_ret
            exact ⟨retB HE.out.symm, by repeat (first | exact HB.out | refine Below.alloc ?_ (by first | omega | (simp; omega)) _ | refine Below.setCell ?_ (by simp) _)⟩
        by_cases h4 : kd = 4
        · subst h4
          clear h1 h2
          have hv : prtOk ⟨4, x, a, b⟩ k = (noText x && a == 0 && b == 0) := rfl
          by_cases hx0 : x.toList = []
          · rw [noText_y hx0] at hv
            by_cases ha : a = 0
            · subst ha
              by_cases hb : b = 0
              · subst hb
                have HKK := Lib.hid (HKN.out hv)
                have HCN := Lib.hid (cnt_no (n := n) HX.out (use_no rfl rfl))
                clear hv
                go_wp2
                go_roundw
                case rel => exact ⟨k + 1, by omega, by go_num, HKK.out, by rw [HCN.out]; exact (HO.out.alloc _).alloc _, by repeat (first | exact HB.out | refine Below.alloc ?_ (by first | omega | (simp; omega)) _ | refine Below.setCell ?_ (by simp) _), by simp; omega⟩
                case measure => simp [intOf]; omega
              · have HV := Lib.hid (show prtOk _ k = false from hv.trans (by simp [hb]))
                clear hv
                have HE := Lib.hid (prt_bad (l := l) (k := k) (by rw [HL.out]; exact hlt) ((prtAt_eq HX.out).trans HV.out))
                go_wp2_with (go_at_call 26; refine (within_any _ _ _ _).mono ?_; rintro e w' ⟨rfl, rfl⟩)
                go_ret
                exact ⟨retB HE.out.symm, by repeat (first | exact HB.out | refine Below.alloc ?_ (by first | omega | (simp; omega)) _ | refine Below.setCell ?_ (by simp) _)⟩
            · have HV := Lib.hid (show prtOk _ k = false from hv.trans (by simp [ha]))
              clear hv
              have HE := Lib.hid (prt_bad (l := l) (k := k) (by rw [HL.out]; exact hlt) ((prtAt_eq HX.out).trans HV.out))
              go_wp2_with (go_at_call 26; refine (within_any _ _ _ _).mono ?_; rintro e w' ⟨rfl, rfl⟩)
              go_ret
              exact ⟨retB HE.out.symm, by repeat (first | exact HB.out | refine Below.alloc ?_ (by first | omega | (simp; omega)) _ | refine Below.setCell ?_ (by simp) _)⟩
          · rw [noText_n hx0] at hv
            have HV := Lib.hid (show prtOk _ k = false from hv.trans (by simp))
            clear hv
            have HE := Lib.hid (prt_bad (l := l) (k := k) (by rw [HL.out]; exact hlt) ((prtAt_eq HX.out).trans HV.out))
            go_wp2_with (go_at_call 26; refine (within_any _ _ _ _).mono ?_; rintro e w' ⟨rfl, rfl⟩)
            go_ret
            exact ⟨retB HE.out.symm, by repeat (first | exact HB.out | refine Below.alloc ?_ (by first | omega | (simp; omega)) _ | refine Below.setCell ?_ (by simp) _)⟩
        by_cases h7 : kd = 7
        · subst h7
          clear h1 h2 h4
          have hv : prtOk ⟨7, x, a, b⟩ k = (noText x && inB a 0 ((k : Int) - 1) && b == 0) := rfl
          have hua : ∀ p, inB a 0 ((k : Int) - 1) = p → p = false ∨ (p = true ∧ ∃ a' : Nat, a = a' ∧ a' < k) := by
            intro p hp
            cases p with
            | false => exact .inl rfl
            | true => exact .inr ⟨rfl, in_nat hp⟩
          obtain ⟨pa, hpa⟩ : ∃ p, inB a 0 ((k : Int) - 1) = p := ⟨_, rfl⟩
          rcases hua pa hpa with rfl | ⟨rfl, a', rfl, ha'⟩
          · have HV := Lib.hid (show prtOk _ k = false from hv.trans (by simp [hpa]))
            clear hv hua
            have HE := Lib.hid (prt_bad (l := l) (k := k) (by rw [HL.out]; exact hlt) ((prtAt_eq HX.out).trans HV.out))
            go_wp2_with (go_at_call 26; refine (within_any _ _ _ _).mono ?_; rintro e w' ⟨rfl, rfl⟩)
            go_ret
            exact ⟨retB HE.out.symm, by repeat (first | exact HB.out | refine Below.alloc ?_ (by first | omega | (simp; omega)) _ | refine Below.setCell ?_ (by simp) _)⟩
          · rw [hpa] at hv
            clear hua
            obtain ⟨z, hz, hcz0, hfz0, hoz⟩ := own_bump HO.out (show a' < n by omega)
            have hcz : ((wr.alloc (.cells #[.int .i64 7, .string x, .int .i64 a', .int .i64 b] 50)).alloc (.cells #[.int .i64 7, .string ⟨#[]⟩, .int .i64 a', .int .i64 0] 50)).cell? ⟨w.heap.size, a', none⟩ = some (.int .i64 z) := (World.cell?_alloc_lt _ _ _ (by simp; omega)).trans ((World.cell?_alloc_lt _ _ _ (by simpa using hgl)).trans hcz0)
            have hfz : ((wr.alloc (.cells #[.int .i64 7, .string x, .int .i64 a', .int .i64 b] 50)).alloc (.cells #[.int .i64 7, .string ⟨#[]⟩, .int .i64 a', .int .i64 0] 50)).frozen? ⟨w.heap.size, a', none⟩ = false := (World.frozen?_alloc_past _ _ _ (by simp; omega)).trans ((World.frozen?_alloc_past _ _ _ (by first | omega | (simp; omega))).trans hfz0)
            have hza : 0 ≤ z ∧ z ≤ 2097152 := by
              rw [cntL_get (by omega)] at hz
              injection hz with hz
              have := usesOf_le (l.take k) a'
              have h2 : (l.take k).length ≤ k := by rw [List.length_take]; omega
              omega
            have HOZ := Lib.hid hoz
            clear hoz hz hcz0 hfz0
            by_cases hx0 : x.toList = []
            · rw [noText_y hx0] at hv
              by_cases hb : b = 0
              · subst hb
                have HKK := Lib.hid (HKN.out hv)
                have HCN := Lib.hid (cnt_one (n := n) HX.out (use_one rfl rfl))
                clear hv
                go_wp2_with (go_at_call 26; refine (within_any _ _ _ _).mono ?_; rintro e w' ⟨rfl, rfl⟩)
                go_roundw
                case rel => exact ⟨k + 1, by omega, by go_num, HKK.out, by rw [HCN.out]; exact (HOZ.out.alloc _).alloc _, by repeat (first | exact HB.out | refine Below.alloc ?_ (by first | omega | (simp; omega)) _ | refine Below.setCell ?_ (by simp) _), by simp; omega⟩
                case measure => simp [intOf]; omega
              · have HV := Lib.hid (show prtOk _ k = false from hv.trans (by simp [hb]))
                clear hv
                have HE := Lib.hid (prt_bad (l := l) (k := k) (by rw [HL.out]; exact hlt) ((prtAt_eq HX.out).trans HV.out))
                go_wp2_with (go_at_call 26; refine (within_any _ _ _ _).mono ?_; rintro e w' ⟨rfl, rfl⟩)
                go_ret
                exact ⟨retB HE.out.symm, by repeat (first | exact HB.out | refine Below.alloc ?_ (by first | omega | (simp; omega)) _ | refine Below.setCell ?_ (by simp) _)⟩
            · rw [noText_n hx0] at hv
              have HV := Lib.hid (show prtOk _ k = false from hv.trans (by simp))
              clear hv
              have HE := Lib.hid (prt_bad (l := l) (k := k) (by rw [HL.out]; exact hlt) ((prtAt_eq HX.out).trans HV.out))
              go_wp2_with (go_at_call 26; refine (within_any _ _ _ _).mono ?_; rintro e w' ⟨rfl, rfl⟩)
              go_ret
              exact ⟨retB HE.out.symm, by repeat (first | exact HB.out | refine Below.alloc ?_ (by first | omega | (simp; omega)) _ | refine Below.setCell ?_ (by simp) _)⟩
        by_cases h8 : kd = 8
        · subst h8
          clear h1 h2 h4 h7
          have hv : prtOk ⟨8, x, a, b⟩ k = (noText x && inB a 0 ((k : Int) - 1) && b == 0) := rfl
          have hua : ∀ p, inB a 0 ((k : Int) - 1) = p → p = false ∨ (p = true ∧ ∃ a' : Nat, a = a' ∧ a' < k) := by
            intro p hp
            cases p with
            | false => exact .inl rfl
            | true => exact .inr ⟨rfl, in_nat hp⟩
          obtain ⟨pa, hpa⟩ : ∃ p, inB a 0 ((k : Int) - 1) = p := ⟨_, rfl⟩
          rcases hua pa hpa with rfl | ⟨rfl, a', rfl, ha'⟩
          · have HV := Lib.hid (show prtOk _ k = false from hv.trans (by simp [hpa]))
            clear hv hua
            have HE := Lib.hid (prt_bad (l := l) (k := k) (by rw [HL.out]; exact hlt) ((prtAt_eq HX.out).trans HV.out))
            go_wp2_with (go_at_call 26; refine (within_any _ _ _ _).mono ?_; rintro e w' ⟨rfl, rfl⟩)
            go_ret
            exact ⟨retB HE.out.symm, by repeat (first | exact HB.out | refine Below.alloc ?_ (by first | omega | (simp; omega)) _ | refine Below.setCell ?_ (by simp) _)⟩
          · rw [hpa] at hv
            clear hua
            obtain ⟨z, hz, hcz0, hfz0, hoz⟩ := own_bump HO.out (show a' < n by omega)
            have hcz : ((wr.alloc (.cells #[.int .i64 8, .string x, .int .i64 a', .int .i64 b] 50)).alloc (.cells #[.int .i64 8, .string ⟨#[]⟩, .int .i64 a', .int .i64 0] 50)).cell? ⟨w.heap.size, a', none⟩ = some (.int .i64 z) := (World.cell?_alloc_lt _ _ _ (by simp; omega)).trans ((World.cell?_alloc_lt _ _ _ (by simpa using hgl)).trans hcz0)
            have hfz : ((wr.alloc (.cells #[.int .i64 8, .string x, .int .i64 a', .int .i64 b] 50)).alloc (.cells #[.int .i64 8, .string ⟨#[]⟩, .int .i64 a', .int .i64 0] 50)).frozen? ⟨w.heap.size, a', none⟩ = false := (World.frozen?_alloc_past _ _ _ (by simp; omega)).trans ((World.frozen?_alloc_past _ _ _ (by first | omega | (simp; omega))).trans hfz0)
            have hza : 0 ≤ z ∧ z ≤ 2097152 := by
              rw [cntL_get (by omega)] at hz
              injection hz with hz
              have := usesOf_le (l.take k) a'
              have h2 : (l.take k).length ≤ k := by rw [List.length_take]; omega
              omega
            have HOZ := Lib.hid hoz
            clear hoz hz hcz0 hfz0
            by_cases hx0 : x.toList = []
            · rw [noText_y hx0] at hv
              by_cases hb : b = 0
              · subst hb
                have HKK := Lib.hid (HKN.out hv)
                have HCN := Lib.hid (cnt_one (n := n) HX.out (use_one rfl rfl))
                clear hv
                go_wp2_with (go_at_call 26; refine (within_any _ _ _ _).mono ?_; rintro e w' ⟨rfl, rfl⟩)
                go_roundw
                case rel => exact ⟨k + 1, by omega, by go_num, HKK.out, by rw [HCN.out]; exact (HOZ.out.alloc _).alloc _, by repeat (first | exact HB.out | refine Below.alloc ?_ (by first | omega | (simp; omega)) _ | refine Below.setCell ?_ (by simp) _), by simp; omega⟩
                case measure => simp [intOf]; omega
              · have HV := Lib.hid (show prtOk _ k = false from hv.trans (by simp [hb]))
                clear hv
                have HE := Lib.hid (prt_bad (l := l) (k := k) (by rw [HL.out]; exact hlt) ((prtAt_eq HX.out).trans HV.out))
                go_wp2_with (go_at_call 26; refine (within_any _ _ _ _).mono ?_; rintro e w' ⟨rfl, rfl⟩)
                go_ret
                exact ⟨retB HE.out.symm, by repeat (first | exact HB.out | refine Below.alloc ?_ (by first | omega | (simp; omega)) _ | refine Below.setCell ?_ (by simp) _)⟩
            · rw [noText_n hx0] at hv
              have HV := Lib.hid (show prtOk _ k = false from hv.trans (by simp))
              clear hv
              have HE := Lib.hid (prt_bad (l := l) (k := k) (by rw [HL.out]; exact hlt) ((prtAt_eq HX.out).trans HV.out))
              go_wp2_with (go_at_call 26; refine (within_any _ _ _ _).mono ?_; rintro e w' ⟨rfl, rfl⟩)
              go_ret
              exact ⟨retB HE.out.symm, by repeat (first | exact HB.out | refine Below.alloc ?_ (by first | omega | (simp; omega)) _ | refine Below.setCell ?_ (by simp) _)⟩
        by_cases h5 : kd = 5
        · subst h5
          clear h1 h2 h4 h7 h8
          have hv : prtOk ⟨5, x, a, b⟩ k = (noText x && inB a 0 ((k : Int) - 1) && inB b 0 ((k : Int) - 1)) := rfl
          have hua : ∀ a p, inB a 0 ((k : Int) - 1) = p → p = false ∨ (p = true ∧ ∃ a' : Nat, a = a' ∧ a' < k) := by
            intro a p hp
            cases p with
            | false => exact .inl rfl
            | true => exact .inr ⟨rfl, in_nat hp⟩
          obtain ⟨pa, hpa⟩ : ∃ p, inB a 0 ((k : Int) - 1) = p := ⟨_, rfl⟩
          rcases hua a pa hpa with rfl | ⟨rfl, a', rfl, ha'⟩
          · have HV := Lib.hid (show prtOk _ k = false from hv.trans (by simp [hpa]))
            clear hv hua
            have HE := Lib.hid (prt_bad (l := l) (k := k) (by rw [HL.out]; exact hlt) ((prtAt_eq HX.out).trans HV.out))
            go_wp2_with (go_at_call 26; refine (within_any _ _ _ _).mono ?_; rintro e w' ⟨rfl, rfl⟩)
            go_ret
            exact ⟨retB HE.out.symm, by repeat (first | exact HB.out | refine Below.alloc ?_ (by first | omega | (simp; omega)) _ | refine Below.setCell ?_ (by simp) _)⟩
          · rw [hpa] at hv
            obtain ⟨z, hz, hcz0, hfz0, hoz⟩ := own_bump HO.out (show a' < n by omega)
            have hcz : ((wr.alloc (.cells #[.int .i64 5, .string x, .int .i64 a', .int .i64 b] 50)).alloc (.cells #[.int .i64 5, .string ⟨#[]⟩, .int .i64 a', .int .i64 0] 50)).cell? ⟨w.heap.size, a', none⟩ = some (.int .i64 z) := (World.cell?_alloc_lt _ _ _ (by simp; omega)).trans ((World.cell?_alloc_lt _ _ _ (by simpa using hgl)).trans hcz0)
            have hfz : ((wr.alloc (.cells #[.int .i64 5, .string x, .int .i64 a', .int .i64 b] 50)).alloc (.cells #[.int .i64 5, .string ⟨#[]⟩, .int .i64 a', .int .i64 0] 50)).frozen? ⟨w.heap.size, a', none⟩ = false := (World.frozen?_alloc_past _ _ _ (by simp; omega)).trans ((World.frozen?_alloc_past _ _ _ (by first | omega | (simp; omega))).trans hfz0)
            have hza : 0 ≤ z ∧ z ≤ 2097152 := by
              rw [cntL_get (by omega)] at hz
              injection hz with hz
              have := usesOf_le (l.take k) a'
              have h2 : (l.take k).length ≤ k := by rw [List.length_take]; omega
              omega
            obtain ⟨pb, hpb⟩ : ∃ p, inB b 0 ((k : Int) - 1) = p := ⟨_, rfl⟩
            rcases hua b pb hpb with rfl | ⟨rfl, b', rfl, hb'⟩
            · have HV := Lib.hid (show prtOk _ k = false from hv.trans (by simp [hpb]))
              clear hv hua hoz hz hcz0 hfz0
              have HE := Lib.hid (prt_bad (l := l) (k := k) (by rw [HL.out]; exact hlt) ((prtAt_eq HX.out).trans HV.out))
              go_wp2_with (go_at_call 26; refine (within_any _ _ _ _).mono ?_; rintro e w' ⟨rfl, rfl⟩)
              go_ret
              exact ⟨retB HE.out.symm, by repeat (first | exact HB.out | refine Below.alloc ?_ (by first | omega | (simp; omega)) _ | refine Below.setCell ?_ (by simp) _)⟩
            · rw [hpb] at hv
              clear hua
              obtain ⟨y, hy, hcy0, hfy0, hoy⟩ := own_bump hoz (show b' < n by omega)
              have hcy : (((wr.setCell ⟨w.heap.size, a', none⟩ (.int .i64 (z + 1))).alloc (.cells #[.int .i64 5, .string x, .int .i64 a', .int .i64 b'] 50)).alloc (.cells #[.int .i64 5, .string ⟨#[]⟩, .int .i64 a', .int .i64 b'] 50)).cell? ⟨w.heap.size, b', none⟩ = some (.int .i64 y) := (World.cell?_alloc_lt _ _ _ (by simp; omega)).trans ((World.cell?_alloc_lt _ _ _ (by simpa using hgl)).trans hcy0)
              have hfy : (((wr.setCell ⟨w.heap.size, a', none⟩ (.int .i64 (z + 1))).alloc (.cells #[.int .i64 5, .string x, .int .i64 a', .int .i64 b'] 50)).alloc (.cells #[.int .i64 5, .string ⟨#[]⟩, .int .i64 a', .int .i64 b'] 50)).frozen? ⟨w.heap.size, b', none⟩ = false := (World.frozen?_alloc_past _ _ _ (by simp; omega)).trans ((World.frozen?_alloc_past _ _ _ (by first | omega | (simp; omega))).trans hfy0)
              have hyb : 0 ≤ y ∧ y ≤ 2097153 := by
                rw [bump_get (cntL_get (show b' < n by omega))] at hy
                injection hy with hy
                have := usesOf_le (l.take k) b'
                have h2 : (l.take k).length ≤ k := by rw [List.length_take]; omega
                split at hy <;> omega
              have HOY := Lib.hid hoy
              clear hoz hz hoy hy hcz0 hfz0 hcy0 hfy0
              by_cases hx0 : x.toList = []
              · rw [noText_y hx0] at hv
                have HKK := Lib.hid (HKN.out hv)
                have HCN := Lib.hid (cnt_two (n := n) HX.out (use_two' rfl))
                clear hv
                go_wp2_with (go_at_call 26; refine (within_any _ _ _ _).mono ?_; rintro e w' ⟨rfl, rfl⟩)
                go_roundw
                case rel => exact ⟨k + 1, by omega, by go_num, HKK.out, by rw [HCN.out]; exact (HOY.out.alloc _).alloc _, by repeat (first | exact HB.out | refine Below.alloc ?_ (by first | omega | (simp; omega)) _ | refine Below.setCell ?_ (by simp) _), by simp; omega⟩
                case measure => simp [intOf]; omega
              · rw [noText_n hx0] at hv
                have HV := Lib.hid (show prtOk _ k = false from hv.trans (by simp))
                clear hv
                have HE := Lib.hid (prt_bad (l := l) (k := k) (by rw [HL.out]; exact hlt) ((prtAt_eq HX.out).trans HV.out))
                go_wp2_with (go_at_call 26; refine (within_any _ _ _ _).mono ?_; rintro e w' ⟨rfl, rfl⟩)
                go_ret
                exact ⟨retB HE.out.symm, by repeat (first | exact HB.out | refine Below.alloc ?_ (by first | omega | (simp; omega)) _ | refine Below.setCell ?_ (by simp) _)⟩
        by_cases h6 : kd = 6
        · subst h6
          clear h1 h2 h4 h7 h8 h5
          have hv : prtOk ⟨6, x, a, b⟩ k = (noText x && inB a 0 ((k : Int) - 1) && inB b 0 ((k : Int) - 1)) := rfl
          have hua : ∀ a p, inB a 0 ((k : Int) - 1) = p → p = false ∨ (p = true ∧ ∃ a' : Nat, a = a' ∧ a' < k) := by
            intro a p hp
            cases p with
            | false => exact .inl rfl
            | true => exact .inr ⟨rfl, in_nat hp⟩
          obtain ⟨pa, hpa⟩ : ∃ p, inB a 0 ((k : Int) - 1) = p := ⟨_, rfl⟩
          rcases hua a pa hpa with rfl | ⟨rfl, a', rfl, ha'⟩
          · have HV := Lib.hid (show prtOk _ k = false from hv.trans (by simp [hpa]))
            clear hv hua
            have HE := Lib.hid (prt_bad (l := l) (k := k) (by rw [HL.out]; exact hlt) ((prtAt_eq HX.out).trans HV.out))
            go_wp2_with (go_at_call 26; refine (within_any _ _ _ _).mono ?_; rintro e w' ⟨rfl, rfl⟩)
            go_ret
            exact ⟨retB HE.out.symm, by repeat (first | exact HB.out | refine Below.alloc ?_ (by first | omega | (simp; omega)) _ | refine Below.setCell ?_ (by simp) _)⟩
          · rw [hpa] at hv
            obtain ⟨z, hz, hcz0, hfz0, hoz⟩ := own_bump HO.out (show a' < n by omega)
            have hcz : ((wr.alloc (.cells #[.int .i64 6, .string x, .int .i64 a', .int .i64 b] 50)).alloc (.cells #[.int .i64 6, .string ⟨#[]⟩, .int .i64 a', .int .i64 0] 50)).cell? ⟨w.heap.size, a', none⟩ = some (.int .i64 z) := (World.cell?_alloc_lt _ _ _ (by simp; omega)).trans ((World.cell?_alloc_lt _ _ _ (by simpa using hgl)).trans hcz0)
            have hfz : ((wr.alloc (.cells #[.int .i64 6, .string x, .int .i64 a', .int .i64 b] 50)).alloc (.cells #[.int .i64 6, .string ⟨#[]⟩, .int .i64 a', .int .i64 0] 50)).frozen? ⟨w.heap.size, a', none⟩ = false := (World.frozen?_alloc_past _ _ _ (by simp; omega)).trans ((World.frozen?_alloc_past _ _ _ (by first | omega | (simp; omega))).trans hfz0)
            have hza : 0 ≤ z ∧ z ≤ 2097152 := by
              rw [cntL_get (by omega)] at hz
              injection hz with hz
              have := usesOf_le (l.take k) a'
              have h2 : (l.take k).length ≤ k := by rw [List.length_take]; omega
              omega
            obtain ⟨pb, hpb⟩ : ∃ p, inB b 0 ((k : Int) - 1) = p := ⟨_, rfl⟩
            rcases hua b pb hpb with rfl | ⟨rfl, b', rfl, hb'⟩
            · have HV := Lib.hid (show prtOk _ k = false from hv.trans (by simp [hpb]))
              clear hv hua hoz hz hcz0 hfz0
              have HE := Lib.hid (prt_bad (l := l) (k := k) (by rw [HL.out]; exact hlt) ((prtAt_eq HX.out).trans HV.out))
              go_wp2_with (go_at_call 26; refine (within_any _ _ _ _).mono ?_; rintro e w' ⟨rfl, rfl⟩)
              go_ret
              exact ⟨retB HE.out.symm, by repeat (first | exact HB.out | refine Below.alloc ?_ (by first | omega | (simp; omega)) _ | refine Below.setCell ?_ (by simp) _)⟩
            · rw [hpb] at hv
              clear hua
              obtain ⟨y, hy, hcy0, hfy0, hoy⟩ := own_bump hoz (show b' < n by omega)
              have hcy : (((wr.setCell ⟨w.heap.size, a', none⟩ (.int .i64 (z + 1))).alloc (.cells #[.int .i64 6, .string x, .int .i64 a', .int .i64 b'] 50)).alloc (.cells #[.int .i64 6, .string ⟨#[]⟩, .int .i64 a', .int .i64 b'] 50)).cell? ⟨w.heap.size, b', none⟩ = some (.int .i64 y) := (World.cell?_alloc_lt _ _ _ (by simp; omega)).trans ((World.cell?_alloc_lt _ _ _ (by simpa using hgl)).trans hcy0)
              have hfy : (((wr.setCell ⟨w.heap.size, a', none⟩ (.int .i64 (z + 1))).alloc (.cells #[.int .i64 6, .string x, .int .i64 a', .int .i64 b'] 50)).alloc (.cells #[.int .i64 6, .string ⟨#[]⟩, .int .i64 a', .int .i64 b'] 50)).frozen? ⟨w.heap.size, b', none⟩ = false := (World.frozen?_alloc_past _ _ _ (by simp; omega)).trans ((World.frozen?_alloc_past _ _ _ (by first | omega | (simp; omega))).trans hfy0)
              have hyb : 0 ≤ y ∧ y ≤ 2097153 := by
                rw [bump_get (cntL_get (show b' < n by omega))] at hy
                injection hy with hy
                have := usesOf_le (l.take k) b'
                have h2 : (l.take k).length ≤ k := by rw [List.length_take]; omega
                split at hy <;> omega
              have HOY := Lib.hid hoy
              clear hoz hz hoy hy hcz0 hfz0 hcy0 hfy0
              by_cases hx0 : x.toList = []
              · rw [noText_y hx0] at hv
                have HKK := Lib.hid (HKN.out hv)
                have HCN := Lib.hid (cnt_two (n := n) HX.out (use_two' rfl))
                clear hv
                go_wp2_with (go_at_call 26; refine (within_any _ _ _ _).mono ?_; rintro e w' ⟨rfl, rfl⟩)
                go_roundw
                case rel => exact ⟨k + 1, by omega, by go_num, HKK.out, by rw [HCN.out]; exact (HOY.out.alloc _).alloc _, by repeat (first | exact HB.out | refine Below.alloc ?_ (by first | omega | (simp; omega)) _ | refine Below.setCell ?_ (by simp) _), by simp; omega⟩
                case measure => simp [intOf]; omega
              · rw [noText_n hx0] at hv
                have HV := Lib.hid (show prtOk _ k = false from hv.trans (by simp))
                clear hv
                have HE := Lib.hid (prt_bad (l := l) (k := k) (by rw [HL.out]; exact hlt) ((prtAt_eq HX.out).trans HV.out))
                go_wp2_with (go_at_call 26; refine (within_any _ _ _ _).mono ?_; rintro e w' ⟨rfl, rfl⟩)
                go_ret
                exact ⟨retB HE.out.symm, by repeat (first | exact HB.out | refine Below.alloc ?_ (by first | omega | (simp; omega)) _ | refine Below.setCell ?_ (by simp) _)⟩
        by_cases h3 : kd = 3
        · subst h3
          clear h1 h2 h4 h7 h8 h5 h6
          have hv : prtOk ⟨3, x, a, b⟩ k = (decide (x.data.toList.length = 1) && lettersB x.data.toList && a == 0 && b == 0) := rfl
          by_cases hl : x.size = 1
          · have h0 : 0 < x.size := by omega
            have hxl := one_list hl h0
            have hv2 : prtOk ⟨3, x, a, b⟩ k = (letC x[0] && a == 0 && b == 0) := by rw [hv, hxl]; simp [lettersB, letC]
            have hlt2 := x[0].toNat_lt
            have hl3 : (x.size : Int) = 1 := by omega
            clear hv hxl
            by_cases hc : (97 : Int) ≤ (x[0].toNat : Int) ∧ (x[0].toNat : Int) ≤ 122
            · obtain ⟨hca, hcb⟩ := hc
              have hlc : letC x[0] = true := by unfold letC; simp; omega
              rw [hlc] at hv2
              clear hlc
              by_cases ha : a = 0
              · subst ha
                by_cases hb : b = 0
                · subst hb
                  have HKK := Lib.hid (HKN.out hv2)
                  have HCN := Lib.hid (cnt_no (n := n) HX.out (use_no rfl rfl))
                  clear hv2
                  go_wp2
                  go_roundw
                  case rel => exact ⟨k + 1, by omega, by go_num, HKK.out, by rw [HCN.out]; exact (HO.out.alloc _).alloc _, by repeat (first | exact HB.out | refine Below.alloc ?_ (by first | omega | (simp; omega)) _ | refine Below.setCell ?_ (by simp) _), by simp; omega⟩
                  case measure => simp [intOf]; omega
                · have HV := Lib.hid (show prtOk _ k = false from hv2.trans (by simp [hb]))
                  clear hv2
                  have HE := Lib.hid (prt_bad (l := l) (k := k) (by rw [HL.out]; exact hlt) ((prtAt_eq HX.out).trans HV.out))
                  go_wp2_with (go_at_call 26; refine (within_any _ _ _ _).mono ?_; rintro e w' ⟨rfl, rfl⟩)
                  go_ret
                  exact ⟨retB HE.out.symm, by repeat (first | exact HB.out | refine Below.alloc ?_ (by first | omega | (simp; omega)) _ | refine Below.setCell ?_ (by simp) _)⟩
              · have HV := Lib.hid (show prtOk _ k = false from hv2.trans (by simp [ha]))
                clear hv2
                have HE := Lib.hid (prt_bad (l := l) (k := k) (by rw [HL.out]; exact hlt) ((prtAt_eq HX.out).trans HV.out))
                go_wp2_with (go_at_call 26; refine (within_any _ _ _ _).mono ?_; rintro e w' ⟨rfl, rfl⟩)
                go_ret
                exact ⟨retB HE.out.symm, by repeat (first | exact HB.out | refine Below.alloc ?_ (by first | omega | (simp; omega)) _ | refine Below.setCell ?_ (by simp) _)⟩
            · have hlc : letC x[0] = false := by unfold letC; simp; omega
              have HV := Lib.hid (show prtOk _ k = false from hv2.trans (by simp [hlc]))
              have hc' : (x[0].toNat : Int) < 97 ∨ 122 < (x[0].toNat : Int) := by omega
              clear hv2 hlc hc
              rcases hc' with hc' | hc'
              · skip
                have HE := Lib.hid (prt_bad (l := l) (k := k) (by rw [HL.out]; exact hlt) ((prtAt_eq HX.out).trans HV.out))
                go_wp2_with (go_at_call 26; refine (within_any _ _ _ _).mono ?_; rintro e w' ⟨rfl, rfl⟩)
                go_ret
                exact ⟨retB HE.out.symm, by repeat (first | exact HB.out | refine Below.alloc ?_ (by first | omega | (simp; omega)) _ | refine Below.setCell ?_ (by simp) _)⟩
              · have hc2 : ¬ (x[0].toNat : Int) < 97 := by omega
                have HE := Lib.hid (prt_bad (l := l) (k := k) (by rw [HL.out]; exact hlt) ((prtAt_eq HX.out).trans HV.out))
                go_wp2_with (go_at_call 26; refine (within_any _ _ _ _).mono ?_; rintro e w' ⟨rfl, rfl⟩)
                go_ret
                exact ⟨retB HE.out.symm, by repeat (first | exact HB.out | refine Below.alloc ?_ (by first | omega | (simp; omega)) _ | refine Below.setCell ?_ (by simp) _)⟩
          · have hl2 : ¬ x.data.toList.length = 1 := by rw [Array.length_toList]; exact hl
            have HV := Lib.hid (show prtOk _ k = false from hv.trans (by rw [decide_eq_false hl2]; simp))
            have hl3 : ¬ (x.size : Int) = 1 := by omega
            clear hv hl2 hl
            have HE := Lib.hid (prt_bad (l := l) (k := k) (by rw [HL.out]; exact hlt) ((prtAt_eq HX.out).trans HV.out))
            go_wp2_with (go_at_call 26; refine (within_any _ _ _ _).mono ?_; rintro e w' ⟨rfl, rfl⟩)
            go_ret
            exact ⟨retB HE.out.symm, by repeat (first | exact HB.out | refine Below.alloc ?_ (by first | omega | (simp; omega)) _ | refine Below.setCell ?_ (by simp) _)⟩
        · have hv : prtOk ⟨kd, x, a, b⟩ k = false := by
            have e1 : twK kd = false := by unfold twK; simp; omega
            have e2 : onK kd = false := by unfold onK; simp; omega
            have e3 : inB kd 1 4 = false := by rw [← Bool.not_eq_true]; intro h; have := inB_iff.1 h; omega
            unfold prtOk
            rw [if_neg (by rw [e1]; simp), if_neg (by rw [e2]; simp), if_neg (by simpa using h3), e3]; simp
          have HV := Lib.hid hv
          clear hv
          have HE := Lib.hid (prt_bad (l := l) (k := k) (by rw [HL.out]; exact hlt) ((prtAt_eq HX.out).trans HV.out))
          go_wp2_with (go_at_call 26; refine (within_any _ _ _ _).mono ?_; rintro e w' ⟨rfl, rfl⟩)
          go_ret
          exact ⟨retB HE.out.symm, by repeat (first | exact HB.out | refine Below.alloc ?_ (by first | omega | (simp; omega)) _ | refine Below.setCell ?_ (by simp) _)⟩
      · have hk' : k = n := by omega
        subst hk'
        have ht : l.take k = l := List.take_of_length_le (by rw [HL.out]; exact Nat.le_refl _)
        have ho := HO.out
        rw [ht] at ho
        have hrd := (Rd.of_own ho).pre (k := k - 1) (by omega)
        simp only [Nat.mul_one] at hrd
        have e1 : (ints (cntL l k)).take (k - 1) = ints ((cntL l k).take (k - 1)) := by simp [ints, List.map_take]
        rw [e1] at hrd
        have CH := Lib.hid (hasNe_any wr.heap.size (some ⟨w.heap.size, 0, none⟩) (k - 1) k ((cntL l k).take (k - 1)) wr (Nat.le_refl _) hrd (by omega))
        have HE := Lib.hid (show (!((cntL l k).take (k - 1)).any ne1) = goodPrt l by
          rw [any_cnt HL.out, Bool.not_not, prt_done (by rw [HL.out]; exact HK.out) (by rw [HL.out]; exact HVN.out)])
        have hkk : ((k : Int) - 1) = ((k - 1 : Nat) : Int) := by omega
        clear ho hrd e1 ht
        go_wp2_with fail
        refine CH.out.mono ?_
        rintro e w5 ⟨rfl, rfl⟩
        go_wp2
        go_ret
        exact ⟨retB HE.out, HB.out⟩
end Go.Proofs.Ytbpeceejboojoaa
