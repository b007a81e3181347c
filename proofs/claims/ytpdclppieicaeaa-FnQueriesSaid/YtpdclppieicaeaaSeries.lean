/- Series: valid ones, and the numbers of those that have a label: the reference's and the program's walks. -/
import Derived.Test.YtpdclppieicaeaaLabSS
import Derived.Test.YtpdclppieicaeaaAreLab
import Derived.Test.YtpdclppieicaeaaGoodQry
import Derived.Test.YtpdclppieicaeaaQryPlain
import Derived.Test.YtpdclppieicaeaaGotR
import Derived.Test.YtpdclppieicaeaaHas
import Derived.Deep.QuietTactic
import Derived.BigQuiet
namespace Go.Proofs.Ytpdclppieicaeaa
set_option linter.unusedVariables false
set_option linter.unusedSimpArgs false
open Go.RowKit

def serFit (ls : List (List Lab)) : Prop := ∀ l ∈ ls, lblFit l ∧ l.length ≤ 1048576
def goodSer (ls : List (List Lab)) : Bool := ls.all goodLab && decide (ls.length ≤ 60)
theorem goodSer_bad {ls : List (List Lab)} {k : Nat} {l : List Lab} (h : ls[k]? = some l) (hb : goodLab l = false) : goodSer ls = false := by
  unfold goodSer
  have : ls.all goodLab = false := by
    rw [← Bool.not_eq_true, List.all_eq_true]
    intro hh
    have := hh l (List.mem_of_getElem? h)
    rw [hb] at this; cases this
  rw [this]; rfl
theorem goodSer_all {ls : List (List Lab)} (h : ∀ j l, j < ls.length → ls[j]? = some l → goodLab l = true) : goodSer ls = decide (ls.length ≤ 60) := by
  unfold goodSer
  have : ls.all goodLab = true := by
    rw [List.all_eq_true]
    intro l hl
    obtain ⟨j, hj⟩ := List.mem_iff_getElem?.1 hl
    exact h j l (List.getElem?_eq_some_iff.1 hj).1 hj
  rw [this]; simp
theorem goodSer_at {ls : List (List Lab)} (h : goodSer ls = true) {k : Nat} {l : List Lab} (e : ls[k]? = some l) : goodLab l = true := by
  unfold goodSer at h
  simp only [Bool.and_eq_true, List.all_eq_true] at h
  exact h.1 l (List.mem_of_getElem? e)
theorem goodSer_len {ls : List (List Lab)} (h : goodSer ls = true) : ls.length ≤ 60 := by
  unfold goodSer at h
  simp only [Bool.and_eq_true, decide_eq_true_eq] at h
  exact h.2

set_option maxRecDepth 100000 in
set_option maxHeartbeats 4000000 in
theorem l4Series_any (B : Nat) (A : Option Addr) (n c : Nat) (ls : List (List Lab)) (w : World) (hBw : B ≤ w.heap.size) (h : RdSS w B A n ls) (hn : n ≤ 1048576) (hf : serFit ls) :
    Calls Try.prog 35 #[.slice A n c] w fun e w' => e = .returned (.bool (goodSer ls)) ∧ Below w.heap.size w w' := by
  have HL := Lib.hid h.len
  have H := Lib.hid h
  have HF := Lib.hid hf
  clear h hf
  obtain ⟨R, hR⟩ : ∃ R, R = goodSer ls := ⟨_, rfl⟩
  have HR := Lib.hid hR
  rw [← hR]
  clear hR
  go_enter Try.func35, Try.ntmps35
  go_wp2
  go_loopw [7] (fun i wr => ∃ k : Nat, k ≤ n ∧ i = .int .i64 k ∧ (∀ j l, j < k → ls[j]? = some l → goodLab l = true) ∧ Below w.heap.size w wr) (fun i _ => n - (intOf i).toNat)
  case atStart => exact ⟨0, Nat.zero_le _, rfl, fun j l hj => absurd hj (by omega), Below.refl _ _⟩
  case round =>
    obtain ⟨k, hk, rfl, hok, hb⟩ := hrel
    have HK := Lib.hid hok
    have HB := Lib.hid hb
    have hsz := hb.size
    clear hok hb
    by_cases hlt : k < n
    · obtain ⟨b0, off, A', n', c', l, rfl, hbB, hx, hc0, hrd, _⟩ := H.out.at_ hlt
      have hd0 : wr.cell? ⟨b0, off + k, none⟩ = some (.slice A' n' c') := (bcell HB.out _ _ (by omega)).trans hc0
      have hfit := HF.out l (List.mem_of_getElem? hx)
      have hln := hrd.lab_len
      have HC := Lib.hid (sGoodLabels_any B A' n' c' l wr (by omega) (hrd.below (HB.out.mono hBw)) (by omega) hfit.1)
      have HX := Lib.hid hx
      obtain ⟨q, hq⟩ : ∃ q, goodLab l = q := ⟨_, rfl⟩
      rw [hq] at HC
      have HQ := Lib.hid hq
      clear hx hc0 hrd hfit hln hq
      cases q with
      | false =>
        have e : R = false := HR.out.trans (goodSer_bad HX.out HQ.out)
        subst e
        go_wp2_with fail
        refine HC.out.mono ?_
        rintro e w1 ⟨rfl, hb1⟩
        have HB1 := Lib.hid (HB.out.trans (hb1.mono hsz))
        clear hb1
        go_wp2
        go_ret
        exact ⟨rfl, HB1.out⟩
      | true =>
        go_wp2_with fail
        refine HC.out.mono ?_
        rintro e w1 ⟨rfl, hb1⟩
        have HB1 := Lib.hid (HB.out.trans (hb1.mono hsz))
        clear hb1
        go_wp2
        go_roundw
        case rel =>
          refine ⟨k + 1, by omega, by go_num, fun j l' hj hy => ?_, HB1.out⟩
          by_cases hjk : j < k
          · exact HK.out j l' hjk hy
          · obtain rfl : j = k := by omega
            have := HX.out
            rw [hy] at this
            injection this with this
            rw [this]; exact HQ.out
        case measure => simp [intOf]; omega
    · have e : R = decide (n ≤ 60) := by
        have := goodSer_all (ls := ls) (fun j l hj hy => HK.out j l (by have := HL.out; omega) hy)
        rw [HL.out] at this
        exact HR.out.trans this
      by_cases h60 : n ≤ 60
      · rw [decide_eq_true h60] at e
        subst e
        go_wp2
        go_ret
        exact ⟨congrArg (fun b => Ending.returned (.bool b)) (decide_eq_true (by omega)), HB.out⟩
      · rw [decide_eq_false h60] at e
        subst e
        go_wp2
        go_ret
        exact ⟨congrArg (fun b => Ending.returned (.bool b)) (decide_eq_false (by omega)), HB.out⟩

def badLab (l : List Lab) : Bool := !goodLab l
theorem areSeries1_any (B : Nat) (A : Option Addr) (n c : Nat) (l : List Lab) (w : World) (hBw : B ≤ w.heap.size) (h : Rd w B 2 A n (lbls l)) (hn : n ≤ 1048576) (hf : lblFit l) :
    Calls Try.prog 62 #[.slice A n c] w fun e w' => e = .returned (.bool (badLab l)) ∧ Below w.heap.size w w' := by
  have HC := Lib.hid (areLabels_any B A n c l w hBw h hn hf)
  obtain ⟨q, hq⟩ : ∃ q, goodLab l = q := ⟨_, rfl⟩
  have HQ := Lib.hid (show badLab l = !q by unfold badLab; rw [hq])
  rw [hq] at HC
  clear h hf hq
  go_enter Try.func62, Try.ntmps62
  go_wp2_with fail
  refine HC.out.mono ?_
  rintro e w1 ⟨rfl, hb1⟩
  have HB := Lib.hid hb1
  clear hb1
  go_wp2
  go_ret
  exact ⟨by rw [HQ.out]; rfl, HB.out⟩
set_option maxRecDepth 100000 in
set_option maxHeartbeats 4000000 in
theorem idxSer_any (B : Nat) (A : Option Addr) (n c : Nat) (ls : List (List Lab)) (w : World) (hBw : B ≤ w.heap.size) (h : RdSS w B A n ls) (hn : n ≤ 1048576) (hf : serFit ls) :
    Calls Try.prog 80 #[.slice A n c, .func (.func 62) #[] #[]] w fun e w' => e = .returned (.int .i64 (idxZ (fstAt badLab ls))) ∧ Below w.heap.size w w' := by
  have HL := Lib.hid h.len
  have H := Lib.hid h
  have HF := Lib.hid hf
  clear h hf
  obtain ⟨R, hR⟩ : ∃ R, R = fstAt badLab ls := ⟨_, rfl⟩
  have HR := Lib.hid hR
  rw [← hR]
  clear hR
  go_enter Try.func80, Try.ntmps80
  go_wp2
  go_loopw [8] (fun i wr => ∃ k : Nat, k ≤ n ∧ i = .int .i64 k ∧ (∀ j l, j < k → ls[j]? = some l → badLab l = false) ∧ Below w.heap.size w wr) (fun i _ => n - (intOf i).toNat)
  case atStart => exact ⟨0, Nat.zero_le _, rfl, fun j l hj => absurd hj (by omega), Below.refl _ _⟩
  case round =>
    obtain ⟨k, hk, rfl, hok, hb⟩ := hrel
    have HK := Lib.hid hok
    have HB := Lib.hid hb
    have hsz := hb.size
    clear hok hb
    by_cases hlt : k < n
    · obtain ⟨b0, off, A', n', c', l, rfl, hbB, hx, hc0, hrd, _⟩ := H.out.at_ hlt
      have hd0 : wr.cell? ⟨b0, off + k, none⟩ = some (.slice A' n' c') := (bcell HB.out _ _ (by omega)).trans hc0
      have hfit := HF.out l (List.mem_of_getElem? hx)
      have hln := hrd.lab_len
      have HC := Lib.hid (areSeries1_any B A' n' c' l wr (by omega) (hrd.below (HB.out.mono hBw)) (by omega) hfit.1)
      have HX := Lib.hid hx
      obtain ⟨q, hq⟩ : ∃ q, badLab l = q := ⟨_, rfl⟩
      rw [hq] at HC
      have HQ := Lib.hid hq
      clear hx hc0 hrd hfit hln hq
      cases q with
      | true =>
        have e : R = some k := HR.out.trans (fstAt_hit HX.out HQ.out HK.out)
        subst e
        go_wp2_with (go_at_call 62; refine HC.out.mono ?_; rintro e w1 ⟨rfl, hb1⟩; have HB1 := Lib.hid (HB.out.trans (hb1.mono hsz)); clear hb1)
        go_ret
        exact ⟨rfl, HB1.out⟩
      | false =>
        go_wp2_with (go_at_call 62; refine HC.out.mono ?_; rintro e w1 ⟨rfl, hb1⟩; have HB1 := Lib.hid (HB.out.trans (hb1.mono hsz)); clear hb1)
        go_roundw
        case rel =>
          refine ⟨k + 1, by omega, by go_num, fun j l' hj hy => ?_, HB1.out⟩
          by_cases hjk : j < k
          · exact HK.out j l' hjk hy
          · obtain rfl : j = k := by omega
            have := HX.out
            rw [hy] at this
            injection this with this
            rw [this]; exact HQ.out
        case measure => simp [intOf]; omega
    · have e : R = none := HR.out.trans (fstAt_none fun j y hy => HK.out j y (by have := (List.getElem?_eq_some_iff.1 hy).1; have := HL.out; omega) hy)
      subst e
      go_wp2
      go_ret
      exact ⟨rfl, HB.out⟩
theorem idx_geS {α : Type} (p : α → Bool) (l : List α) : decide (0 ≤ idxZ (fstAt p l)) = l.any p := by
  have h := List.findIdx?_isSome (xs := l) (p := p)
  rw [← h]
  unfold fstAt
  cases List.findIdx? p l <;> simp [idxZ]
theorem hasBad_any (B : Nat) (A : Option Addr) (n c : Nat) (ls : List (List Lab)) (w : World) (hBw : B ≤ w.heap.size) (h : RdSS w B A n ls) (hn : n ≤ 1048576) (hf : serFit ls) :
    Calls Try.prog 61 #[.slice A n c, .func (.func 62) #[] #[]] w fun e w' => e = .returned (.bool (ls.any badLab)) ∧ Below w.heap.size w w' := by
  have hge := idx_geS badLab ls
  have HI := Lib.hid (idxSer_any B A n c ls w hBw h hn hf)
  generalize idxZ (fstAt badLab ls) = k at HI hge
  rw [← hge]
  clear hge h hf
  go_enter Try.func61, Try.ntmps61
  go_wp2_with fail
  refine HI.out.mono ?_
  rintro e w1 ⟨rfl, hb1⟩
  have HB := Lib.hid hb1
  clear hb1
  go_wp2
  go_ret
  exact ⟨rfl, HB.out⟩
theorem not_any_bad (ls : List (List Lab)) : (!ls.any badLab) = ls.all goodLab := by
  induction ls with
  | nil => rfl
  | cons l ls ih => rw [List.any_cons, List.all_cons, ← ih, Bool.not_or]; unfold badLab; simp
set_option maxRecDepth 100000 in
set_option maxHeartbeats 1000000 in
theorem areSeries_any (B : Nat) (A : Option Addr) (n c : Nat) (ls : List (List Lab)) (w : World) (hBw : B ≤ w.heap.size) (h : RdSS w B A n ls) (hn : n ≤ 1048576) (hf : serFit ls) :
    Calls Try.prog 39 #[.slice A n c] w fun e w' => e = .returned (.bool (goodSer ls)) ∧ Below w.heap.size w w' := by
  have HI := Lib.hid (hasBad_any B A n c ls w hBw h hn hf)
  have hg : goodSer ls = ((!ls.any badLab) && decide (n ≤ 60)) := by unfold goodSer; rw [not_any_bad, h.len]
  obtain ⟨q, hq⟩ : ∃ q, ls.any badLab = q := ⟨_, rfl⟩
  rw [hq] at HI hg
  have HG := Lib.hid hg
  clear h hf hg hq
  by_cases h60 : n ≤ 60
  · go_enter Try.func39, Try.ntmps39
    go_wp2_with fail
    refine HI.out.mono ?_
    rintro e w1 ⟨rfl, hb1⟩
    have HB := Lib.hid hb1
    clear hb1
    go_wp2
    go_ret
    exact ⟨by rw [HG.out, decide_eq_true h60, Bool.and_true]; rfl, HB.out⟩
  · go_enter Try.func39, Try.ntmps39
    go_wp2
    go_ret
    exact ⟨by rw [HG.out, decide_eq_false h60, Bool.and_false]; rfl, Below.refl _ _⟩
end Go.Proofs.Ytpdclppieicaeaa
