/- The law MergeLabels. -/
import Derived.Test.YtjokpbopceolcaaDoorMergeS
namespace Go.Proofs.YtjokpbopceolcaaDoor
set_option linter.unusedVariables false
set_option linter.unusedSimpArgs false
open Go.RowKit

set_option maxRecDepth 100000 in
set_option maxHeartbeats 4000000 in
theorem iMergeLabels_any (B : Nat) (A A' : Option Addr) (n c n' c' : Nat) (a b : List Lab) (w : World) (hBw : B ≤ w.heap.size) (h : Rd w B 2 A n (lbls a)) (hn : n ≤ 1048576) (h' : Rd w B 2 A' n' (lbls b)) (hn' : n' ≤ 1048576) (hfa : lblFit a) (hfb : lblFit b) :
    Calls Tryd.prog 23 #[.slice A n c, .slice A' n' c'] w (GotR 48 2 w (mergeL a b).length (lbls (mergeL a b)) (okMerge a b)) := by
  have C1 := Lib.hid (areLabels_any B A n c a w hBw h hn hfa)
  have C2 := Lib.hid (fun w1 (hb : Below w.heap.size w w1) => areLabels_any B A' n' c' b w1 (Nat.le_trans hBw hb.size) (h'.below (hb.mono hBw)) hn' hfb)
  clear hfa hfb
  cases hg1 : goodLab a with
  | false =>
    have hk : okMerge a b = false := by unfold okMerge; rw [hg1]; rfl
    have HK := Lib.hid hk
    rw [hg1] at C1
    clear hg1 h h' hk C2
    go_enter Tryd.func23, Tryd.ntmps23
    go_wp2_with fail
    refine C1.out.mono ?_
    rintro e w1 ⟨rfl, hb1⟩
    have HB := Lib.hid hb1
    clear hb1
    go_wp2
    go_ret2
    rw [merge_no HK.out, HK.out]
    exact GotR.no_ HB.out
  | true =>
    rw [hg1] at C1
    cases hg2 : goodLab b with
    | false =>
      have hk : okMerge a b = false := by unfold okMerge; rw [hg1, hg2]; rfl
      have HK := Lib.hid hk
      rw [hg2] at C2
      clear hg1 hg2 h h' hk
      go_enter Tryd.func23, Tryd.ntmps23
      go_wp2_with fail
      refine C1.out.mono ?_
      rintro e w1 ⟨rfl, hb1⟩
      have HB := Lib.hid hb1
      clear hb1
      go_wp2_with fail
      refine (C2.out _ HB.out).mono ?_
      rintro e w2 ⟨rfl, hb2⟩
      have HB2 := Lib.hid (HB.out.trans (hb2.mono HB.out.size))
      clear hb2
      go_wp2
      go_ret2
      rw [merge_no HK.out, HK.out]
      exact GotR.no_ HB2.out
    | true =>
      rw [hg2] at C2
      have hla := goodLab_len hg1
      have hlb := goodLab_len hg2
      have hna := h.lab_len
      have hnb := h'.lab_len
      have C3 := Lib.hid (fun w1 (hb : Below w.heap.size w w1) => mergeLabels_any B A A' n c n' c' a b w1 (Nat.le_trans hBw hb.size) (h.below (hb.mono hBw)) (by omega) (h'.below (hb.mono hBw)) (by omega) hg1 hg2)
      clear h h' hg1 hg2 hla hlb hna hnb
      go_enter Tryd.func23, Tryd.ntmps23
      go_wp2_with fail
      refine C1.out.mono ?_
      rintro e w1 ⟨rfl, hb1⟩
      have HB1 := Lib.hid hb1
      clear hb1
      go_wp2_with fail
      refine (C2.out _ HB1.out).mono ?_
      rintro e w2 ⟨rfl, hb2⟩
      have HB2 := Lib.hid (HB1.out.trans (hb2.mono HB1.out.size))
      clear hb2 C1 C2
      go_wp2_with fail
      refine (C3.out _ HB2.out).mono ?_
      rintro e w3 ⟨A3, c3, rfl, hr, hc⟩
      have HR := Lib.hid (hr.low HB2.out.size)
      have HC := Lib.hid ((Ch.of_below HB2.out).trans hc)
      clear hr hc
      go_wp2
      go_ret2
      exact ⟨A3, c3, rfl, HR.out, HC.out⟩
theorem both_MergeLabels (n : Nat) (l : List Lab) (n' : Nat) (l' : List Lab) (hn : n ≤ 1048576) (hn' : n' ≤ 1048576) (hz : lblSz l ≤ 1048576) (hz' : lblSz l' ≤ 1048576) : ∃ (nr : Nat) (lr : List Lab) (r1 : Bool), nr ≤ 1048576 ∧
    (∀ B A c B' A' c' w, B ≤ w.heap.size → Rd w B 2 A n (lbls l) → n ≤ c → B' ≤ w.heap.size → Rd w B' 2 A' n' (lbls l') → Calls Tryd.prog 24 #[.slice A n c, .slice A' n' c'] w (GotR 48 2 w nr (lbls lr) r1)) ∧
    (∀ B A c B' A' c' w, B ≤ w.heap.size → Rd w B 2 A n (lbls l) → n ≤ c → B' ≤ w.heap.size → Rd w B' 2 A' n' (lbls l') → Calls Tryd.prog 23 #[.slice A n c, .slice A' n' c'] w (GotR 48 2 w nr (lbls lr) r1)) :=
  ⟨(mergeL l l').length, mergeL l l', _, mergeL_len l l',
    fun B A c B' A' c' w hB h hc hB' h' => sMergeLabels_any (max B B') A A' n c n' c' l l' w (Nat.max_le.2 ⟨hB, hB'⟩) (h.more (Nat.le_max_left ..)) hn hc (h'.more (Nat.le_max_right ..)) hn' (lblFit_of hz) (lblFit_of hz'),
    fun B A c B' A' c' w hB h hc hB' h' => iMergeLabels_any (max B B') A A' n c n' c' l l' w (Nat.max_le.2 ⟨hB, hB'⟩) (h.more (Nat.le_max_left ..)) hn (h'.more (Nat.le_max_right ..)) hn' (lblFit_of hz) (lblFit_of hz')⟩
end Go.Proofs.YtjokpbopceolcaaDoor
