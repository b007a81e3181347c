/- DeltasOf and SumsOf of the reference and of the program. -/
import Derived.Test.YtbemnhdadafnnaaSeq
import Derived.Test.YtbemnhdadafnnaaAllV
import Derived.Test.YtbemnhdadafnnaaRowInts
import Derived.Test.YtbemnhdadafnnaaGotR
namespace Go.Proofs.Ytbemnhdadafnnaa
set_option linter.unusedVariables false
set_option linter.unusedSimpArgs false
open Go.RowKit


def few (n : Nat) (zs : List Int) : Bool := decide (n ≤ 40) && allV zs
theorem few_iff {n : Nat} {zs : List Int} : few n zs = true ↔ n ≤ 40 ∧ allV zs = true := by unfold few; simp
theorem allV_within {zs : List Int} (h : allV zs = true) : within_ 1000000000000000 zs := fun x hx => by
  have := isV_bd (List.all_eq_true.1 h x hx)
  omega

set_option maxHeartbeats 1000000 in
theorem l2Few_any (B : Nat) (A : Option Addr) (n c : Nat) (zs : List Int) (w : World) (h : Rd w B 1 A n (ints zs)) (hn : n ≤ 1048576) :
    Calls Try.prog 48 #[.slice A n c] w fun e w' => e = .returned (.bool (few n zs)) ∧ w = w' := by
  have H := Lib.hid h
  clear h
  by_cases h4 : n ≤ 40
  · have HF := Lib.hid (show few n zs = allV zs by unfold few; simp [h4])
    go_enter Try.func48, Try.ntmps48
    go_wp2_with fail
    refine (l1AllV_any B A n c zs _ H.out hn).mono ?_
    rintro e w' ⟨rfl, rfl⟩
    go_wp2
    go_ret
    exact ⟨retB HF.out.symm, rfl⟩
  · have HF := Lib.hid (show few n zs = false by unfold few; simp [h4])
    go_enter Try.func48, Try.ntmps48
    go_wp2
    go_ret
    exact ⟨retB HF.out.symm, rfl⟩

theorem deltasOf_few_len (n : Nat) (zs : List Int) (h : few n (deltas 0 zs) = true) : few n (deltas 0 zs) = true := h
set_option maxHeartbeats 1000000 in
theorem sDeltasOf_any (B : Nat) (A : Option Addr) (n c : Nat) (zs : List Int) (w : World) (hB : B ≤ w.heap.size) (h : Rd w B 1 A n (ints zs)) (hn : n ≤ 1048576) :
    Calls Try.prog 27 #[.slice A n c] w (GotR 3 1 w (if few n zs && allV (deltas 0 zs) then n else 0) (if few n zs && allV (deltas 0 zs) then ints (deltas 0 zs) else []) (few n zs && allV (deltas 0 zs))) := by
  have H := Lib.hid h
  clear h
  by_cases hf : few n zs = true
  · obtain ⟨h4, hv⟩ := few_iff.1 hf
    have HD := Lib.hid (fun w hB h => l2Deltas_any B A n c zs w hB h (by omega) (allV_within hv))
    have HF := Lib.hid (fun w (h : Rd w B 1 A n (ints zs)) => l2Few_any B A n c zs w h hn)
    by_cases ho : allV (deltas 0 zs) = true
    · have hfo : few n (deltas 0 zs) = true := few_iff.2 ⟨h4, ho⟩
      rw [hf, ho]
      simp only [Bool.and_self, if_true]
      have HF1 := Lib.hid hf
      have HF2 := Lib.hid hfo
      clear hf ho hfo hv
      go_enter Try.func27, Try.ntmps27
      go_wp2_with fail
      refine (HF.out _ H.out).mono ?_
      rintro e w' ⟨rfl, rfl⟩
      rw [HF1.out]
      go_wp2_with fail
      refine (HD.out _ hB H.out).mono ?_
      rintro e w1 ⟨A1, c1, rfl, ho1, hb1⟩
      have HO1 := Lib.hid ho1
      have HB1 := Lib.hid hb1
      clear ho1 hb1
      go_wp2_with fail
      refine (l2Few_any _ A1 n c1 _ _ HO1.out.rd hn).mono ?_
      rintro e w' ⟨rfl, rfl⟩
      rw [HF2.out]
      go_wp2
      go_ret2
      exact ⟨A1, c1, rfl, Row.of_own HO1.out, Ch.of_below HB1.out⟩
    · replace ho : allV (deltas 0 zs) = false := by simpa using ho
      have hfo : few n (deltas 0 zs) = false := by unfold few; rw [ho, Bool.and_false]
      rw [hf, ho]
      simp only [Bool.and_false]
      have HF1 := Lib.hid hf
      have HF2 := Lib.hid hfo
      clear hf ho hfo hv
      go_enter Try.func27, Try.ntmps27
      go_wp2_with fail
      refine (HF.out _ H.out).mono ?_
      rintro e w' ⟨rfl, rfl⟩
      rw [HF1.out]
      go_wp2_with fail
      refine (HD.out _ hB H.out).mono ?_
      rintro e w1 ⟨A1, c1, rfl, ho1, hb1⟩
      have HO1 := Lib.hid ho1
      have HB1 := Lib.hid hb1
      clear ho1 hb1
      go_wp2_with fail
      refine (l2Few_any _ A1 n c1 _ _ HO1.out.rd hn).mono ?_
      rintro e w' ⟨rfl, rfl⟩
      rw [HF2.out]
      go_wp2
      go_ret2
      exact GotR.nil_ (Ch.of_below HB1.out)
  · replace hf : few n zs = false := by simpa using hf
    have HF := Lib.hid (fun w (h : Rd w B 1 A n (ints zs)) => l2Few_any B A n c zs w h hn)
    rw [hf] at HF ⊢
    simp only [Bool.false_and]
    clear hf
    go_enter Try.func27, Try.ntmps27
    go_wp2_with fail
    refine (HF.out _ H.out).mono ?_
    rintro e w' ⟨rfl, rfl⟩
    go_wp2
    go_ret2
    exact GotR.nil_ (Ch.refl _ _ _)
set_option maxHeartbeats 1000000 in
theorem iDeltasOf_any (B : Nat) (A : Option Addr) (n c : Nat) (zs : List Int) (w : World) (hB : B ≤ w.heap.size) (h : Rd w B 1 A n (ints zs)) (hn : n ≤ 1048576) :
    Calls Try.prog 26 #[.slice A n c] w (GotR 3 1 w (if few n zs && allV (deltas 0 zs) then n else 0) (if few n zs && allV (deltas 0 zs) then ints (deltas 0 zs) else []) (few n zs && allV (deltas 0 zs))) := by
  have H := Lib.hid h
  clear h
  by_cases h4 : n ≤ 40
  · have HF := Lib.hid (fun w (h : Rd w B 1 A n (ints zs)) => areValues_any B A n c zs w h hn)
    by_cases hv : allV zs = true
    · have hf : few n zs = true := few_iff.2 ⟨h4, hv⟩
      have HD := Lib.hid (fun w hB h => deltasOf_any B A n c zs w hB h (by omega) (allV_within hv))
      rw [hv] at HF
      rw [hf]
      clear hf hv
      by_cases ho : allV (deltas 0 zs) = true
      · rw [ho]
        simp only [Bool.and_self, if_true]
        have HF2 := Lib.hid ho
        clear ho
        go_enter Try.func26, Try.ntmps26
        go_wp2_with fail
        refine (HF.out _ H.out).mono ?_
        rintro e w' ⟨rfl, rfl⟩
        go_wp2_with fail
        refine (HD.out _ hB H.out).mono ?_
        rintro e w1 ⟨A1, c1, rfl, ho1, hb1⟩
        have HO1 := Lib.hid ho1
        have HB1 := Lib.hid hb1
        clear ho1 hb1
        go_wp2_with fail
        refine (areValues_any _ A1 n c1 _ _ HO1.out.rd hn).mono ?_
        rintro e w' ⟨rfl, rfl⟩
        rw [HF2.out]
        go_wp2
        go_ret2
        exact ⟨A1, c1, rfl, Row.of_own HO1.out, Ch.of_below HB1.out⟩
      · replace ho : allV (deltas 0 zs) = false := by simpa using ho
        rw [ho]
        simp only [Bool.and_false]
        have HF2 := Lib.hid ho
        clear ho
        go_enter Try.func26, Try.ntmps26
        go_wp2_with fail
        refine (HF.out _ H.out).mono ?_
        rintro e w' ⟨rfl, rfl⟩
        go_wp2_with fail
        refine (HD.out _ hB H.out).mono ?_
        rintro e w1 ⟨A1, c1, rfl, ho1, hb1⟩
        have HO1 := Lib.hid ho1
        have HB1 := Lib.hid hb1
        clear ho1 hb1
        go_wp2_with fail
        refine (areValues_any _ A1 n c1 _ _ HO1.out.rd hn).mono ?_
        rintro e w' ⟨rfl, rfl⟩
        rw [HF2.out]
        go_wp2
        go_ret2
        exact GotR.nil_ (Ch.of_below HB1.out)
    · replace hv : allV zs = false := by simpa using hv
      have hf : few n zs = false := by unfold few; rw [hv, Bool.and_false]
      rw [hv] at HF
      rw [hf]
      simp only [Bool.false_and]
      clear hf hv
      go_enter Try.func26, Try.ntmps26
      go_wp2_with fail
      refine (HF.out _ H.out).mono ?_
      rintro e w' ⟨rfl, rfl⟩
      go_wp2
      go_ret2
      exact GotR.nil_ (Ch.refl _ _ _)
  · have hf : few n zs = false := by unfold few; simp [h4]
    rw [hf]
    simp only [Bool.false_and]
    clear hf
    go_enter Try.func26, Try.ntmps26
    go_wp2
    go_ret2
    exact GotR.nil_ (Ch.refl _ _ _)
theorem both_DeltasOf (n : Nat) (zs : List Int) (hn : n ≤ 1048576) : ∃ (n' : Nat) (zs' : List Int) (K : Bool), n' ≤ 1048576 ∧
    (∀ B A c w, B ≤ w.heap.size → Rd w B 1 A n (ints zs) → Calls Try.prog 27 #[.slice A n c] w (GotR 3 1 w n' (ints zs') K)) ∧
    (∀ B A c w, B ≤ w.heap.size → Rd w B 1 A n (ints zs) → Calls Try.prog 26 #[.slice A n c] w (GotR 3 1 w n' (ints zs') K)) := by
  have hs := fun B A c w hB h => sDeltasOf_any B A n c zs w hB h hn
  have hi := fun B A c w hB h => iDeltasOf_any B A n c zs w hB h hn
  generalize (few n zs && allV (deltas 0 zs)) = K at hs hi
  cases K with
  | true => exact ⟨n, deltas 0 zs, true, hn, hs, hi⟩
  | false => exact ⟨0, [], false, by omega, hs, hi⟩
theorem sumsOf_few_len (n : Nat) (zs : List Int) (h : few n (sums 0 zs) = true) : few n (sums 0 zs) = true := h
set_option maxHeartbeats 1000000 in
theorem sSumsOf_any (B : Nat) (A : Option Addr) (n c : Nat) (zs : List Int) (w : World) (hB : B ≤ w.heap.size) (h : Rd w B 1 A n (ints zs)) (hn : n ≤ 1048576) :
    Calls Try.prog 29 #[.slice A n c] w (GotR 3 1 w (if few n zs && allV (sums 0 zs) then n else 0) (if few n zs && allV (sums 0 zs) then ints (sums 0 zs) else []) (few n zs && allV (sums 0 zs))) := by
  have H := Lib.hid h
  clear h
  by_cases hf : few n zs = true
  · obtain ⟨h4, hv⟩ := few_iff.1 hf
    have HD := Lib.hid (fun w hB h => l2Sums_any B A n c zs w hB h (by omega) (allV_within hv))
    have HF := Lib.hid (fun w (h : Rd w B 1 A n (ints zs)) => l2Few_any B A n c zs w h hn)
    by_cases ho : allV (sums 0 zs) = true
    · have hfo : few n (sums 0 zs) = true := few_iff.2 ⟨h4, ho⟩
      rw [hf, ho]
      simp only [Bool.and_self, if_true]
      have HF1 := Lib.hid hf
      have HF2 := Lib.hid hfo
      clear hf ho hfo hv
      go_enter Try.func29, Try.ntmps29
      go_wp2_with fail
      refine (HF.out _ H.out).mono ?_
      rintro e w' ⟨rfl, rfl⟩
      rw [HF1.out]
      go_wp2_with fail
      refine (HD.out _ hB H.out).mono ?_
      rintro e w1 ⟨A1, c1, rfl, ho1, hb1⟩
      have HO1 := Lib.hid ho1
      have HB1 := Lib.hid hb1
      clear ho1 hb1
      go_wp2_with fail
      refine (l2Few_any _ A1 n c1 _ _ HO1.out.rd hn).mono ?_
      rintro e w' ⟨rfl, rfl⟩
      rw [HF2.out]
      go_wp2
      go_ret2
      exact ⟨A1, c1, rfl, Row.of_own HO1.out, Ch.of_below HB1.out⟩
    · replace ho : allV (sums 0 zs) = false := by simpa using ho
      have hfo : few n (sums 0 zs) = false := by unfold few; rw [ho, Bool.and_false]
      rw [hf, ho]
      simp only [Bool.and_false]
      have HF1 := Lib.hid hf
      have HF2 := Lib.hid hfo
      clear hf ho hfo hv
      go_enter Try.func29, Try.ntmps29
      go_wp2_with fail
      refine (HF.out _ H.out).mono ?_
      rintro e w' ⟨rfl, rfl⟩
      rw [HF1.out]
      go_wp2_with fail
      refine (HD.out _ hB H.out).mono ?_
      rintro e w1 ⟨A1, c1, rfl, ho1, hb1⟩
      have HO1 := Lib.hid ho1
      have HB1 := Lib.hid hb1
      clear ho1 hb1
      go_wp2_with fail
      refine (l2Few_any _ A1 n c1 _ _ HO1.out.rd hn).mono ?_
      rintro e w' ⟨rfl, rfl⟩
      rw [HF2.out]
      go_wp2
      go_ret2
      exact GotR.nil_ (Ch.of_below HB1.out)
  · replace hf : few n zs = false := by simpa using hf
    have HF := Lib.hid (fun w (h : Rd w B 1 A n (ints zs)) => l2Few_any B A n c zs w h hn)
    rw [hf] at HF ⊢
    simp only [Bool.false_and]
    clear hf
    go_enter Try.func29, Try.ntmps29
    go_wp2_with fail
    refine (HF.out _ H.out).mono ?_
    rintro e w' ⟨rfl, rfl⟩
    go_wp2
    go_ret2
    exact GotR.nil_ (Ch.refl _ _ _)
set_option maxHeartbeats 1000000 in
theorem iSumsOf_any (B : Nat) (A : Option Addr) (n c : Nat) (zs : List Int) (w : World) (hB : B ≤ w.heap.size) (h : Rd w B 1 A n (ints zs)) (hn : n ≤ 1048576) :
    Calls Try.prog 28 #[.slice A n c] w (GotR 3 1 w (if few n zs && allV (sums 0 zs) then n else 0) (if few n zs && allV (sums 0 zs) then ints (sums 0 zs) else []) (few n zs && allV (sums 0 zs))) := by
  have H := Lib.hid h
  clear h
  by_cases h4 : n ≤ 40
  · have HF := Lib.hid (fun w (h : Rd w B 1 A n (ints zs)) => areValues_any B A n c zs w h hn)
    by_cases hv : allV zs = true
    · have hf : few n zs = true := few_iff.2 ⟨h4, hv⟩
      have HD := Lib.hid (fun w hB h => sumsOf_any B A n c zs w hB h (by omega) (allV_within hv))
      rw [hv] at HF
      rw [hf]
      clear hf hv
      by_cases ho : allV (sums 0 zs) = true
      · rw [ho]
        simp only [Bool.and_self, if_true]
        have HF2 := Lib.hid ho
        clear ho
        go_enter Try.func28, Try.ntmps28
        go_wp2_with fail
        refine (HF.out _ H.out).mono ?_
        rintro e w' ⟨rfl, rfl⟩
        go_wp2_with fail
        refine (HD.out _ hB H.out).mono ?_
        rintro e w1 ⟨A1, c1, rfl, ho1, hb1⟩
        have HO1 := Lib.hid ho1
        have HB1 := Lib.hid hb1
        clear ho1 hb1
        go_wp2_with fail
        refine (areValues_any _ A1 n c1 _ _ HO1.out.rd hn).mono ?_
        rintro e w' ⟨rfl, rfl⟩
        rw [HF2.out]
        go_wp2
        go_ret2
        exact ⟨A1, c1, rfl, Row.of_own HO1.out, Ch.of_below HB1.out⟩
      · replace ho : allV (sums 0 zs) = false := by simpa using ho
        rw [ho]
        simp only [Bool.and_false]
        have HF2 := Lib.hid ho
        clear ho
        go_enter Try.func28, Try.ntmps28
        go_wp2_with fail
        refine (HF.out _ H.out).mono ?_
        rintro e w' ⟨rfl, rfl⟩
        go_wp2_with fail
        refine (HD.out _ hB H.out).mono ?_
        rintro e w1 ⟨A1, c1, rfl, ho1, hb1⟩
        have HO1 := Lib.hid ho1
        have HB1 := Lib.hid hb1
        clear ho1 hb1
        go_wp2_with fail
        refine (areValues_any _ A1 n c1 _ _ HO1.out.rd hn).mono ?_
        rintro e w' ⟨rfl, rfl⟩
        rw [HF2.out]
        go_wp2
        go_ret2
        exact GotR.nil_ (Ch.of_below HB1.out)
    · replace hv : allV zs = false := by simpa using hv
      have hf : few n zs = false := by unfold few; rw [hv, Bool.and_false]
      rw [hv] at HF
      rw [hf]
      simp only [Bool.false_and]
      clear hf hv
      go_enter Try.func28, Try.ntmps28
      go_wp2_with fail
      refine (HF.out _ H.out).mono ?_
      rintro e w' ⟨rfl, rfl⟩
      go_wp2
      go_ret2
      exact GotR.nil_ (Ch.refl _ _ _)
  · have hf : few n zs = false := by unfold few; simp [h4]
    rw [hf]
    simp only [Bool.false_and]
    clear hf
    go_enter Try.func28, Try.ntmps28
    go_wp2
    go_ret2
    exact GotR.nil_ (Ch.refl _ _ _)
theorem both_SumsOf (n : Nat) (zs : List Int) (hn : n ≤ 1048576) : ∃ (n' : Nat) (zs' : List Int) (K : Bool), n' ≤ 1048576 ∧
    (∀ B A c w, B ≤ w.heap.size → Rd w B 1 A n (ints zs) → Calls Try.prog 29 #[.slice A n c] w (GotR 3 1 w n' (ints zs') K)) ∧
    (∀ B A c w, B ≤ w.heap.size → Rd w B 1 A n (ints zs) → Calls Try.prog 28 #[.slice A n c] w (GotR 3 1 w n' (ints zs') K)) := by
  have hs := fun B A c w hB h => sSumsOf_any B A n c zs w hB h hn
  have hi := fun B A c w hB h => iSumsOf_any B A n c zs w hB h hn
  generalize (few n zs && allV (sums 0 zs)) = K at hs hi
  cases K with
  | true => exact ⟨n, sums 0 zs, true, hn, hs, hi⟩
  | false => exact ⟨0, [], false, by omega, hs, hi⟩
end Go.Proofs.Ytbemnhdadafnnaa
