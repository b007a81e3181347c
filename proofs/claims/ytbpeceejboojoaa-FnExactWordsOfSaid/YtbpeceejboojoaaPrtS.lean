/- The reference's test on a pattern's part. -/
import Derived.Test.YtbpeceejboojoaaPrts
namespace Go.Proofs.Ytbpeceejboojoaa
set_option linter.unusedVariables false
set_option linter.unusedSimpArgs false
open Go.RowKit

theorem noText_y {x : ByteArray} (h : x.toList = []) : noText x = true := by unfold noText; rw [← ByteArray.toList_eq, h]; rfl
theorem noText_n {x : ByteArray} (h : ¬ x.toList = []) : noText x = false := by
  unfold noText
  rw [← ByteArray.toList_eq]
  cases e : x.toList with
  | nil => exact absurd e h
  | cons c l => rfl
set_option maxHeartbeats 400000 in
theorem l5Two_any (k : Int) (w : World) : Calls Try.prog 37 #[.int .i64 k] w fun e w' => e = .returned (.bool (twK k)) ∧ w = w' := by
  by_cases h1 : k = 5
  · subst h1
    go_enter Try.func37, Try.ntmps37
    go_wp2
    go_ret
    exact ⟨rfl, rfl⟩
  · by_cases h2 : k = 6
    · subst h2
      go_enter Try.func37, Try.ntmps37
      go_wp2
      go_ret
      exact ⟨rfl, rfl⟩
    · go_enter Try.func37, Try.ntmps37
      go_wp2
      go_ret
      exact ⟨rfl, rfl⟩
set_option maxHeartbeats 400000 in
theorem l5One_any (k : Int) (w : World) : Calls Try.prog 38 #[.int .i64 k] w fun e w' => e = .returned (.bool (onK k)) ∧ w = w' := by
  by_cases h1 : k = 7
  · subst h1
    go_enter Try.func38, Try.ntmps38
    go_wp2
    go_ret
    exact ⟨rfl, rfl⟩
  · by_cases h2 : k = 8
    · subst h2
      go_enter Try.func38, Try.ntmps38
      go_wp2
      go_ret
      exact ⟨rfl, rfl⟩
    · go_enter Try.func38, Try.ntmps38
      go_wp2
      go_ret
      exact ⟨rfl, rfl⟩
theorem byteP (s : ByteArray) (k : Nat) (h : k < s.size) : s.data.toList[k]? = some s[k] := by
  rw [Array.getElem?_toList]; exact Array.getElem?_eq_getElem h
def letC (c : UInt8) : Bool := decide (97 ≤ c.toNat) && decide (c.toNat ≤ 122)
theorem letters_all (l : List UInt8) : lettersB l = l.all letC := rfl
set_option maxRecDepth 100000 in
set_option maxHeartbeats 2000000 in
theorem l5Letters_any (s : ByteArray) (w : World) (hs : s.size ≤ 1048576) :
    Calls Try.prog 48 #[.string s] w fun e w' => e = .returned (.bool (lettersB s.data.toList)) ∧ w = w' := by
  obtain ⟨R, hR⟩ : ∃ R, R = lettersB s.data.toList := ⟨_, rfl⟩
  rw [← hR]
  have HR := Lib.hid hR
  clear hR
  go_enter Try.func48, Try.ntmps48
  go_wp2
  go_loop [3] (fun i => ∃ k : Nat, k ≤ s.size ∧ i = .int .i64 k ∧ (s.data.toList.take k).all letC = true) (fun i => s.size - (intOf i).toNat)
  case atStart => exact ⟨0, Nat.zero_le _, rfl, by simp⟩
  case round =>
    obtain ⟨k, hk, rfl, hp⟩ := hrel
    have HP := Lib.hid hp
    clear hp
    by_cases hlt : k < s.size
    · by_cases ha : (97 : Int) ≤ (s[k].toNat : Int) ∧ (s[k].toNat : Int) ≤ 122
      · obtain ⟨ha1, ha2⟩ := ha
        have HC := Lib.hid (show (s.data.toList.take (k + 1)).all letC = true by
          rw [take_snoc' _ k _ (byteP s k hlt), List.all_append, HP.out]
          have h1' : 97 ≤ s[k].toNat := by omega
          have h2' : s[k].toNat ≤ 122 := by omega
          simp [letC, h1', h2'])
        go_wp2
        all_goals go_round
        all_goals first | exact ⟨k + 1, by omega, by go_num, HC.out⟩ | (simp [intOf]; omega)
      · have e : R = false := by
          rw [HR.out, letters_all, List.all_eq_false]
          exact ⟨s[k], List.mem_of_getElem? (byteP s k hlt), by unfold letC; simp; omega⟩
        have ha' : (s[k].toNat : Int) < 97 ∨ 122 < (s[k].toNat : Int) := by omega
        clear HP HR ha
        subst e
        rcases ha' with ha' | ha'
        all_goals go_wp2
        all_goals first | (go_ret; exact ⟨rfl, rfl⟩) | (exfalso; simp only [Bool.not_eq_false', decide_eq_true_eq] at *; omega)
    · have hk' : k = s.size := by omega
      subst hk'
      have e : R = true := by
        rw [HR.out, letters_all]
        have e : s.data.toList.take s.size = s.data.toList := List.take_of_length_le (Nat.le_of_eq (by rw [Array.length_toList]; rfl))
        rw [← e]; exact HP.out
      clear HR HP
      subst e
      go_wp2
      go_ret
      exact ⟨rfl, rfl⟩
set_option maxRecDepth 100000 in
set_option maxHeartbeats 8000000 in
theorem l5Part_any (kd : Int) (x : ByteArray) (a b : Int) (i : Nat) (w : World) (hs : x.size ≤ 1048576) (hi : i ≤ 1048576) :
    Calls Try.prog 36 #[.agg #[.int .i64 kd, .string x, .int .i64 a, .int .i64 b], .int .i64 i] w fun e w' => e = .returned (.bool (prtOk ⟨kd, x, a, b⟩ i)) ∧ Below w.heap.size w w' := by
  have C2 := Lib.hid (fun w => l5Two_any kd w)
  have C1 := Lib.hid (fun w => l5One_any kd w)
  have CL := Lib.hid (fun w => l5Letters_any x w hs)
  obtain ⟨pa, hpa⟩ : ∃ p, inB a 0 ((i : Int) - 1) = p := ⟨_, rfl⟩
  obtain ⟨pb, hpb⟩ : ∃ p, inB b 0 ((i : Int) - 1) = p := ⟨_, rfl⟩
  by_cases hk2 : kd = 5 ∨ kd = 6
  · have h2 : twK kd = true := by rcases hk2 with rfl | rfl <;> rfl
    have hR : prtOk ⟨kd, x, a, b⟩ i = (noText x && pa && pb) := by unfold prtOk; rw [if_pos h2, hpa, hpb]
    rw [h2] at C2
    clear h2 hk2
    by_cases hx : x.toList = []
    · rw [noText_y hx] at hR
      cases pa <;> cases pb
      all_goals
        have HR := Lib.hid hR
        clear hR
        go_enter Try.func36, Try.ntmps36
        go_wp2_with (first | (go_at_call 37; refine (C2.out _).mono ?_; rintro e w' ⟨rfl, rfl⟩) | (go_at_call 38; refine (C1.out _).mono ?_; rintro e w' ⟨rfl, rfl⟩) | (go_at_call 48; refine (CL.out _).mono ?_; rintro e w' ⟨rfl, rfl⟩) | (go_at_call 21; refine (l1In_any _ _ _ _).mono ?_; rintro e w' ⟨rfl, rfl⟩))
        all_goals (go_ret; exact ⟨retB HR.out.symm, (Below.refl _ _).alloc (Nat.le_refl _) _⟩)
    · rw [noText_n hx] at hR
      have HR := Lib.hid hR
      clear hR hpa hpb
      go_enter Try.func36, Try.ntmps36
      go_wp2_with (first | (go_at_call 37; refine (C2.out _).mono ?_; rintro e w' ⟨rfl, rfl⟩) | (go_at_call 38; refine (C1.out _).mono ?_; rintro e w' ⟨rfl, rfl⟩) | (go_at_call 48; refine (CL.out _).mono ?_; rintro e w' ⟨rfl, rfl⟩) | (go_at_call 21; refine (l1In_any _ _ _ _).mono ?_; rintro e w' ⟨rfl, rfl⟩))
      all_goals (go_ret; exact ⟨retB HR.out.symm, (Below.refl _ _).alloc (Nat.le_refl _) _⟩)
  have h2 : twK kd = false := by unfold twK; simp; omega
  by_cases hk1 : kd = 7 ∨ kd = 8
  · have h1 : onK kd = true := by rcases hk1 with rfl | rfl <;> rfl
    have hR : prtOk ⟨kd, x, a, b⟩ i = (noText x && pa && b == 0) := by unfold prtOk; rw [if_neg (by rw [h2]; simp), if_pos h1, hpa]
    rw [h2] at C2
    rw [h1] at C1
    clear h2 h1 hk1 hk2 hpb
    by_cases hx : x.toList = []
    · rw [noText_y hx] at hR
      cases pa
      all_goals
        have HR := Lib.hid hR
        clear hR
        go_enter Try.func36, Try.ntmps36
        go_wp2_with (first | (go_at_call 37; refine (C2.out _).mono ?_; rintro e w' ⟨rfl, rfl⟩) | (go_at_call 38; refine (C1.out _).mono ?_; rintro e w' ⟨rfl, rfl⟩) | (go_at_call 48; refine (CL.out _).mono ?_; rintro e w' ⟨rfl, rfl⟩) | (go_at_call 21; refine (l1In_any _ _ _ _).mono ?_; rintro e w' ⟨rfl, rfl⟩))
        all_goals (go_ret; exact ⟨retB HR.out.symm, (Below.refl _ _).alloc (Nat.le_refl _) _⟩)
    · rw [noText_n hx] at hR
      have HR := Lib.hid hR
      clear hR hpa
      go_enter Try.func36, Try.ntmps36
      go_wp2_with (first | (go_at_call 37; refine (C2.out _).mono ?_; rintro e w' ⟨rfl, rfl⟩) | (go_at_call 38; refine (C1.out _).mono ?_; rintro e w' ⟨rfl, rfl⟩) | (go_at_call 48; refine (CL.out _).mono ?_; rintro e w' ⟨rfl, rfl⟩) | (go_at_call 21; refine (l1In_any _ _ _ _).mono ?_; rintro e w' ⟨rfl, rfl⟩))
      all_goals (go_ret; exact ⟨retB HR.out.symm, (Below.refl _ _).alloc (Nat.le_refl _) _⟩)
  have h1 : onK kd = false := by unfold onK; simp; omega
  rw [h2] at C2
  rw [h1] at C1
  clear hpa hpb
  by_cases hk3 : kd = 3
  · subst hk3
    have hsz : x.data.toList.length = x.size := by rw [Array.length_toList]; rfl
    obtain ⟨lt, hlt⟩ : ∃ p, lettersB x.data.toList = p := ⟨_, rfl⟩
    have hR : prtOk ⟨3, x, a, b⟩ i = (decide (x.data.toList.length = 1) && lettersB x.data.toList && a == 0 && b == 0) := rfl
    rw [hsz, hlt] at hR
    rw [hlt] at CL
    clear h2 h1 hk1 hk2 hsz hlt
    by_cases hl : x.size = 1
    · rw [decide_eq_true hl] at hR
      have hl' : ((x.size : Int) == 1) = true := by rw [hl]; rfl
      cases lt
      · have HR := Lib.hid hR
        clear hR hl
        go_enter Try.func36, Try.ntmps36
        go_wp2_with (first | (go_at_call 37; refine (C2.out _).mono ?_; rintro e w' ⟨rfl, rfl⟩) | (go_at_call 38; refine (C1.out _).mono ?_; rintro e w' ⟨rfl, rfl⟩) | (go_at_call 48; refine (CL.out _).mono ?_; rintro e w' ⟨rfl, rfl⟩) | (go_at_call 21; refine (l1In_any _ _ _ _).mono ?_; rintro e w' ⟨rfl, rfl⟩))
        all_goals (go_ret; exact ⟨retB HR.out.symm, (Below.refl _ _).alloc (Nat.le_refl _) _⟩)
      · by_cases ha : a = 0
        · subst ha
          have HR := Lib.hid hR
          clear hR hl
          go_enter Try.func36, Try.ntmps36
          go_wp2_with (first | (go_at_call 37; refine (C2.out _).mono ?_; rintro e w' ⟨rfl, rfl⟩) | (go_at_call 38; refine (C1.out _).mono ?_; rintro e w' ⟨rfl, rfl⟩) | (go_at_call 48; refine (CL.out _).mono ?_; rintro e w' ⟨rfl, rfl⟩) | (go_at_call 21; refine (l1In_any _ _ _ _).mono ?_; rintro e w' ⟨rfl, rfl⟩))
          all_goals (go_ret; exact ⟨retB HR.out.symm, (Below.refl _ _).alloc (Nat.le_refl _) _⟩)
        · have ha' : (a == 0) = false := by simpa using ha
          rw [ha'] at hR
          have HR := Lib.hid hR
          clear hR hl ha'
          go_enter Try.func36, Try.ntmps36
          go_wp2_with (first | (go_at_call 37; refine (C2.out _).mono ?_; rintro e w' ⟨rfl, rfl⟩) | (go_at_call 38; refine (C1.out _).mono ?_; rintro e w' ⟨rfl, rfl⟩) | (go_at_call 48; refine (CL.out _).mono ?_; rintro e w' ⟨rfl, rfl⟩) | (go_at_call 21; refine (l1In_any _ _ _ _).mono ?_; rintro e w' ⟨rfl, rfl⟩))
          all_goals (go_ret; exact ⟨retB HR.out.symm, (Below.refl _ _).alloc (Nat.le_refl _) _⟩)
    · rw [decide_eq_false hl] at hR
      have hl' : ((x.size : Int) == 1) = false := by simp; omega
      have HR := Lib.hid hR
      clear hR hl
      go_enter Try.func36, Try.ntmps36
      go_wp2_with (first | (go_at_call 37; refine (C2.out _).mono ?_; rintro e w' ⟨rfl, rfl⟩) | (go_at_call 38; refine (C1.out _).mono ?_; rintro e w' ⟨rfl, rfl⟩) | (go_at_call 48; refine (CL.out _).mono ?_; rintro e w' ⟨rfl, rfl⟩) | (go_at_call 21; refine (l1In_any _ _ _ _).mono ?_; rintro e w' ⟨rfl, rfl⟩))
      all_goals (go_ret; exact ⟨retB HR.out.symm, (Below.refl _ _).alloc (Nat.le_refl _) _⟩)
  · obtain ⟨pr, hpr⟩ : ∃ p, inB kd 1 4 = p := ⟨_, rfl⟩
    have hR : prtOk ⟨kd, x, a, b⟩ i = (pr && noText x && a == 0 && b == 0) := by unfold prtOk; rw [if_neg (by rw [h2]; simp), if_neg (by rw [h1]; simp), if_neg (by simpa using hk3), hpr]
    clear h2 h1 hk1 hk2
    cases pr
    · have HR := Lib.hid hR
      clear hR
      go_enter Try.func36, Try.ntmps36
      go_wp2_with (first | (go_at_call 37; refine (C2.out _).mono ?_; rintro e w' ⟨rfl, rfl⟩) | (go_at_call 38; refine (C1.out _).mono ?_; rintro e w' ⟨rfl, rfl⟩) | (go_at_call 48; refine (CL.out _).mono ?_; rintro e w' ⟨rfl, rfl⟩) | (go_at_call 21; refine (l1In_any _ _ _ _).mono ?_; rintro e w' ⟨rfl, rfl⟩))
      all_goals (go_ret; exact ⟨retB HR.out.symm, (Below.refl _ _).alloc (Nat.le_refl _) _⟩)
    · by_cases hx : x.toList = []
      · rw [noText_y hx] at hR
        by_cases ha : a = 0
        · subst ha
          have HR := Lib.hid hR
          clear hR
          go_enter Try.func36, Try.ntmps36
          go_wp2_with (first | (go_at_call 37; refine (C2.out _).mono ?_; rintro e w' ⟨rfl, rfl⟩) | (go_at_call 38; refine (C1.out _).mono ?_; rintro e w' ⟨rfl, rfl⟩) | (go_at_call 48; refine (CL.out _).mono ?_; rintro e w' ⟨rfl, rfl⟩) | (go_at_call 21; refine (l1In_any _ _ _ _).mono ?_; rintro e w' ⟨rfl, rfl⟩))
          all_goals (go_ret; exact ⟨retB HR.out.symm, (Below.refl _ _).alloc (Nat.le_refl _) _⟩)
        · have ha' : (a == 0) = false := by simpa using ha
          rw [ha'] at hR
          have HR := Lib.hid hR
          clear hR ha'
          go_enter Try.func36, Try.ntmps36
          go_wp2_with (first | (go_at_call 37; refine (C2.out _).mono ?_; rintro e w' ⟨rfl, rfl⟩) | (go_at_call 38; refine (C1.out _).mono ?_; rintro e w' ⟨rfl, rfl⟩) | (go_at_call 48; refine (CL.out _).mono ?_; rintro e w' ⟨rfl, rfl⟩) | (go_at_call 21; refine (l1In_any _ _ _ _).mono ?_; rintro e w' ⟨rfl, rfl⟩))
          all_goals (go_ret; exact ⟨retB HR.out.symm, (Below.refl _ _).alloc (Nat.le_refl _) _⟩)
      · rw [noText_n hx] at hR
        have HR := Lib.hid hR
        clear hR
        go_enter Try.func36, Try.ntmps36
        go_wp2_with (first | (go_at_call 37; refine (C2.out _).mono ?_; rintro e w' ⟨rfl, rfl⟩) | (go_at_call 38; refine (C1.out _).mono ?_; rintro e w' ⟨rfl, rfl⟩) | (go_at_call 48; refine (CL.out _).mono ?_; rintro e w' ⟨rfl, rfl⟩) | (go_at_call 21; refine (l1In_any _ _ _ _).mono ?_; rintro e w' ⟨rfl, rfl⟩))
        all_goals (go_ret; exact ⟨retB HR.out.symm, (Below.refl _ _).alloc (Nat.le_refl _) _⟩)
end Go.Proofs.Ytbpeceejboojoaa
