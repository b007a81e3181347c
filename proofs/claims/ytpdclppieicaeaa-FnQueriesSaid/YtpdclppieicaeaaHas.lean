/- Whether some numbers hold one: the contracts of slices.Index, slices.Contains and of the reference's function. -/
import Derived.Test.YtpdclppieicaeaaInts
import Derived.Test.YtpdclppieicaeaaDelPlain
namespace Go.Proofs.Ytpdclppieicaeaa
set_option linter.unusedVariables false
set_option linter.unusedSimpArgs false
open Go.RowKit

def isX (x : Int) (y : Int) : Bool := decide (y = x)
theorem has_idx (zs : List Int) (x : Int) : decide (0 ≤ idxZ (fstAt (isX x) zs)) = zs.contains x := by
  cases h : fstAt (isX x) zs with
  | none =>
    have : ∀ y ∈ zs, isX x y = false := by unfold fstAt at h; rwa [List.findIdx?_eq_none_iff] at h
    have hc : zs.contains x = false := by
      simp only [List.contains_eq_mem, decide_eq_false_iff_not]
      intro hm
      have := this x hm
      simp [isX] at this
    rw [hc]; simp [idxZ]
  | some k =>
    unfold fstAt at h
    obtain ⟨hk, hp, _⟩ := List.findIdx?_eq_some_iff_getElem.1 h
    have hc : zs.contains x = true := by
      simp only [List.contains_eq_mem, decide_eq_true_eq]
      have : zs[k] = x := by simpa [isX] using hp
      exact this ▸ List.getElem_mem hk
    rw [hc]; simp [idxZ]
set_option maxHeartbeats 1000000 in
theorem index_any (B : Nat) (A : Option Addr) (n c : Nat) (zs : List Int) (x : Int) (w : World) (h : Rd w B 1 A n (ints zs)) (hn : n ≤ 1048576) :
    Calls Try.prog 90 #[.slice A n c, .int .i64 x] w fun e w' => e = .returned (.int .i64 (idxZ (fstAt (isX x) zs))) ∧ w = w' := by
  have hlen := h.int_len
  have HL := Lib.hid hlen
  have H := Lib.hid h
  clear h hlen
  obtain ⟨R, hR⟩ : ∃ R, R = fstAt (isX x) zs := ⟨_, rfl⟩
  have HR := Lib.hid hR
  rw [← hR]
  clear hR
  go_enter Try.func90, Try.ntmps90
  go_wp2
  go_loop [8] (fun i => ∃ k : Nat, k ≤ n ∧ i = .int .i64 k ∧ (∀ j y, j < k → zs[j]? = some y → isX x y = false)) (fun i => n - (intOf i).toNat)
  case atStart => exact ⟨0, Nat.zero_le _, rfl, fun j y hj => absurd hj (by omega)⟩
  case round =>
    obtain ⟨k, hk, rfl, hok⟩ := hrel
    have HK := Lib.hid hok
    clear hok
    by_cases hlt : k < n
    · obtain ⟨b, off, y, rfl, hB, hx, hc⟩ := H.out.int_at hlt
      have HX := Lib.hid hx
      clear hx
      by_cases hxy : x = y
      · have e : R = some k := HR.out.trans (fstAt_hit HX.out (by unfold isX; simp [hxy]) HK.out)
        subst e
        have hd : (x == y) = true := by simpa using hxy
        clear hxy HR HK HX
        go_wp2
        go_ret
        exact ⟨rfl, rfl⟩
      · have hd : (x == y) = false := by simpa using hxy
        have HN := Lib.hid (show isX x y = false by unfold isX; simpa using fun e => hxy e.symm)
        clear hxy
        go_wp2
        go_round
        case rel =>
          refine ⟨k + 1, by omega, by go_num, fun j z hj hz => ?_⟩
          by_cases hjk : j < k
          · exact HK.out j z hjk hz
          · obtain rfl : j = k := by omega
            have := HX.out
            rw [hz] at this
            injection this with this
            rw [this]; exact HN.out
        case measure => simp [intOf]; omega
    · have e : R = none := HR.out.trans (fstAt_none fun j y hy => HK.out j y (by have := (List.getElem?_eq_some_iff.1 hy).1; have := HL.out; omega) hy)
      subst e
      clear HR HK
      go_wp2
      go_ret
      exact ⟨rfl, rfl⟩
set_option maxHeartbeats 1000000 in
theorem contains_any (B : Nat) (A : Option Addr) (n c : Nat) (zs : List Int) (x : Int) (w : World) (h : Rd w B 1 A n (ints zs)) (hn : n ≤ 1048576) :
    Calls Try.prog 78 #[.slice A n c, .int .i64 x] w fun e w' => e = .returned (.bool (zs.contains x)) ∧ w = w' := by
  have HC := Lib.hid (index_any B A n c zs x w h hn)
  have he := has_idx zs x
  generalize zs.contains x = r at he ⊢
  generalize idxZ (fstAt (isX x) zs) = k at HC he
  have HE := Lib.hid he
  clear h he
  go_enter Try.func78, Try.ntmps78
  go_wp2_with fail
  refine HC.out.mono ?_
  rintro e w' ⟨rfl, rfl⟩
  go_wp2
  go_ret
  exact ⟨retB (by rw [← HE.out]), rfl⟩
set_option maxHeartbeats 1000000 in
theorem l1Has_any (B : Nat) (A : Option Addr) (n c : Nat) (zs : List Int) (x : Int) (w : World) (h : Rd w B 1 A n (ints zs)) (hn : n ≤ 1048576) :
    Calls Try.prog 82 #[.slice A n c, .int .i64 x] w fun e w' => e = .returned (.bool (zs.contains x)) ∧ w = w' := by
  have hlen := h.int_len
  have HL := Lib.hid hlen
  have H := Lib.hid h
  clear h hlen
  obtain ⟨R, hR⟩ : ∃ R, R = zs.contains x := ⟨_, rfl⟩
  have HR := Lib.hid hR
  rw [← hR]
  clear hR
  go_enter Try.func82, Try.ntmps82
  go_wp2
  go_loop [9] (fun i => ∃ k : Nat, k ≤ n ∧ i = .int .i64 k ∧ (zs.take k).contains x = false) (fun i => n - (intOf i).toNat)
  case atStart => exact ⟨0, Nat.zero_le _, rfl, rfl⟩
  case round =>
    obtain ⟨k, hk, rfl, hok⟩ := hrel
    have HK := Lib.hid hok
    clear hok
    by_cases hlt : k < n
    · obtain ⟨b, off, y, rfl, hB, hx, hc⟩ := H.out.int_at hlt
      have HX := Lib.hid hx
      clear hx
      by_cases hxy : y = x
      · have e : R = true := HR.out.trans (by simpa using hxy ▸ List.mem_of_getElem? HX.out)
        subst e
        have hd : (y == x) = true := by simpa using hxy
        clear hxy HR HK HX
        go_wp2
        go_ret
        exact ⟨rfl, rfl⟩
      · have hd : (y == x) = false := by simpa using hxy
        have HN := Lib.hid (show (zs.take (k + 1)).contains x = false by
          rw [take_snoc' zs k y HX.out]
          have := HK.out
          simp at this ⊢
          exact ⟨this, fun e => hxy e.symm⟩)
        clear hxy
        go_wp2
        go_round
        case rel => exact ⟨k + 1, by omega, by go_num, HN.out⟩
        case measure => simp [intOf]; omega
    · have e : R = false := by
        have := HK.out
        rw [List.take_of_length_le (by rw [HL.out]; omega)] at this
        exact HR.out.trans this
      subst e
      clear HR HK
      go_wp2
      go_ret
      exact ⟨rfl, rfl⟩
end Go.Proofs.Ytpdclppieicaeaa
