/- GetVarint of the reference and of the program, at every place; and the law. -/
import Derived.Test.YtdmcfllmhjdleaaGetS
namespace Go.Proofs.Ytdmcfllmhjdleaa
set_option linter.unusedVariables false
set_option linter.unusedSimpArgs false
open Go.RowKit

/-- What stands at a place: none where the place is outside. -/
def gAt (s : ByteArray) (n : Int) : Option (Int × Nat) := if 0 ≤ n ∧ n < s.size then gv (from_ s n.toNat) else none
theorem gAt_in {s : ByteArray} {pos : Nat} (h : pos < s.size) : gAt s pos = gv (from_ s pos) := by unfold gAt; rw [if_pos (by omega), Int.toNat_natCast]
theorem gAt_out {s : ByteArray} {n : Int} (h : n < 0 ∨ (s.size : Int) ≤ n) : gAt s n = none := by unfold gAt; rw [if_neg (by omega)]

theorem gvI_form (p : Nat) (R : Option (Int × Nat)) : ∃ a b c, gvI p R = .tuple #[.int .i64 a, .int .i64 b, .bool c] := by
  cases R with
  | none => exact ⟨_, _, _, rfl⟩
  | some q => exact ⟨_, _, _, rfl⟩

set_option maxHeartbeats 1000000 in
theorem getVarint_out (s : ByteArray) (n : Int) (w : World) (hs : s.size ≤ 1048576) (h : n < 0 ∨ (s.size : Int) ≤ n) :
    Calls Try.prog 91 #[.string s, .int .i64 n] w fun e w' => e = .returned (gvI n.toNat none) ∧ w = w' := by
  rcases h with h | h
  · go_enter Try.func91, Try.ntmps91
    go_wp2
    go_ret3
    exact ⟨rfl, rfl⟩
  · go_enter Try.func91, Try.ntmps91
    go_wp2
    refine wp_loop_rounds 1 ?_
    rw [rounds_succ]
    go_wp2
    go_ret3
    exact ⟨rfl, rfl⟩

/-- What GetVarint hands back, of the program. -/
theorem getVarint_at (s : ByteArray) (n : Int) (w : World) (hs : s.size ≤ 1048576) :
    Calls Try.prog 91 #[.string s, .int .i64 n] w fun e w' => e = .returned (gvI n.toNat (gAt s n)) ∧ w = w' := by
  by_cases h : 0 ≤ n ∧ n < s.size
  · obtain ⟨pos, rfl⟩ := Int.eq_ofNat_of_zero_le h.1
    rw [gAt_in (by omega), Int.toNat_natCast]
    exact getVarint_any s pos w hs (by omega)
  · rw [gAt_out (by omega)]
    exact getVarint_out s n w hs (by omega)
set_option maxHeartbeats 1000000 in
theorem iGetVarint_at (s : ByteArray) (n : Int) (w : World) (hs : s.size ≤ 1048576) :
    Calls Try.prog 50 #[.string s, .int .i64 n] w fun e w' => e = .returned (gvI n.toNat (gAt s n)) ∧ w = w' := by
  have H := Lib.hid (getVarint_at s n w hs)
  obtain ⟨a, b, c, hv⟩ := gvI_form n.toNat (gAt s n)
  have HV := Lib.hid hv
  rw [hv]
  clear hv
  go_enter Try.func50, Try.ntmps50
  go_wp2_with fail
  refine H.out.mono ?_
  rintro e w' ⟨rfl, rfl⟩
  rw [HV.out]
  go_wp2
  go_ret3
  exact ⟨rfl, rfl⟩
set_option maxHeartbeats 1000000 in
theorem sGetVarint_at (s : ByteArray) (n : Int) (w : World) (hs : s.size ≤ 1048576) :
    Calls Try.prog 53 #[.string s, .int .i64 n] w fun e w' => e = .returned (gvI n.toNat (gAt s n)) ∧ Below w.heap.size w w' := by
  by_cases h : 0 ≤ n ∧ n < s.size
  · obtain ⟨pos, rfl⟩ := Int.eq_ofNat_of_zero_le h.1
    have hlt : pos < s.size := by omega
    rw [gAt_in hlt, Int.toNat_natCast]
    have H := Lib.hid (l1Get_any s pos w hs (by omega))
    have hbd := fun m k => gv_bd (l := from_ s pos) (n := m) (k := k)
    generalize gv (from_ s pos) = R at H hbd ⊢
    have HB := Lib.hid hbd
    clear hbd h
    go_enter Try.func53, Try.ntmps53
    go_wp2_with fail
    refine H.out.mono ?_
    rintro e w1 ⟨rfl, hb⟩
    have HBB := Lib.hid hb
    clear hb
    cases R with
    | none =>
      simp only [gvS]
      go_wp2
      go_ret3
      exact ⟨rfl, HBB.out⟩
    | some p =>
      obtain ⟨m, k⟩ := p
      obtain ⟨h1, h2, h3, h4⟩ := HB.out m k rfl
      rw [from_len] at h4
      clear HB
      simp only [gvS]
      go_wp2
      go_ret3
      exact ⟨rfl, HBB.out⟩
  · rw [gAt_out (by omega)]
    have h' : n < 0 ∨ (s.size : Int) ≤ n := by omega
    clear h
    rcases h' with h | h
    · go_enter Try.func53, Try.ntmps53
      go_wp2
      go_ret3
      exact ⟨rfl, Below.refl _ _⟩
    · by_cases hn : n < 0
      · go_enter Try.func53, Try.ntmps53
        go_wp2
        go_ret3
        exact ⟨rfl, Below.refl _ _⟩
      · go_enter Try.func53, Try.ntmps53
        go_wp2
        go_ret3
        exact ⟨rfl, Below.refl _ _⟩
end Go.Proofs.Ytdmcfllmhjdleaa
