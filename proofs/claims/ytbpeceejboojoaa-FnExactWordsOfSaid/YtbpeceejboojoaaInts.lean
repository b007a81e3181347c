/- The contracts of the laws' helpers on slices of integers: copying, comparing, marking, holding. -/
import Derived.Test.YtbpeceejboojoaaProg
import Derived.Test.YtbpeceejboojoaaNum
import Derived.Test.YtbpeceejboojoaaMem
import Derived.Deep.QuietTactic
import Derived.BigQuiet
namespace Go.Proofs.Ytbpeceejboojoaa
set_option linter.unusedVariables false
set_option linter.unusedSimpArgs false
open Go.RowKit

theorem infoInt : (Try.prog.info? 3).map (fun i => (i.zero, i.size, i.bytes)) = some (some (.int .i64 0), 1, 8) := by kernel_rfl

/-- The first k of some numbers, and zeros behind. -/
def partly (zs : List Int) (k : Nat) : List Value := ints (zs.take k) ++ List.replicate (zs.length - k) (.int .i64 0)
theorem partly_set (zs : List Int) (k : Nat) (x : Int) (h : zs[k]? = some x) : (partly zs k).set k (.int .i64 x) = partly zs (k + 1) := by
  obtain ⟨hk, rfl⟩ := List.getElem?_eq_some_iff.1 h
  unfold partly
  have e : zs.length - k = (zs.length - (k + 1)) + 1 := by omega
  rw [e, List.replicate_succ, List.set_append_right _ _ (by rw [ints_len, List.length_take]; omega), ints_len, List.length_take, show k - min k zs.length = 0 from by omega, List.set_cons_zero,
    take_snoc' zs k zs[k] h, ints_app, List.append_assoc]
  rfl
theorem partly_zero (zs : List Int) : partly zs 0 = List.replicate zs.length (.int .i64 0) := by simp [partly, ints]
theorem partly_all (zs : List Int) : partly zs zs.length = ints zs := by simp [partly]
theorem partly_len (zs : List Int) (k : Nat) (h : k ≤ zs.length) : (partly zs k).length = zs.length := by
  unfold partly; rw [List.length_append, ints_len, List.length_take, List.length_replicate]; omega

theorem drewN_zero (w : World) : w.drewN 0 = w := rfl
set_option maxHeartbeats 400000 in
theorem eqIntS_same (A A' : Option Addr) (n c c' B : Nat) (zs : List Int) (w : World) (h : Rd w B 1 A n (ints zs)) (h' : Rd w B 1 A' n (ints zs)) (hn : n ≤ 1048576) :
    Calls Try.prog 33 #[.slice A n c, .slice A' n c'] w fun e w' => e = .returned (.bool true) ∧ ∃ q, w' = w.drewN q := by
  have H := Lib.hid h
  have H' := Lib.hid h'
  clear h h'
  go_enter Try.func33, Try.ntmps33
  go_wp2
  go_loopw [5] (fun i wr => ∃ k q : Nat, k ≤ n ∧ i = .int .i64 k ∧ wr = w.drewN q) (fun i _ => n - (intOf i).toNat)
  case atStart => exact ⟨0, 0, Nat.zero_le _, rfl, rfl⟩
  case round =>
    obtain ⟨k, q, hk, rfl, rfl⟩ := hrel
    by_cases hlt : k < n
    · obtain ⟨b, off, x, rfl, hB, hx, hc⟩ := H.out.int_at hlt
      obtain ⟨b', off', x', rfl, hB', hx', hc'⟩ := H'.out.int_at hlt
      obtain rfl : x = x' := by rw [hx] at hx'; injection hx'
      clear hx hx'
      go_wp2
      go_quiet (fail)
      go_wp2
      go_roundw
      case rel => exact ⟨k + 1, q + nq, by omega, by go_num, rfl⟩
      case measure => simp [intOf]; omega
    · go_wp2
      go_ret
      exact ⟨rfl, q, rfl⟩

/-- The numbers k, k + 1, .. that marking writes. -/
def marks (k : Int) (n : Nat) : List Int := (List.range n).map fun (i : Nat) => k + (i : Int)
theorem marks_len (k : Int) (n : Nat) : (marks k n).length = n := by simp [marks]
theorem marks_get (k : Int) (n i : Nat) (h : i < n) : (marks k n)[i]? = some (k + (i : Int)) := by simp [marks, h]
theorem marks_succ (k : Int) (n : Nat) : marks k (n + 1) = marks k n ++ [k + (n : Int)] := by simp [marks, List.range_succ]
def marked (zs : List Int) (k : Int) (j : Nat) : List Value := ints (marks k j) ++ ints (zs.drop j)
theorem marked_len (zs : List Int) (k : Int) (j : Nat) (h : j ≤ zs.length) : (marked zs k j).length = zs.length := by
  unfold marked; rw [List.length_append, ints_len, ints_len, marks_len, List.length_drop]; omega
theorem marked_set (zs : List Int) (k : Int) (j : Nat) (h : j < zs.length) : (marked zs k j).set j (.int .i64 (k + (j : Int))) = marked zs k (j + 1) := by
  unfold marked
  rw [List.set_append_right _ _ (by rw [ints_len, marks_len]; omega), ints_len, marks_len, Nat.sub_self, List.drop_eq_getElem_cons h, marks_succ, ints_app, List.append_assoc]
  rfl
theorem marked_zero (zs : List Int) (k : Int) : marked zs k 0 = ints zs := by simp [marked, marks, ints]
theorem marked_all (zs : List Int) (k : Int) : marked zs k zs.length = ints (marks k zs.length) := by simp [marked, ints]

set_option maxHeartbeats 400000 in
theorem markIntS_any (base : Nat) (A : Option Addr) (n c : Nat) (zs : List Int) (k : Int) (w : World) (h : w.ownsRow base 3 1 (.slice A n c) n (ints zs)) (hn : n ≤ 1048576) (hk0 : 0 ≤ k) (hk1 : k ≤ 1099511627776) :
    Calls Try.prog 34 #[.slice A n c, .int .i64 k] w fun e w' => e = .returned (.int .i64 (k + n)) ∧
      w'.ownsRow base 3 1 (.slice A n c) n (ints (marks k n)) ∧ w.grownBy w' (Value.slice A n c).ownBlock := by
  have hlen : zs.length = n := by have := h.1; rw [ints_len] at this; omega
  have HL := Lib.hid hlen
  have H := Lib.hid h
  clear h hlen
  go_enter Try.func34, Try.ntmps34
  go_wp2
  go_loopw [1, 5] (fun m i wr => ∃ j : Nat, j ≤ n ∧ i = .int .i64 j ∧ m = .int .i64 (k + j) ∧ wr.ownsRow base 3 1 (.slice A n c) n (marked zs k j) ∧ w.grownBy wr (Value.slice A n c).ownBlock) (fun _ i _ => n - (intOf i).toNat)
  case atStart => exact ⟨0, Nat.zero_le _, rfl, by simp, marked_zero zs k ▸ H.out, World.grownBy.refl _ _⟩
  case round =>
    obtain ⟨j, hj, rfl, rfl, ho, hb⟩ := hrel
    by_cases hlt : j < n
    · obtain ⟨g, cap, hv, hbg, hgl, _, _⟩ := own_form ho (by omega)
      obtain ⟨rfl, rfl⟩ : A = some ⟨g, 0, none⟩ ∧ c = cap := by simpa using hv
      clear hv
      have hs := ho.stored j (.int .i64 (k + j))
      have hf := ho.frozenAt j
      obtain ⟨y, hy⟩ : ∃ y, wr.cell? ⟨g, j, none⟩ = some y := by
        rw [ho.cellAt j (by omega)]
        exact ⟨_, List.getElem?_eq_getElem (by rw [marked_len _ _ _ (by have := HL.out; omega)]; have := HL.out; omega)⟩
      have HS := Lib.hid hs
      have HBB := Lib.hid hb
      clear hs hb ho
      go_wp2
      go_roundw
      case rel =>
        have e := marked_set zs k j (by have := HL.out; omega)
        exact ⟨j + 1, by omega, by go_num, by go_num, e ▸ HS.out.1, HBB.out.trans HS.out.2⟩
      case measure => simp [intOf]; omega
    · have hk' : j = n := by omega
      subst hk'
      go_wp2
      go_ret
      refine ⟨rfl, ?_, hb⟩
      have e := HL.out
      subst e
      exact marked_all zs k ▸ ho

set_option maxHeartbeats 400000 in
theorem heldIntS_any (B : Nat) (A : Option Addr) (n c : Nat) (k : Int) (w : World) (h : Rd w B 1 A n (ints (marks k n))) (hn : n ≤ 1048576) (hk0 : 0 ≤ k) (hk1 : k ≤ 1099511627776) :
    Calls Try.prog 35 #[.slice A n c, .int .i64 k] w fun e w' => e = .returned (.int .i64 (k + n)) ∧ w = w' := by
  have H := Lib.hid h
  clear h
  go_enter Try.func35, Try.ntmps35
  go_wp2
  go_loop [1, 5] (fun m i => ∃ j : Nat, j ≤ n ∧ i = .int .i64 j ∧ m = .int .i64 (k + j)) (fun _ i => n - (intOf i).toNat)
  case atStart => exact ⟨0, Nat.zero_le _, rfl, by simp⟩
  case round =>
    obtain ⟨j, hj, rfl, rfl⟩ := hrel
    by_cases hlt : j < n
    · obtain ⟨b, off, x, rfl, hB, hx, hc⟩ := H.out.int_at hlt
      obtain rfl : x = k + j := by rw [marks_get k n j hlt] at hx; injection hx with hx; exact hx.symm
      clear hx
      go_wp2
      go_round
      case rel => exact ⟨j + 1, by omega, by go_num, by go_num⟩
      case measure => simp [intOf]; omega
    · have hk' : j = n := by omega
      subst hk'
      go_wp2
      go_ret
      exact ⟨rfl, rfl⟩
end Go.Proofs.Ytbpeceejboojoaa
