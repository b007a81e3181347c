/- The contracts of the hash functions, and the law HashText. -/
import Derived.Test.YtjokpbopceolcaaDoorNum
import Derived.Lib.Hide
namespace Go.Proofs.YtjokpbopceolcaaDoor
set_option linter.unusedVariables false
set_option linter.unusedSimpArgs false
open Go.RowKit

def hashL (l : List UInt8) : Int := l.foldl (fun h c => (31 * h + (c.toNat : Int)) % 1009) 7
theorem hash_step (l : List UInt8) (c : UInt8) : hashL (l ++ [c]) = (31 * hashL l + (c.toNat : Int)) % 1009 := by unfold hashL; rw [List.foldl_append]; rfl
theorem hash_bd_aux (l : List UInt8) : ∀ h : Int, 0 ≤ h → h ≤ 1008 → 0 ≤ l.foldl (fun h (c : UInt8) => (31 * h + (c.toNat : Int)) % 1009) h ∧ l.foldl (fun h (c : UInt8) => (31 * h + (c.toNat : Int)) % 1009) h ≤ 1008 := by
  induction l with
  | nil => intro h h0 h1; exact ⟨h0, h1⟩
  | cons c l ih => intro h h0 h1; rw [List.foldl_cons]; exact ih _ (by omega) (by omega)
theorem hash_bd (l : List UInt8) : 0 ≤ hashL l ∧ hashL l ≤ 1008 := hash_bd_aux l 7 (by omega) (by omega)
theorem take_snoc (s : ByteArray) (k : Nat) (h : k < s.size) : s.data.toList.take (k + 1) = s.data.toList.take k ++ [s[k]] := by
  rw [List.take_succ_eq_append_getElem (by simpa using h)]; rfl

set_option maxHeartbeats 400000 in
theorem sHash_any (s : ByteArray) (w : World) (hs : s.size ≤ 1048576) :
    Calls Tryd.prog 50 #[.string s] w fun e w' => e = .returned (.int .i64 (hashL s.data.toList)) ∧ w = w' := by
  go_enter Tryd.func50, Tryd.ntmps50
  go_wp2
  go_loop [3, 4] (fun h i => ∃ k : Nat, k ≤ s.size ∧ i = .int .i64 k ∧ h = .int .i64 (hashL (s.data.toList.take k))) (fun _ i => s.size - (intOf i).toNat)
  case atStart => exact ⟨0, Nat.zero_le _, rfl, rfl⟩
  case round =>
    obtain ⟨k, hk, rfl, rfl⟩ := hrel
    obtain ⟨hb0, hb1⟩ := hash_bd (s.data.toList.take k)
    by_cases hlt : k < s.size
    · have hc : (s[k].toNat : Int) < 256 := by have := s[k].toNat_lt; omega
      have HS := Lib.hid (hash_step (s.data.toList.take k) s[k])
      have HT := Lib.hid (take_snoc s k hlt)
      go_wp2
      go_round
      case rel => exact ⟨k + 1, by omega, by go_num, by rw [HT.out, HS.out]⟩
      case measure => simp [intOf]; omega
    · go_wp2
      go_ret
      exact ⟨retI (by rw [List.take_of_length_le (by simp; omega)]), rfl⟩
set_option maxHeartbeats 400000 in
theorem iHash_any (s : ByteArray) (w : World) (hs : s.size ≤ 1048576) :
    Calls Tryd.prog 49 #[.string s] w fun e w' => e = .returned (.int .i64 (hashL s.data.toList)) ∧ w = w' := by
  go_enter Tryd.func49, Tryd.ntmps49
  go_wp2
  go_loop [3, 7] (fun h i => ∃ k : Nat, k ≤ s.size ∧ i = .int .i64 k ∧ h = .int .i64 (hashL (s.data.toList.take k))) (fun _ i => s.size - (intOf i).toNat)
  case atStart => exact ⟨0, Nat.zero_le _, rfl, rfl⟩
  case round =>
    obtain ⟨k, hk, rfl, rfl⟩ := hrel
    obtain ⟨hb0, hb1⟩ := hash_bd (s.data.toList.take k)
    by_cases hlt : k < s.size
    · have hc : (s[k].toNat : Int) < 256 := by have := s[k].toNat_lt; omega
      have HS := Lib.hid (hash_step (s.data.toList.take k) s[k])
      have HT := Lib.hid (take_snoc s k hlt)
      go_wp2
      go_round
      case rel => exact ⟨k + 1, by omega, by go_num, by rw [HT.out, HS.out]⟩
      case measure => simp [intOf]; omega
    · go_wp2
      go_ret
      exact ⟨retI (by rw [List.take_of_length_le (by simp; omega)]), rfl⟩

def okLen (s : ByteArray) : Bool := decide ((s.size : Int) ≤ 600)
set_option maxHeartbeats 400000 in
theorem sHashText_t (s : ByteArray) (w : World) (hs : s.size ≤ 600) :
    Calls Tryd.prog 27 #[.string s] w fun e w' => e = .returned (.tuple #[.int .i64 (hashL s.data.toList), .bool true]) ∧ w = w' := by
  go_enter Tryd.func27, Tryd.ntmps27
  go_wp2_with (go_at_call 50; refine (sHash_any _ _ (by omega)).mono ?_; rintro e w' ⟨rfl, rfl⟩)
  go_ret2
  exact ⟨rfl, rfl⟩
set_option maxHeartbeats 400000 in
theorem sHashText_f (s : ByteArray) (w : World) (hs : 600 < s.size) :
    Calls Tryd.prog 27 #[.string s] w fun e w' => e = .returned (.tuple #[.int .i64 0, .bool false]) ∧ w = w' := by
  go_enter Tryd.func27, Tryd.ntmps27
  go_wp2
  go_ret2
  exact ⟨rfl, rfl⟩
set_option maxHeartbeats 400000 in
theorem iHashText_t (s : ByteArray) (w : World) (hs : s.size ≤ 600) :
    Calls Tryd.prog 26 #[.string s] w fun e w' => e = .returned (.tuple #[.int .i64 (hashL s.data.toList), .bool true]) ∧ w = w' := by
  go_enter Tryd.func26, Tryd.ntmps26
  go_wp2_with (go_at_call 49; refine (iHash_any _ _ (by omega)).mono ?_; rintro e w' ⟨rfl, rfl⟩)
  go_ret2
  exact ⟨rfl, rfl⟩
set_option maxHeartbeats 400000 in
theorem iHashText_f (s : ByteArray) (w : World) (hs : 600 < s.size) :
    Calls Tryd.prog 26 #[.string s] w fun e w' => e = .returned (.tuple #[.int .i64 0, .bool false]) ∧ w = w' := by
  go_enter Tryd.func26, Tryd.ntmps26
  go_wp2
  go_ret2
  exact ⟨rfl, rfl⟩
end Go.Proofs.YtjokpbopceolcaaDoor
