/- The contracts of PutVarint and LengthOf, and their laws. -/
import Derived.Test.YtdmcfllmhjdleaaVar
namespace Go.Proofs.Ytdmcfllmhjdleaa
set_option linter.unusedVariables false
set_option linter.unusedSimpArgs false
open Go.RowKit

def vz (n : Int) : List UInt8 := vb (zig n).toNat
theorem vz_len {n : Int} (h : isV n = true) : 0 < (vz n).length ∧ (vz n).length ≤ 6 := by
  have := zig_bd (isV_bd h).1 (isV_bd h).2
  exact ⟨vb_pos _, vb_len6 (by omega)⟩
/-- A string of bytes, as the walk holds it. -/
def str (l : List UInt8) : ByteArray := ⟨l.toArray⟩
theorem str_size (l : List UInt8) : (str l).size = l.length := List.size_toArray ..

set_option maxHeartbeats 400000 in
theorem sPutVarint_t (n : Int) (w : World) (h : isV n = true) :
    Calls Try.prog 45 #[.int .i64 n] w fun e w' => e = .returned (.tuple #[.string (str (vz n)), .bool true]) ∧ Below w.heap.size w w' := by
  go_enter Try.func45, Try.ntmps45
  go_wp2_with fail
  refine (l1Value_any _ _).mono ?_
  rintro e w' ⟨rfl, rfl⟩
  go_wp2_with fail
  refine (l1Varint_any _ _ h).mono ?_
  rintro e w1 ⟨rfl, hb⟩
  have HB := Lib.hid hb
  clear hb
  obtain ⟨S, hS⟩ : ∃ S, S = str (vz n) := ⟨_, rfl⟩
  rw [show (⟨(vb (zig n).toNat).toArray⟩ : ByteArray) = S from hS.symm]
  have HS := Lib.hid hS
  clear hS
  go_wp2
  go_ret2
  rw [HS.out]
  exact ⟨rfl, HB.out⟩
set_option maxHeartbeats 400000 in
theorem sPutVarint_f (n : Int) (w : World) (h : isV n = false) :
    Calls Try.prog 45 #[.int .i64 n] w fun e w' => e = .returned (.tuple #[.string (str []), .bool false]) ∧ Below w.heap.size w w' := by
  go_enter Try.func45, Try.ntmps45
  go_wp2_with (go_at_call 87; refine (l1Value_any _ _).mono ?_; rintro e w' ⟨rfl, rfl⟩)
  go_ret2
  exact ⟨rfl, Below.refl _ _⟩
set_option maxHeartbeats 400000 in
theorem sLengthOf_t (n : Int) (w : World) (h : isV n = true) :
    Calls Try.prog 49 #[.int .i64 n] w fun e w' => e = .returned (.tuple #[.int .i64 ((vz n).length : Nat), .bool true]) ∧ Below w.heap.size w w' := by
  obtain ⟨hl0, hl1⟩ := vz_len h
  go_enter Try.func49, Try.ntmps49
  go_wp2_with fail
  refine (l1Value_any _ _).mono ?_
  rintro e w' ⟨rfl, rfl⟩
  go_wp2_with fail
  refine (l1Varint_any _ _ h).mono ?_
  rintro e w1 ⟨rfl, hb⟩
  have HB := Lib.hid hb
  clear hb
  obtain ⟨S, hS⟩ : ∃ S, S = str (vz n) := ⟨_, rfl⟩
  rw [show (⟨(vb (zig n).toNat).toArray⟩ : ByteArray) = S from hS.symm]
  have hsz : S.size = (vz n).length := by rw [hS, str_size]
  have HZ := Lib.hid hsz
  have hsz1 : S.size ≤ 6 := by omega
  clear hS hsz
  go_wp2
  go_ret2
  rw [← HZ.out]
  exact ⟨rfl, HB.out⟩
set_option maxHeartbeats 400000 in
theorem sLengthOf_f (n : Int) (w : World) (h : isV n = false) :
    Calls Try.prog 49 #[.int .i64 n] w fun e w' => e = .returned (.tuple #[.int .i64 0, .bool false]) ∧ Below w.heap.size w w' := by
  go_enter Try.func49, Try.ntmps49
  go_wp2_with (go_at_call 87; refine (l1Value_any _ _).mono ?_; rintro e w' ⟨rfl, rfl⟩)
  go_ret2
  exact ⟨rfl, Below.refl _ _⟩
set_option maxHeartbeats 400000 in
theorem iPutVarint_t (n : Int) (w : World) (h : isV n = true) :
    Calls Try.prog 44 #[.int .i64 n] w fun e w' => e = .returned (.tuple #[.string (str (vz n)), .bool true]) ∧ Below w.heap.size w w' := by
  go_enter Try.func44, Try.ntmps44
  go_wp2_with fail
  refine (isValue_any _ _).mono ?_
  rintro e w' ⟨rfl, rfl⟩
  go_wp2_with fail
  refine (putVarint_any _ _ h).mono ?_
  rintro e w1 ⟨rfl, hb⟩
  have HB := Lib.hid hb
  clear hb
  obtain ⟨S, hS⟩ : ∃ S, S = str (vz n) := ⟨_, rfl⟩
  rw [show (⟨(vb (zig n).toNat).toArray⟩ : ByteArray) = S from hS.symm]
  have HS := Lib.hid hS
  clear hS
  go_wp2
  go_ret2
  rw [HS.out]
  exact ⟨rfl, HB.out⟩
set_option maxHeartbeats 400000 in
theorem iPutVarint_f (n : Int) (w : World) (h : isV n = false) :
    Calls Try.prog 44 #[.int .i64 n] w fun e w' => e = .returned (.tuple #[.string (str []), .bool false]) ∧ Below w.heap.size w w' := by
  go_enter Try.func44, Try.ntmps44
  go_wp2_with (go_at_call 85; refine (isValue_any _ _).mono ?_; rintro e w' ⟨rfl, rfl⟩)
  go_ret2
  exact ⟨rfl, Below.refl _ _⟩
set_option maxHeartbeats 400000 in
theorem iLengthOf_t (n : Int) (w : World) (h : isV n = true) :
    Calls Try.prog 48 #[.int .i64 n] w fun e w' => e = .returned (.tuple #[.int .i64 ((vz n).length : Nat), .bool true]) ∧ Below w.heap.size w w' := by
  obtain ⟨hl0, hl1⟩ := vz_len h
  go_enter Try.func48, Try.ntmps48
  go_wp2_with fail
  refine (isValue_any _ _).mono ?_
  rintro e w' ⟨rfl, rfl⟩
  go_wp2_with fail
  refine (putVarint_any _ _ h).mono ?_
  rintro e w1 ⟨rfl, hb⟩
  have HB := Lib.hid hb
  clear hb
  obtain ⟨S, hS⟩ : ∃ S, S = str (vz n) := ⟨_, rfl⟩
  rw [show (⟨(vb (zig n).toNat).toArray⟩ : ByteArray) = S from hS.symm]
  have hsz : S.size = (vz n).length := by rw [hS, str_size]
  have HZ := Lib.hid hsz
  have hsz1 : S.size ≤ 6 := by omega
  clear hS hsz
  go_wp2
  go_ret2
  rw [← HZ.out]
  exact ⟨rfl, HB.out⟩
set_option maxHeartbeats 400000 in
theorem iLengthOf_f (n : Int) (w : World) (h : isV n = false) :
    Calls Try.prog 48 #[.int .i64 n] w fun e w' => e = .returned (.tuple #[.int .i64 0, .bool false]) ∧ Below w.heap.size w w' := by
  go_enter Try.func48, Try.ntmps48
  go_wp2_with (go_at_call 85; refine (isValue_any _ _).mono ?_; rintro e w' ⟨rfl, rfl⟩)
  go_ret2
  exact ⟨rfl, Below.refl _ _⟩

/-- What PutVarint hands back, of the reference and of the program. -/
theorem putVarint_both (n : Int) : ∃ (S : ByteArray) (K : Bool),
    (∀ w, Calls Try.prog 45 #[.int .i64 n] w fun e w' => e = .returned (.tuple #[.string S, .bool K]) ∧ Below w.heap.size w w') ∧
    (∀ w, Calls Try.prog 44 #[.int .i64 n] w fun e w' => e = .returned (.tuple #[.string S, .bool K]) ∧ Below w.heap.size w w') := by
  by_cases h : isV n = true
  · exact ⟨_, _, fun w => sPutVarint_t n w h, fun w => iPutVarint_t n w h⟩
  · exact ⟨_, _, fun w => sPutVarint_f n w (by simpa using h), fun w => iPutVarint_f n w (by simpa using h)⟩
theorem lengthOf_both (n : Int) : ∃ (R : Int) (K : Bool),
    (∀ w, Calls Try.prog 49 #[.int .i64 n] w fun e w' => e = .returned (.tuple #[.int .i64 R, .bool K]) ∧ Below w.heap.size w w') ∧
    (∀ w, Calls Try.prog 48 #[.int .i64 n] w fun e w' => e = .returned (.tuple #[.int .i64 R, .bool K]) ∧ Below w.heap.size w w') := by
  by_cases h : isV n = true
  · exact ⟨_, _, fun w => sLengthOf_t n w h, fun w => iLengthOf_t n w h⟩
  · exact ⟨_, _, fun w => sLengthOf_f n w (by simpa using h), fun w => iLengthOf_f n w (by simpa using h)⟩

end Go.Proofs.Ytdmcfllmhjdleaa
