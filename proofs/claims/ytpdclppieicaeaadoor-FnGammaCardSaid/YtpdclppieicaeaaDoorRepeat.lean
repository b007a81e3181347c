/- The library's FormatInt at base 2 and Repeat of a zero. -/
import Derived.Test.YtpdclppieicaeaaDoorFmt2
namespace Go.Proofs.YtpdclppieicaeaaDoor
set_option linter.unusedVariables false
set_option linter.unusedSimpArgs false
open Go.RowKit

set_option maxRecDepth 100000 in
set_option maxHeartbeats 2000000 in
theorem fmtInt2 (n : Nat) (w : World) (hn : n ≤ 1000000) (h7 : 7 < w.heap.size) (hc : w.cell? ⟨7, 1, none⟩ = some (.int .u8 1)) :
    Calls Tryd.prog 31 #[.int .i64 n, .int .i64 2] w fun e w' => e = .returned (.string (sB (bnr n))) ∧ Below w.heap.size w w' := by
  obtain ⟨S, hS⟩ : ∃ S, sB (bnr n) = S := ⟨_, rfl⟩
  have C := formatBits2 n w hn h7 hc
  rw [hS] at C ⊢
  have HC := Lib.hid C
  clear C h7 hc hS
  go_enter Tryd.func31, Tryd.ntmps31
  go_wp2_with fail
  refine HC.out.mono ?_
  rintro e w1 ⟨rfl, hb⟩
  have HB := Lib.hid hb
  clear hb
  go_wp2
  go_ret
  exact ⟨rfl, HB.out⟩
set_option maxRecDepth 100000 in
theorem fmtInt2s (n : Nat) (w : World) (hn : n ≤ 1000000) (h7 : 7 < w.heap.size) (hc : w.cell? ⟨7, 1, none⟩ = some (.int .u8 1)) :
    Calls Tryd.prog 17 #[.int .i64 n, .int .i64 2] w fun e w' => e = .returned (.string (sB (bnr n))) ∧ Below w.heap.size w w' := by
  obtain ⟨S, hS⟩ : ∃ S, sB (bnr n) = S := ⟨_, rfl⟩
  have C := fmtInt2 n w hn h7 hc
  rw [hS] at C ⊢
  have HC := Lib.hid C
  clear C h7 hc hS
  go_enter Tryd.func17, Tryd.ntmps17
  go_wp2_with fail
  refine HC.out.mono ?_
  rintro e w1 ⟨rfl, hb⟩
  have HB := Lib.hid hb
  clear hb
  go_wp2
  go_ret
  exact ⟨rfl, HB.out⟩
set_option maxRecDepth 100000 in
set_option maxHeartbeats 2000000 in
theorem mul64_one (k : Nat) (w : World) (hk : k ≤ 100) : Calls Tryd.prog 54 #[.int .u64 1, .int .u64 k] w fun e w' => e = .returned (.tuple #[.int .u64 0, .int .u64 k]) ∧ w = w' := by
  have h1 : bits BinOp.and IntKind.u64 1 4294967295 = 1 := by rfl
  have h0 : bits BinOp.and IntKind.u64 0 4294967295 = 0 := by rfl
  have hkk : bits BinOp.and IntKind.u64 (k : Int) 4294967295 = (k : Int) := by
    have h := bits_and_u64_nat k 4294967295 (by omega) (by omega)
    rw [show (4294967295 : Nat) = 2 ^ 32 - 1 by rfl, Nat.and_two_pow_sub_one_eq_mod, Nat.mod_eq_of_lt (by omega)] at h
    exact h
  have hd : ((k : Int) / 4294967296) = 0 := by omega
  go_enter Tryd.func54, Tryd.ntmps54
  go_wp2
  go_ret2
  exact ⟨rfl, rfl⟩
set_option maxRecDepth 100000 in
theorem mul_one_ (k : Nat) (w : World) (hk : k ≤ 100) : Calls Tryd.prog 32 #[.int .u64 1, .int .u64 k] w fun e w' => e = .returned (.tuple #[.int .u64 0, .int .u64 k]) ∧ w = w' := by
  have HC := Lib.hid (fun w => mul64_one k w hk)
  go_enter Tryd.func32, Tryd.ntmps32
  go_wp2_with (go_at_call 54; refine (HC.out _).mono ?_; rintro e w' ⟨rfl, rfl⟩)
  go_ret2
  exact ⟨rfl, rfl⟩
def zer64 : ByteArray := (⟨#[48, 48, 48, 48, 48, 48, 48, 48, 48, 48, 48, 48, 48, 48, 48, 48, 48, 48, 48, 48, 48, 48, 48, 48, 48, 48, 48, 48, 48, 48, 48, 48, 48, 48, 48, 48, 48, 48, 48, 48, 48, 48, 48, 48, 48, 48, 48, 48, 48, 48, 48, 48, 48, 48, 48, 48, 48, 48, 48, 48, 48, 48, 48, 48]⟩ : ByteArray)
theorem zer_cut : ∀ k : Fin 20, zer64.extract 0 k.1 = sB (List.replicate k.1 48) := by decide +kernel
set_option maxRecDepth 100000 in
theorem hasPre1 (Z s : ByteArray) (c : UInt8) (b : Bool) (w : World) (hz : 1 ≤ Z.size) (hZ : Z.extract 0 1 = ⟨#[c]⟩) (hs : s = ⟨#[48]⟩) (hb : decide (c = 48) = b) : Calls Tryd.prog 55 #[.string Z, .string s] w fun e w' => e = .returned (.bool b) ∧ w = w' := by
  have h1 : s.size = 1 := by rw [hs]; rfl
  by_cases hc : c = 48
  · subst hc
    have he : Z.extract 0 1 = s := by rw [hZ, hs]
    obtain rfl : b = true := by rw [← hb]; rfl
    clear hZ hs hb
    go_enter Tryd.func55, Tryd.ntmps55
    go_wp2
    go_ret
    exact ⟨rfl, rfl⟩
  · have he2 : ¬ (Z.extract 0 1).toList = s.toList := fun e => by
      rw [ByteArray.toList_eq, ByteArray.toList_eq, hZ, hs] at e
      simp at e
      exact hc e
    obtain rfl : b = false := by rw [← hb]; simpa using hc
    clear hZ hs hb
    go_enter Tryd.func55, Tryd.ntmps55
    go_wp2
    go_ret
    exact ⟨congrArg (fun b => Ending.returned (.bool b)) (by simpa using he2), rfl⟩
set_option maxRecDepth 100000 in
theorem hasPre (Z s : ByteArray) (c : UInt8) (b : Bool) (w : World) (hz : 1 ≤ Z.size) (hZ : Z.extract 0 1 = ⟨#[c]⟩) (hs : s = ⟨#[48]⟩) (hb : decide (c = 48) = b) : Calls Tryd.prog 33 #[.string Z, .string s] w fun e w' => e = .returned (.bool b) ∧ w = w' := by
  have HC := Lib.hid (hasPre1 Z s c b w hz hZ hs hb)
  clear hZ hs hz hb
  go_enter Tryd.func33, Tryd.ntmps33
  go_wp2_with fail
  refine HC.out.mono ?_
  rintro e w' ⟨rfl, rfl⟩
  go_wp2
  go_ret
  exact ⟨rfl, rfl⟩
set_option maxRecDepth 100000 in
set_option maxHeartbeats 4000000 in
theorem repeat0 (k : Nat) (w : World) (hk : k < 20) : Calls Tryd.prog 18 #[.string ⟨#[48]⟩, .int .i64 k] w fun e w' => e = .returned (.string (sB (List.replicate k 48))) ∧ w = w' := by
  obtain ⟨s, hs⟩ : ∃ s : ByteArray, (⟨#[48]⟩ : ByteArray) = s := ⟨_, rfl⟩
  have h1 : s.size = 1 := by rw [← hs]; rfl
  have hdig : ∀ h, (getElem s 0 h).toNat = 48 := by subst hs; exact fun _ => rfl
  have hs1 : sB (List.replicate 1 48) = s := by rw [← hs]; rfl
  have hz := zer_cut ⟨k, hk⟩
  obtain ⟨S, hS⟩ : ∃ S, sB (List.replicate k 48) = S := ⟨_, rfl⟩
  rw [hS] at hz ⊢
  have HM := Lib.hid (fun w => mul_one_ k w (by omega))
  have HS1 := Lib.hid hs1
  have HSS := Lib.hid hs.symm
  rw [hs]
  have HZ := Lib.hid hz
  have HS := Lib.hid hS
  clear hz hS hs hs1
  by_cases h0 : k = 0
  · subst h0
    go_enter Tryd.func18, Tryd.ntmps18
    go_wp2
    go_ret
    exact ⟨by rw [← HS.out]; rfl, rfl⟩
  by_cases h01 : k = 1
  · subst h01
    go_enter Tryd.func18, Tryd.ntmps18
    go_wp2
    go_ret
    exact ⟨by rw [← HS.out, HS1.out]; rfl, rfl⟩
  have h2 : 2 ≤ k := by omega
  clear h0 h01
  go_enter Tryd.func18, Tryd.ntmps18
  go_wp2_with (first | (go_at_call 32; refine (HM.out _).mono ?_; rintro e w' ⟨rfl, rfl⟩) | (go_at_call 33; (first | refine (hasPre _ s 32 false _ (by decide +kernel) (by decide +kernel) HSS.out rfl).mono ?_ | refine (hasPre _ s 45 false _ (by decide +kernel) (by decide +kernel) HSS.out rfl).mono ?_ | refine (hasPre _ s 48 true _ (by decide +kernel) (by decide +kernel) HSS.out rfl).mono ?_); rintro e w' ⟨rfl, rfl⟩))
  go_ret
  exact ⟨congrArg (fun z => Ending.returned (.string z)) HZ.out, rfl⟩
set_option maxRecDepth 100000 in
set_option maxHeartbeats 4000000 in
theorem iGammaBits_any (n : Int) (w : World) (h7 : 7 < w.heap.size) (hc : w.cell? ⟨7, 1, none⟩ = some (.int .u8 1)) : Calls Tryd.prog 5 #[.int .i64 n] w (GB n w) := by
  have CIN := fun w => within_any n 1 1000000 w
  rw [gbK_in] at CIN
  have HIN := Lib.hid CIN
  clear CIN
  cases hK : gbK n with
  | false =>
    have HK := Lib.hid hK
    rw [hK] at HIN
    clear hK h7 hc
    go_enter Tryd.func5, Tryd.ntmps5
    go_wp2_with (go_at_call 16; refine (HIN.out _).mono ?_; rintro e w' ⟨rfl, rfl⟩)
    go_ret2
    exact GB.no_ HK.out (Below.refl _ _)
  | true =>
    obtain ⟨m, rfl, h1, h2⟩ := gbK_t hK
    have HK := Lib.hid hK
    rw [hK] at HIN
    have hl := bnr_len h2
    have hp := bnr_len_pos m
    have HF := Lib.hid (fmtInt2s m w h2 h7 hc)
    obtain ⟨l, hL⟩ : ∃ l, bnr m = l := ⟨_, rfl⟩
    have HL := Lib.hid hL
    rw [hL] at HF hl hp
    obtain ⟨S, hS⟩ : ∃ S, sB l = S := ⟨_, rfl⟩
    rw [hS] at HF
    have hsS : S.size = l.length := by rw [← hS, sB_size]
    obtain ⟨N, hN⟩ : ∃ N, l.length = N := ⟨_, rfl⟩
    rw [hN] at hsS hl hp
    have HR := Lib.hid (fun w => repeat0 (N - 1) w (by omega))
    obtain ⟨Z, hZ⟩ : ∃ Z, sB (List.replicate (N - 1) 48) = Z := ⟨_, rfl⟩
    rw [hZ] at HR
    have hsZ : Z.size = N - 1 := by rw [← hZ, sB_size, List.length_replicate]
    have HX := Lib.hid (show Z ++ S = sB (gam m) by rw [← hZ, ← hS, sB_app]; unfold gam; rw [hL, hN])
    have hcat := fun w => run_string_add_sum (P := Tryd.prog) (w := w) Z S (by omega)
    have hcast : ((N - 1 : Nat) : Int) = (N : Int) - 1 := by omega
    rw [hcast] at HR
    have hSz : (S.size : Int) = N := by rw [hsS]
    clear hK hL hS hsS hN hZ h7 hc hcast hsZ
    go_enter Tryd.func5, Tryd.ntmps5
    go_wp2_with (go_at_call 16; refine (HIN.out _).mono ?_; rintro e w' ⟨rfl, rfl⟩)
    refine HF.out.mono ?_
    rintro e w1 ⟨rfl, hb⟩
    have HB := Lib.hid hb
    clear hb
    go_wp2_with fail
    refine (HR.out _).mono ?_
    rintro e w2 ⟨rfl, rfl⟩
    go_wp2
    go_ret2
    exact GB.yes HK.out HX.out HB.out
end Go.Proofs.YtpdclppieicaeaaDoor
