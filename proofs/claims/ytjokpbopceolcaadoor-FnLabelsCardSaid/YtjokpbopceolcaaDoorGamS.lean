/- GammaBits and ReadGamma: the reference's walks. -/
import Derived.Test.YtjokpbopceolcaaDoorNum
import Derived.Test.YtjokpbopceolcaaDoorMem
import Derived.Test.YtjokpbopceolcaaDoorGamPlain
import Derived.Laws.Concat
import Derived.WalkLawsBesides
import Derived.Lib.ConvBytes
import Derived.Lib.RabinKarpLaws
import Derived.Lib.SmallJoins
namespace Go.Proofs.YtjokpbopceolcaaDoor
set_option linter.unusedVariables false
set_option linter.unusedSimpArgs false
open Go.RowKit

/-- A string of bytes. -/
def sB (l : List UInt8) : ByteArray := ⟨l.toArray⟩
theorem sB_size (l : List UInt8) : (sB l).size = l.length := List.size_toArray ..
theorem sB_app (a b : List UInt8) : sB a ++ sB b = sB (a ++ b) := by
  unfold sB
  apply ByteArray.ext
  simp
theorem sB_data (l : List UInt8) : (sB l).data.toList = l := by simp [sB]

set_option maxRecDepth 100000 in
theorem l1Num_bit (n : Nat) (w : World) (h : n < 2) : Calls Tryd.prog 55 #[.int .i64 n] w fun e w' => e = .returned (.string (sB [UInt8.ofNat (48 + n)])) ∧ Below w.heap.size w w' := by
  obtain ⟨c, hc⟩ : ∃ c : UInt8, c = UInt8.ofNat (48 + n) := ⟨_, rfl⟩
  have ec : (c.toNat : Int) = 48 + (n : Int) := by rw [hc, UInt8.toNat_ofNat']; omega
  have hcv : (convert 33 9 (.slice (some ⟨w.heap.size, 0, none⟩) 1 1)).run Tryd.prog (w.alloc (.cells #[.int .u8 (48 + (n : Int))] 5)) = .ok (.string ⟨#[c]⟩) (w.alloc (.cells #[.int .u8 (48 + (n : Int))] 5)) := by
    refine run_convert_bytes_back (P := Tryd.prog) _ 33 9 5 ⟨w.heap.size, 0, none⟩ 1 [c] Tryd.underlying33 Tryd.underlying5 Tryd.underlying9 ?_
    intro i hi
    obtain rfl : i = 0 := by simpa using hi
    simp [Addr.add, ec]
  have HC := Lib.hid hc
  clear hc ec
  go_enter Tryd.func55, Tryd.ntmps55
  go_wp2
  go_ret
  exact ⟨by rw [← HC.out]; rfl, (Below.refl _ _).alloc (Nat.le_refl _) _⟩

set_option maxRecDepth 100000 in
set_option maxHeartbeats 2000000 in
theorem l1Binary_any : ∀ (n : Nat), n ≤ 1000000 → ∀ (w : World), Calls Tryd.prog 34 #[.int .i64 n] w fun e w' => e = .returned (.string (sB (bnr n))) ∧ Below w.heap.size w w' := by
  intro n
  induction n using Nat.strongRecOn with
  | _ n ih =>
    intro hn w
    by_cases h : n < 2
    · have C := l1Num_bit n w h
      rw [← bnr_lo h] at C
      obtain ⟨S, hS⟩ : ∃ S, sB (bnr n) = S := ⟨_, rfl⟩
      rw [hS] at C ⊢
      have HC := Lib.hid C
      clear ih C hS
      go_enter Tryd.func34, Tryd.ntmps34
      go_wp2_with fail
      refine HC.out.mono ?_
      rintro e w1 ⟨rfl, hb⟩
      have HB := Lib.hid hb
      clear hb
      go_wp2
      go_ret
      exact ⟨rfl, HB.out⟩
    · have HE := Lib.hid (bnr_hi h)
      have IH := Lib.hid (fun w => ih (n / 2) (by omega) (by omega) w)
      have IL := Lib.hid (fun w => l1Num_bit (n % 2) w (by omega))
      have hl := bnr_len (n := n / 2) (by omega)
      obtain ⟨S, hS⟩ : ∃ S, sB (bnr (n / 2)) = S := ⟨_, rfl⟩
      obtain ⟨T, hT⟩ : ∃ T, sB [UInt8.ofNat (48 + n % 2)] = T := ⟨_, rfl⟩
      have hsS : S.size ≤ 20 := by rw [← hS, sB_size]; exact hl
      have hsT : T.size ≤ 1 := by rw [← hT, sB_size]; simp
      have HX := Lib.hid (show S ++ T = sB (bnr n) by rw [← hS, ← hT, sB_app, HE.out])
      rw [hS] at IH
      rw [hT] at IL
      have hcat := fun w => run_string_add_sum (P := Tryd.prog) (w := w) S T (by omega)
      clear ih hS hT hl
      go_enter Tryd.func34, Tryd.ntmps34
      go_wp2_with fail
      refine (IH.out _).mono ?_
      rintro e w1 ⟨rfl, hb⟩
      have HB := Lib.hid hb
      clear hb
      go_wp2_with fail
      refine (IL.out _).mono ?_
      rintro e w2 ⟨rfl, hb⟩
      have HB2 := Lib.hid (HB.out.trans (hb.mono HB.out.size))
      clear hb HB
      go_wp2
      go_ret
      exact ⟨by rw [← HX.out]; rfl, HB2.out⟩

theorem byte_atG (s : ByteArray) (k : Nat) (h : k < s.size) : s.data.toList[k]? = some s[k] := by
  rw [List.getElem?_eq_getElem (by simpa using h)]
  rfl
/-- What GammaBits hands back. -/
def gbK (n : Int) : Bool := decide (1 ≤ n) && decide (n ≤ 1000000)
def gbS (n : Int) : ByteArray := if gbK n then sB (gam n.toNat) else ⟨#[]⟩
def GB (n : Int) (w : World) (e : Ending) (w' : World) : Prop := e = .returned (.tuple #[.string (gbS n), .bool (gbK n)]) ∧ Below w.heap.size w w'
theorem GB.no_ {n : Int} {w w' : World} (h : gbK n = false) (hb : Below w.heap.size w w') : GB n w (.returned (.tuple #[.string ⟨#[]⟩, .bool false])) w' := ⟨by unfold gbS; rw [h]; rfl, hb⟩
theorem GB.yes {n : Nat} {w w' : World} {S : ByteArray} (h : gbK n = true) (hS : S = sB (gam n)) (hb : Below w.heap.size w w') : GB n w (.returned (.tuple #[.string S, .bool true])) w' := ⟨by unfold gbS; rw [h, if_pos rfl, hS]; rfl, hb⟩
theorem gbK_t {n : Int} (h : gbK n = true) : ∃ m : Nat, n = m ∧ 1 ≤ m ∧ m ≤ 1000000 := by
  unfold gbK at h
  simp only [Bool.and_eq_true, decide_eq_true_eq] at h
  exact ⟨n.toNat, by omega, by omega, by omega⟩
theorem gbK_f {n : Int} (h : gbK n = false) : ¬ (1 ≤ n ∧ n ≤ 1000000) := by
  rintro ⟨h1, h2⟩
  unfold gbK at h
  rw [decide_eq_true h1, decide_eq_true h2] at h
  cases h

theorem gbK_in (n : Int) : inB n 1 1000000 = gbK n := by
  rw [Bool.eq_iff_iff, inB_iff]
  unfold gbK
  simp
set_option maxRecDepth 100000 in
set_option maxHeartbeats 2000000 in
theorem sGammaBits_any (n : Int) (w : World) : Calls Tryd.prog 12 #[.int .i64 n] w (GB n w) := by
  have CIN := fun w => l1In_any n 1 1000000 w
  rw [gbK_in] at CIN
  have HIN := Lib.hid CIN
  clear CIN
  cases hK : gbK n with
  | false =>
    have HK := Lib.hid hK
    rw [hK] at HIN
    clear hK
    go_enter Tryd.func12, Tryd.ntmps12
    go_wp2_with (go_at_call 28; refine (HIN.out _).mono ?_; rintro e w' ⟨rfl, rfl⟩)
    go_ret2
    exact GB.no_ HK.out (Below.refl _ _)
  | true =>
    obtain ⟨m, rfl, h1, h2⟩ := gbK_t hK
    have HK := Lib.hid hK
    rw [hK] at HIN
    have hl := bnr_len h2
    have hp := bnr_len_pos m
    have HBin := Lib.hid (fun w => l1Binary_any m h2 w)
    have HG := Lib.hid (show gam m = List.replicate ((bnr m).length - 1) 48 ++ bnr m from rfl)
    obtain ⟨l, hL⟩ : ∃ l, bnr m = l := ⟨_, rfl⟩
    rw [hL] at HBin HG hl hp
    obtain ⟨S, hS⟩ : ∃ S, sB l = S := ⟨_, rfl⟩
    rw [hS] at HBin
    have hsS : S.size = l.length := by rw [← hS, sB_size]
    obtain ⟨N, hN⟩ : ∃ N, l.length = N := ⟨_, rfl⟩
    rw [hN] at hsS HG hl hp
    have HS := Lib.hid hS
    have HZ := Lib.hid hsS
    clear hK hL hS hsS hN
    go_enter Tryd.func12, Tryd.ntmps12
    go_wp2_with (go_at_call 28; refine (HIN.out _).mono ?_; rintro e w' ⟨rfl, rfl⟩)
    refine (HBin.out _).mono ?_
    rintro e w1 ⟨rfl, hb⟩
    have HB := Lib.hid hb
    clear hb
    go_wp2
    go_loop [5, 6] (fun s k => ∃ j : Nat, j + 1 ≤ N ∧ k = .int .i64 ((j : Int) + 1) ∧ s = .string (sB (List.replicate j 48 ++ l))) (fun _ k => N - (intOf k).toNat)
    case atStart => exact ⟨0, hp, rfl, by rw [← HS.out]; rfl⟩
    case round =>
      obtain ⟨j, hj, rfl, rfl⟩ := hrel
      have hz : (S.size : Int) = N := by rw [HZ.out]
      by_cases hlt : j + 1 < N
      · obtain ⟨T, hT⟩ : ∃ T, sB (List.replicate j 48 ++ l) = T := ⟨_, rfl⟩
        have hsT : T.size = j + N := by rw [← hT, sB_size, List.length_append, List.length_replicate, ← HZ.out, ← HS.out, sB_size]
        have HT := Lib.hid (show sB [48] ++ T = sB (List.replicate (j + 1) 48 ++ l) by rw [← hT, sB_app]; rfl)
        rw [hT]
        have hcat := fun w => run_string_add_sum (P := Tryd.prog) (w := w) ⟨#[48]⟩ T (by have : (⟨#[48]⟩ : ByteArray).size = 1 := rfl; omega)
        clear hT hsT
        go_wp2
        go_round
        case rel => exact ⟨j + 1, by omega, by go_num, by rw [← HT.out]; rfl⟩
        case measure => simp [intOf]; omega
      · obtain rfl : N = j + 1 := by omega
        go_wp2
        go_ret2
        exact GB.yes HK.out (by rw [HG.out, Nat.add_sub_cancel]) HB.out

end Go.Proofs.YtjokpbopceolcaaDoor
