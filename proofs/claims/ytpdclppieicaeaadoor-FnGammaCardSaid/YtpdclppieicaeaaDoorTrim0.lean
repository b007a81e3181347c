/- The library's IndexByte and Trim at one byte. -/
import Derived.Test.YtpdclppieicaeaaDoorGamS
import Derived.Lib.Bytealg
import Derived.Deep.QuietTactic
import Derived.BigQuiet
namespace Go.Proofs.YtpdclppieicaeaaDoor
set_option linter.unusedVariables false
set_option linter.unusedSimpArgs false
open Go.RowKit

def one1Z (l : List UInt8) : Int := match one1 l with | none => -1 | some k => k
theorem idx_one1 (l : List UInt8) : Lib.indexByte l 49 = one1Z l := by
  induction l with
  | nil => rfl
  | cons c l ih =>
    unfold one1Z
    rw [one1]
    by_cases h : c = 49
    · rw [if_pos h]; simp [Lib.indexByte, h]
    · rw [if_neg h]
      unfold one1Z at ih
      cases e : one1 l with
      | none => rw [e] at ih; simp [Lib.indexByte, h, ih]
      | some k => rw [e] at ih; simp [Lib.indexByte, h, ih] <;> omega
set_option maxRecDepth 100000 in
theorem idxByte1 (s : ByteArray) (w : World) : Calls Tryd.prog 39 #[.string s, .int .u8 49] w fun e w' => e = .returned (.int .i64 (one1Z s.data.toList)) ∧ w = w' := by
  rw [← idx_one1]
  go_enter Tryd.func39, Tryd.ntmps39
  go_wp2
  rw [run_callFunc_extern Tryd.func58 (by kernel_rfl) (by kernel_rfl) (by kernel_rfl) (e := Extern.BytealgIndexByte.indexByte) (by kernel_rfl), Lib.run_indexByteString]
  simp only [Result.andThen]
  rw [Oper.upon_value]
  go_wp2
  go_ret
  exact ⟨rfl, rfl⟩
set_option maxRecDepth 100000 in
theorem idxByte (s : ByteArray) (w : World) : Calls Tryd.prog 23 #[.string s, .int .u8 49] w fun e w' => e = .returned (.int .i64 (one1Z s.data.toList)) ∧ w = w' := by
  have HC := Lib.hid (idxByte1 s w)
  go_enter Tryd.func23, Tryd.ntmps23
  go_wp2_with fail
  refine HC.out.mono ?_
  rintro e w' ⟨rfl, rfl⟩
  go_wp2
  go_ret
  exact ⟨rfl, rfl⟩
def trL (l : List UInt8) : List UInt8 := l.dropWhile (· == 48)
def trR (l : List UInt8) : List UInt8 := (trL l.reverse).reverse
theorem sB_of {s : ByteArray} {l : List UInt8} (h : s.data.toList = l) : s = sB l := by subst h; unfold sB; simp
theorem byte_atT (s : ByteArray) (k : Nat) (h : k < s.size) : s.data.toList[k]? = some s[k] := byte_atG s k h
theorem extT (s : ByteArray) (a b : Nat) : (s.extract a b).data.toList = (s.data.toList.drop a).take (b - a) := by
  rw [ByteArray.data_extract, Array.toList_extract]
set_option maxRecDepth 100000 in
set_option maxHeartbeats 2000000 in
theorem trimL48 (s : ByteArray) (w : World) (hs : s.size ≤ 1048576) : Calls Tryd.prog 40 #[.string s, .int .u8 48] w fun e w' => e = .returned (.string (sB (trL s.data.toList))) ∧ w = w' := by
  obtain ⟨L, hL⟩ : ∃ L, trL s.data.toList = L := ⟨_, rfl⟩
  have HL := Lib.hid hL
  rw [hL]
  clear hL
  go_enter Tryd.func40, Tryd.ntmps40
  go_wp2
  go_loop [0] (fun v => ∃ x : ByteArray, v = .string x ∧ x.size ≤ 1048576 ∧ trL x.data.toList = L) (fun v => match v with | .string x => x.size | _ => 0)
  case atStart => exact ⟨s, rfl, hs, HL.out⟩
  case round =>
    obtain ⟨x, rfl, hx, ht⟩ := hrel
    have HT := Lib.hid ht
    clear ht
    have hlen : x.data.toList.length = x.size := by simp
    by_cases h0 : 0 < x.size
    · have hb := byte_atT x 0 h0
      by_cases hc : x[0] = 48
      · have h1 : (x[0].toNat : Int) = 48 := by rw [hc]; rfl
        have h2 : x[0].toNat = 48 := by rw [hc]; rfl
        have HN := Lib.hid (show trL (x.extract 1 x.size).data.toList = L by
          rw [extT, List.take_of_length_le (by rw [List.length_drop]; omega), ← HT.out]
          cases e : x.data.toList with
          | nil => rw [e] at hb; simp at hb
          | cons c r => rw [e] at hb; simp at hb; rw [hb, hc]; simp [trL])
        have hsz : (x.extract 1 x.size).size = x.size - 1 := by simp
        clear hb hc hlen
        go_wp2
        go_round
        case rel => exact ⟨_, rfl, by omega, HN.out⟩
        case measure => show (x.extract 1 x.size).size < x.size; omega
      · have h1 : ¬ x[0].toNat = 48 := fun e => hc (UInt8.toNat_inj.1 (by rw [e]; rfl))
        have h2 : ((x[0].toNat : Int) == 48) = false := by rw [beq_eq_false_iff_ne]; omega
        have HE := Lib.hid (show x = sB L by
          refine sB_of ?_
          rw [← HT.out]
          cases e : x.data.toList with
          | nil => rw [e] at hb; simp at hb
          | cons c r => rw [e] at hb; simp at hb; rw [hb]; simp [trL, hc])
        clear hb hc hlen
        go_wp2
        go_ret
        exact ⟨by rw [← HE.out]; rfl, rfl⟩
    · have hz : x.size = 0 := by omega
      have HE := Lib.hid (show x = sB L by
        refine sB_of ?_
        have : x.data.toList = [] := List.eq_nil_of_length_eq_zero (by omega)
        rw [← HT.out, this]; rfl)
      clear hlen
      go_wp2
      go_ret
      exact ⟨by rw [← HE.out]; rfl, rfl⟩
theorem trR_snoc (l : List UInt8) (c : UInt8) : trR (l ++ [c]) = if c = 48 then trR l else l ++ [c] := by
  unfold trR trL
  rw [List.reverse_append, List.reverse_singleton, List.singleton_append, List.dropWhile_cons]
  by_cases h : c = 48
  · simp [h]
  · simp [h]
set_option maxRecDepth 100000 in
set_option maxHeartbeats 2000000 in
theorem trimR48 (s : ByteArray) (w : World) (hs : s.size ≤ 1048576) : Calls Tryd.prog 41 #[.string s, .int .u8 48] w fun e w' => e = .returned (.string (sB (trR s.data.toList))) ∧ w = w' := by
  obtain ⟨L, hL⟩ : ∃ L, trR s.data.toList = L := ⟨_, rfl⟩
  have HL := Lib.hid hL
  rw [hL]
  clear hL
  go_enter Tryd.func41, Tryd.ntmps41
  go_wp2
  go_loop [0] (fun v => ∃ x : ByteArray, v = .string x ∧ x.size ≤ 1048576 ∧ trR x.data.toList = L) (fun v => match v with | .string x => x.size | _ => 0)
  case atStart => exact ⟨s, rfl, hs, HL.out⟩
  case round =>
    obtain ⟨x, rfl, hx, ht⟩ := hrel
    have HT := Lib.hid ht
    clear ht
    have hlen : x.data.toList.length = x.size := by simp
    by_cases h0 : 0 < x.size
    · obtain ⟨m, hm⟩ : ∃ m, m + 1 = x.size := ⟨x.size - 1, by omega⟩
      have hb := byte_atT x m (by omega)
      have hmi : ((x.size : Int) - 1) = (m : Int) := by omega
      have hsn := take_snoc' x.data.toList m x[m] hb
      rw [List.take_of_length_le (by omega)] at hsn
      have HSN := Lib.hid hsn
      by_cases hc : x[m] = 48
      · have h1 : (x[m].toNat : Int) = 48 := by rw [hc]; rfl
        have h2 : x[m].toNat = 48 := by rw [hc]; rfl
        have HN := Lib.hid (show trR (x.extract 0 m).data.toList = L by
          rw [extT, List.drop_zero, Nat.sub_zero, ← HT.out, HSN.out, trR_snoc, if_pos hc, List.take_append_of_le_length (by rw [List.length_take]; omega), List.take_take, Nat.min_self])
        have hsz : (x.extract 0 m).size = m := by simp; omega
        clear hb hsn
        go_wp2
        go_round
        case rel => exact ⟨_, rfl, by omega, HN.out⟩
        case measure => show (x.extract 0 m).size < x.size; omega
      · have h1 : ¬ x[m].toNat = 48 := fun e => hc (UInt8.toNat_inj.1 (by rw [e]; rfl))
        have h2 : ((x[m].toNat : Int) == 48) = false := by rw [beq_eq_false_iff_ne]; omega
        have HE := Lib.hid (show x = sB L by
          refine sB_of ?_
          rw [← HT.out]
          conv => rhs; rw [HSN.out, trR_snoc, if_neg hc]
          exact HSN.out)
        clear hb hsn
        go_wp2
        go_ret
        exact ⟨by rw [← HE.out]; rfl, rfl⟩
    · have hz : x.size = 0 := by omega
      have HE := Lib.hid (show x = sB L by
        refine sB_of ?_
        have : x.data.toList = [] := List.eq_nil_of_length_eq_zero (by omega)
        rw [← HT.out, this]; rfl)
      clear hlen
      go_wp2
      go_ret
      exact ⟨by rw [← HE.out]; rfl, rfl⟩
theorem dw_nil (l : List UInt8) : (l.dropWhile (· == 48) = [] ↔ l.all (· == 48) = true) := by
  induction l with
  | nil => simp
  | cons c l ih =>
    rw [List.dropWhile_cons, List.all_cons]
    by_cases h : c = 48
    · simp only [h, beq_self_eq_true, if_true, Bool.true_and]; exact ih
    · simp [h]
theorem dw_head (l : List UInt8) : ∀ (c : UInt8) (r : List UInt8), l.dropWhile (· == 48) = c :: r → c ≠ 48 := by
  induction l with
  | nil => intro c r h; simp at h
  | cons d l ih =>
    intro c r h
    rw [List.dropWhile_cons] at h
    by_cases hd : d = 48
    · rw [if_pos (by simp [hd])] at h; exact ih c r h
    · rw [if_neg (by simp [hd])] at h
      injection h with h1 h2
      rw [← h1]; exact hd
theorem trR_all (l : List UInt8) : (trR l = [] ↔ l.all (· == 48) = true) := by
  unfold trR trL
  rw [List.reverse_eq_nil_iff, dw_nil, List.all_reverse]
theorem trLR_all (l : List UInt8) : (trL (trR l) = [] ↔ l.all (· == 48) = true) := by
  rw [← trR_all]
  constructor
  · intro h
    unfold trL at h
    rw [dw_nil] at h
    cases e : trL l.reverse with
    | nil => unfold trR; rw [e]; rfl
    | cons c r =>
      exfalso
      have hc := dw_head l.reverse c r e
      have hm : c ∈ trR l := by unfold trR; rw [e]; simp
      have := List.all_eq_true.1 h c hm
      exact hc (by simpa using this)
  · intro h; rw [h]; rfl
set_option maxRecDepth 100000 in
set_option maxHeartbeats 2000000 in
theorem trim48 (s : ByteArray) (w : World) (hs : s.size ≤ 1048576) : Calls Tryd.prog 24 #[.string s, .string ⟨#[48]⟩] w fun e w' => e = .returned (.string (sB (trL (trR s.data.toList)))) ∧ ∃ m, w' = w.drewN m := by
  obtain ⟨z, hz⟩ : ∃ z : ByteArray, (⟨#[48]⟩ : ByteArray) = z := ⟨_, rfl⟩
  have h1 : z.size = 1 := by rw [← hz]; rfl
  have hd : ∀ h, (getElem z 0 h).toNat = 48 := by subst hz; exact fun _ => rfl
  have hzl : z.data.toList.length = z.size := by simp
  have hzne : z.toList.isEmpty = false := by
    rw [ByteArray.toList_eq]
    cases e : z.data.toList with
    | nil => rw [e] at hzl; simp at hzl; omega
    | cons c r => rfl
  clear hzl
  rw [hz]
  clear hz
  by_cases h0 : s.size = 0
  · have he : s.data.toList = [] := List.eq_nil_of_length_eq_zero (by simpa using h0)
    have hse : s = ⟨#[]⟩ := by apply ByteArray.ext; apply Array.ext'; simpa using he
    rw [he, hse]
    clear he hse h0 hs
    go_enter Tryd.func24, Tryd.ntmps24
    go_wp2
    go_ret
    exact ⟨rfl, 0, rfl⟩
  · have hsl : s.data.toList.length = s.size := by simp
    have hne : s.toList.isEmpty = false := by
      rw [ByteArray.toList_eq]
      cases e : s.data.toList with
      | nil => rw [e] at hsl; simp at hsl; omega
      | cons c r => rfl
    clear hsl
    have HR := Lib.hid (fun w => trimR48 s w hs)
    obtain ⟨R, hR⟩ : ∃ R, trR s.data.toList = R := ⟨_, rfl⟩
    have hrl : R.length ≤ s.size := by
      rw [← hR]; unfold trR trL
      rw [List.length_reverse]
      have := (List.dropWhile_suffix (l := s.data.toList.reverse) (fun x : UInt8 => x == 48)).length_le
      simpa using this
    have HLf := Lib.hid (fun w => trimL48 (sB R) w (by rw [sB_size]; omega))
    rw [sB_data] at HLf
    rw [hR] at HR ⊢
    clear hR
    go_enter Tryd.func24, Tryd.ntmps24
    go_wp2
    go_quiet (first | (go_at_call 41; exact Calls.quiet_of ((HR.out _).mono fun _ _ ⟨h, e⟩ => ⟨h, 0, e ▸ rfl⟩)) | (go_at_call 40; exact Calls.quiet_of ((HLf.out _).mono fun _ _ ⟨h, e⟩ => ⟨h, 0, e ▸ rfl⟩)))
    go_wp2
    go_ret
    exact ⟨rfl, _, rfl⟩
end Go.Proofs.YtpdclppieicaeaaDoor
