/- The tests on words and labels of the reference and of the program. -/
import Derived.Test.YtjokpbopceolcaaDoorLabs
namespace Go.Proofs.YtjokpbopceolcaaDoor
set_option linter.unusedVariables false
set_option linter.unusedSimpArgs false
open Go.RowKit

theorem byte_at (s : ByteArray) (k : Nat) (h : k < s.size) : s.data.toList[k]? = some s[k] := by
  rw [Array.getElem?_toList]; exact Array.getElem?_eq_getElem h
theorem word_step {d : Bool} {s : ByteArray} {k : Nat} (h : k < s.size) (hp : (s.data.toList.take k).all (chOk d) = true) (hc : chOk d s[k] = true) : (s.data.toList.take (k + 1)).all (chOk d) = true := by
  rw [take_snoc' _ k _ (byte_at s k h), List.all_append, hp]
  simp [hc]
theorem word_bad {d : Bool} {s : ByteArray} {k : Nat} (h : k < s.size) (hc : chOk d s[k] = false) : wordOk d s = false := by
  unfold wordOk
  have : s.data.toList.all (chOk d) = false := by
    rw [List.all_eq_false]
    exact ⟨s[k], List.mem_of_getElem? (byte_at s k h), by simp [hc]⟩
  rw [this]; rfl
theorem word_end {d : Bool} {s : ByteArray} (h : (s.data.toList.take s.size).all (chOk d) = true) : inB (s.size : Nat) 1 8 = wordOk d s := by
  have e : s.data.toList.take s.size = s.data.toList := List.take_of_length_le (Nat.le_of_eq (by rw [Array.length_toList]; rfl))
  rw [e] at h
  unfold wordOk inB
  rw [h, Bool.true_and, Bool.eq_iff_iff]
  simp
  omega
theorem ch_low {c : UInt8} (d : Bool) (h1 : (97 : Int) ≤ (c.toNat : Int)) (h2 : (c.toNat : Int) ≤ 122) : chOk d c = true := by
  have h1' : 97 ≤ c.toNat := by omega
  have h2' : c.toNat ≤ 122 := by omega
  unfold chOk; simp [h1', h2']
theorem ch_dig {c : UInt8} (h1 : (48 : Int) ≤ (c.toNat : Int)) (h2 : (c.toNat : Int) ≤ 57) : chOk true c = true := by
  have h1' : 48 ≤ c.toNat := by omega
  have h2' : c.toNat ≤ 57 := by omega
  unfold chOk; simp [h1', h2']
theorem ch_no {c : UInt8} {d : Bool} (h1 : (c.toNat : Int) < 97 ∨ 122 < (c.toNat : Int)) (h2 : d = false ∨ (c.toNat : Int) < 48 ∨ 57 < (c.toNat : Int)) : chOk d c = false := by
  unfold chOk
  rw [Bool.or_eq_false_iff]
  refine ⟨by simp; omega, ?_⟩
  rcases h2 with rfl | h2
  · rfl
  · cases d
    · rfl
    · simp; omega

set_option maxRecDepth 100000 in
set_option maxHeartbeats 2000000 in
theorem l3Name_any (s : ByteArray) (d : Bool) (w : World) (hs : s.size ≤ 1048576) :
    Calls Tryd.prog 51 #[.string s, .bool d] w fun e w' => e = .returned (.bool (wordOk d s)) ∧ w = w' := by
  obtain ⟨R, hR⟩ : ∃ R, R = wordOk d s := ⟨_, rfl⟩
  rw [← hR]
  have HR := Lib.hid hR
  clear hR
  go_enter Tryd.func51, Tryd.ntmps51
  go_wp2
  go_loop [5] (fun i => ∃ k : Nat, k ≤ s.size ∧ i = .int .i64 k ∧ (s.data.toList.take k).all (chOk d) = true) (fun i => s.size - (intOf i).toNat)
  case atStart => exact ⟨0, Nat.zero_le _, rfl, by simp⟩
  case round =>
    obtain ⟨k, hk, rfl, hp⟩ := hrel
    have HP := Lib.hid hp
    clear hp
    by_cases hlt : k < s.size
    · have HST := Lib.hid (fun hc => word_step (d := d) hlt HP.out hc)
      have HBD := Lib.hid (fun hc => HR.out.trans (word_bad (d := d) hlt hc))
      have HLO := Lib.hid (ch_low (c := s[k]) d)
      have HDI := Lib.hid (ch_dig (c := s[k]))
      have HNO := Lib.hid (ch_no (c := s[k]) (d := d))
      clear HP HR
      by_cases ha : (97 : Int) ≤ (s[k].toNat : Int) ∧ (s[k].toNat : Int) ≤ 122
      · obtain ⟨ha1, ha2⟩ := ha
        have HC := Lib.hid (HST.out (HLO.out ha1 ha2))
        clear HBD HNO HLO HDI HST
        cases d
        all_goals go_wp2
        all_goals go_round
        all_goals first | exact ⟨k + 1, by omega, by go_num, HC.out⟩ | (simp [intOf]; omega)
      · have ha' : (s[k].toNat : Int) < 97 ∨ 122 < (s[k].toNat : Int) := by omega
        cases d with
        | false =>
          have e := HBD.out (HNO.out ha' (.inl rfl))
          subst e
          clear HBD HNO HLO HDI HST ha
          rcases ha' with ha' | ha'
          all_goals go_wp2
          all_goals first | (go_ret; exact ⟨rfl, rfl⟩) | (exfalso; simp only [Bool.not_eq_false', decide_eq_true_eq] at *; omega)
        | true =>
          by_cases hb : (48 : Int) ≤ (s[k].toNat : Int) ∧ (s[k].toNat : Int) ≤ 57
          · obtain ⟨hb1, hb2⟩ := hb
            have HC := Lib.hid (HST.out (HDI.out hb1 hb2))
            clear ha ha' HBD HNO HLO HDI HST
            go_wp2
            all_goals go_round
            all_goals first | exact ⟨k + 1, by omega, by go_num, HC.out⟩ | (simp [intOf]; omega)
          · have hb' : (s[k].toNat : Int) < 48 ∨ 57 < (s[k].toNat : Int) := by omega
            have e := HBD.out (HNO.out ha' (.inr hb'))
            subst e
            have h3 : (s[k].toNat : Int) < 48 ∨ (57 < (s[k].toNat : Int) ∧ (s[k].toNat : Int) < 97) ∨ 122 < (s[k].toNat : Int) := by omega
            clear HBD HNO HLO HDI HST ha hb ha' hb'
            rcases h3 with h3 | ⟨h3, h4⟩ | h3
            all_goals go_wp2
            all_goals first | (go_ret; exact ⟨rfl, rfl⟩) | (exfalso; simp only [Bool.not_eq_false', decide_eq_true_eq] at *; omega)
    · have hk' : k = s.size := by omega
      subst hk'
      have e := HR.out.trans (word_end HP.out).symm
      clear HR HP
      subst e
      go_wp2_with (go_at_call 28; refine (l1In_any _ _ _ _).mono ?_; rintro e w' ⟨rfl, rfl⟩)
      go_ret
      exact ⟨rfl, rfl⟩
set_option maxRecDepth 100000 in
set_option maxHeartbeats 2000000 in
theorem isWord_any (s : ByteArray) (d : Bool) (w : World) (hs : s.size ≤ 1048576) :
    Calls Tryd.prog 108 #[.string s, .bool d] w fun e w' => e = .returned (.bool (wordOk d s)) ∧ w = w' := by
  obtain ⟨R, hR⟩ : ∃ R, R = wordOk d s := ⟨_, rfl⟩
  rw [← hR]
  have HR := Lib.hid hR
  clear hR
  go_enter Tryd.func108, Tryd.ntmps108
  go_wp2
  go_loop [8] (fun i => ∃ k : Nat, k ≤ s.size ∧ i = .int .i64 k ∧ (s.data.toList.take k).all (chOk d) = true) (fun i => s.size - (intOf i).toNat)
  case atStart => exact ⟨0, Nat.zero_le _, rfl, by simp⟩
  case round =>
    obtain ⟨k, hk, rfl, hp⟩ := hrel
    have HP := Lib.hid hp
    clear hp
    by_cases hlt : k < s.size
    · have HST := Lib.hid (fun hc => word_step (d := d) hlt HP.out hc)
      have HBD := Lib.hid (fun hc => HR.out.trans (word_bad (d := d) hlt hc))
      have HLO := Lib.hid (ch_low (c := s[k]) d)
      have HDI := Lib.hid (ch_dig (c := s[k]))
      have HNO := Lib.hid (ch_no (c := s[k]) (d := d))
      clear HP HR
      by_cases ha : (97 : Int) ≤ (s[k].toNat : Int) ∧ (s[k].toNat : Int) ≤ 122
      · obtain ⟨ha1, ha2⟩ := ha
        have HC := Lib.hid (HST.out (HLO.out ha1 ha2))
        clear HBD HNO HLO HDI HST
        cases d
        all_goals go_wp2
        all_goals go_round
        all_goals first | exact ⟨k + 1, by omega, by go_num, HC.out⟩ | (simp [intOf]; omega)
      · have ha' : (s[k].toNat : Int) < 97 ∨ 122 < (s[k].toNat : Int) := by omega
        cases d with
        | false =>
          have e := HBD.out (HNO.out ha' (.inl rfl))
          subst e
          clear HBD HNO HLO HDI HST ha
          rcases ha' with ha' | ha'
          all_goals go_wp2
          all_goals first | (go_ret; exact ⟨rfl, rfl⟩) | (exfalso; simp only [Bool.not_eq_false', decide_eq_true_eq] at *; omega)
        | true =>
          by_cases hb : (48 : Int) ≤ (s[k].toNat : Int) ∧ (s[k].toNat : Int) ≤ 57
          · obtain ⟨hb1, hb2⟩ := hb
            have HC := Lib.hid (HST.out (HDI.out hb1 hb2))
            clear ha ha' HBD HNO HLO HDI HST
            go_wp2
            all_goals go_round
            all_goals first | exact ⟨k + 1, by omega, by go_num, HC.out⟩ | (simp [intOf]; omega)
          · have hb' : (s[k].toNat : Int) < 48 ∨ 57 < (s[k].toNat : Int) := by omega
            have e := HBD.out (HNO.out ha' (.inr hb'))
            subst e
            have h3 : (s[k].toNat : Int) < 48 ∨ (57 < (s[k].toNat : Int) ∧ (s[k].toNat : Int) < 97) ∨ 122 < (s[k].toNat : Int) := by omega
            clear HBD HNO HLO HDI HST ha hb ha' hb'
            rcases h3 with h3 | ⟨h3, h4⟩ | h3
            all_goals go_wp2
            all_goals first | (go_ret; exact ⟨rfl, rfl⟩) | (exfalso; simp only [Bool.not_eq_false', decide_eq_true_eq] at *; omega)
    · have hk' : k = s.size := by omega
      subst hk'
      have e := HR.out.trans (word_end HP.out).symm
      clear HR HP
      subst e
      go_wp2_with (go_at_call 35; refine (within_any _ _ _ _).mono ?_; rintro e w' ⟨rfl, rfl⟩)
      go_ret
      exact ⟨rfl, rfl⟩

set_option maxRecDepth 100000 in
set_option maxHeartbeats 1000000 in
theorem isLabel_any (x y : ByteArray) (w : World) (hx : x.size ≤ 1048576) (hy : y.size ≤ 1048576) :
    Calls Tryd.prog 73 #[.agg #[.string x, .string y]] w fun e w' => e = .returned (.bool (labOk (x, y))) ∧ Below w.heap.size w w' := by
  have C1 := Lib.hid (fun w => isWord_any x false w hx)
  have C2 := Lib.hid (fun w => isWord_any y true w hy)
  obtain ⟨R, hR⟩ : ∃ R, R = labOk (x, y) := ⟨_, rfl⟩
  have HR := Lib.hid (show R = (wordOk false x && wordOk true y) from hR)
  rw [← hR]
  clear hR
  generalize wordOk false x = p at C1 HR
  generalize wordOk true y = q at C2 HR
  cases p with
  | true =>
    have e := HR.out
    rw [Bool.true_and] at e
    subst e
    go_enter Tryd.func73, Tryd.ntmps73
    go_wp2_with fail
    refine (C1.out _).mono ?_
    rintro e w' ⟨rfl, rfl⟩
    go_wp2_with fail
    refine (C2.out _).mono ?_
    rintro e w' ⟨rfl, rfl⟩
    go_wp2
    go_ret
    exact ⟨rfl, (Below.refl _ _).alloc (Nat.le_refl _) _⟩
  | false =>
    have e := HR.out
    rw [Bool.false_and] at e
    subst e
    go_enter Tryd.func73, Tryd.ntmps73
    go_wp2_with fail
    refine (C1.out _).mono ?_
    rintro e w' ⟨rfl, rfl⟩
    go_wp2
    go_ret
    exact ⟨rfl, (Below.refl _ _).alloc (Nat.le_refl _) _⟩
end Go.Proofs.YtjokpbopceolcaaDoor
