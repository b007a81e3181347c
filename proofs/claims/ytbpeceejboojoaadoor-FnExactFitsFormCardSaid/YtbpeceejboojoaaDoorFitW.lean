/- Which texts are words of letters: the reference's and the program's tests. -/
import Derived.Test.YtbpeceejboojoaaDoorPrtS
import Derived.Test.YtbpeceejboojoaaDoorShTrim
import Derived.Shelf.Strings.SlTrimAscii
namespace Go.Proofs.YtbpeceejboojoaaDoor
set_option linter.unusedVariables false
set_option linter.unusedSimpArgs false
open Go.RowKit

def okWord (s : ByteArray) : Bool := decide (s.size ≤ 12) && lettersB s.data.toList
def abc : List UInt8 := [97, 98, 99, 100, 101, 102, 103, 104, 105, 106, 107, 108, 109, 110, 111, 112, 113, 114, 115, 116, 117, 118, 119, 120, 121, 122]
theorem abc_has (c : UInt8) : abc.contains c = (decide (97 ≤ c.toNat) && decide (c.toNat ≤ 122)) := by
  have h : ∀ n : Fin 256, abc.contains (UInt8.ofNat n.1) = (decide (97 ≤ n.1) && decide (n.1 ≤ 122)) := by decide +kernel
  have := h ⟨c.toNat, c.toNat_lt⟩
  simpa using this
theorem trim_abc (l : List UInt8) : (Lib.trimS l abc = [] ↔ lettersB l = true) := by
  have dw : ∀ (l : List UInt8), l.dropWhile (abc.contains ·) = [] ↔ l.all (abc.contains ·) = true := by
    intro l
    induction l with
    | nil => simp
    | cons c l ih =>
      rw [List.dropWhile_cons, List.all_cons]
      cases h : abc.contains c with
      | true => simp only [if_true, Bool.true_and]; exact ih
      | false => simp
  have dh : ∀ (l : List UInt8) (c : UInt8) (r : List UInt8), l.dropWhile (abc.contains ·) = c :: r → abc.contains c = false := by
    intro l
    induction l with
    | nil => intro c r h; simp at h
    | cons d l ih =>
      intro c r h
      rw [List.dropWhile_cons] at h
      cases hd : abc.contains d with
      | true => rw [hd] at h; exact ih c r h
      | false => rw [hd] at h; simp at h; rw [← h.1]; exact hd
  have e : lettersB l = l.all (abc.contains ·) := by
    unfold lettersB
    congr 1
    funext c
    exact (abc_has c).symm
  rw [e]
  unfold Lib.trimS Lib.trimLeftS Lib.trimRightS
  rw [dw]
  constructor
  · intro h
    cases e2 : l.reverse.dropWhile (abc.contains ·) with
    | nil => rw [dw, List.all_reverse] at e2; exact e2
    | cons c r =>
      exfalso
      have hc := dh _ _ _ e2
      rw [e2] at h
      have := List.all_eq_true.1 h c (by simp)
      rw [hc] at this; cases this
  · intro h
    have : l.reverse.dropWhile (abc.contains ·) = [] := by rw [dw, List.all_reverse]; exact h
    rw [this]; rfl
theorem infoAS : (Tryd.prog.info? 57).map (fun i => (i.zero, i.size)) = some (some (.agg (Array.replicate 256 (.bool false))), 256) := by kernel_rfl
theorem trimAbc (s : ByteArray) (w : World) (hs : s.size ≤ 1048576) : Calls Tryd.prog 27 #[.string s, .string ⟨#[97, 98, 99, 100, 101, 102, 103, 104, 105, 106, 107, 108, 109, 110, 111, 112, 113, 114, 115, 116, 117, 118, 119, 120, 121, 122]⟩] w fun e w' => e = .returned (.string ⟨(Lib.trimS s.data.toList abc).toArray⟩) ∧ Below w.heap.size w w' :=
  Any.strings_Trim_laid Tryd.trimLay infoAS s ⟨#[97, 98, 99, 100, 101, 102, 103, 104, 105, 106, 107, 108, 109, 110, 111, 112, 113, 114, 115, 116, 117, 118, 119, 120, 121, 122]⟩ w (by omega) (by decide) (ascii_of_all (by decide))
theorem nil_str {X : ByteArray} (h : X.data.toList = []) : X = ⟨#[]⟩ := by
  obtain ⟨⟨l⟩⟩ := X
  simp at h
  subst h
  rfl
set_option maxRecDepth 100000 in
set_option maxHeartbeats 2000000 in
theorem isLetters_any (s : ByteArray) (w : World) (hs : s.size ≤ 1048576) : Calls Tryd.prog 16 #[.string s] w fun e w' => e = .returned (.bool (okWord s)) ∧ Below w.heap.size w w' := by
  have HT := Lib.hid (trimAbc s w hs)
  have ht := trim_abc s.data.toList
  obtain ⟨V, hV⟩ : ∃ V, okWord s = V := ⟨_, rfl⟩
  have HV := Lib.hid hV
  rw [hV]
  clear hV
  unfold okWord at HV
  by_cases h12 : s.size ≤ 12
  · obtain ⟨X, hX⟩ : ∃ X : ByteArray, (⟨(Lib.trimS s.data.toList abc).toArray⟩ : ByteArray) = X := ⟨_, rfl⟩
    have hXl : X.data.toList = Lib.trimS s.data.toList abc := by rw [← hX]
    rw [hX] at HT
    cases hl : lettersB s.data.toList with
    | true =>
      have hx := nil_str (hXl.trans (ht.2 hl))
      subst hx
      have HE := Lib.hid (show V = true by have := HV.out; rw [hl, decide_eq_true h12] at this; exact this.symm)
      clear hX hXl ht hl
      go_enter Tryd.func16, Tryd.ntmps16
      go_wp2_with fail
      refine HT.out.mono ?_
      rintro e w1 ⟨rfl, hb⟩
      have HB := Lib.hid hb
      clear hb
      go_wp2
      go_ret
      rw [HE.out]
      exact ⟨rfl, HB.out⟩
    | false =>
      have hne : X.toList.isEmpty = false := by
        rw [ByteArray.toList_eq, hXl]
        cases e : Lib.trimS s.data.toList abc with
        | nil => rw [ht.1 e] at hl; cases hl
        | cons a r => rfl
      have HE := Lib.hid (show V = false by have := HV.out; rw [hl, Bool.and_false] at this; exact this.symm)
      clear hX hXl ht hl
      go_enter Tryd.func16, Tryd.ntmps16
      go_wp2_with fail
      refine HT.out.mono ?_
      rintro e w1 ⟨rfl, hb⟩
      have HB := Lib.hid hb
      clear hb
      go_wp2
      go_ret
      rw [HE.out]
      exact ⟨rfl, HB.out⟩
  · have HE := Lib.hid (show V = false by have := HV.out; rw [decide_eq_false h12, Bool.false_and] at this; exact this.symm)
    clear ht HT
    go_enter Tryd.func16, Tryd.ntmps16
    go_wp2
    go_ret
    rw [HE.out]
    exact ⟨rfl, Below.refl _ _⟩
set_option maxHeartbeats 2000000 in
theorem l5Word_any (s : ByteArray) (w : World) (hs : s.size ≤ 1048576) : Calls Tryd.prog 11 #[.string s] w fun e w' => e = .returned (.bool (okWord s)) ∧ w = w' := by
  have CL := Lib.hid (fun w => l5Letters_any s w hs)
  obtain ⟨V, hV⟩ : ∃ V, okWord s = V := ⟨_, rfl⟩
  have HV := Lib.hid hV
  rw [hV]
  clear hV
  unfold okWord at HV
  by_cases h12 : s.size ≤ 12
  · by_cases h0 : s = ⟨#[]⟩
    · subst h0
      have HE := Lib.hid (show V = true from HV.out.symm)
      go_enter Tryd.func11, Tryd.ntmps11
      go_wp2
      go_ret
      rw [HE.out]
      exact ⟨rfl, rfl⟩
    · have hne : s.toList.isEmpty = false := by
        rw [ByteArray.toList_eq]
        cases e : s.data.toList with
        | nil => exact absurd (nil_str e) h0
        | cons a r => rfl
      obtain ⟨K, hK⟩ : ∃ K, lettersB s.data.toList = K := ⟨_, rfl⟩
      rw [hK, decide_eq_true h12, Bool.true_and] at HV
      rw [hK] at CL
      have HE := Lib.hid HV.out
      clear hK h0
      go_enter Tryd.func11, Tryd.ntmps11
      go_wp2_with (go_at_call 23; refine (CL.out _).mono ?_; rintro e w' ⟨rfl, rfl⟩)
      go_ret
      rw [← HE.out]
      exact ⟨by cases K <;> rfl, rfl⟩
  · have HE := Lib.hid (show V = false by have := HV.out; rw [decide_eq_false h12, Bool.false_and] at this; exact this.symm)
    clear CL
    go_enter Tryd.func11, Tryd.ntmps11
    go_wp2
    go_ret
    rw [HE.out]
    exact ⟨rfl, rfl⟩
end Go.Proofs.YtbpeceejboojoaaDoor
