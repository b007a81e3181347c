/- Reading labels: splitting a text at a byte, and that the program's way and the reference's read the same. No program in sight. -/
import Derived.Test.YtjokpbopceolcaaDoorTxt
import Derived.Lib.SplitLaws
import Derived.Lib.CutLaws
import Derived.Lib.IndexLaws
import Derived.Lib.IndexBytes
namespace Go.Proofs.YtjokpbopceolcaaDoor
set_option linter.unusedVariables false
set_option linter.unusedSimpArgs false
open Go.RowKit

/-- A text put ahead of the first of some. -/
def glue (p : List UInt8) (r : List (List UInt8)) : List (List UInt8) := match r with
  | [] => [p]
  | h :: t => (p ++ h) :: t
theorem glue_nil {r : List (List UInt8)} (h : r ≠ []) : glue [] r = r := by cases r with
  | nil => exact absurd rfl h
  | cons a t => rfl
theorem glue_glue (p q : List UInt8) (r : List (List UInt8)) : glue p (glue q r) = glue (p ++ q) r := by cases r <;> simp [glue]
/-- A text's pieces between a byte's places. -/
def sp (c : UInt8) : List UInt8 → List (List UInt8)
  | [] => [[]]
  | x :: l => if x = c then [] :: sp c l else glue [x] (sp c l)
theorem sp_ne (c : UInt8) (l : List UInt8) : sp c l ≠ [] := by
  cases l with
  | nil => simp [sp]
  | cons x l =>
    rw [sp]
    split
    · simp
    · cases sp c l <;> simp [glue]
theorem sp_len (c : UInt8) (l : List UInt8) : (sp c l).length = l.count c + 1 := by
  induction l with
  | nil => rfl
  | cons x l ih =>
    rw [sp, List.count_cons]
    by_cases h : x = c
    · rw [if_pos h, List.length_cons, ih]; simp [h]
    · rw [if_neg h]
      have hn := sp_ne c l
      cases e : sp c l with
      | nil => exact absurd e hn
      | cons a t => rw [e] at ih; simp [glue, h] at ih ⊢; omega
theorem sp_no (c : UInt8) {l : List UInt8} (h : c ∉ l) : sp c l = [l] := by
  induction l with
  | nil => rfl
  | cons x l ih =>
    rw [sp, if_neg (fun e => h (by rw [e]; simp)), ih (fun e => h (by simp [e]))]
    rfl
theorem sp_at (c : UInt8) {a : List UInt8} (b : List UInt8) (h : c ∉ a) : sp c (a ++ c :: b) = a :: sp c b := by
  induction a with
  | nil => simp [sp]
  | cons x a ih =>
    rw [List.cons_append, sp, if_neg (fun e => h (by rw [e]; simp)), ih (fun e => h (by simp [e]))]
    rfl
theorem sp_free (c : UInt8) (l : List UInt8) : ∀ p ∈ sp c l, c ∉ p := by
  induction l with
  | nil => intro p hp; simp [sp] at hp; subst hp; simp
  | cons x l ih =>
    intro p hp
    rw [sp] at hp
    by_cases h : x = c
    · rw [if_pos h] at hp
      rcases List.mem_cons.1 hp with rfl | hp
      · simp
      · exact ih p hp
    · rw [if_neg h] at hp
      cases e : sp c l with
      | nil => exact absurd e (sp_ne c l)
      | cons a t =>
        rw [e] at hp ih
        simp only [glue, List.singleton_append, List.mem_cons] at hp
        rcases hp with rfl | hp
        · intro hc
          rcases List.mem_cons.1 hc with h2 | h2
          · exact h h2.symm
          · exact ih a (by simp) h2
        · exact ih p (by simp [hp])
theorem join_glue (x : UInt8) (r : List (List UInt8)) (c : UInt8) (h : r ≠ []) : Lib.join (glue [x] r) [c] = x :: Lib.join r [c] := by
  cases r with
  | nil => exact absurd rfl h
  | cons a t => simp [glue, Lib.join_cons]
theorem join_two (a : List UInt8) (r : List (List UInt8)) (c : UInt8) (h : r ≠ []) : Lib.join (a :: r) [c] = a ++ c :: Lib.join r [c] := by
  cases r with
  | nil => exact absurd rfl h
  | cons b t => simp [Lib.join_cons, Lib.joinTail]
theorem join_sp (c : UInt8) (l : List UInt8) : Lib.join (sp c l) [c] = l := by
  induction l with
  | nil => simp [sp, Lib.join_one]
  | cons x l ih =>
    rw [sp]
    by_cases h : x = c
    · rw [if_pos h, join_two _ _ _ (sp_ne c l), ih, h]; rfl
    · rw [if_neg h, join_glue _ _ _ (sp_ne c l), ih]
theorem sp_join (c : UInt8) : ∀ (r : List (List UInt8)), r ≠ [] → (∀ p ∈ r, c ∉ p) → sp c (Lib.join r [c]) = r
  | [], h, _ => absurd rfl h
  | [a], _, h => by rw [Lib.join_one]; exact sp_no c (h a (by simp))
  | a :: b :: t, _, h => by
    rw [join_two _ _ _ (by simp), sp_at c _ (h a (by simp)), sp_join c (b :: t) (by simp) (fun p hp => h p (by simp [hp]))]
/-- What stands ahead of a byte's first place, and behind it. -/
def cut1 (c : UInt8) : List UInt8 → List UInt8 × List UInt8
  | [] => ([], [])
  | x :: l => if x = c then ([], l) else (x :: (cut1 c l).1, (cut1 c l).2)
theorem cut1_at (c : UInt8) {a : List UInt8} (b : List UInt8) (h : c ∉ a) : cut1 c (a ++ c :: b) = (a, b) := by
  induction a with
  | nil => simp [cut1]
  | cons x a ih =>
    rw [List.cons_append, cut1, if_neg (fun e => h (by rw [e]; simp)), ih (fun e => h (by simp [e]))]
def toB (l : List UInt8) : ByteArray := ⟨l.toArray⟩
theorem toB_data (l : List UInt8) : (toB l).data.toList = l := by simp [toB]
theorem toB_size (l : List UInt8) : (toB l).size = l.length := List.size_toArray ..
theorem toB_of (b : ByteArray) : toB b.data.toList = b := by unfold toB; simp
/-- A label's parts. -/
def pair1 (t : List UInt8) : Option Lab := match sp 61 t with
  | [a, b] => some (toB a, toB b)
  | _ => none
def pairs1 : List (List UInt8) → Option (List Lab)
  | [] => some []
  | t :: r => match pair1 t with
    | none => none
    | some p => (pairs1 r).map (p :: ·)
def bodyOf (s : List UInt8) : List UInt8 := (s.drop 1).take (s.length - 2)
def braced (s : List UInt8) : Prop := 2 ≤ s.length ∧ s[0]? = some 123 ∧ s[s.length - 1]? = some 125
instance (s : List UInt8) : Decidable (braced s) := by unfold braced; infer_instance
/-- The labels of a text, the reference's way. -/
def refL (s : List UInt8) : Option (List Lab) :=
  if s.length ≤ 600 ∧ braced s then
    match (if 2 < s.length then pairs1 (sp 44 (bodyOf s)) else some []) with
    | none => none
    | some l => if goodLab l then some l else none
  else none
def cutLab (t : List UInt8) : Lab := (toB (cut1 61 t).1, toB (cut1 61 t).2)
/-- The program's way. -/
def impL (s : List UInt8) : Option (List Lab) :=
  if s = [123, 125] then some [] else if braced s ∧ s.count 44 < 6 then
    (if goodLab ((sp 44 (bodyOf s)).map cutLab) ∧ (labTxt ((sp 44 (bodyOf s)).map cutLab)).data.toList = s then some ((sp 44 (bodyOf s)).map cutLab) else none)
  else none
theorem braced_iff {s : List UInt8} : braced s ↔ s = 123 :: (bodyOf s ++ [125]) ∧ 2 ≤ s.length := by
  constructor
  · rintro ⟨h1, h2, h3⟩
    refine ⟨?_, h1⟩
    cases s with
    | nil => simp at h1
    | cons x s =>
      simp at h2
      subst h2
      unfold bodyOf
      simp only [List.drop_succ_cons, List.drop_zero, List.length_cons] at h1 h3 ⊢
      congr 1
      have hs : s.length + 1 - 1 = (s.length - 1) + 1 := by omega
      rw [hs, List.getElem?_cons_succ] at h3
      rw [show s.length + 1 - 2 = s.length - 1 by omega, ← take_snoc' s (s.length - 1) 125 h3, List.take_of_length_le (by omega)]
  · rintro ⟨h1, h2⟩
    refine ⟨h2, ?_, ?_⟩
    · rw [h1]; rfl
    · obtain ⟨b, hb⟩ : ∃ b, bodyOf s = b := ⟨_, rfl⟩
      rw [hb] at h1
      rw [h1]
      simp
theorem pair1_some {t : List UInt8} {p : Lab} (h : pair1 t = some p) : t = (labB p).data.toList ∧ cutLab t = p := by
  unfold pair1 at h
  have hj := join_sp 61 t
  have hf := sp_free 61 t
  split at h
  · rename_i a b e
    injection h with h
    subst h
    rw [e] at hj hf
    have ht : t = a ++ 61 :: b := by rw [← hj, join_two _ _ _ (by simp), Lib.join_one]
    refine ⟨?_, ?_⟩
    · unfold labB
      simp only [ByteArray.data_append, Array.toList_append, toB_data]
      rw [ht]; simp
    · rw [ht]; unfold cutLab; rw [cut1_at 61 b (hf a (by simp))]
  · cases h
theorem pairs1_some : ∀ {r : List (List UInt8)} {l : List Lab}, pairs1 r = some l → r = (l.map labB).map (·.data.toList) ∧ r.map cutLab = l
  | [], l, h => by simp [pairs1] at h; subst h; exact ⟨rfl, rfl⟩
  | t :: r, l, h => by
    unfold pairs1 at h
    cases e : pair1 t with
    | none => rw [e] at h; cases h
    | some p =>
      rw [e] at h
      cases e2 : pairs1 r with
      | none => rw [e2] at h; cases h
      | some l' =>
        rw [e2] at h
        have h : some (p :: l') = some l := h
        injection h with h
        subst h
        obtain ⟨q1, q2⟩ := pairs1_some e2
        obtain ⟨p1, p2⟩ := pair1_some e
        exact ⟨by rw [List.map_cons, List.map_cons, ← q1, ← p1], by rw [List.map_cons, p2, q2]⟩
theorem word_no {d : Bool} {s : ByteArray} {c : UInt8} (h : wordOk d s = true) (hc : c = 44 ∨ c = 61) : c ∉ s.data.toList := by
  intro hm
  unfold wordOk at h
  simp only [Bool.and_eq_true] at h
  have := List.all_eq_true.1 h.1.1 c hm
  rcases hc with rfl | rfl
  · cases d <;> exact absurd this (by decide)
  · cases d <;> exact absurd this (by decide)
theorem lab_bytes {p : Lab} : (labB p).data.toList = p.1.data.toList ++ 61 :: p.2.data.toList := by
  unfold labB
  simp only [ByteArray.data_append, Array.toList_append]
  simp
theorem lab_pair {p : Lab} (h : labOk p = true) : pair1 (labB p).data.toList = some p ∧ (44 : UInt8) ∉ (labB p).data.toList := by
  obtain ⟨x, y⟩ := p
  obtain ⟨h1, h2⟩ := labOk_t h
  rw [lab_bytes]
  constructor
  · unfold pair1
    rw [sp_at 61 _ (word_no h1 (.inr rfl)), sp_no 61 (word_no h2 (.inr rfl))]
    show some (toB x.data.toList, toB y.data.toList) = _
    rw [toB_of, toB_of]
  · intro hm
    rcases List.mem_append.1 hm with h3 | h3
    · exact word_no h1 (.inl rfl) h3
    · rcases List.mem_cons.1 h3 with h4 | h4
      · exact absurd h4 (by decide)
      · exact word_no h2 (.inl rfl) h4
theorem pairs1_lab {l : List Lab} (h : ∀ p ∈ l, labOk p = true) : pairs1 ((l.map labB).map (·.data.toList)) = some l := by
  induction l with
  | nil => rfl
  | cons p l ih =>
    rw [List.map_cons, List.map_cons, pairs1, (lab_pair (h p (by simp))).1, ih (fun q hq => h q (by simp [hq]))]
    rfl
theorem good_mem {l : List Lab} (h : goodLab l = true) : ∀ p ∈ l, labOk p = true := fun p hp => by
  obtain ⟨k, hk⟩ := List.getElem?_of_mem hp
  exact goodLab_ok h hk
theorem labTxt_data (l : List Lab) : (labTxt l).data.toList = 123 :: (labJ l ++ [125]) := by simp [labTxt]
theorem body_of {b : List UInt8} : bodyOf (123 :: (b ++ [125])) = b := by
  unfold bodyOf
  simp
theorem labJ_len18 : ∀ {l : List Lab}, (∀ p ∈ l, labOk p = true) → (labJ l).length ≤ 18 * l.length := by
  intro l h
  unfold labJ
  induction l with
  | nil => simp [Lib.join]
  | cons p l ih =>
    have h1 := labB_size p
    obtain ⟨w1, w2⟩ := labOk_t (x := p.1) (y := p.2) (h p (by simp))
    have w3 := wordOk_len w1
    have w4 := wordOk_len w2
    have hsz : (labB p).data.toList.length = (labB p).size := by simp
    have ih := ih (fun q hq => h q (by simp [hq]))
    cases l with
    | nil => simp only [List.map_cons, List.map_nil, Lib.join_one, List.length_cons, List.length_nil] at ih ⊢; omega
    | cons q l =>
      rw [List.map_cons, List.map_cons, join_two _ _ _ (by simp)]
      rw [List.length_append, List.length_cons]
      simp only [List.length_cons] at ih ⊢
      omega
theorem impL_eq (s : List UInt8) : impL s = refL s := by
  by_cases h0 : s = [123, 125]
  · subst h0
    have e : goodLab [] = true := by decide
    unfold impL refL
    rw [if_pos rfl, if_pos ⟨by decide, by decide, rfl, rfl⟩]
    rw [if_neg (by decide)]
    show _ = if goodLab [] = true then some [] else none
    rw [if_pos e]
  · have key : ∀ l, impL s = some l ↔ refL s = some l := by
      intro l
      constructor
      · intro h
        unfold impL at h
        rw [if_neg h0] at h
        by_cases hb : braced s ∧ s.count 44 < 6
        · rw [if_pos hb] at h
          obtain ⟨l', hl'⟩ : ∃ l', (sp 44 (bodyOf s)).map cutLab = l' := ⟨_, rfl⟩
          rw [hl'] at h
          by_cases hg : goodLab l' = true ∧ (labTxt l').data.toList = s
          · rw [if_pos hg] at h
            injection h with h
            subst h
            obtain ⟨hg1, hg2⟩ := hg
            have hm := good_mem hg1
            have hne : l' ≠ [] := by
              intro e
              rw [e] at hl'
              exact sp_ne 44 (bodyOf s) (List.map_eq_nil_iff.1 hl')
            rw [labTxt_data] at hg2
            have hbody : bodyOf s = labJ l' := by rw [← hg2, body_of]
            have hsp : sp 44 (bodyOf s) = (l'.map labB).map (·.data.toList) := by
              rw [hbody]
              unfold labJ
              refine sp_join 44 _ (by simp [hne]) fun p hp => ?_
              obtain ⟨b, hb1, rfl⟩ := List.mem_map.1 hp
              obtain ⟨q, hq, rfl⟩ := List.mem_map.1 hb1
              exact (lab_pair (hm q hq)).2
            have hlen := labJ_len18 hm
            have h6 := goodLab_len hg1
            have hsl : s.length = (labJ l').length + 2 := by rw [← hg2]; simp
            have h2 : 2 < s.length := by
              have h2 := hb.1.1
              by_cases he : s.length = 2
              · exfalso
                refine h0 ?_
                have : labJ l' = [] := List.eq_nil_of_length_eq_zero (by omega)
                rw [← hg2, this]; rfl
              · omega
            unfold refL
            rw [if_pos ⟨by omega, hb.1⟩, if_pos h2, hsp, pairs1_lab hm]
            show (if goodLab l' = true then some l' else none) = some l'
            rw [if_pos hg1]
          · rw [if_neg hg] at h; cases h
        · rw [if_neg hb] at h; cases h
      · intro h
        unfold refL at h
        by_cases hb : s.length ≤ 600 ∧ braced s
        · rw [if_pos hb] at h
          have hbr := braced_iff.1 hb.2
          by_cases h2 : 2 < s.length
          · rw [if_pos h2] at h
            cases e : pairs1 (sp 44 (bodyOf s)) with
            | none => rw [e] at h; cases h
            | some l' =>
              rw [e] at h
              have h : (if goodLab l' = true then some l' else none) = some l := h
              by_cases hg : goodLab l' = true
              · rw [if_pos hg] at h
                injection h with h
                subst h
                obtain ⟨q1, q2⟩ := pairs1_some e
                have hj := join_sp 44 (bodyOf s)
                have htx : (labTxt l').data.toList = s := by
                  rw [labTxt_data]
                  have : labJ l' = bodyOf s := by unfold labJ; rw [← q1, hj]
                  rw [this]; exact hbr.1.symm
                have hc : s.count 44 < 6 := by
                  have h3 := sp_len 44 (bodyOf s)
                  have h4 : (sp 44 (bodyOf s)).length = l'.length := by rw [q1]; simp
                  have h5 := goodLab_len hg
                  have h6 : s.count 44 = (bodyOf s).count 44 := by
                    conv => lhs; rw [hbr.1]
                    rw [List.count_cons, List.count_append]
                    simp
                  omega
                unfold impL
                rw [if_neg h0, if_pos ⟨hb.2, hc⟩, q2, if_pos ⟨hg, htx⟩]
              · rw [if_neg hg] at h; cases h
          · exfalso
            refine h0 ?_
            have h3 := hb.2.1
            have : bodyOf s = [] := by unfold bodyOf; rw [show s.length - 2 = 0 by omega]; rfl
            rw [hbr.1, this]; rfl
        · rw [if_neg hb] at h; cases h
    cases e1 : impL s with
    | none =>
      cases e2 : refL s with
      | none => rfl
      | some l => rw [(key l).2 e2] at e1; cases e1
    | some l => exact ((key l).1 e1).symm
end Go.Proofs.YtjokpbopceolcaaDoor
