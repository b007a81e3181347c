/- The plain law of merging labels: by turns, and by sorting. No program in sight. -/
import Derived.Test.YtjokpbopceolcaaDoorLabPlain
import Derived.Test.YtjokpbopceolcaaDoorLists
namespace Go.Proofs.YtjokpbopceolcaaDoor
set_option linter.unusedVariables false
set_option linter.unusedSimpArgs false

/-- The order of labels by their names. -/
def LtL (x y : Lab) : Prop := lessS x.1 y.1 = true
theorem LtL_irr (x : Lab) : ¬ LtL x x := by unfold LtL; rw [lessS_irrefl]; simp
theorem LtL_tr (x y z : Lab) (h1 : LtL x y) (h2 : LtL y z) : LtL x z := lessS_trans h1 h2
theorem goodLab_iff {l : List Lab} : goodLab l = true ↔ l.Pairwise LtL ∧ (∀ x ∈ l, labOk x = true) ∧ l.length ≤ 6 := by
  unfold goodLab
  rw [Bool.and_eq_true, decide_eq_true_eq, allAt_iff]
  constructor
  · rintro ⟨h, hl⟩
    refine ⟨pw_of_adj LtL_tr fun k x y hx hy => ?_, fun x hx => ?_, hl⟩
    · have := h (k + 1) (List.getElem?_eq_some_iff.1 hy).1
      rw [labAt_succ hx hy] at this
      simp at this
      exact this.2
    · obtain ⟨k, hk⟩ := List.mem_iff_getElem?.1 hx
      have := h k (List.getElem?_eq_some_iff.1 hk).1
      unfold labAt at this
      rw [show l.getD k (⟨#[]⟩, ⟨#[]⟩) = x from by simp [List.getD, hk]] at this
      simp only [Bool.and_eq_true] at this
      exact this.1
  · rintro ⟨hs, hb, hl⟩
    refine ⟨fun k hk => ?_, hl⟩
    have hx := List.getElem?_eq_getElem hk
    have hin := hb _ (List.getElem_mem hk)
    cases k with
    | zero => rw [labAt_zero hx]; exact hin
    | succ k =>
      rw [labAt_succ (List.getElem?_eq_getElem (show k < l.length by omega)) hx, hin, Bool.true_and]
      exact pw_adj hs (List.getElem?_eq_getElem (by omega)) hx

/-- Two lists merged by turns; where the names are one the second list's label stands. -/
def mergeR : Nat → List Lab → List Lab → List Lab
  | 0, _, _ => []
  | _ + 1, a, [] => a
  | _ + 1, [], b => b
  | f + 1, x :: a, y :: b => if lessS x.1 y.1 = true then x :: mergeR f a (y :: b) else if x.1 = y.1 then y :: mergeR f a b else y :: mergeR f (x :: a) b
theorem mergeR_nil_r (f : Nat) (a : List Lab) : mergeR (f + 1) a [] = a := by cases a <;> rfl
theorem mergeR_nil_l (f : Nat) (b : List Lab) : mergeR (f + 1) [] b = b := by cases b <;> rfl
theorem mergeR_fuel : ∀ (f g : Nat) (a b : List Lab), a.length + b.length < f → a.length + b.length < g → mergeR f a b = mergeR g a b
  | 0, _, _, _, h, _ => absurd h (by omega)
  | _, 0, _, _, _, h => absurd h (by omega)
  | f + 1, g + 1, a, [], _, _ => by rw [mergeR_nil_r, mergeR_nil_r]
  | f + 1, g + 1, [], y :: b, _, _ => by rw [mergeR_nil_l, mergeR_nil_l]
  | f + 1, g + 1, x :: a, y :: b, h, h' => by
    simp only [List.length_cons] at h h'
    rw [mergeR, mergeR, mergeR_fuel f g a (y :: b) (by simp; omega) (by simp; omega), mergeR_fuel f g a b (by omega) (by omega), mergeR_fuel f g (x :: a) b (by simp; omega) (by simp; omega)]
def merge (a b : List Lab) : List Lab := mergeR (a.length + b.length + 1) a b
theorem merge_nil_r (a : List Lab) : merge a [] = a := mergeR_nil_r _ _
theorem merge_nil_l (b : List Lab) : merge [] b = b := mergeR_nil_l _ _
theorem merge_less {x y : Lab} {a b : List Lab} (h : lessS x.1 y.1 = true) : merge (x :: a) (y :: b) = x :: merge a (y :: b) := by
  unfold merge
  rw [mergeR, if_pos h]
  congr 1 <;>
  exact mergeR_fuel _ _ _ _ (by simp only [List.length_cons]; omega) (by simp only [List.length_cons]; omega)
theorem merge_same {x y : Lab} {a b : List Lab} (h : x.1 = y.1) : merge (x :: a) (y :: b) = y :: merge a b := by
  unfold merge
  rw [mergeR, if_neg (by rw [h, lessS_irrefl]; simp), if_pos h]
  congr 1 <;>
  exact mergeR_fuel _ _ _ _ (by simp only [List.length_cons]; omega) (by omega)
theorem merge_more {x y : Lab} {a b : List Lab} (h : lessS x.1 y.1 = false) (h' : ¬ x.1 = y.1) : merge (x :: a) (y :: b) = y :: merge (x :: a) b := by
  unfold merge
  rw [mergeR, if_neg (by rw [h]; simp), if_neg h']
  congr 1 <;>
  exact mergeR_fuel _ _ _ _ (by simp only [List.length_cons]; omega) (by simp only [List.length_cons]; omega)
theorem merge_mem : ∀ (n : Nat) (a b : List Lab), a.length + b.length ≤ n → a.Pairwise LtL → b.Pairwise LtL → ∀ z, z ∈ merge a b ↔ z ∈ b ∨ (z ∈ a ∧ ∀ y ∈ b, z.1 ≠ y.1)
  | _, a, [], _, _, _, z => by rw [merge_nil_r]; simp
  | _, [], y :: b, _, _, _, z => by rw [merge_nil_l]; simp
  | 0, _ :: _, _ :: _, h, _, _, _ => absurd h (by simp)
  | n + 1, x :: a, y :: b, hn, ha, hb, z => by
    simp only [List.length_cons] at hn
    obtain ⟨ha1, ha2⟩ := List.pairwise_cons.1 ha
    obtain ⟨hb1, hb2⟩ := List.pairwise_cons.1 hb
    cases h : lessS x.1 y.1 with
    | true =>
      rw [merge_less h, List.mem_cons, merge_mem n a (y :: b) (by simp; omega) ha2 hb]
      have hx : ∀ y' ∈ y :: b, x.1 ≠ y'.1 := by
        intro y' hy' e
        rcases List.mem_cons.1 hy' with h1 | h1
        · subst h1; rw [e, lessS_irrefl] at h; cases h
        · have h2 := lessS_trans h (hb1 y' h1); rw [e, lessS_irrefl] at h2; cases h2
      constructor
      · rintro (rfl | h1 | ⟨h1, h2⟩)
        · exact .inr ⟨List.mem_cons_self .., hx⟩
        · exact .inl h1
        · exact .inr ⟨List.mem_cons_of_mem _ h1, h2⟩
      · rintro (h1 | ⟨h1, h2⟩)
        · exact .inr (.inl h1)
        · rcases List.mem_cons.1 h1 with h3 | h3
          · exact .inl h3
          · exact .inr (.inr ⟨h3, h2⟩)
    | false =>
      by_cases he : x.1 = y.1
      · rw [merge_same he, List.mem_cons (a := z) (b := y), merge_mem n a b (by omega) ha2 hb2, List.mem_cons (a := z) (b := y) (l := b)]
        constructor
        · rintro (rfl | h1 | ⟨h1, h2⟩)
          · exact .inl (.inl rfl)
          · exact .inl (.inr h1)
          · refine .inr ⟨List.mem_cons_of_mem _ h1, fun y' hy' e => ?_⟩
            rcases List.mem_cons.1 hy' with h3 | h3
            · subst h3
              have h4 := ha1 z h1
              unfold LtL at h4
              rw [e, he, lessS_irrefl] at h4
              cases h4
            · exact h2 y' h3 e
        · rintro ((h1 | h1) | ⟨h1, h2⟩)
          · exact .inl h1
          · exact .inr (.inl h1)
          · rcases List.mem_cons.1 h1 with h3 | h3
            · subst h3; exact absurd he (h2 y (List.mem_cons_self ..))
            · exact .inr (.inr ⟨h3, fun y' hy' => h2 y' (List.mem_cons_of_mem _ hy')⟩)
      · have hyx : lessS y.1 x.1 = true := by
          cases hyx : lessS y.1 x.1 with
          | true => rfl
          | false => exact absurd (lessS_total h hyx) he
        rw [merge_more h he, List.mem_cons (a := z) (b := y), merge_mem n (x :: a) b (by simp; omega) ha hb2, List.mem_cons (a := z) (b := y) (l := b)]
        have hz : ∀ w ∈ x :: a, w.1 ≠ y.1 := by
          intro w hw e
          rcases List.mem_cons.1 hw with h1 | h1
          · subst h1; exact he e
          · have h2 := lessS_trans hyx (ha1 w h1); rw [e, lessS_irrefl] at h2; cases h2
        constructor
        · rintro (rfl | h1 | ⟨h1, h2⟩)
          · exact .inl (.inl rfl)
          · exact .inl (.inr h1)
          · refine .inr ⟨h1, fun y' hy' => ?_⟩
            rcases List.mem_cons.1 hy' with h3 | h3
            · subst h3; exact hz z h1
            · exact h2 y' h3
        · rintro ((h1 | h1) | ⟨h1, h2⟩)
          · exact .inl h1
          · exact .inr (.inl h1)
          · exact .inr (.inr ⟨h1, fun y' hy' => h2 y' (List.mem_cons_of_mem _ hy')⟩)
theorem merge_pw : ∀ (n : Nat) (a b : List Lab), a.length + b.length ≤ n → a.Pairwise LtL → b.Pairwise LtL → (merge a b).Pairwise LtL
  | _, a, [], _, ha, _ => by rw [merge_nil_r]; exact ha
  | _, [], y :: b, _, _, hb => by rw [merge_nil_l]; exact hb
  | 0, _ :: _, _ :: _, h, _, _ => absurd h (by simp)
  | n + 1, x :: a, y :: b, hn, ha, hb => by
    simp only [List.length_cons] at hn
    obtain ⟨ha1, ha2⟩ := List.pairwise_cons.1 ha
    obtain ⟨hb1, hb2⟩ := List.pairwise_cons.1 hb
    cases h : lessS x.1 y.1 with
    | true =>
      rw [merge_less h]
      refine List.pairwise_cons.2 ⟨fun z hz => ?_, merge_pw n a (y :: b) (by simp; omega) ha2 hb⟩
      rcases (merge_mem n a (y :: b) (by simp; omega) ha2 hb z).1 hz with h1 | ⟨h1, _⟩
      · rcases List.mem_cons.1 h1 with h3 | h3
        · subst h3; exact h
        · exact lessS_trans h (hb1 z h3)
      · exact ha1 z h1
    | false =>
      by_cases he : x.1 = y.1
      · rw [merge_same he]
        refine List.pairwise_cons.2 ⟨fun z hz => ?_, merge_pw n a b (by omega) ha2 hb2⟩
        rcases (merge_mem n a b (by omega) ha2 hb2 z).1 hz with h1 | ⟨h1, _⟩
        · exact hb1 z h1
        · have := ha1 z h1
          unfold LtL at this ⊢
          rwa [he] at this
      · have hyx : lessS y.1 x.1 = true := by
          cases hyx : lessS y.1 x.1 with
          | true => rfl
          | false => exact absurd (lessS_total h hyx) he
        rw [merge_more h he]
        refine List.pairwise_cons.2 ⟨fun z hz => ?_, merge_pw n (x :: a) b (by simp; omega) ha hb2⟩
        rcases (merge_mem n (x :: a) b (by simp; omega) ha hb2 z).1 hz with h1 | ⟨h1, _⟩
        · exact hb1 z h1
        · rcases List.mem_cons.1 h1 with h3 | h3
          · subst h3; exact hyx
          · exact lessS_trans hyx (ha1 z h3)
/-- The labels of the first list whose names the second one has not. -/
def freshL (a b : List Lab) : List Lab := a.filter fun x => !b.any fun y => decide (y.1 = x.1)
theorem mem_freshL {a b : List Lab} {z : Lab} : z ∈ freshL a b ↔ z ∈ a ∧ ∀ y ∈ b, z.1 ≠ y.1 := by
  unfold freshL
  simp only [List.mem_filter, Bool.not_eq_true', List.any_eq_false, decide_eq_true_eq]
  constructor
  · rintro ⟨h1, h2⟩; exact ⟨h1, fun y hy e => h2 y hy e.symm⟩
  · rintro ⟨h1, h2⟩; exact ⟨h1, fun y hy e => h2 y hy e.symm⟩
/-- A list of the same members, sorted weakly by the names, is the merged one. -/
theorem merge_of {a b d : List Lab} (ha : a.Pairwise LtL) (hb : b.Pairwise LtL) (hp : d.Perm (b ++ freshL a b)) (hs : d.Pairwise fun x y => lessS y.1 x.1 = false) : d = merge a b := by
  have hnd : (b ++ freshL a b).Pairwise fun x y => x.1 ≠ y.1 := by
    refine List.pairwise_append.2 ⟨hb.imp fun h e => ?_, (List.Pairwise.filter _ ha).imp fun h e => ?_, fun x hx y hy e => (mem_freshL.1 hy).2 x hx e.symm⟩
    · unfold LtL at h; rw [e, lessS_irrefl] at h; cases h
    · unfold LtL at h; rw [e, lessS_irrefl] at h; cases h
  have hnd2 : d.Pairwise fun x y => x.1 ≠ y.1 := hp.symm.pairwise hnd (fun h e => h e.symm)
  refine pw_ext LtL_irr LtL_tr _ _ ?_ (merge_pw _ a b (Nat.le_refl _) ha hb) fun z => ?_
  · refine (hs.and hnd2).imp fun {x y} h => ?_
    obtain ⟨h1, h2⟩ := h
    unfold LtL
    cases h3 : lessS x.1 y.1 with
    | true => rfl
    | false => exact absurd (lessS_total h3 h1) h2
  · rw [merge_mem _ a b (Nat.le_refl _) ha hb, hp.mem_iff, List.mem_append, mem_freshL]
theorem good_merge {a b : List Lab} (ha : goodLab a = true) (hb : goodLab b = true) : goodLab (merge a b) = decide ((merge a b).length ≤ 6) := by
  obtain ⟨a1, a2, a3⟩ := goodLab_iff.1 ha
  obtain ⟨b1, b2, b3⟩ := goodLab_iff.1 hb
  rw [Bool.eq_iff_iff, goodLab_iff, decide_eq_true_eq]
  constructor
  · exact fun h => h.2.2
  · refine fun h => ⟨merge_pw _ a b (Nat.le_refl _) a1 b1, fun z hz => ?_, h⟩
    rcases (merge_mem _ a b (Nat.le_refl _) a1 b1 z).1 hz with h1 | ⟨h1, _⟩
    · exact b2 z h1
    · exact a2 z h1
end Go.Proofs.YtjokpbopceolcaaDoor
