/- The plain law of sets of numbers as strictly increasing lists. No program in sight. -/
import Derived.Test.YtpdclppieicaeaaPosts1
import Derived.Test.YtpdclppieicaeaaDelPlain
import Derived.Test.YtpdclppieicaeaaLists
namespace Go.Proofs.Ytpdclppieicaeaa
set_option linter.unusedVariables false
set_option linter.unusedSimpArgs false

abbrev Srt (l : List Int) : Prop := l.Pairwise (· < ·)
theorem srt_ext : ∀ (a b : List Int), Srt a → Srt b → (∀ x, x ∈ a ↔ x ∈ b) → a = b
  | [], [], _, _, _ => rfl
  | [], y :: b, _, _, h => absurd ((h y).2 (List.mem_cons_self ..)) (by simp)
  | x :: a, [], _, _, h => absurd ((h x).1 (List.mem_cons_self ..)) (by simp)
  | x :: a, y :: b, ha, hb, h => by
    obtain ⟨ha1, ha2⟩ := List.pairwise_cons.1 ha
    obtain ⟨hb1, hb2⟩ := List.pairwise_cons.1 hb
    have hxy : x = y := by
      rcases List.mem_cons.1 ((h x).1 (List.mem_cons_self ..)) with e | e
      · exact e
      · rcases List.mem_cons.1 ((h y).2 (List.mem_cons_self ..)) with e' | e'
        · exact e'.symm
        · have h1 := hb1 x e
          have h2 := ha1 y e'
          omega
    subst hxy
    congr 1
    refine srt_ext a b ha2 hb2 fun z => ?_
    constructor
    · intro hz
      rcases List.mem_cons.1 ((h z).1 (List.mem_cons_of_mem _ hz)) with e | e
      · subst e; exact absurd (ha1 z hz) (by omega)
      · exact e
    · intro hz
      rcases List.mem_cons.1 ((h z).2 (List.mem_cons_of_mem _ hz)) with e | e
      · subst e; exact absurd (hb1 z hz) (by omega)
      · exact e
theorem srt_of_adj {l : List Int} (h : ∀ (k : Nat) (x y : Int), l[k]? = some x → l[k + 1]? = some y → x < y) : Srt l :=
  pw_of_adj (R := (· < ·)) (fun _ _ _ h1 h2 => Int.lt_trans h1 h2) h
theorem srt_adj {l : List Int} (h : Srt l) {k : Nat} {x y : Int} (hx : l[k]? = some x) (hy : l[k + 1]? = some y) : x < y := by
  obtain ⟨h1, rfl⟩ := List.getElem?_eq_some_iff.1 hx
  obtain ⟨h2, rfl⟩ := List.getElem?_eq_some_iff.1 hy
  exact List.pairwise_iff_getElem.1 h k (k + 1) h1 h2 (by omega)
theorem goodPosts_iff {l : List Int} : goodPosts l = true ↔ Srt l ∧ (∀ x ∈ l, 0 ≤ x ∧ x ≤ 9999) ∧ l.length ≤ 60 := by
  unfold goodPosts
  rw [Bool.and_eq_true, decide_eq_true_eq, allAt_iff]
  constructor
  · rintro ⟨h, hl⟩
    refine ⟨srt_of_adj fun k x y hx hy => ?_, fun x hx => ?_, hl⟩
    · have := h (k + 1) (List.getElem?_eq_some_iff.1 hy).1
      rw [postAt_succ hx hy] at this
      simp at this
      exact this.2
    · obtain ⟨k, hk⟩ := List.mem_iff_getElem?.1 hx
      have := h k (List.getElem?_eq_some_iff.1 hk).1
      unfold postAt at this
      rw [List.getD, hk] at this
      simp only [Option.getD_some, Bool.and_eq_true] at this
      exact inB_iff.1 this.1
  · rintro ⟨hs, hb, hl⟩
    refine ⟨fun k hk => ?_, hl⟩
    have hx := List.getElem?_eq_getElem hk
    have hin := hb _ (List.getElem_mem hk)
    cases k with
    | zero => rw [postAt_zero hx]; exact inB_iff.2 hin
    | succ k =>
      rw [postAt_succ (List.getElem?_eq_getElem (show k < l.length by omega)) hx, Bool.and_eq_true, decide_eq_true_eq]
      exact ⟨inB_iff.2 hin, srt_adj hs (List.getElem?_eq_getElem (by omega)) hx⟩

/-- Those of a that b has; those that it has not. -/
def meetP (a b : List Int) : List Int := a.filter fun x => b.contains x
def lessP (a b : List Int) : List Int := a.filter fun x => !b.contains x
theorem meetP_kept (a b : List Int) : meetP a b = kept (fun x => !b.contains x) a := by unfold meetP kept; congr 1; funext x; simp
theorem lessP_kept (a b : List Int) : lessP a b = kept (fun x => b.contains x) a := rfl
theorem mem_meetP {a b : List Int} {x : Int} : x ∈ meetP a b ↔ x ∈ a ∧ x ∈ b := by unfold meetP; simp
theorem mem_lessP {a b : List Int} {x : Int} : x ∈ lessP a b ↔ x ∈ a ∧ ¬ x ∈ b := by unfold lessP; simp
theorem srt_filter {l : List Int} (h : Srt l) (p : Int → Bool) : Srt (l.filter p) := List.Pairwise.filter p h
theorem good_filter {l : List Int} (h : goodPosts l = true) (p : Int → Bool) : goodPosts (l.filter p) = true := by
  obtain ⟨h1, h2, h3⟩ := goodPosts_iff.1 h
  exact goodPosts_iff.2 ⟨srt_filter h1 p, fun x hx => h2 x (List.mem_filter.1 hx).1, Nat.le_trans (List.length_filter_le ..) h3⟩
theorem meet_less_len (a b : List Int) : (meetP a b).length + (lessP a b).length = a.length := by
  unfold meetP lessP
  induction a with
  | nil => rfl
  | cons x a ih =>
    cases hc : b.contains x
    · simp only [List.filter_cons, hc, Bool.false_eq_true, if_false, Bool.not_false, if_true, List.length_cons]; omega
    · simp only [List.filter_cons, hc, Bool.not_true, Bool.false_eq_true, if_false, if_true, List.length_cons]; omega
theorem meet_comm {a b : List Int} (ha : Srt a) (hb : Srt b) : meetP a b = meetP b a := srt_ext _ _ (srt_filter ha _) (srt_filter hb _) fun x => by
  rw [mem_meetP, mem_meetP]; exact And.comm
theorem less_less {a b : List Int} (ha : Srt a) : lessP a (lessP a b) = meetP a b := srt_ext _ _ (srt_filter ha _) (srt_filter ha _) fun x => by
  rw [mem_lessP, mem_lessP, mem_meetP]
  constructor
  · rintro ⟨h1, h2⟩; exact ⟨h1, by apply Classical.byContradiction; intro h; exact h2 ⟨h1, h⟩⟩
  · rintro ⟨h1, h2⟩; exact ⟨h1, fun h => h.2 h2⟩

/-- A number put to its place, once. -/
def put : List Int → Int → List Int
  | [], n => [n]
  | x :: t, n => if x < n then x :: put t n else if x = n then x :: t else n :: x :: t
theorem mem_put {l : List Int} {n x : Int} : x ∈ put l n ↔ x ∈ l ∨ x = n := by
  induction l with
  | nil => simp [put]
  | cons y t ih =>
    rw [put]
    by_cases h1 : y < n
    · rw [if_pos h1, List.mem_cons, ih, List.mem_cons]
      constructor
      · rintro (h | h | h) <;> simp [h]
      · rintro ((h | h) | h) <;> simp [h]
    · rw [if_neg h1]
      by_cases h2 : y = n
      · rw [if_pos h2]
        constructor
        · intro h; exact .inl h
        · rintro (h | h)
          · exact h
          · rw [h, ← h2]; exact List.mem_cons_self ..
      · rw [if_neg h2]
        constructor
        · intro h
          rcases List.mem_cons.1 h with h | h
          · exact .inr h
          · exact .inl h
        · rintro (h | h)
          · exact List.mem_cons_of_mem _ h
          · rw [h]; exact List.mem_cons_self ..
theorem srt_put {l : List Int} {n : Int} (h : Srt l) : Srt (put l n) := by
  induction l with
  | nil => simp [put]
  | cons y t ih =>
    obtain ⟨h1, h2⟩ := List.pairwise_cons.1 h
    rw [put]
    by_cases hy : y < n
    · rw [if_pos hy]
      refine List.pairwise_cons.2 ⟨fun z hz => ?_, ih h2⟩
      rcases mem_put.1 hz with e | e
      · exact h1 z e
      · rw [e]; exact hy
    · rw [if_neg hy]
      by_cases he : y = n
      · rw [if_pos he]; exact h
      · rw [if_neg he]
        refine List.pairwise_cons.2 ⟨fun z hz => ?_, h⟩
        rcases List.mem_cons.1 hz with e | e
        · omega
        · have := h1 z e; omega
theorem put_len (l : List Int) (n : Int) : (put l n).length ≤ l.length + 1 := by
  induction l with
  | nil => simp [put]
  | cons y t ih =>
    rw [put]
    split
    · simp only [List.length_cons]; omega
    · split <;> simp
/-- What putting does, by the first place at which the number is not less. -/
theorem put_at : ∀ (l : List Int) (n : Int) (k : Nat), k ≤ l.length → (∀ j y, j < k → l[j]? = some y → y < n) → (∀ x, l[k]? = some x → ¬ x < n) →
    put l n = if l[k]? = some n then l else l.take k ++ n :: l.drop k
  | [], n, k, hk, _, _ => by
    obtain rfl : k = 0 := by simpa using hk
    simp [put]
  | y :: t, n, 0, _, _, h2 => by
    have := h2 y rfl
    rw [put, if_neg this]
    by_cases e : y = n
    · simp [e]
    · simp [e]
  | y :: t, n, k + 1, hk, h1, h2 => by
    have hy := h1 0 y (by omega) rfl
    rw [put, if_pos hy, put_at t n k (by simpa using hk) (fun j z hj hz => h1 (j + 1) z (by omega) (by simpa using hz)) (fun x hx => h2 x (by simpa using hx))]
    simp only [List.getElem?_cons_succ, List.take_succ_cons, List.drop_succ_cons, List.cons_append]
    split <;> rfl
def joinP (a b : List Int) : List Int := b.foldl put a
theorem joinP_snoc (a b : List Int) (x : Int) : joinP a (b ++ [x]) = put (joinP a b) x := by unfold joinP; rw [List.foldl_append]; rfl
theorem mem_joinP {b : List Int} : ∀ {a : List Int} {x : Int}, x ∈ joinP a b ↔ x ∈ a ∨ x ∈ b := by
  induction b with
  | nil => intro a x; simp [joinP]
  | cons y b ih =>
    intro a x
    show x ∈ joinP (put a y) b ↔ _
    rw [ih, mem_put, List.mem_cons]
    constructor
    · rintro ((h | h) | h) <;> simp [h]
    · rintro (h | h | h) <;> simp [h]
theorem srt_joinP {b : List Int} : ∀ {a : List Int}, Srt a → Srt (joinP a b) := by
  induction b with
  | nil => intro a h; exact h
  | cons y b ih => intro a h; exact ih (srt_put h)
theorem joinP_len (b : List Int) : ∀ a, (joinP a b).length ≤ a.length + b.length := by
  induction b with
  | nil => intro a; simp [joinP]
  | cons y b ih =>
    intro a
    have h1 := ih (put a y)
    have h2 := put_len a y
    show (joinP (put a y) b).length ≤ _
    rw [List.length_cons]
    omega
/-- Any strictly increasing list of just these members is the union. -/
theorem joinP_of {a b l : List Int} (ha : Srt a) (hl : Srt l) (h : ∀ x, x ∈ l ↔ x ∈ a ∨ x ∈ b) : l = joinP a b :=
  srt_ext _ _ hl (srt_joinP ha) fun x => by rw [h, mem_joinP]
theorem join_len {a b : List Int} (ha : Srt a) (hb : Srt b) : (joinP a b).length = (lessP a b).length + b.length := by
  have h : (joinP a b).Perm (lessP a b ++ b) := by
    refine (List.perm_ext_iff_of_nodup ?_ ?_).2 fun x => ?_
    · exact (srt_joinP ha).imp fun h e => by omega
    · refine List.pairwise_append.2 ⟨(srt_filter ha _).imp fun h e => by omega, hb.imp fun h e => by omega, fun x hx y hy e => ?_⟩
      subst e
      exact (mem_lessP.1 hx).2 hy
    · rw [mem_joinP, List.mem_append, mem_lessP]
      constructor
      · rintro (h | h)
        · by_cases hb : x ∈ b
          · exact .inr hb
          · exact .inl ⟨h, hb⟩
        · exact .inr h
      · rintro (h | h)
        · exact .inl h.1
        · exact .inr h
  rw [h.length_eq, List.length_append]
end Go.Proofs.Ytpdclppieicaeaa
