/- The plain law of rings: adding an owner by insertion and by sorting, owners from a place on. No program in sight. -/
import Derived.Test.YtkpofdfikmcjgaaGoodTok
import Derived.Test.YtkpofdfikmcjgaaDelPlain
import Derived.Test.YtkpofdfikmcjgaaLists
namespace Go.Proofs.Ytkpofdfikmcjgaa
set_option linter.unusedVariables false
set_option linter.unusedSimpArgs false

abbrev Tok := Int × Int
def LtT (x y : Tok) : Prop := x.1 < y.1
theorem LtT_irr (x : Tok) : ¬ LtT x x := by unfold LtT; omega
theorem LtT_tr (x y z : Tok) (h1 : LtT x y) (h2 : LtT y z) : LtT x z := by unfold LtT at *; omega
theorem goodTok_iff {l : List Tok} : goodTok l = true ↔ l.Pairwise LtT ∧ (∀ x ∈ l, tokOk x = true) ∧ l.length ≤ 40 := by
  unfold goodTok
  rw [Bool.and_eq_true, decide_eq_true_eq, allAt_iff]
  constructor
  · rintro ⟨h, hl⟩
    refine ⟨pw_of_adj LtT_tr fun k x y hx hy => ?_, fun x hx => ?_, hl⟩
    · have := h (k + 1) (List.getElem?_eq_some_iff.1 hy).1
      rw [tokAt_succ hx hy] at this
      simp at this
      exact this.2
    · obtain ⟨k, hk⟩ := List.mem_iff_getElem?.1 hx
      have := h k (List.getElem?_eq_some_iff.1 hk).1
      unfold tokAt at this
      rw [show l.getD k (0, 0) = x from by simp [List.getD, hk]] at this
      simp only [Bool.and_eq_true] at this
      exact this.1
  · rintro ⟨hs, hb, hl⟩
    refine ⟨fun k hk => ?_, hl⟩
    have hx := List.getElem?_eq_getElem hk
    have hin := hb _ (List.getElem_mem hk)
    cases k with
    | zero => rw [tokAt_zero hx]; exact hin
    | succ k =>
      rw [tokAt_succ (List.getElem?_eq_getElem (show k < l.length by omega)) hx, hin, Bool.true_and, decide_eq_true_eq]
      exact pw_adj hs (List.getElem?_eq_getElem (by omega)) hx

/-- A token put ahead of the first one that is not less. -/
def insT : List Tok → Int → Int → List Tok
  | [], a, o => [(a, o)]
  | p :: t, a, o => if p.1 < a then p :: insT t a o else (a, o) :: p :: t
theorem insT_at : ∀ (l : List Tok) (a o : Int) (k : Nat), k ≤ l.length → (∀ j y, j < k → l[j]? = some y → y.1 < a) → (∀ x, l[k]? = some x → ¬ x.1 < a) → insT l a o = l.take k ++ (a, o) :: l.drop k
  | [], a, o, k, hk, _, _ => by
    obtain rfl : k = 0 := by simpa using hk
    rfl
  | y :: t, a, o, 0, _, _, h2 => by rw [insT, if_neg (h2 y rfl)]; rfl
  | y :: t, a, o, k + 1, hk, h1, h2 => by
    rw [insT, if_pos (h1 0 y (by omega) rfl), insT_at t a o k (by simpa using hk) (fun j z hj hz => h1 (j + 1) z (by omega) (by simpa using hz)) (fun x hx => h2 x (by simpa using hx))]
    rfl
theorem insT_perm (l : List Tok) (a o : Int) : (insT l a o).Perm ((a, o) :: l) := by
  induction l with
  | nil => exact List.Perm.refl _
  | cons p t ih =>
    rw [insT]
    split
    · exact (List.Perm.cons p ih).trans (List.Perm.swap ..)
    · exact List.Perm.refl _
abbrev Le1 (l : List Tok) : Prop := l.Pairwise fun x y => x.1 ≤ y.1
theorem insT_le {l : List Tok} {a o : Int} (h : Le1 l) : Le1 (insT l a o) := by
  induction l with
  | nil => simp [insT]
  | cons p t ih =>
    obtain ⟨h1, h2⟩ := List.pairwise_cons.1 h
    rw [insT]
    split
    · refine List.pairwise_cons.2 ⟨fun z hz => ?_, ih h2⟩
      rcases List.mem_cons.1 ((insT_perm t a o).mem_iff.1 hz) with e | e
      · subst e; simp; omega
      · exact h1 z e
    · refine List.pairwise_cons.2 ⟨fun z hz => ?_, h⟩
      rcases List.mem_cons.1 hz with e | e
      · subst e; simp; omega
      · have := h1 z e; simp at *; omega
def addT (r : List Tok) (o : Int) (at_ : List Int) : List Tok := at_.foldl (fun l a => insT l a o) r
theorem addT_snoc (r : List Tok) (o : Int) (l : List Int) (x : Int) : addT r o (l ++ [x]) = insT (addT r o l) x o := by unfold addT; rw [List.foldl_append]; rfl
theorem addT_perm (o : Int) (l : List Int) : ∀ r : List Tok, (addT r o l).Perm (r ++ l.map fun a => (a, o)) := by
  induction l with
  | nil => intro r; simp [addT]
  | cons a l ih =>
    intro r
    show (addT (insT r a o) o l).Perm _
    refine (ih _).trans ?_
    rw [List.map_cons]
    refine ((insT_perm r a o).append_right _).trans ?_
    exact (List.perm_middle).symm
theorem addT_le (o : Int) (l : List Int) : ∀ r : List Tok, Le1 r → Le1 (addT r o l) := by
  induction l with
  | nil => intro r h; exact h
  | cons a l ih => intro r h; exact ih _ (insT_le h)
theorem addT_len (r : List Tok) (o : Int) (l : List Int) : (addT r o l).length = r.length + l.length := by rw [(addT_perm o l r).length_eq]; simp
theorem good_le {l : List Tok} (h : goodTok l = true) : Le1 l := (goodTok_iff.1 h).1.imp fun h => by unfold LtT at h; omega
theorem lt_of_nodup {l : List Tok} (h : Le1 l) (hn : l.Pairwise fun x y => x.1 ≠ y.1) : l.Pairwise LtT := (h.and hn).imp fun {x y} h => by unfold LtT; omega
theorem good_perm {d e : List Tok} (hp : d.Perm e) (hd : Le1 d) (he : Le1 e) : goodTok d = goodTok e ∧ (goodTok d = true → d = e) := by
  have key : ∀ {d e : List Tok}, d.Perm e → Le1 e → goodTok d = true → goodTok e = true := by
    intro d e hp he h
    obtain ⟨h1, h2, h3⟩ := goodTok_iff.1 h
    have hn : e.Pairwise fun x y => x.1 ≠ y.1 := hp.pairwise (h1.imp fun h => by unfold LtT at h; omega) (fun h e => h e.symm)
    exact goodTok_iff.2 ⟨lt_of_nodup he hn, fun x hx => h2 x (hp.mem_iff.2 hx), by rw [← hp.length_eq]; exact h3⟩
  have hb : goodTok d = goodTok e := by
    rw [Bool.eq_iff_iff]
    exact ⟨key hp he, key hp.symm hd⟩
  refine ⟨hb, fun h => ?_⟩
  exact pw_ext LtT_irr LtT_tr _ _ (goodTok_iff.1 h).1 (goodTok_iff.1 (hb ▸ h)).1 fun x => hp.mem_iff

/-- The number of the token for a place. -/
def firstT (r : List Tok) (h : Int) : Nat := match fstAt (fun t : Tok => decide (h ≤ t.1)) r with | some k => k | none => 0
theorem fstAt_lt {α : Type} {p : α → Bool} {l : List α} {k : Nat} (h : fstAt p l = some k) : k < l.length := by
  unfold fstAt at h
  exact (List.findIdx?_eq_some_iff_getElem.1 h).1
theorem firstT_lt {r : List Tok} {h : Int} (hr : 0 < r.length) : firstT r h < r.length := by
  unfold firstT
  split
  · exact fstAt_lt ‹_›
  · exact hr
/-- One more of some numbers, unless it is there. -/
def one1 (acc : List Int) (o : Int) : List Int := if acc.contains o then acc else acc ++ [o]
def uniq (l : List Int) : List Int := l.foldl one1 []
theorem uniq_snoc (l : List Int) (x : Int) : uniq (l ++ [x]) = one1 (uniq l) x := by unfold uniq; rw [List.foldl_append]; rfl
theorem one1_len (l : List Int) (x : Int) : (one1 l x).length ≤ l.length + 1 := by unfold one1; split <;> simp
theorem fold_len (l : List Int) : ∀ acc, (l.foldl one1 acc).length ≤ acc.length + l.length := by
  induction l with
  | nil => intro acc; simp
  | cons x l ih =>
    intro acc
    have h1 := ih (one1 acc x)
    have h2 := one1_len acc x
    rw [List.foldl_cons, List.length_cons]
    omega
theorem uniq_len (l : List Int) : (uniq l).length ≤ l.length := by have := fold_len l []; simpa [uniq] using this
/-- The owners of the tokens from place f on, round the ring. -/
def turnT (r : List Tok) (f : Nat) : List Int := (List.range r.length).map fun k => (r.getD ((f + k) % r.length) (0, 0)).2
def ownT (r : List Tok) (h : Int) : List Int := uniq (turnT r (firstT r h))
theorem turnT_at {r : List Tok} {f k : Nat} {p : Tok} (hk : k < r.length) (h : r[(f + k) % r.length]? = some p) : (turnT r f)[k]? = some p.2 := by
  unfold turnT; simp [hk, List.getD, h]
theorem turnT_len (r : List Tok) (f : Nat) : (turnT r f).length = r.length := by simp [turnT]
/-- Taking no more than so many. -/
theorem take_one1 (l : List Int) (x : Int) (m : Nat) : (one1 l x).take m = if (l.take m).length < m ∧ ¬ (l.take m).contains x = true then l.take m ++ [x] else l.take m := by
  by_cases h : l.length < m
  · rw [List.take_of_length_le (by have := one1_len l x; omega), List.take_of_length_le (l := l) (by omega)]
    unfold one1
    by_cases hc : l.contains x = true
    · rw [if_pos hc, if_neg (fun h' => h'.2 hc)]
    · rw [if_neg hc, if_pos ⟨h, hc⟩]
  · rw [if_neg (by rw [List.length_take]; omega)]
    unfold one1
    split
    · rfl
    · rw [List.take_append_of_le_length (by omega)]
theorem one1_nodup {l : List Int} (h : l.Nodup) (x : Int) : (one1 l x).Nodup := by
  unfold one1
  split
  · exact h
  · rename_i hc
    refine List.pairwise_append.2 ⟨h, by simp, fun a ha b hb e => ?_⟩
    subst e
    have : a = x := by simpa using hb
    subst this
    exact hc (by simpa using ha)
theorem fold_nodup (l : List Int) : ∀ acc, acc.Nodup → (l.foldl one1 acc).Nodup := by
  induction l with
  | nil => intro acc h; exact h
  | cons x l ih => intro acc h; exact ih _ (one1_nodup h x)
theorem uniq_nodup (l : List Int) : (uniq l).Nodup := fold_nodup l [] (by simp)
def ownsT (r : List Tok) (o : Int) : Bool := r.any fun t => t.2 == o
end Go.Proofs.Ytkpofdfikmcjgaa
