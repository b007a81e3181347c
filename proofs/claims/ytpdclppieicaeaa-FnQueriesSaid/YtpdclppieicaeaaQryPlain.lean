/- The plain law of queries: valid ones, what they select. No program in sight. -/
import Derived.Test.YtpdclppieicaeaaLabPlain
import Derived.Test.YtpdclppieicaeaaMergePlain
import Derived.Test.YtpdclppieicaeaaPostPlain
namespace Go.Proofs.Ytpdclppieicaeaa
set_option linter.unusedVariables false
set_option linter.unusedSimpArgs false
open Go.RowKit

structure Qry where
  kind : Int
  name : ByteArray
  value : ByteArray
  a : Int
  b : Int
instance : Inhabited Qry := ⟨⟨0, ⟨#[]⟩, ⟨#[]⟩, 0, 0⟩⟩
def Qry.cells (p : Qry) : List Value := [.int .i64 p.kind, .string p.name, .string p.value, .int .i64 p.a, .int .i64 p.b]
def qrys (l : List Qry) : List Value := l.flatMap Qry.cells
def qry0 : Qry := ⟨0, ⟨#[]⟩, ⟨#[]⟩, 0, 0⟩
def empS (s : ByteArray) : Bool := s.data.toList.isEmpty
theorem empS_t {s : ByteArray} (h : empS s = true) : s = ⟨#[]⟩ := by
  obtain ⟨⟨l⟩⟩ := s
  simp [empS] at h
  subst h
  rfl
def qryOk (p : Qry) (i : Nat) : Bool :=
  if p.kind == 1 then empS p.name && empS p.value && p.a == 0 && p.b == 0
  else if p.kind == 2 then labOk (p.name, p.value) && p.a == 0 && p.b == 0
  else if p.kind == 3 || p.kind == 4 then empS p.name && empS p.value && inB p.a 0 ((i : Int) - 1) && inB p.b 0 ((i : Int) - 1)
  else if p.kind == 5 then empS p.name && empS p.value && inB p.a 0 ((i : Int) - 1) && p.b == 0
  else false
def qryAt (l : List Qry) (i : Nat) : Bool := qryOk (l.getD i qry0) i
def goodQry (l : List Qry) : Bool := allAt (qryAt l) l.length && decide (1 ≤ l.length) && decide (l.length ≤ 20)
/-- The shapes of a valid part. -/
inductive ShapeQ (i : Nat) : Qry → Prop where
  | all : ShapeQ i ⟨1, ⟨#[]⟩, ⟨#[]⟩, 0, 0⟩
  | has (n v : ByteArray) (h : labOk (n, v) = true) : ShapeQ i ⟨2, n, v, 0, 0⟩
  | and (a b : Nat) (ha : a < i) (hb : b < i) : ShapeQ i ⟨3, ⟨#[]⟩, ⟨#[]⟩, a, b⟩
  | or (a b : Nat) (ha : a < i) (hb : b < i) : ShapeQ i ⟨4, ⟨#[]⟩, ⟨#[]⟩, a, b⟩
  | not_ (a : Nat) (ha : a < i) : ShapeQ i ⟨5, ⟨#[]⟩, ⟨#[]⟩, a, 0⟩
theorem inQ_nat {x : Int} {i : Nat} (h : inB x 0 ((i : Int) - 1) = true) : ∃ a : Nat, x = a ∧ a < i := by
  obtain ⟨h0, h1⟩ := inB_iff.1 h
  exact ⟨x.toNat, by omega, by omega⟩
theorem shapeQ_of {p : Qry} {i : Nat} (h : qryOk p i = true) : ShapeQ i p := by
  obtain ⟨k, n, v, a, b⟩ := p
  unfold qryOk at h
  simp only at h
  by_cases h1 : (k == 1) = true
  · rw [if_pos h1] at h
    simp only [Bool.and_eq_true, beq_iff_eq] at h h1
    obtain ⟨⟨⟨hn, hv⟩, rfl⟩, rfl⟩ := h
    obtain rfl := empS_t hn
    obtain rfl := empS_t hv
    subst h1
    exact .all
  rw [if_neg h1] at h
  by_cases h2 : (k == 2) = true
  · rw [if_pos h2] at h
    simp only [Bool.and_eq_true, beq_iff_eq] at h h2
    obtain ⟨⟨hl, rfl⟩, rfl⟩ := h
    subst h2
    exact .has n v hl
  rw [if_neg h2] at h
  by_cases h3 : (k == 3 || k == 4) = true
  · rw [if_pos h3] at h
    simp only [Bool.and_eq_true] at h
    obtain ⟨⟨⟨hn, hv⟩, ha⟩, hb⟩ := h
    obtain rfl := empS_t hn
    obtain rfl := empS_t hv
    obtain ⟨a', rfl, ha'⟩ := inQ_nat ha
    obtain ⟨b', rfl, hb'⟩ := inQ_nat hb
    simp only [Bool.or_eq_true, beq_iff_eq] at h3
    rcases h3 with rfl | rfl
    · exact .and a' b' ha' hb'
    · exact .or a' b' ha' hb'
  rw [if_neg h3] at h
  by_cases h5 : (k == 5) = true
  · rw [if_pos h5] at h
    simp only [Bool.and_eq_true, beq_iff_eq] at h h5
    obtain ⟨⟨⟨hn, hv⟩, ha⟩, rfl⟩ := h
    obtain rfl := empS_t hn
    obtain rfl := empS_t hv
    obtain ⟨a', rfl, ha'⟩ := inQ_nat ha
    subst h5
    exact .not_ a' ha'
  rw [if_neg h5] at h
  cases h
theorem goodQ_len {l : List Qry} (h : goodQry l = true) : 1 ≤ l.length ∧ l.length ≤ 20 := by
  unfold goodQry at h
  simp only [Bool.and_eq_true, decide_eq_true_eq] at h
  exact ⟨h.1.2, h.2⟩
theorem goodQ_at {l : List Qry} (h : goodQry l = true) {i : Nat} {p : Qry} (hp : l[i]? = some p) : ShapeQ i p := by
  unfold goodQry at h
  simp only [Bool.and_eq_true] at h
  have := allAt_iff.1 h.1.1 i (List.getElem?_eq_some_iff.1 hp).1
  unfold qryAt at this
  rw [List.getD, hp] at this
  exact shapeQ_of this
/-- 'not' of the whole query behind it. -/
def notQ (l : List Qry) : Qry := ⟨5, ⟨#[]⟩, ⟨#[]⟩, (l.length : Int) - 1, 0⟩
theorem goodQ_not {l : List Qry} (h : goodQry l = true) : goodQry (l ++ [notQ l]) = decide (l.length + 1 ≤ 20) := by
  have hl := goodQ_len h
  unfold goodQry at h ⊢
  simp only [Bool.and_eq_true] at h
  have hall : allAt (qryAt (l ++ [notQ l])) (l ++ [notQ l]).length = true := by
    refine allAt_t fun k hk => ?_
    rw [List.length_append, List.length_singleton] at hk
    unfold qryAt
    by_cases hkl : k < l.length
    · have := allAt_iff.1 h.1.1 k hkl
      unfold qryAt at this
      rw [List.getD, List.getElem?_append_left hkl]
      exact this
    · obtain rfl : k = l.length := by omega
      rw [List.getD, List.getElem?_append_right (Nat.le_refl _), Nat.sub_self]
      simp [qryOk, empS, inB, notQ]
      try omega
  rw [hall]
  simp

/-! What a query selects. -/
def allP (n : Nat) : List Int := (List.range n).map fun k : Nat => (k : Int)
theorem allP_succ (n : Nat) : allP (n + 1) = allP n ++ [(n : Int)] := by unfold allP; rw [List.range_succ, List.map_append]; rfl
theorem allP_len (n : Nat) : (allP n).length = n := by simp [allP]
theorem mem_allP {n : Nat} {x : Int} : x ∈ allP n ↔ 0 ≤ x ∧ x < n := by
  unfold allP
  simp only [List.mem_map, List.mem_range]
  constructor
  · rintro ⟨k, hk, rfl⟩; omega
  · rintro ⟨h0, h1⟩; exact ⟨x.toNat, by omega, by omega⟩
theorem srt_allP (n : Nat) : Srt (allP n) := by
  induction n with
  | zero => simp [allP]
  | succ n ih =>
    rw [allP_succ]
    refine List.pairwise_append.2 ⟨ih, by simp, fun x hx y hy => ?_⟩
    have := mem_allP.1 hx
    have : y = n := by simpa using hy
    omega
def hasLab (l : List Lab) (x : Lab) : Bool := l.any fun y => decide (y = x)
/-- The numbers of the first k series that have a label. -/
def postsK (se : List (List Lab)) (x : Lab) (k : Nat) : List Int := (allP k).filter fun i => hasLab (se.getD i.toNat []) x
def postsL (se : List (List Lab)) (x : Lab) : List Int := postsK se x se.length
theorem postsK_succ (se : List (List Lab)) (x : Lab) (k : Nat) (l : List Lab) (h : se[k]? = some l) : postsK se x (k + 1) = if hasLab l x then postsK se x k ++ [(k : Int)] else postsK se x k := by
  unfold postsK
  rw [allP_succ, List.filter_append]
  simp only [List.filter_cons, List.filter_nil, Int.toNat_natCast]
  have e : se.getD k [] = l := by simp [List.getD, h]
  simp only [e]
  split <;> simp
theorem srt_postsL (se : List (List Lab)) (x : Lab) : Srt (postsL se x) := srt_filter (srt_allP _) _
theorem mem_postsL {se : List (List Lab)} {x : Lab} {i : Int} (h : i ∈ postsL se x) : 0 ≤ i ∧ i < se.length := mem_allP.1 (List.mem_filter.1 h).1
/-- What a part selects, by what the earlier ones do. -/
def ev1 (se : List (List Lab)) (acc : List (List Int)) (p : Qry) : List Int :=
  if p.kind = 1 then allP se.length
  else if p.kind = 2 then postsL se (p.name, p.value)
  else if p.kind = 3 then meetP (acc.getD p.a.toNat []) (acc.getD p.b.toNat [])
  else if p.kind = 4 then joinP (acc.getD p.a.toNat []) (acc.getD p.b.toNat [])
  else lessP (allP se.length) (acc.getD p.a.toNat [])
def evs (se : List (List Lab)) (q : List Qry) : List (List Int) := q.foldl (fun acc p => acc ++ [ev1 se acc p]) []
theorem evs_snoc (se : List (List Lab)) (q : List Qry) (p : Qry) : evs se (q ++ [p]) = evs se q ++ [ev1 se (evs se q) p] := by unfold evs; rw [List.foldl_append]; rfl
def evalL (se : List (List Lab)) (q : List Qry) : List Int := (evs se q).getD (q.length - 1) []
/-- A selection: increasing numbers of series. -/
def Sel (n : Nat) (l : List Int) : Prop := Srt l ∧ ∀ x ∈ l, 0 ≤ x ∧ x < n
theorem Sel.nil {n : Nat} : Sel n [] := ⟨by simp, by simp⟩
theorem Sel.meet {n : Nat} {a b : List Int} (ha : Sel n a) : Sel n (meetP a b) := ⟨srt_filter ha.1 _, fun x hx => ha.2 x (mem_meetP.1 hx).1⟩
theorem Sel.less {n : Nat} {a b : List Int} (ha : Sel n a) : Sel n (lessP a b) := ⟨srt_filter ha.1 _, fun x hx => ha.2 x (mem_lessP.1 hx).1⟩
theorem Sel.join {n : Nat} {a b : List Int} (ha : Sel n a) (hb : Sel n b) : Sel n (joinP a b) := ⟨srt_joinP ha.1, fun x hx => by
  rcases mem_joinP.1 hx with h | h
  · exact ha.2 x h
  · exact hb.2 x h⟩
theorem Sel.all (n : Nat) : Sel n (allP n) := ⟨srt_allP n, fun _ hx => mem_allP.1 hx⟩
theorem srt_len : ∀ (l : List Int) (lo hi : Int), Srt l → (∀ x ∈ l, lo ≤ x ∧ x < hi) → lo ≤ hi → (l.length : Int) ≤ hi - lo
  | [], lo, hi, _, _, h => by simp; omega
  | x :: t, lo, hi, hs, hb, _ => by
    obtain ⟨h1, h2⟩ := List.pairwise_cons.1 hs
    have hx := hb x (List.mem_cons_self ..)
    have := srt_len t (lo + 1) hi h2 (fun y hy => ⟨by have := h1 y hy; omega, (hb y (List.mem_cons_of_mem _ hy)).2⟩) (by omega)
    rw [List.length_cons]
    omega
theorem Sel.len {n : Nat} {l : List Int} (h : Sel n l) : l.length ≤ n := by
  have := srt_len l 0 n h.1 h.2 (by omega)
  omega
theorem sel_ev1 {se : List (List Lab)} {acc : List (List Int)} (h : ∀ l ∈ acc, Sel se.length l) (p : Qry) : Sel se.length (ev1 se acc p) := by
  have hg : ∀ k, Sel se.length (acc.getD k []) := by
    intro k
    rw [List.getD]
    cases e : acc[k]? with
    | none => exact Sel.nil
    | some l => exact h l (List.mem_of_getElem? e)
  unfold ev1
  split
  · exact Sel.all _
  split
  · exact ⟨srt_postsL _ _, fun x hx => mem_postsL hx⟩
  split
  · exact (hg _).meet
  split
  · exact (hg _).join (hg _)
  · exact (Sel.all _).less
theorem evs_take_len (se : List (List Lab)) (q : List Qry) : ∀ k, k ≤ q.length → (evs se (q.take k)).length = k := by
  intro k
  induction k with
  | zero => intro _; simp [evs]
  | succ k ih =>
    intro hk
    rw [List.take_succ_eq_append_getElem (by omega), evs_snoc, List.length_append, ih (by omega)]
    rfl
theorem sel_evs (se : List (List Lab)) (q : List Qry) : ∀ k, k ≤ q.length → ∀ l ∈ evs se (q.take k), Sel se.length l := by
  intro k
  induction k with
  | zero => intro _ l hl; simp [evs] at hl
  | succ k ih =>
    intro hk l hl
    rw [List.take_succ_eq_append_getElem (by omega), evs_snoc] at hl
    rcases List.mem_append.1 hl with h | h
    · exact ih (by omega) l h
    · rw [List.mem_singleton.1 h]; exact sel_ev1 (ih (by omega)) _
theorem sel_eval (se : List (List Lab)) (q : List Qry) : Sel se.length (evalL se q) := by
  have := sel_evs se q q.length (Nat.le_refl _)
  rw [List.take_length] at this
  unfold evalL
  rw [List.getD]
  cases e : (evs se q)[q.length - 1]? with
  | none => exact Sel.nil
  | some l => exact this l (List.mem_of_getElem? e)
theorem sel_good {n : Nat} (hn : n ≤ 60) {l : List Int} (h : Sel n l) : goodPosts l = true :=
  goodPosts_iff.2 ⟨h.1, fun x hx => by have := h.2 x hx; omega, Nat.le_trans h.len hn⟩
/-- What 'not' of a query selects: all that the query does not. -/
theorem eval_not {se : List (List Lab)} {q : List Qry} (hq : 1 ≤ q.length) : evalL se (q ++ [notQ q]) = lessP (allP se.length) (evalL se q) := by
  have hl : (evs se q).length = q.length := by have := evs_take_len se q q.length (Nat.le_refl _); rwa [List.take_length] at this
  unfold evalL
  rw [evs_snoc, List.length_append, List.length_singleton, Nat.add_sub_cancel, List.getD, List.getElem?_append_right (by omega), hl, Nat.sub_self]
  simp only [List.getElem?_cons_zero, Option.getD_some, ev1, notQ]
  simp <;> (try congr 2) <;> (try omega)
end Go.Proofs.Ytpdclppieicaeaa
