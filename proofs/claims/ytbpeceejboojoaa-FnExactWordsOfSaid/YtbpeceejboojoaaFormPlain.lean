/- The plain law of the pattern language: trees, what they match, derivatives, texts. No program in sight. -/
import Derived.WalkKit
namespace Go.Proofs.Ytbpeceejboojoaa
set_option linter.unusedVariables false
set_option linter.unusedSimpArgs false

/-- A pattern as a tree. -/
inductive Tr where
  | none | empty | any
  | letter (c : UInt8)
  | seq (a b : Tr) | alt (a b : Tr)
  | star (a : Tr) | not_ (a : Tr)

def chainF (p : List UInt8 → Bool) : Nat → List UInt8 → Bool
  | 0, s => s.isEmpty
  | f + 1, s => s.isEmpty || (List.range s.length).any fun k => p (s.take (k + 1)) && chainF p f (s.drop (k + 1))
/-- Some bytes are a chain of pieces, none of them empty, each of which p takes. -/
def chain (p : List UInt8 → Bool) (s : List UInt8) : Bool := chainF p s.length s
def seqB (p q : List UInt8 → Bool) (s : List UInt8) : Bool := (List.range (s.length + 1)).any fun k => p (s.take k) && q (s.drop k)
/-- Whether a tree matches some bytes. -/
def mt : Tr → List UInt8 → Bool
  | .none, _ => false
  | .empty, s => s.isEmpty
  | .any, s => s.length == 1
  | .letter c, s => s == [c]
  | .seq a b, s => seqB (mt a) (mt b) s
  | .alt a b, s => mt a s || mt b s
  | .star a, s => chain (mt a) s
  | .not_ a, s => !mt a s

theorem chainF_eq (p : List UInt8 → Bool) : ∀ (f : Nat) (s : List UInt8), s.length ≤ f → ∀ g, s.length ≤ g → chainF p f s = chainF p g s
  | 0, s, h, 0, h' => rfl
  | 0, s, h, g + 1, h' => by
    obtain rfl : s = [] := List.eq_nil_of_length_eq_zero (by omega)
    rfl
  | f + 1, s, h, 0, h' => by
    obtain rfl : s = [] := List.eq_nil_of_length_eq_zero (by omega)
    rfl
  | f + 1, s, h, g + 1, h' => by
    rw [chainF, chainF]
    congr 1
    rw [Bool.eq_iff_iff]
    simp only [List.any_eq_true, List.mem_range]
    constructor
    · rintro ⟨k, hk, hp⟩
      exact ⟨k, hk, by rw [← chainF_eq p f (s.drop (k + 1)) (by rw [List.length_drop]; omega) g (by rw [List.length_drop]; omega)]; exact hp⟩
    · rintro ⟨k, hk, hp⟩
      exact ⟨k, hk, by rw [chainF_eq p f (s.drop (k + 1)) (by rw [List.length_drop]; omega) g (by rw [List.length_drop]; omega)]; exact hp⟩
theorem chain_nil (p : List UInt8 → Bool) : chain p [] = true := rfl
theorem chain_cons (p : List UInt8 → Bool) (s : List UInt8) (h : s ≠ []) : chain p s = (List.range s.length).any fun k => p (s.take (k + 1)) && chain p (s.drop (k + 1)) := by
  unfold chain
  cases s with
  | nil => exact absurd rfl h
  | cons c s =>
    rw [List.length_cons, chainF]
    simp only [List.isEmpty_cons, Bool.false_or]
    rw [Bool.eq_iff_iff]
    simp only [List.any_eq_true, List.mem_range]
    constructor
    · rintro ⟨k, hk, hp⟩
      refine ⟨k, hk, ?_⟩
      rw [chainF_eq p _ _ (Nat.le_refl _) s.length (by simp)]
      exact hp
    · rintro ⟨k, hk, hp⟩
      refine ⟨k, hk, ?_⟩
      rw [chainF_eq p s.length _ (by simp) _ (Nat.le_refl _)]
      exact hp

def nul : Tr → Bool
  | .none => false
  | .empty => true
  | .any => false
  | .letter _ => false
  | .seq a b => nul a && nul b
  | .alt a b => nul a || nul b
  | .star _ => true
  | .not_ a => !nul a
theorem nul_mt (t : Tr) : nul t = mt t [] := by
  induction t with
  | none => rfl
  | empty => rfl
  | any => rfl
  | letter c => rfl
  | seq a b iha ihb => simp [nul, mt, seqB, iha, ihb]
  | alt a b iha ihb => simp [nul, mt, iha, ihb]
  | star a => rfl
  | not_ a ih => simp [nul, mt, ih]

def isNone : Tr → Bool
  | .none => true
  | _ => false
def isEmp : Tr → Bool
  | .empty => true
  | _ => false
theorem isNone_t {t : Tr} (h : isNone t = true) : t = .none := by cases t <;> first | rfl | cases h
theorem isEmp_t {t : Tr} (h : isEmp t = true) : t = .empty := by cases t <;> first | rfl | cases h
def thenT (a b : Tr) : Tr := if isNone a || isNone b then .none else if isEmp a then b else if isEmp b then a else .seq a b
def eitherT (a b : Tr) : Tr := if isNone a then b else if isNone b then a else .alt a b
def der : Tr → UInt8 → Tr
  | .none, _ => .none
  | .empty, _ => .none
  | .any, _ => .empty
  | .letter d, c => if d = c then .empty else .none
  | .seq a b, c => if nul a then eitherT (thenT (der a c) b) (der b c) else thenT (der a c) b
  | .alt a b, c => eitherT (der a c) (der b c)
  | .star a, c => thenT (der a c) (.star a)
  | .not_ a, c => .not_ (der a c)

theorem seqB_iff {p q : List UInt8 → Bool} {s : List UInt8} : seqB p q s = true ↔ ∃ u v, s = u ++ v ∧ p u = true ∧ q v = true := by
  unfold seqB
  simp only [List.any_eq_true, List.mem_range, Bool.and_eq_true]
  constructor
  · rintro ⟨k, _, hp, hq⟩
    exact ⟨_, _, (List.take_append_drop k s).symm, hp, hq⟩
  · rintro ⟨u, v, rfl, hp, hq⟩
    exact ⟨u.length, by simp; omega, by simpa using hp, by simpa using hq⟩
theorem chain_iff {p : List UInt8 → Bool} {s : List UInt8} (h : s ≠ []) : chain p s = true ↔ ∃ u v, s = u ++ v ∧ u ≠ [] ∧ p u = true ∧ chain p v = true := by
  rw [chain_cons p s h]
  simp only [List.any_eq_true, List.mem_range, Bool.and_eq_true]
  constructor
  · rintro ⟨k, hk, hp, hq⟩
    exact ⟨_, _, (List.take_append_drop (k + 1) s).symm, (by intro e; have := congrArg List.length e; simp at this; rcases this with h1 | h1 <;> simp_all), hp, hq⟩
  · rintro ⟨u, v, rfl, hu, hp, hq⟩
    have hl : 0 < u.length := List.length_pos_iff.2 hu
    refine ⟨u.length - 1, by simp; omega, ?_, ?_⟩
    · rw [show u.length - 1 + 1 = u.length from by omega]; simpa using hp
    · rw [show u.length - 1 + 1 = u.length from by omega]; simpa using hq
theorem mt_thenT (a b : Tr) (s : List UInt8) : mt (thenT a b) s = seqB (mt a) (mt b) s := by
  unfold thenT
  by_cases h1 : isNone a = true
  · rw [isNone_t h1]
    simp [isNone, mt, seqB]
  by_cases h2 : isNone b = true
  · rw [isNone_t h2]
    simp [isNone, mt, seqB]
  have h1' : isNone a = false := by simpa using h1
  have h2' : isNone b = false := by simpa using h2
  rw [h1', h2']
  simp only [Bool.or_self, Bool.false_eq_true, if_false]
  by_cases h3 : isEmp a = true
  · rw [if_pos h3, isEmp_t h3, Bool.eq_iff_iff, seqB_iff]
    constructor
    · intro h
      exact ⟨[], s, rfl, rfl, h⟩
    · rintro ⟨u, v, rfl, hu, hv⟩
      have : u = [] := by simpa [mt] using hu
      rw [this]; exact hv
  rw [if_neg h3]
  by_cases h4 : isEmp b = true
  · rw [if_pos h4, isEmp_t h4, Bool.eq_iff_iff, seqB_iff]
    constructor
    · intro h
      exact ⟨s, [], by simp, h, rfl⟩
    · rintro ⟨u, v, rfl, hu, hv⟩
      have : v = [] := by simpa [mt] using hv
      rw [this, List.append_nil]; exact hu
  rw [if_neg h4]
  rfl
theorem mt_eitherT (a b : Tr) (s : List UInt8) : mt (eitherT a b) s = (mt a s || mt b s) := by
  unfold eitherT
  by_cases h1 : isNone a = true
  · rw [if_pos h1, isNone_t h1]; simp [mt]
  rw [if_neg h1]
  by_cases h2 : isNone b = true
  · rw [if_pos h2, isNone_t h2]; simp [mt]
  rw [if_neg h2]; rfl
theorem mt_der (t : Tr) (c : UInt8) : ∀ s, mt (der t c) s = mt t (c :: s) := by
  induction t with
  | none => intro s; rfl
  | empty => intro s; rfl
  | any => intro s; cases s <;> simp [der, mt]
  | letter d =>
    intro s
    by_cases h : d = c
    · subst h; simp only [der, if_pos, mt]; cases s <;> simp
    · simp only [der, if_neg h, mt]
      symm
      simp only [beq_eq_false_iff_ne, ne_eq, List.cons.injEq, not_and]
      intro h'; exact absurd h'.symm h
  | alt a b iha ihb => intro s; rw [der, mt_eitherT, iha, ihb]; rfl
  | not_ a ih => intro s; rw [der, mt, ih]; rfl
  | seq a b iha ihb =>
    intro s
    have hy : mt (thenT (der a c) b) s = true ↔ ∃ u v, s = u ++ v ∧ mt a (c :: u) = true ∧ mt b v = true := by
      rw [mt_thenT, seqB_iff]
      simp only [iha]
    have hr : mt (.seq a b) (c :: s) = true ↔ (mt (thenT (der a c) b) s = true ∨ (nul a = true ∧ mt (der b c) s = true)) := by
      rw [hy, nul_mt, ihb]
      show seqB (mt a) (mt b) (c :: s) = true ↔ _
      rw [seqB_iff]
      constructor
      · rintro ⟨u, v, he, hu, hv⟩
        cases u with
        | nil => refine .inr ⟨hu, ?_⟩; rw [List.nil_append] at he; rw [he]; exact hv
        | cons d u =>
          rw [List.cons_append] at he
          injection he with h1 h2
          subst h1
          exact .inl ⟨u, v, h2, hu, hv⟩
      · rintro (⟨u, v, rfl, hu, hv⟩ | ⟨hn, hb⟩)
        · exact ⟨c :: u, v, rfl, hu, hv⟩
        · exact ⟨[], c :: s, rfl, hn, hb⟩
    rw [Bool.eq_iff_iff, hr, der]
    cases hn : nul a with
    | true => simp [mt_eitherT]
    | false => simp
  | star a iha =>
    intro s
    rw [der, mt_thenT, Bool.eq_iff_iff, seqB_iff]
    show _ ↔ chain (mt a) (c :: s) = true
    rw [chain_iff (by simp)]
    simp only [iha]
    constructor
    · rintro ⟨u, v, rfl, hu, hv⟩
      exact ⟨c :: u, v, rfl, by simp, hu, hv⟩
    · rintro ⟨u, v, he, hu, hp, hq⟩
      cases u with
      | nil => exact absurd rfl hu
      | cons d u =>
        rw [List.cons_append] at he
        injection he with h1 h2
        subst h1
        exact ⟨u, v, h2, hp, hq⟩
def ders (t : Tr) : List UInt8 → Tr
  | [] => t
  | c :: s => ders (der t c) s
theorem nul_ders (s : List UInt8) : ∀ t, nul (ders t s) = mt t s := by
  induction s with
  | nil => intro t; exact nul_mt t
  | cons c s ih => intro t; rw [ders, ih, mt_der]

/-- The bytes from one place to another. -/
def seg (s : List UInt8) (i j : Nat) : List UInt8 := (s.drop i).take (j - i)
theorem seg_len {s : List UInt8} {i j : Nat} (h : j ≤ s.length) : (seg s i j).length = j - i := by unfold seg; rw [List.length_take, List.length_drop]; omega
theorem seg_take {s : List UInt8} {i j k : Nat} (h : i + k ≤ j) : (seg s i j).take k = seg s i (i + k) := by unfold seg; rw [List.take_take]; congr 1; omega
theorem seg_drop {s : List UInt8} {i j k : Nat} : (seg s i j).drop k = seg s (i + k) j := by
  unfold seg; rw [List.drop_take, List.drop_drop]; congr 1; omega
/-- Some place from lo to hi at which f says yes. -/
def someIn (f : Nat → Bool) (lo hi : Nat) : Bool := (List.range (hi + 1 - lo)).any fun k => f (lo + k)
theorem someIn_end {f : Nat → Bool} {lo hi : Nat} (h : hi < lo) : someIn f lo hi = false := by unfold someIn; rw [show hi + 1 - lo = 0 from by omega]; rfl
theorem someIn_step {f : Nat → Bool} {lo hi : Nat} (h : lo ≤ hi) : someIn f lo hi = (f lo || someIn f (lo + 1) hi) := by
  unfold someIn
  rw [show hi + 1 - lo = (hi + 1 - (lo + 1)) + 1 from by omega, List.range_succ_eq_map, List.any_cons, List.any_map]
  congr 1
  congr 1
  funext k
  simp only [Function.comp]
  congr 1
  omega
theorem mt_seq_seg {a b : Tr} {s : List UInt8} {i j : Nat} (hij : i ≤ j) (hj : j ≤ s.length) : mt (.seq a b) (seg s i j) = someIn (fun k => mt a (seg s i k) && mt b (seg s k j)) i j := by
  show seqB (mt a) (mt b) (seg s i j) = _
  unfold seqB someIn
  rw [seg_len hj, show j - i + 1 = j + 1 - i from by omega, Bool.eq_iff_iff]
  simp only [List.any_eq_true, List.mem_range]
  constructor
  · rintro ⟨k, hk, h⟩
    rw [seg_take (by omega), seg_drop] at h
    exact ⟨k, hk, h⟩
  · rintro ⟨k, hk, h⟩
    refine ⟨k, hk, ?_⟩
    rw [seg_take (by omega), seg_drop]
    exact h
theorem seg_nil {s : List UInt8} {i : Nat} : seg s i i = [] := by unfold seg; simp
theorem mt_star_seg {a : Tr} {s : List UInt8} {i j : Nat} (hij : i ≤ j) (hj : j ≤ s.length) : mt (.star a) (seg s i j) = (someIn (fun k => mt a (seg s i k) && mt (.star a) (seg s k j)) (i + 1) j || decide (i = j)) := by
  by_cases h : i = j
  · subst h
    rw [seg_nil]
    simp [mt, chain_nil]
  · have hne : seg s i j ≠ [] := by
      intro e
      have := seg_len (i := i) hj
      rw [e] at this
      simp at this
      omega
    show chain (mt a) (seg s i j) = _
    rw [chain_cons _ _ hne]
    unfold someIn
    rw [seg_len hj, show j + 1 - (i + 1) = j - i from by omega, Bool.eq_iff_iff]
    simp only [List.any_eq_true, List.mem_range, Bool.or_eq_true, decide_eq_true_eq, h, or_false]
    constructor
    · rintro ⟨k, hk, h⟩
      rw [seg_take (by omega), seg_drop] at h
      exact ⟨k, hk, by rw [show i + 1 + k = i + (k + 1) from by omega]; exact h⟩
    · rintro ⟨k, hk, h⟩
      refine ⟨k, hk, ?_⟩
      rw [seg_take (by omega), seg_drop, show i + (k + 1) = i + 1 + k from by omega]
      exact h

/-- The text of a tree. -/
def txt : Tr → List UInt8
  | .none => [33]
  | .empty => [37]
  | .any => [46]
  | .letter c => [c]
  | .seq a b => 40 :: (txt a ++ txt b ++ [41])
  | .alt a b => 91 :: (txt a ++ (124 :: txt b) ++ [93])
  | .star a => txt a ++ [42]
  | .not_ a => txt a ++ [94]
end Go.Proofs.Ytbpeceejboojoaa
