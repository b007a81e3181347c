/- Parts of a pattern as data: which lists are valid, and their trees. No program in sight. -/
import Derived.Test.YtbpeceejboojoaaFormPlain
import Derived.Test.YtbpeceejboojoaaNum
import Derived.Test.YtbpeceejboojoaaAllAt
namespace Go.Proofs.Ytbpeceejboojoaa
set_option linter.unusedVariables false
set_option linter.unusedSimpArgs false
open Go.RowKit

structure Prt where
  kind : Int
  text : ByteArray
  a : Int
  b : Int
instance : Inhabited Prt := ⟨⟨0, ⟨#[]⟩, 0, 0⟩⟩
def Prt.cells (p : Prt) : List Value := [.int .i64 p.kind, .string p.text, .int .i64 p.a, .int .i64 p.b]
def prts (l : List Prt) : List Value := l.flatMap Prt.cells
def prt0 : Prt := ⟨0, ⟨#[]⟩, 0, 0⟩
def noText (s : ByteArray) : Bool := s.data.toList.isEmpty
def lettersB (l : List UInt8) : Bool := l.all fun c => decide (97 ≤ c.toNat) && decide (c.toNat ≤ 122)
def twK (k : Int) : Bool := k == 5 || k == 6
def onK (k : Int) : Bool := k == 7 || k == 8
def prtOk (p : Prt) (i : Nat) : Bool :=
  if twK p.kind then noText p.text && inB p.a 0 ((i : Int) - 1) && inB p.b 0 ((i : Int) - 1)
  else if onK p.kind then noText p.text && inB p.a 0 ((i : Int) - 1) && p.b == 0
  else if p.kind == 3 then decide (p.text.data.toList.length = 1) && lettersB p.text.data.toList && p.a == 0 && p.b == 0
  else inB p.kind 1 4 && noText p.text && p.a == 0 && p.b == 0
/-- How often one part names place j. -/
def use1 (p : Prt) (j : Nat) : Nat := (if (twK p.kind && p.b == (j : Int)) = true then 1 else 0) + (if ((twK p.kind || onK p.kind) && p.a == (j : Int)) = true then 1 else 0)
def usesOf (l : List Prt) (j : Nat) : Nat := (l.map fun p => use1 p j).sum
theorem use1_le (p : Prt) (j : Nat) : use1 p j ≤ 2 := by unfold use1; split <;> split <;> omega
theorem usesOf_le (l : List Prt) (j : Nat) : usesOf l j ≤ 2 * l.length := by
  induction l with
  | nil => simp [usesOf]
  | cons p l ih =>
    have h := use1_le p j
    unfold usesOf at ih ⊢
    rw [List.map_cons, List.sum_cons, List.length_cons]
    omega
theorem usesOf_snoc (l : List Prt) (p : Prt) (j : Nat) : usesOf (l ++ [p]) j = usesOf l j + use1 p j := by unfold usesOf; simp
def prtAt (l : List Prt) (i : Nat) : Bool := prtOk (l.getD i prt0) i
def goodPrt (l : List Prt) : Bool := allAt (prtAt l) l.length && allAt (fun j => decide (usesOf l j = 1)) (l.length - 1) && decide (1 ≤ l.length) && decide (l.length ≤ 24)

theorem noText_t {s : ByteArray} (h : noText s = true) : s = ⟨#[]⟩ := by
  obtain ⟨⟨l⟩⟩ := s
  simp [noText] at h
  subst h
  rfl
/-- The shapes of a valid part. -/
inductive Shape (i : Nat) : Prt → Prop where
  | none : Shape i ⟨1, ⟨#[]⟩, 0, 0⟩
  | empty : Shape i ⟨2, ⟨#[]⟩, 0, 0⟩
  | letter (c : UInt8) (h1 : 97 ≤ c.toNat) (h2 : c.toNat ≤ 122) : Shape i ⟨3, ⟨#[c]⟩, 0, 0⟩
  | any : Shape i ⟨4, ⟨#[]⟩, 0, 0⟩
  | seq (a b : Nat) (ha : a < i) (hb : b < i) : Shape i ⟨5, ⟨#[]⟩, a, b⟩
  | alt (a b : Nat) (ha : a < i) (hb : b < i) : Shape i ⟨6, ⟨#[]⟩, a, b⟩
  | star (a : Nat) (ha : a < i) : Shape i ⟨7, ⟨#[]⟩, a, 0⟩
  | not_ (a : Nat) (ha : a < i) : Shape i ⟨8, ⟨#[]⟩, a, 0⟩
theorem in_nat {x : Int} {i : Nat} (h : inB x 0 ((i : Int) - 1) = true) : ∃ a : Nat, x = a ∧ a < i := by
  obtain ⟨h0, h1⟩ := inB_iff.1 h
  exact ⟨x.toNat, by omega, by omega⟩
theorem shape_of {p : Prt} {i : Nat} (h : prtOk p i = true) : Shape i p := by
  obtain ⟨k, t, a, b⟩ := p
  unfold prtOk at h
  by_cases h2 : twK k = true
  · rw [if_pos h2] at h
    simp only [Bool.and_eq_true] at h
    obtain ⟨⟨ht, ha⟩, hb⟩ := h
    obtain ⟨a', rfl, ha'⟩ := in_nat ha
    obtain ⟨b', rfl, hb'⟩ := in_nat hb
    obtain rfl := noText_t ht
    simp [twK] at h2
    rcases h2 with rfl | rfl
    · exact .seq a' b' ha' hb'
    · exact .alt a' b' ha' hb'
  rw [if_neg h2] at h
  by_cases h1 : onK k = true
  · rw [if_pos h1] at h
    simp only [Bool.and_eq_true, beq_iff_eq] at h
    obtain ⟨⟨ht, ha⟩, rfl⟩ := h
    obtain ⟨a', rfl, ha'⟩ := in_nat ha
    obtain rfl := noText_t ht
    simp [onK] at h1
    rcases h1 with rfl | rfl
    · exact .star a' ha'
    · exact .not_ a' ha'
  rw [if_neg h1] at h
  by_cases h3 : (k == 3) = true
  · rw [if_pos h3] at h
    simp only [Bool.and_eq_true, beq_iff_eq, decide_eq_true_eq] at h h3
    obtain ⟨⟨⟨hl, hc⟩, rfl⟩, rfl⟩ := h
    subst h3
    obtain ⟨⟨l⟩⟩ := t
    match l, hl with
    | [c], _ =>
      simp [lettersB] at hc
      exact .letter c hc.1 hc.2
  rw [if_neg h3] at h
  simp only [Bool.and_eq_true, beq_iff_eq] at h
  obtain ⟨⟨⟨hk, ht⟩, rfl⟩, rfl⟩ := h
  obtain rfl := noText_t ht
  obtain ⟨k0, k1⟩ := inB_iff.1 hk
  have h3' : k ≠ 3 := by simpa using h3
  have : k = 1 ∨ k = 2 ∨ k = 4 := by omega
  rcases this with rfl | rfl | rfl
  · exact .none
  · exact .empty
  · exact .any

def mkT (p : Prt) (x y : Tr) : Tr :=
  if p.kind = 1 then .none else if p.kind = 2 then .empty else if p.kind = 3 then .letter (p.text.data.toList.getD 0 0) else if p.kind = 4 then .any
  else if p.kind = 5 then .seq x y else if p.kind = 6 then .alt x y else if p.kind = 7 then .star x else .not_ x
def trF : Nat → List Prt → Nat → Tr
  | 0, _, _ => .none
  | f + 1, l, i => mkT (l.getD i prt0) (trF f l (l.getD i prt0).a.toNat) (trF f l (l.getD i prt0).b.toNat)
/-- The tree of part i. -/
def tr (l : List Prt) (i : Nat) : Tr := trF (i + 1) l i
theorem good_at {l : List Prt} (h : goodPrt l = true) {i : Nat} {p : Prt} (hp : l[i]? = some p) : Shape i p := by
  unfold goodPrt at h
  simp only [Bool.and_eq_true] at h
  have := allAt_iff.1 h.1.1.1 i (List.getElem?_eq_some_iff.1 hp).1
  unfold prtAt at this
  rw [List.getD, hp] at this
  exact shape_of this
theorem good_len {l : List Prt} (h : goodPrt l = true) : 1 ≤ l.length ∧ l.length ≤ 24 := by
  unfold goodPrt at h
  simp only [Bool.and_eq_true, decide_eq_true_eq] at h
  exact ⟨h.1.2, h.2⟩
theorem trF_eq {l : List Prt} (h : goodPrt l = true) : ∀ (i : Nat), i < l.length → ∀ f, i < f → trF f l i = tr l i := by
  intro i
  induction i using Nat.strongRecOn with
  | _ i ih =>
    intro hi f hf
    obtain ⟨p, hp⟩ : ∃ p, l[i]? = some p := ⟨_, List.getElem?_eq_getElem hi⟩
    obtain ⟨g, rfl⟩ : ∃ g, f = g + 1 := ⟨f - 1, by omega⟩
    have hs := good_at h hp
    unfold tr
    rw [trF, trF, show l.getD i prt0 = p from by rw [List.getD, hp]; rfl]
    cases hs with
    | none => rfl
    | empty => rfl
    | letter c h1 h2 => rfl
    | any => rfl
    | seq a b ha hb => simp only [mkT, Int.toNat_natCast]; rw [ih a ha (by omega) g (by omega), ih a ha (by omega) i (by omega), ih b hb (by omega) g (by omega), ih b hb (by omega) i (by omega)]
    | alt a b ha hb => simp only [mkT, Int.toNat_natCast]; rw [ih a ha (by omega) g (by omega), ih a ha (by omega) i (by omega), ih b hb (by omega) g (by omega), ih b hb (by omega) i (by omega)]
    | star a ha => show Tr.star (trF g l ((a : Int).toNat)) = Tr.star (trF i l ((a : Int).toNat)); rw [Int.toNat_natCast, ih a ha (by omega) g (by omega), ih a ha (by omega) i (by omega)]
    | not_ a ha => show Tr.not_ (trF g l ((a : Int).toNat)) = Tr.not_ (trF i l ((a : Int).toNat)); rw [Int.toNat_natCast, ih a ha (by omega) g (by omega), ih a ha (by omega) i (by omega)]
theorem tr_eq {l : List Prt} (h : goodPrt l = true) {i : Nat} {p : Prt} (hp : l[i]? = some p) : tr l i = mkT p (tr l p.a.toNat) (tr l p.b.toNat) := by
  have hi := (List.getElem?_eq_some_iff.1 hp).1
  have hs := good_at h hp
  have e : tr l i = mkT p (trF i l p.a.toNat) (trF i l p.b.toNat) := by unfold tr; rw [trF, show l.getD i prt0 = p from by rw [List.getD, hp]; rfl]
  rw [e]
  cases hs with
  | none => rfl
  | empty => rfl
  | letter c h1 h2 => rfl
  | any => rfl
  | seq a b ha hb => simp only [mkT, Int.toNat_natCast]; rw [trF_eq h a (by omega) i ha, trF_eq h b (by omega) i hb]
  | alt a b ha hb => simp only [mkT, Int.toNat_natCast]; rw [trF_eq h a (by omega) i ha, trF_eq h b (by omega) i hb]
  | star a ha => show Tr.star (trF i l ((a : Int).toNat)) = Tr.star (tr l ((a : Int).toNat)); rw [Int.toNat_natCast, trF_eq h a (by omega) i ha]
  | not_ a ha => show Tr.not_ (trF i l ((a : Int).toNat)) = Tr.not_ (tr l ((a : Int).toNat)); rw [Int.toNat_natCast, trF_eq h a (by omega) i ha]
def trSz : Tr → Nat
  | .seq a b => trSz a + trSz b + 1
  | .alt a b => trSz a + trSz b + 1
  | .star a => trSz a + 1
  | .not_ a => trSz a + 1
  | _ => 1
theorem txt_len (t : Tr) : (txt t).length ≤ 3 * trSz t := by
  induction t with
  | seq a b iha ihb => simp only [txt, trSz, List.length_cons, List.length_append, List.length_nil]; omega
  | alt a b iha ihb => simp only [txt, trSz, List.length_cons, List.length_append, List.length_nil]; omega
  | star a ih => simp only [txt, trSz, List.length_append, List.length_cons, List.length_nil]; omega
  | not_ a ih => simp only [txt, trSz, List.length_append, List.length_cons, List.length_nil]; omega
  | _ => simp [txt, trSz]
theorem tr_size {l : List Prt} (h : goodPrt l = true) : ∀ i, i < l.length → trSz (tr l i) < 2 ^ (i + 1) := by
  intro i
  induction i using Nat.strongRecOn with
  | _ i ih =>
    intro hi
    obtain ⟨p, hp⟩ : ∃ p, l[i]? = some p := ⟨_, List.getElem?_eq_getElem hi⟩
    rw [tr_eq h hp]
    have hs := good_at h hp
    have hm : ∀ a, a < i → trSz (tr l a) < 2 ^ i := fun a ha => Nat.lt_of_lt_of_le (ih a ha (by omega)) (Nat.pow_le_pow_right (by omega) ha)
    have h2 : 2 ^ (i + 1) = 2 ^ i + 2 ^ i := by rw [Nat.pow_succ]; omega
    have h1 : 0 < 2 ^ i := Nat.pow_pos (by omega)
    cases hs with
    | none => simp only [mkT, trSz, if_true]; omega
    | empty => simp [mkT, trSz] <;> omega
    | letter c h1' h2' => simp [mkT, trSz] <;> omega
    | any => simp [mkT, trSz] <;> omega
    | seq a b ha hb => have := hm a ha; have := hm b hb; simp [mkT, trSz]; omega
    | alt a b ha hb => have := hm a ha; have := hm b hb; simp [mkT, trSz]; omega
    | star a ha => have := hm a ha; simp [mkT, trSz]; omega
    | not_ a ha => have := hm a ha; simp [mkT, trSz]; omega
end Go.Proofs.Ytbpeceejboojoaa
