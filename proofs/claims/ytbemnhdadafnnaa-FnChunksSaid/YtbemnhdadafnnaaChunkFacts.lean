/- The plain facts of the law on chunks. -/
import Derived.Test.YtbemnhdadafnnaaRangeFacts
namespace Go.Proofs.Ytbemnhdadafnnaa
set_option linter.unusedVariables false
set_option linter.unusedSimpArgs false

theorem deltas_two (l : List Int) (y z : Int) : ∀ a, deltas a (l ++ [y, z]) = deltas a (l ++ [y]) ++ [z - y] := by
  induction l with
  | nil => intro a; rfl
  | cons n l ih => intro a; simp only [List.cons_append, deltas, ih]
theorem vz_one {n : Int} (h0 : 0 ≤ n) (h1 : n ≤ 60) : (vz n).length = 1 := by
  have e : zig n = 2 * n := by unfold zig; rw [if_neg (by omega)]
  unfold vz
  rw [e, vb_small (by omega)]
  rfl
theorem parts_more (q : List (Int × Int)) (a b : Int × Int) : parts (q ++ [a, b, (2 * b.1 - a.1, b.2)]) = parts (q ++ [a, b]) ++ [(0, 0)] := by
  unfold parts
  have e1 : deltas 0 ((q ++ [a, b, (2 * b.1 - a.1, b.2)]).map Prod.fst) = deltas 0 (q.map Prod.fst ++ [a.1]) ++ [b.1 - a.1, b.1 - a.1] := by
    have := deltas_two (q.map Prod.fst ++ [a.1]) b.1 (2 * b.1 - a.1) 0
    have h2 := deltas_two (q.map Prod.fst) a.1 b.1 0
    simp only [List.map_append, List.map_cons, List.map_nil, List.append_assoc, List.cons_append, List.nil_append] at this h2 ⊢
    rw [this, h2, List.append_assoc]
    simp only [List.cons_append, List.nil_append]
    rw [show 2 * b.1 - a.1 - b.1 = b.1 - a.1 by omega]
  have e2 : deltas 0 ((q ++ [a, b]).map Prod.fst) = deltas 0 (q.map Prod.fst ++ [a.1]) ++ [b.1 - a.1] := by
    have h2 := deltas_two (q.map Prod.fst) a.1 b.1 0
    simpa using h2
  have e3 : deltas 0 ((q ++ [a, b, (2 * b.1 - a.1, b.2)]).map Prod.snd) = deltas 0 ((q ++ [a, b]).map Prod.snd) ++ [0] := by
    have := deltas_two (q.map Prod.snd ++ [a.2]) b.2 b.2 0
    simpa using this
  rw [e1, e2, e3, deltas_two, Int.sub_self, List.zip_append (by simp [deltas_len])]
  rfl
/-- One more sample at the same distance with the same value: two bytes. -/
theorem enc_more (q : List (Int × Int)) (a b : Int × Int) (h : q.length + 2 < 40) : (enc (q ++ [a, b, (2 * b.1 - a.1, b.2)])).length = (enc (q ++ [a, b])).length + 2 := by
  have e1 : (vz ((q ++ [a, b, (2 * b.1 - a.1, b.2)]).length : Nat)).length = 1 := vz_one (by omega) (by simp; omega)
  have e2 : (vz ((q ++ [a, b]).length : Nat)).length = 1 := vz_one (by omega) (by simp; omega)
  unfold enc
  rw [parts_more, List.length_append, e1, List.length_append, e2]
  unfold bodyP
  rw [List.flatMap_append, List.length_append]
  have : (vz 0).length = 1 := vz_one (by omega) (by omega)
  simp [this]
  omega
theorem good_more {q : List (Int × Int)} {a b : Int × Int} (h : goodSmp (q ++ [a, b]) = true) (hl : q.length + 2 < 40) (hm : 2 * b.1 - a.1 ≤ 1000000000) : goodSmp (q ++ [a, b, (2 * b.1 - a.1, b.2)]) = true := by
  have hok := goodSmp_ok h
  have hab : a.1 < b.1 := by
    have := good_sorted h
    rw [List.pairwise_append] at this
    simpa using this.2.1
  have hb := hok b (by simp)
  have ha := hok a (by simp)
  have hx : smpOk (2 * b.1 - a.1, b.2) = true := by
    have h1 := smpOk_t (x := b.1) (y := b.2) hb
    have h2 := smpOk_t (x := a.1) (y := a.2) ha
    have h3 := inB_iff.1 h1.1
    have h4 := inB_iff.1 h2.1
    unfold smpOk
    rw [h1.2, Bool.and_true]
    exact inB_iff.2 ⟨by omega, hm⟩
  have e : q ++ [a, b, (2 * b.1 - a.1, b.2)] = (q ++ [a, b]) ++ [(2 * b.1 - a.1, b.2)] := by simp
  unfold goodSmp at h ⊢
  simp only [Bool.and_eq_true, allAt_iff, decide_eq_true_eq] at h ⊢
  refine ⟨fun k hk => ?_, by simp; omega⟩
  by_cases hk2 : k < q.length + 2
  · have := h.1 k (by simp; omega)
    rw [← this, e]
    unfold smpAt
    simp only [List.getD_eq_getElem?_getD]
    rw [List.getElem?_append_left (l₁ := q ++ [a, b]) (l₂ := [(2 * b.1 - a.1, b.2)]) (i := k) (by simp; omega), List.getElem?_append_left (l₁ := q ++ [a, b]) (l₂ := [(2 * b.1 - a.1, b.2)]) (i := k - 1) (by simp; omega)]
  · obtain rfl : k = q.length + 1 + 1 := by simp at hk; omega
    have g1 : (q ++ [a, b, (2 * b.1 - a.1, b.2)])[q.length + 1]? = some b := by
      rw [List.getElem?_append_right (by omega)]; simp
    have g2 : (q ++ [a, b, (2 * b.1 - a.1, b.2)])[q.length + 1 + 1]? = some (2 * b.1 - a.1, b.2) := by
      rw [List.getElem?_append_right (by omega)]
      rw [show q.length + 1 + 1 - q.length = 2 by omega]; rfl
    rw [smpAt_succ g1 g2, hx]
    simp; omega
/-- A list's last two. -/
theorem last_two {l : List (Int × Int)} {a b : Int × Int} (h : 2 ≤ l.length) (ha : l[l.length - 2]? = some a) (hb : l[l.length - 1]? = some b) : l = l.take (l.length - 2) ++ [a, b] := by
  obtain ⟨h1, h1'⟩ := List.getElem?_eq_some_iff.1 ha
  obtain ⟨h2, h2'⟩ := List.getElem?_eq_some_iff.1 hb
  have e1 : l = l.take (l.length - 2) ++ l.drop (l.length - 2) := (List.take_append_drop _ _).symm
  have e2 : l.drop (l.length - 2) = l[l.length - 2] :: l.drop (l.length - 2 + 1) := List.drop_eq_getElem_cons h1
  have e4 : l.drop (l.length - 1) = l[l.length - 1] :: l.drop (l.length - 1 + 1) := List.drop_eq_getElem_cons h2
  have e3 : l.drop (l.length - 2 + 1) = l[l.length - 1] :: l.drop (l.length - 1 + 1) := by
    rw [show l.length - 2 + 1 = l.length - 1 by omega]; exact e4
  rw [e2, e3, List.drop_of_length_le (by omega), h1', h2'] at e1
  exact e1
/-- What the law asks of a chunk whose measures go on as they went. -/
theorem more_facts {l : List (Int × Int)} {a b : Int × Int} (hg : goodSmp l = true) (h1 : 1 < l.length) (h2 : l.length < 40) (ha : l[l.length - 2]? = some a) (hb : l[l.length - 1]? = some b) (hm : 2 * b.1 - a.1 ≤ 1000000000) :
    appK (str (enc l)).data.toList (2 * b.1 - a.1, b.2) = true ∧ (appR (str (enc l)).data.toList (2 * b.1 - a.1, b.2)).size = (enc l).length + 2 := by
  have hs : (str (enc l)).data.toList = enc l := by simp [str]
  have hd := dec_put hg
  have hl := last_two (by omega) ha hb
  have hql : (l.take (l.length - 2)).length + 2 < 40 := by rw [List.length_take]; omega
  generalize l.take (l.length - 2) = q at hl hql
  subst hl
  have hgm := good_more hg hql hm
  have e : q ++ [a, b] ++ [(2 * b.1 - a.1, b.2)] = q ++ [a, b, (2 * b.1 - a.1, b.2)] := by simp
  rw [hs]
  constructor
  · unfold appK
    rw [hd]
    show goodSmp (q ++ [a, b] ++ [(2 * b.1 - a.1, b.2)]) = true
    rw [e]; exact hgm
  · unfold appR
    rw [hd]
    show (encR (q ++ [a, b] ++ [(2 * b.1 - a.1, b.2)])).size = _
    rw [e]
    unfold encR
    rw [if_pos hgm, str_size, enc_more q a b hql]
/-- What the law asks of samples that are written. -/
theorem enc_facts {l : List (Int × Int)} (hg : goodSmp l = true) : encR l = str (enc l) ∧ dec (str (enc l)).data.toList = some l ∧ (str (enc l)).size = (enc l).length ∧ (enc l).length ≤ 486 := by
  refine ⟨by unfold encR; rw [if_pos hg], ?_, str_size _, enc_len hg⟩
  rw [show (str (enc l)).data.toList = enc l by simp [str]]
  exact dec_put hg
/-- What the law asks of samples that were read. -/
theorem dec_facts {t : ByteArray} {d : List (Int × Int)} (h : dec t.data.toList = some d) : encR d = t ∧ goodSmp d = true ∧ d.length ≤ 40 := by
  obtain ⟨hg, he, _⟩ := dec_some h
  refine ⟨?_, hg, goodSmp_len hg⟩
  unfold encR
  rw [if_pos hg, he]
  apply ByteArray.ext
  simp [str]
end Go.Proofs.Ytbemnhdadafnnaa
