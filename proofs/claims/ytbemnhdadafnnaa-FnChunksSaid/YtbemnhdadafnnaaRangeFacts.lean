/- The plain facts of the law on ranges. -/
import Derived.Test.YtbemnhdadafnnaaRangeLaw
import Derived.Test.YtbemnhdadafnnaaJoinLaw
import Derived.Test.YtbemnhdadafnnaaLists
namespace Go.Proofs.Ytbemnhdadafnnaa
set_option linter.unusedVariables false
set_option linter.unusedSimpArgs false

theorem good_sorted {l : List (Int × Int)} (h : goodSmp l = true) : l.Pairwise (fun p q => p.1 < q.1) := by
  unfold goodSmp at h
  simp only [Bool.and_eq_true, allAt_iff] at h
  refine pw_of_adj (fun x y z h1 h2 => by omega) fun k x y hx hy => ?_
  have := h.1 (k + 1) (List.getElem?_eq_some_iff.1 hy).1
  rw [smpAt_succ hx hy] at this
  simp at this
  exact this.2
theorem rng_join : ∀ {l : List (Int × Int)}, l.Pairwise (fun p q => p.1 < q.1) → ∀ {f m t : Int}, f ≤ m → m ≤ t → rngL f m l ++ rngL m t l = rngL f t l
  | [], _, _, _, _, _, _ => rfl
  | p :: l, h, f, m, t, h1, h2 => by
    obtain ⟨ha, hb⟩ := List.pairwise_cons.1 h
    have ih := rng_join hb h1 h2
    unfold rngL kept at *
    rw [List.filter_cons, List.filter_cons, List.filter_cons]
    by_cases q1 : f ≤ p.1
    · by_cases q2 : p.1 < m
      · have e1 : outR f m p = false := out_f q1 q2
        have e2 : outR m t p = true := out_t1 q2
        have e3 : outR f t p = false := out_f q1 (by omega)
        simp only [e1, e2, e3, Bool.not_true, Bool.not_false, if_true]
        simp [ih]
      · have e1 : outR f m p = true := out_t2 (by omega)
        have hz : l.filter (fun x => !outR f m x) = [] := by
          rw [List.filter_eq_nil_iff]
          intro x hx
          have := ha x hx
          have e : outR f m x = true := out_t2 (x := x.1) (y := x.2) (by omega)
          simp [e]
        rw [hz] at ih ⊢
        by_cases q3 : p.1 < t
        · have e2 : outR m t p = false := out_f (by omega) q3
          have e3 : outR f t p = false := out_f q1 q3
          simp only [e1, e2, e3, Bool.not_true, Bool.not_false, if_true]
          simpa using ih
        · have e2 : outR m t p = true := out_t2 (by omega)
          have e3 : outR f t p = true := out_t2 (by omega)
          simp only [e1, e2, e3, Bool.not_true]
          simpa using ih
    · have e1 : outR f m p = true := out_t1 (by omega)
      have e2 : outR m t p = true := out_t1 (by omega)
      have e3 : outR f t p = true := out_t1 (by omega)
      simp only [e1, e2, e3, Bool.not_true]
      simpa using ih
theorem rngT_some {f t : Int} {s : List UInt8} {l : List (Int × Int)} (h : rngT f t s = some l) : ∃ d, dec s = some d ∧ l = rngL f t d ∧ goodSmp d = true := by
  unfold rngT at h
  cases e : dec s with
  | none => rw [e] at h; cases h
  | some d =>
    rw [e] at h
    injection h with h
    exact ⟨d, rfl, h.symm, (dec_some e).1⟩
/-- What the law asks of a range's parts. -/
theorem range_facts {f m t : Int} {s : List UInt8} {l : List (Int × Int)} (h : rngT f t s = some l) (h1 : f ≤ m) (h2 : m ≤ t) : ∃ a b, rngT f m s = some a ∧ rngT m t s = some b ∧ a ++ b = l ∧ a.length ≤ 40 ∧ b.length ≤ 40 := by
  obtain ⟨d, hd, rfl, hg⟩ := rngT_some h
  have hl := goodSmp_len hg
  refine ⟨rngL f m d, rngL m t d, by unfold rngT; rw [hd]; rfl, by unfold rngT; rw [hd]; rfl, rng_join (good_sorted hg) h1 h2, Nat.le_trans rng_len hl, Nat.le_trans rng_len hl⟩
/-- What the law asks of a chunk that grew. -/
theorem app_facts {s : List UInt8} {p : Int × Int} (h : appK s p = true) : ∃ l, dec s = some l ∧ dec (appR s p).data.toList = some (l ++ [p]) ∧ l.length ≤ 40 := by
  unfold appK at h
  unfold appR
  cases e : dec s with
  | none => rw [e] at h; cases h
  | some l =>
    rw [e] at h
    have h : goodSmp (l ++ [p]) = true := h
    refine ⟨l, rfl, ?_, goodSmp_len (dec_some e).1⟩
    show dec (encR (l ++ [p])).data.toList = _
    unfold encR
    rw [if_pos h]
    exact dec_put h
theorem encR_size (l : List (Int × Int)) : (encR l).size ≤ 486 := by
  unfold encR
  split
  · next h => rw [str_size]; exact enc_len h
  · rw [str_size]; simp
theorem appR_size (s : List UInt8) (p : Int × Int) : (appR s p).size ≤ 486 := by
  unfold appR
  split
  · rw [str_size]; simp
  · exact encR_size _
end Go.Proofs.Ytbemnhdadafnnaa
