/- The plain facts of the law on rings. No program in sight. -/
import Derived.Test.YtkpofdfikmcjgaaRing6
import Derived.Test.YtkpofdfikmcjgaaRing3
import Derived.Test.YtkpofdfikmcjgaaRing4
namespace Go.Proofs.Ytkpofdfikmcjgaa
set_option linter.unusedVariables false
set_option linter.unusedSimpArgs false

theorem ownsT_no {l : List Tok} {o : Int} (h : ownsT l o = false) : ∀ t ∈ l, t.2 ≠ o := by
  intro t ht e
  unfold ownsT at h
  rw [List.any_eq_false] at h
  exact h t ht (by simpa using e)
theorem kept_add {l : List Tok} {o : Int} {a : List Int} (hg : goodTok l = true) (ho : ownsT l o = false) (hx : goodTok (addT l o a) = true) : kept (isO o) (addT l o a) = l := by
  have hp : (kept (isO o) (addT l o a)).Perm l := by
    have h1 := (addT_perm o a l).filter (fun t => !isO o t)
    rw [List.filter_append] at h1
    have e1 : l.filter (fun t => !isO o t) = l := List.filter_eq_self.2 fun t ht => by simp [isO, ownsT_no ho t ht]
    have e2 : (a.map fun x => ((x, o) : Tok)).filter (fun t => !isO o t) = [] := List.filter_eq_nil_iff.2 fun t ht => by
      obtain ⟨x, _, rfl⟩ := List.mem_map.1 ht
      simp [isO]
    rw [e1, e2, List.append_nil] at h1
    exact h1
  have hs : Le1 (kept (isO o) (addT l o a)) := (good_le hx).sublist List.filter_sublist
  obtain ⟨h1, h2⟩ := good_perm hp hs (good_le hg)
  exact h2 (h1.trans hg)
theorem fst_none {α : Type} {p : α → Bool} {l : List α} (h : fstAt p l = none) : ∀ x ∈ l, p x = false := by
  unfold fstAt at h
  exact List.findIdx?_eq_none_iff.1 h
theorem fst_some {α : Type} {p : α → Bool} {l : List α} {k : Nat} (h : fstAt p l = some k) : (∃ hk : k < l.length, p l[k] = true) ∧ ∀ j (hj : j < l.length), j < k → p l[j] = false := by
  unfold fstAt at h
  obtain ⟨h1, h2, h3⟩ := List.findIdx?_eq_some_iff_getElem.1 h
  exact ⟨⟨h1, h2⟩, fun j hj hjk => by simpa using h3 j hjk⟩
/-- The key of a token from h on. -/
def keyT (h : Int) (t : Tok) : Int := if h ≤ t.1 then t.1 else t.1 + 2000
theorem firstT_min {l : List Tok} {h : Int} (hg : goodTok l = true) (hl : 0 < l.length) : ∃ t, l[firstT l h]? = some t ∧ ∀ s ∈ l, keyT h t ≤ keyT h s := by
  obtain ⟨h1, h2, _⟩ := goodTok_iff.1 hg
  have hb : ∀ s ∈ l, 0 ≤ s.1 ∧ s.1 ≤ 1008 := fun s hs => inB_iff.1 (tokOk_t (h2 s hs)).1
  have hlt := firstT_lt (h := h) hl
  refine ⟨l[firstT l h], List.getElem?_eq_getElem hlt, fun s hs => ?_⟩
  obtain ⟨j, hj, rfl⟩ := List.mem_iff_getElem.1 hs
  have hbs := hb _ hs
  have hbt := hb _ (List.getElem_mem hlt)
  have mono : ∀ i k (hi : i < l.length) (hk : k < l.length), i < k → (l[i]).1 < (l[k]).1 := fun i k hi hk hik => List.pairwise_iff_getElem.1 h1 i k hi hk hik
  rcases hf : fstAt (fun t : Tok => decide (h ≤ t.1)) l with _ | k
  · have hno : ∀ i (hi : i < l.length), ¬ h ≤ (l[i]).1 := fun i hi e => by
      have := fst_none hf l[i] (List.getElem_mem hi)
      simp at this
      omega
    have e0 : firstT l h = 0 := by unfold firstT; rw [hf]
    have n1 := hno j hj
    have n2 := hno _ hlt
    unfold keyT
    rw [if_neg n1, if_neg n2]
    by_cases hj0 : firstT l h < j
    · have := mono _ _ hlt hj hj0
      omega
    · have : j = firstT l h := by omega
      subst this
      omega
  · have ek : firstT l h = k := by unfold firstT; rw [hf]
    obtain ⟨⟨hkl, hkp⟩, hk2⟩ := fst_some hf
    have hkt : h ≤ (l[k]).1 := by simpa using hkp
    have ht : h ≤ (l[firstT l h]).1 := by simp only [ek]; exact hkt
    unfold keyT
    rw [if_pos ht]
    by_cases hj2 : h ≤ (l[j]).1
    · rw [if_pos hj2]
      by_cases hjk : firstT l h < j
      · have := mono _ _ hlt hj hjk
        omega
      · by_cases he : j = firstT l h
        · subst he; omega
        · have := hk2 j hj (by omega)
          simp at this
          omega
    · rw [if_neg hj2]
      omega
theorem tok_same {l : List Tok} {s t : Tok} (hg : goodTok l = true) (hs : s ∈ l) (ht : t ∈ l) (e : s.1 = t.1) : s = t := by
  obtain ⟨h1, _, _⟩ := goodTok_iff.1 hg
  obtain ⟨i, hi, rfl⟩ := List.mem_iff_getElem.1 hs
  obtain ⟨j, hj, rfl⟩ := List.mem_iff_getElem.1 ht
  rcases Nat.lt_trichotomy i j with h | h | h
  · have := List.pairwise_iff_getElem.1 h1 i j hi hj h
    unfold LtT at this
    omega
  · subst h; rfl
  · have := List.pairwise_iff_getElem.1 h1 j i hj hi h
    unfold LtT at this
    omega
theorem owner_add {l : List Tok} {o h : Int} {a : List Int} (hg : goodTok l = true) (hl : 0 < l.length) (hx : goodTok (addT l o a) = true) : ownerT (addT l o a) h = ownerT l h ∨ ownerT (addT l o a) h = o := by
  have hxl : 0 < (addT l o a).length := by rw [addT_len]; omega
  obtain ⟨t, ht, hm⟩ := firstT_min (h := h) hx hxl
  obtain ⟨s, hs, hn⟩ := firstT_min (h := h) hg hl
  have e1 : ownerT (addT l o a) h = t.2 := by unfold ownerT; rw [List.getD, ht]; rfl
  have e2 : ownerT l h = s.2 := by unfold ownerT; rw [List.getD, hs]; rfl
  have htm := List.mem_of_getElem? ht
  have hsm := List.mem_of_getElem? hs
  have hsx : s ∈ addT l o a := (addT_perm o a l).mem_iff.2 (List.mem_append_left _ hsm)
  rcases List.mem_append.1 ((addT_perm o a l).mem_iff.1 htm) with h1 | h1
  · left
    have k1 := hm s hsx
    have k2 := hn t h1
    have hb : ∀ s ∈ addT l o a, 0 ≤ s.1 ∧ s.1 ≤ 1008 := fun s hs => inB_iff.1 (tokOk_t ((goodTok_iff.1 hx).2.1 s hs)).1
    have b1 := hb _ htm
    have b2 := hb _ hsx
    have e : t.1 = s.1 := by
      unfold keyT at k1 k2
      by_cases q1 : h ≤ t.1 <;> by_cases q2 : h ≤ s.1 <;> simp only [q1, q2, if_true, if_false] at k1 k2 <;> omega
    rw [e1, e2, tok_same hx htm hsx e]
  · right
    obtain ⟨x, _, rfl⟩ := List.mem_map.1 h1
    exact e1
/-- All that the law asks of an added owner. -/
theorem add_facts {l : List Tok} {o : Int} {a : List Int} (h : okAdd l o a = true) (v : Int) (hv0 : 0 ≤ v) (hv1 : v ≤ 1008) :
    okOwn (addL l o a) v = true ∧ okDrop (addL l o a) o = true ∧ dropL (addL l o a) o = l ∧ goodTok (addL l o a) = true ∧
      (okOwn l v = true → ownV (addL l o a) v = ownV l v ∨ ownV (addL l o a) v = o) := by
  have hh : headT l o a.length = true ∧ goodTok (addT l o a) = true := by
    unfold okAdd at h
    simp only [Bool.and_eq_true] at h
    exact ⟨h.1.1, h.2⟩
  obtain ⟨hg, _, ho, hm⟩ := head_good hh.1
  have hx := hh.2
  have hal : 0 < a.length := by have := (inB_iff.1 hm).1; omega
  have hv : inB v 0 1008 = true := inB_iff.2 ⟨hv0, hv1⟩
  rw [add_yes h]
  have hxl : 0 < (addT l o a).length := by rw [addT_len]; omega
  have k1 : okOwn (addT l o a) v = true := by unfold okOwn; rw [hx, hv, decide_eq_true hxl]; rfl
  have k2 : ownsT (addT l o a) o = true := by
    obtain ⟨x, hx⟩ : ∃ x, x ∈ a := ⟨a[0], List.getElem_mem hal⟩
    unfold ownsT
    rw [List.any_eq_true]
    exact ⟨_, mem_addT hx, by simp⟩
  have k3 : okDrop (addT l o a) o = true := by unfold okDrop; rw [hx, k2]; rfl
  refine ⟨k1, k3, by rw [drop_yes k3]; exact kept_add hg ho hx, hx, fun e => ?_⟩
  unfold ownV
  rw [k1, e]
  exact owner_add hg (okOwn_parts e).2.1 hx
/-- All that the law asks of the owners from a place on. -/
theorem many_facts {l : List Tok} {v m : Int} (h : okMany l v m = true) :
    okOwn l v = true ∧ ((manyL l v m).length : Int) = m ∧ 0 < (manyL l v m).length ∧ (manyL l v m)[0]? = some (ownV l v) ∧ (manyL l v m).Nodup := by
  have hh := h
  unfold okMany at hh
  simp only [Bool.and_eq_true, decide_eq_true_eq] at hh
  obtain ⟨⟨h1, h2⟩, h3⟩ := hh
  obtain ⟨hm0, hm1⟩ := inB_iff.1 h2
  have hM : (manyL l v m) = (ownT l v).take m.toNat := by unfold manyL; rw [h]; rfl
  rw [hM]
  have hl : ((ownT l v).take m.toNat).length = m.toNat := by rw [List.length_take]; omega
  refine ⟨h1, by omega, by omega, ?_, (uniq_nodup _).sublist (List.take_sublist ..)⟩
  rw [List.getElem?_take_of_lt (by omega), ownT_head (okOwn_parts h1).2.1]
  unfold ownV
  rw [h1]
  rfl
end Go.Proofs.Ytkpofdfikmcjgaa
