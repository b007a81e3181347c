/- Chunks of samples, as bytes: writing, and reading what was written. No program in sight. -/
import Derived.Test.YtbpeceejboojoaaPutV
import Derived.Test.YtbpeceejboojoaaGetAll
import Derived.Test.YtbpeceejboojoaaSeqPlain
import Derived.Test.YtbpeceejboojoaaGoodSmp
namespace Go.Proofs.Ytbpeceejboojoaa
set_option linter.unusedVariables false
set_option linter.unusedSimpArgs false
open Go.RowKit

theorem vb_form : ∀ (f z : Nat), z ≤ f → ∃ d b, vb z = d ++ [b] ∧ (∀ c ∈ d, big c) ∧ b.toNat < 128 ∧ val (vb z) = z := by
  intro f
  induction f with
  | zero =>
    intro z hz
    obtain rfl : z = 0 := by omega
    exact ⟨[], 0, rfl, by simp, by decide, rfl⟩
  | succ f ih =>
    intro z hz
    by_cases h : z < 128
    · refine ⟨[], UInt8.ofNat z, vb_small h, by simp, by simp; omega, ?_⟩
      rw [vb_small h]; simp [val]; omega
    · obtain ⟨d, b, e, hd, hb, hv⟩ := ih (z / 128) (by omega)
      refine ⟨UInt8.ofNat (128 + z % 128) :: d, b, ?_, ?_, hb, ?_⟩
      · rw [vb_step (by omega), e]; rfl
      · intro c hc
        rcases List.mem_cons.1 hc with rfl | hc
        · unfold big; simp; omega
        · exact hd c hc
      · rw [vb_step (by omega), val, hv]; simp; omega
theorem gv_put {z : Nat} (hz : z ≤ 2000000000000) (rest : List UInt8) : gv (vb z ++ rest) = some (zag (z : Int), (vb z).length) := by
  obtain ⟨d, b, e, hd, hb, hv⟩ := vb_form z z (Nat.le_refl _)
  have hl := vb_len6 hz
  have hc : d = [] ∨ b ≠ 0 := (canon b hb d hd).1 (by rw [← e, hv])
  have hll : (vb z).length = d.length + 1 := by rw [e]; simp
  have h1 : (vb z ++ rest)[d.length]? = some b := by rw [e]; simp
  have h2 : (vb z ++ rest).take d.length = d := by rw [e]; simp
  have h3 : (vb z ++ rest).take (d.length + 1) = vb z := by rw [← hll]; simp
  rw [gv_hit h1 hb (by rw [h2]; exact hd), h3, hv, if_pos ⟨by omega, by rcases hc with rfl | h; exact .inl rfl; exact .inr h, hz⟩, hll]
theorem rd_put {n : Int} (h : isV n = true) (rest : List UInt8) : rd (vz n ++ rest) = (rd rest).map (n :: ·) := by
  obtain ⟨hz0, hz1⟩ := zig_bd (isV_bd h).1 (isV_bd h).2
  have hg : gv (vz n ++ rest) = some (n, (vz n).length) := by
    unfold vz
    rw [gv_put (by omega), show (((zig n).toNat : Nat) : Int) = zig n from by omega, zag_zig]
  have hne : vz n ++ rest ≠ [] := fun e => by
    have h1 := (vz_len h).1
    have h2 := congrArg List.length e
    rw [List.length_append, List.length_nil] at h2
    omega
  rw [rd_some hne hg]
  simp

/-- Pairs of numbers, one behind the other. -/
def bodyP (ps : List (Int × Int)) : List UInt8 := ps.flatMap fun p => vz p.1 ++ vz p.2
def flatP (ps : List (Int × Int)) : List Int := ps.flatMap fun p => [p.1, p.2]
def pairsP : List Int → List (Int × Int)
  | a :: b :: l => (a, b) :: pairsP l
  | _ => []
theorem bodyP_snoc (ps : List (Int × Int)) (k : Nat) (p : Int × Int) (h : ps[k]? = some p) : bodyP (ps.take (k + 1)) = bodyP (ps.take k) ++ (vz p.1 ++ vz p.2) := by
  unfold bodyP; rw [take_snoc' _ _ _ h, List.flatMap_append]; simp
theorem flatP_len (ps : List (Int × Int)) : (flatP ps).length = 2 * ps.length := by
  induction ps with
  | nil => rfl
  | cons p ps ih => unfold flatP at *; rw [List.flatMap_cons, List.length_append, ih]; simp; omega
theorem pairsP_flatP (ps : List (Int × Int)) : pairsP (flatP ps) = ps := by
  induction ps with
  | nil => rfl
  | cons p ps ih => unfold flatP at *; rw [List.flatMap_cons]; simp only [List.cons_append, List.nil_append, pairsP, ih]
theorem pairsP_len : ∀ (f : Nat) (l : List Int), l.length ≤ f → (pairsP l).length = l.length / 2
  | 0, l, h => by
    obtain rfl : l = [] := List.eq_nil_of_length_eq_zero (by omega)
    rfl
  | f + 1, [], h => rfl
  | f + 1, [a], h => by simp [pairsP]
  | f + 1, a :: b :: l, h => by
    have := pairsP_len f l (by simp at h; omega)
    simp only [pairsP, List.length_cons, this]; omega
theorem pairsP_get : ∀ (k : Nat) (l : List Int) (x y : Int), l[2 * k]? = some x → l[2 * k + 1]? = some y → (pairsP l)[k]? = some (x, y)
  | 0, [], x, y, h, h' => by simp at h
  | 0, [a], x, y, h, h' => by simp at h'
  | 0, a :: b :: l, x, y, h, h' => by simp at h h'; subst h; subst h'; rfl
  | k + 1, [], x, y, h, h' => by simp at h
  | k + 1, [a], x, y, h, h' => by simp at h'
  | k + 1, a :: b :: l, x, y, h, h' => by
    have := pairsP_get k l x y (by simpa [Nat.mul_add] using h) (by simpa [Nat.mul_add] using h')
    simpa [pairsP] using this
theorem rd_body {ps : List (Int × Int)} (h : ∀ p ∈ ps, isV p.1 = true ∧ isV p.2 = true) : rd (bodyP ps) = some (flatP ps) := by
  induction ps with
  | nil => rfl
  | cons p ps ih =>
    have hp := h p (List.mem_cons_self ..)
    have e : bodyP (p :: ps) = vz p.1 ++ (vz p.2 ++ bodyP ps) := by unfold bodyP; rw [List.flatMap_cons, List.append_assoc]
    rw [e, rd_put hp.1, rd_put hp.2, ih (fun q hq => h q (List.mem_cons_of_mem _ hq))]
    rfl
theorem bodyP_len {ps : List (Int × Int)} (h : ∀ p ∈ ps, isV p.1 = true ∧ isV p.2 = true) : (bodyP ps).length ≤ 12 * ps.length := by
  induction ps with
  | nil => simp [bodyP]
  | cons p ps ih =>
    have hp := h p (List.mem_cons_self ..)
    have h1 := (vz_len hp.1).2
    have h2 := (vz_len hp.2).2
    have := ih (fun q hq => h q (List.mem_cons_of_mem _ hq))
    unfold bodyP at *
    rw [List.flatMap_cons, List.length_append, List.length_append, List.length_cons]
    omega

/-- The numbers of a chunk behind its count. -/
def parts (l : List (Int × Int)) : List (Int × Int) := (deltas 0 (deltas 0 (l.map Prod.fst))).zip (deltas 0 (l.map Prod.snd))
def unparts (ps : List (Int × Int)) : List (Int × Int) := (sums 0 (sums 0 (ps.map Prod.fst))).zip (sums 0 (ps.map Prod.snd))
def enc (l : List (Int × Int)) : List UInt8 := vz (l.length : Nat) ++ bodyP (parts l)
theorem sums_deltas (l : List Int) : ∀ a, sums a (deltas a l) = l := by
  induction l with
  | nil => intro a; rfl
  | cons n l ih => intro a; rw [deltas, sums, show a + (n - a) = n from by omega, ih]
theorem zip_halves (l : List (Int × Int)) : (l.map Prod.fst).zip (l.map Prod.snd) = l := by
  induction l with
  | nil => rfl
  | cons p l ih => simp [ih]
theorem parts_len (l : List (Int × Int)) : (parts l).length = l.length := by
  unfold parts; rw [List.length_zip, deltas_len, deltas_len, deltas_len, List.length_map, List.length_map]; omega
theorem zip_fst {a b : List Int} (h : a.length = b.length) : (a.zip b).map Prod.fst = a := List.map_fst_zip (Nat.le_of_eq h)
theorem zip_snd {a b : List Int} (h : a.length = b.length) : (a.zip b).map Prod.snd = b := List.map_snd_zip (Nat.le_of_eq h.symm)
theorem unparts_parts (l : List (Int × Int)) : unparts (parts l) = l := by
  unfold unparts parts
  have hl : (deltas 0 (deltas 0 (l.map Prod.fst))).length = (deltas 0 (l.map Prod.snd)).length := by simp [deltas_len]
  rw [zip_fst hl, zip_snd hl, sums_deltas, sums_deltas, sums_deltas, zip_halves]
theorem goodSmp_len {l : List (Int × Int)} (h : goodSmp l = true) : l.length ≤ 40 := by
  unfold goodSmp at h; simp at h; omega
theorem goodSmp_ok {l : List (Int × Int)} (h : goodSmp l = true) : ∀ p ∈ l, smpOk p = true := by
  intro p hp
  obtain ⟨k, hk⟩ := List.mem_iff_getElem?.1 hp
  have hkl := (List.getElem?_eq_some_iff.1 hk).1
  cases e : smpOk p with
  | true => rfl
  | false =>
    have := goodSmp_bad hkl (smpAt_bad hk e)
    rw [h] at this
    cases this
theorem goodSmp_within {l : List (Int × Int)} (h : goodSmp l = true) : within_ 1000000000 (l.map Prod.fst) ∧ within_ 1000000000 (l.map Prod.snd) := by
  have h1 := goodSmp_ok h
  refine ⟨fun x hx => ?_, fun x hx => ?_⟩
  · obtain ⟨p, hp, rfl⟩ := List.mem_map.1 hx
    have := inB_iff.1 (smpOk_t (x := p.1) (y := p.2) (h1 p hp)).1
    omega
  · obtain ⟨p, hp, rfl⟩ := List.mem_map.1 hx
    have := inB_iff.1 (smpOk_t (x := p.1) (y := p.2) (h1 p hp)).2
    omega
theorem isV_of {x : Int} (h0 : -1000000000000 ≤ x) (h1 : x ≤ 1000000000000) : isV x = true := inB_iff.2 ⟨h0, h1⟩
theorem parts_within {l : List (Int × Int)} (h : goodSmp l = true) : within_ 4000000000 (deltas 0 (deltas 0 (l.map Prod.fst))) ∧ within_ 2000000000 (deltas 0 (l.map Prod.snd)) := by
  obtain ⟨h1, h2⟩ := goodSmp_within h
  have h3 := within_deltas (M := 1000000000) (by omega) (a := 0) (by omega) (by omega) h1
  have h4 := within_deltas (M := 1000000000) (by omega) (a := 0) (by omega) (by omega) h2
  have h5 := within_deltas (M := 2 * 1000000000) (by omega) (a := 0) (by omega) (by omega) h3
  exact ⟨h5, h4⟩
theorem parts_ok {l : List (Int × Int)} (h : goodSmp l = true) : ∀ p ∈ parts l, isV p.1 = true ∧ isV p.2 = true := by
  obtain ⟨h1, h2⟩ := parts_within h
  intro p hp
  have hp' := List.of_mem_zip (a := p.1) (b := p.2) hp
  have h3 := h1 _ hp'.1
  have h4 := h2 _ hp'.2
  exact ⟨isV_of (by omega) (by omega), isV_of (by omega) (by omega)⟩
theorem enc_rd {l : List (Int × Int)} (h : goodSmp l = true) : rd (enc l) = some ((l.length : Int) :: flatP (parts l)) := by
  have hl := goodSmp_len h
  unfold enc
  rw [rd_put (isV_of (by omega) (by omega)), rd_body (parts_ok h)]
  rfl
theorem enc_len {l : List (Int × Int)} (h : goodSmp l = true) : (enc l).length ≤ 486 := by
  have hl := goodSmp_len h
  have h1 := (vz_len (isV_of (x := (l.length : Int)) (by omega) (by omega))).2
  have h2 := bodyP_len (parts_ok h)
  rw [parts_len] at h2
  unfold enc
  rw [List.length_append]
  omega

/-- The samples of a chunk. -/
def dec (s : List UInt8) : Option (List (Int × Int)) :=
  match rd s with
  | none => none
  | some n => if goodSmp (unparts (pairsP n.tail)) = true ∧ enc (unparts (pairsP n.tail)) = s then some (unparts (pairsP n.tail)) else none
theorem dec_put {l : List (Int × Int)} (h : goodSmp l = true) : dec (enc l) = some l := by
  unfold dec
  rw [enc_rd h]
  simp only [List.tail_cons, pairsP_flatP, unparts_parts]
  rw [if_pos ⟨h, trivial⟩]
theorem dec_some {s : List UInt8} {l : List (Int × Int)} (h : dec s = some l) : goodSmp l = true ∧ enc l = s ∧ rd s = some ((l.length : Int) :: flatP (parts l)) := by
  unfold dec at h
  split at h
  · cases h
  · split at h
    · rename_i hc
      injection h with h
      rw [h] at hc
      exact ⟨hc.1, hc.2, hc.2 ▸ enc_rd hc.1⟩
    · cases h
theorem dec_none_rd {s : List UInt8} (h : rd s = none) : dec s = none := by unfold dec; rw [h]
theorem dec_rd {s : List UInt8} {n : List Int} (h : rd s = some n) : dec s = if goodSmp (unparts (pairsP n.tail)) = true ∧ enc (unparts (pairsP n.tail)) = s then some (unparts (pairsP n.tail)) else none := by
  unfold dec; rw [h]
/-- What reading asks of the numbers ahead. -/
theorem dec_shape {s : List UInt8} {n : List Int} (h : rd s = some n) (hbad : ∀ m : Nat, m ≤ 40 → n.length = 1 + 2 * m → n[0]? = some (m : Int) → False) : dec s = none := by
  cases e : dec s with
  | none => rfl
  | some l =>
    exfalso
    obtain ⟨h1, _, h3⟩ := dec_some e
    rw [h] at h3
    injection h3 with h3
    subst h3
    exact hbad l.length (goodSmp_len h1) (by rw [List.length_cons, flatP_len, parts_len]; omega) rfl
theorem dec_long {s : List UInt8} (h : 600 < s.length) : dec s = none := by
  cases e : dec s with
  | none => rfl
  | some l =>
    obtain ⟨h1, h2, _⟩ := dec_some e
    have := enc_len h1
    rw [h2] at this
    omega
theorem rd_within : ∀ (f : Nat) (s : List UInt8) (n : List Int), s.length ≤ f → rd s = some n → within_ 1000000000000 n
  | 0, s, n, hf, h => by
    obtain rfl : s = [] := List.eq_nil_of_length_eq_zero (by omega)
    rw [rd_nil] at h
    injection h with h
    subst h
    intro x hx
    cases hx
  | f + 1, s, n, hf, h => by
    by_cases hs : s = []
    · subst hs
      rw [rd_nil] at h
      injection h with h
      subst h
      intro x hx
      cases hx
    · cases e : gv s with
      | none => rw [rd_none hs e] at h; cases h
      | some p =>
        obtain ⟨m, k⟩ := p
        have hb := gv_bd e
        rw [rd_some hs e] at h
        cases e2 : rd (s.drop k) with
        | none => rw [e2] at h; cases h
        | some n' =>
          rw [e2] at h
          simp at h
          subst h
          have ih := rd_within f (s.drop k) n' (by rw [List.length_drop]; omega) e2
          intro x hx
          rcases List.mem_cons.1 hx with rfl | hx
          · exact ⟨hb.1, hb.2.1⟩
          · exact ih x hx
theorem rd_len : ∀ (f : Nat) (s : List UInt8) (n : List Int), s.length ≤ f → rd s = some n → n.length ≤ s.length
  | 0, s, n, hf, h => by
    obtain rfl : s = [] := List.eq_nil_of_length_eq_zero (by omega)
    rw [rd_nil] at h
    injection h with h
    subst h
    simp
  | f + 1, s, n, hf, h => by
    by_cases hs : s = []
    · subst hs
      rw [rd_nil] at h
      injection h with h
      subst h
      simp
    · cases e : gv s with
      | none => rw [rd_none hs e] at h; cases h
      | some p =>
        obtain ⟨m, k⟩ := p
        have hb := gv_bd e
        rw [rd_some hs e] at h
        cases e2 : rd (s.drop k) with
        | none => rw [e2] at h; cases h
        | some n' =>
          rw [e2] at h
          simp at h
          subst h
          have ih := rd_len f (s.drop k) n' (by rw [List.length_drop]; omega) e2
          rw [List.length_drop] at ih
          rw [List.length_cons]
          omega
end Go.Proofs.Ytbpeceejboojoaa
