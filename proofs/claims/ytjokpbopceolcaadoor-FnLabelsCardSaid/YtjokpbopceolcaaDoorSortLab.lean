/- slices.SortFunc at an owned row of labels: a permutation, in the order of their names. -/
import Derived.Test.YtjokpbopceolcaaDoorShLab
import Derived.Test.YtjokpbopceolcaaDoorOwnK
import Derived.Test.YtjokpbopceolcaaDoorMergePlain
import Derived.Test.YtjokpbopceolcaaDoorLabs
import Derived.Shelf.Small.Strs
namespace Go.Proofs.YtjokpbopceolcaaDoor
set_option linter.unusedVariables false
set_option linter.unusedSimpArgs false
open Go.RowKit Go.Sort Go.Lib Go.Shelf

theorem cmp_neg : ∀ (a b : List UInt8), compareBytes a b < 0 ↔ a < b
  | [], [] => by simp [compareBytes]
  | [], _ :: _ => by simp [compareBytes]
  | _ :: _, [] => by simp [compareBytes]
  | a :: s, b :: t => by
    rw [compareBytes, List.cons_lt_cons_iff]
    by_cases h1 : a < b
    · simp [h1]
    · by_cases h2 : b < a
      · have hne : a ≠ b := by intro e; subst e; exact absurd h2 h1
        simp [h1, h2, hne]
      · have he : a = b := by
          have h3 : ¬ a.toNat < b.toNat := h1
          have h4 : ¬ b.toNat < a.toNat := h2
          exact UInt8.toNat_inj.1 (by omega)
        subst he
        simp [UInt8.lt_irrefl, cmp_neg s t]
def encLab (x : Lab) : List Value := [.string x.1, .string x.2]
def cfLab (x y : Lab) : Int := compareBytes x.1.data.toList y.1.data.toList
theorem ltLab (x y : Lab) : ltOf cfLab x y = lessS x.1 y.1 := by
  unfold ltOf cfLab
  rw [lessS_eq, Bool.eq_iff_iff]
  simp only [decide_eq_true_eq]
  exact cmp_neg _ _
theorem swoLab : SWO (ltOf cfLab) where
  irrefl x := by rw [ltLab]; exact lessS_irrefl _
  trans x y z h1 h2 := by rw [ltLab] at *; exact lessS_trans h1 h2
  ntrans x y z h1 h2 := by
    rw [ltLab] at *
    cases h : lessS x.1 z.1 with
    | false => rfl
    | true =>
      rw [lessS_eq] at h h1 h2
      simp only [decide_eq_true_eq, decide_eq_false_iff_not] at h h1 h2
      exact absurd (Std.lt_of_lt_of_le h (List.not_lt.1 h2)) h1
set_option maxHeartbeats 1000000 in
theorem cmpLab_any (x y : Lab) (W : World) : Calls Tryd.prog 81 #[.agg #[.string x.1, .string x.2], .agg #[.string y.1, .string y.2]] W fun e w' => e = .returned (.int .i64 (cfLab x y)) ∧ ∃ q os', w' = grow (W.drewN q) os' := by
  obtain ⟨a, b⟩ := x
  obtain ⟨c, d⟩ := y
  show Calls _ _ #[.agg #[.string a, .string b], .agg #[.string c, .string d]] W fun e w' => e = .returned (.int .i64 (compareBytes a.data.toList c.data.toList)) ∧ _
  go_enter Tryd.func81, Tryd.ntmps81
  go_wp2_with fail
  refine (Any.strings_Compare Tryd.compare a c _).mono ?_
  rintro e w' ⟨rfl, rfl⟩
  go_wp2
  go_ret
  exact ⟨rfl, 0, _, by rw [alloc_eq_grow, alloc_eq_grow, grow_grow]; rfl⟩
set_option maxHeartbeats 1000000 in
theorem sortLab_any (base g cap n : Nat) (l : List Lab) (w : World) (ho : w.ownsRow base 48 2 (.slice (some ⟨g, 0, none⟩) n cap) n (lbls l)) (hn : n ≤ 1048576) :
    Calls Tryd.prog 80 #[.slice (some ⟨g, 0, none⟩) n cap, .func (.func 81) #[] #[]] w fun e w' =>
      ∃ d : List Lab, e = .returned (.tuple #[]) ∧ d.Perm l ∧ d.Pairwise (fun x y => lessS y.1 x.1 = false) ∧ w'.ownsRow base 48 2 (.slice (some ⟨g, 0, none⟩) n cap) n (lbls d) ∧ (∀ B w0, Below B w0 w → B ≤ base → Below B w0 w') := by
  change w.ownsRow base 48 2 (.slice (some ⟨g, 0, none⟩) n cap) n (l.flatMap encLab) at ho
  have hlen : l.length = n := by have := ho.1; rw [flatMap_lenK (s := 2) (fun _ => rfl)] at this; omega
  obtain ⟨hH, hlt, hbg⟩ := holdsK_of_own (enc := encLab) (fun _ => rfl) ho
  have eg : ∀ args w, (callFunc 81 args).run Tryd.prog w = .ok (.enter 81 args) w := enters_of Tryd.func81 (by kernel_rfl) rfl
  have hcon := AnyQ.slices_SortFunc Tryd.sortLab 2 Tryd.isAgg48 Tryd.sizeOf48 encLab (fun _ => rfl) (fun x v hv => by simp [encLab] at hv; rcases hv with rfl | rfl <;> rfl) cfLab swoLab 81 #[] g 0 cap l.toArray w eg (fun _ _ _ _ x y => cmpLab_any x y _) hH hlt (by simp; omega)
  change Calls Tryd.prog 80 _ _ _ at hcon
  rw [show (l.toArray.size : Nat) = n by simpa using hlen] at hcon
  refine hcon.mono ?_
  rintro e w' ⟨rfl, d', q, os, hp, hs, rfl⟩
  have hd : d'.size = n := by rw [hp.1]; simpa using hlen
  have hs2 : l.toArray.size = n := by simpa using hlen
  refine ⟨d'.toList, rfl, ?_, ?_, ?_, fun B w0 h hB => below_sorted h (by omega) hlt q d' os⟩
  · have := hp.2.2
    rw [← hs2] at this
    have e1 : d'.extract 0 l.toArray.size = d' := by rw [hs2, ← hd]; simp
    have e2 : l.toArray.extract 0 l.toArray.size = l.toArray := by simp
    rw [e1, e2] at this
    exact this
  · refine List.pairwise_iff_getElem.2 fun i j hi hj hij => ?_
    have := hs i j (Nat.zero_le _) hij (by simp at hj; omega)
    rw [ltLab, getElem!_pos _ _ (by simpa using hj), getElem!_pos _ _ (by simpa using hi)] at this
    simpa using this
  · exact own_sorted (enc := encLab) (k := 2) (l := l) (fun _ => rfl) ho q d' hd os
end Go.Proofs.YtjokpbopceolcaaDoor
