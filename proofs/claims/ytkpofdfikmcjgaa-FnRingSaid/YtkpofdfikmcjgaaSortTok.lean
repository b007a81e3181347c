/- slices.SortFunc at an owned row of tokens: a permutation, in the order of their places. -/
import Derived.Test.YtkpofdfikmcjgaaShTok
import Derived.Test.YtkpofdfikmcjgaaOwnK
import Derived.Test.YtkpofdfikmcjgaaRingPlain
import Derived.Test.YtkpofdfikmcjgaaPairs
namespace Go.Proofs.Ytkpofdfikmcjgaa
set_option linter.unusedVariables false
set_option linter.unusedSimpArgs false
open Go.RowKit Go.Sort Go.Lib Go.Shelf

/-- A token with a place that is in bounds. -/
structure TokB where
  p : Tok
  h : 0 ≤ p.1 ∧ p.1 ≤ 1008
instance : Inhabited TokB := ⟨⟨(0, 0), by decide⟩⟩
def encTB (x : TokB) : List Value := [.int .i64 x.p.1, .int .i64 x.p.2]
def cfTB (x y : TokB) : Int := x.p.1 - y.p.1
theorem ltTB (x y : TokB) : ltOf cfTB x y = decide (x.p.1 < y.p.1) := by
  unfold ltOf cfTB
  rw [Bool.eq_iff_iff]; simp; omega
theorem swoTB : SWO (ltOf cfTB) where
  irrefl x := by rw [ltTB]; simp
  trans x y z h1 h2 := by rw [ltTB] at *; simp at *; omega
  ntrans x y z h1 h2 := by rw [ltTB] at *; simp at *; omega
set_option maxHeartbeats 1000000 in
theorem cmpTok_any (x y : TokB) (W : World) : Calls Try.prog 72 #[.agg #[.int .i64 x.p.1, .int .i64 x.p.2], .agg #[.int .i64 y.p.1, .int .i64 y.p.2]] W fun e w' => e = .returned (.int .i64 (cfTB x y)) ∧ ∃ q os', w' = grow (W.drewN q) os' := by
  obtain ⟨⟨a, b⟩, h1, h2⟩ := x
  obtain ⟨⟨c, d⟩, h3, h4⟩ := y
  simp only at h1 h2 h3 h4
  show Calls _ _ #[.agg #[.int .i64 a, .int .i64 b], .agg #[.int .i64 c, .int .i64 d]] W fun e w' => e = .returned (.int .i64 (a - c)) ∧ _
  go_enter Try.func72, Try.ntmps72
  go_wp2
  go_ret
  exact ⟨rfl, 0, _, by rw [alloc_eq_grow, alloc_eq_grow, grow_grow]; rfl⟩
theorem encTB_flat (m : List TokB) : m.flatMap encTB = smps (m.map (·.p)) := by
  unfold smps
  rw [List.flatMap_map]
  rfl
set_option maxHeartbeats 1000000 in
theorem sortTok_any (base g cap n : Nat) (l : List Tok) (w : World) (ho : w.ownsRow base 75 2 (.slice (some ⟨g, 0, none⟩) n cap) n (smps l)) (hn : n ≤ 1048576) (hb : ∀ p ∈ l, 0 ≤ p.1 ∧ p.1 ≤ 1008) :
    Calls Try.prog 71 #[.slice (some ⟨g, 0, none⟩) n cap, .func (.func 72) #[] #[]] w fun e w' =>
      ∃ d : List Tok, e = .returned (.tuple #[]) ∧ d.Perm l ∧ Le1 d ∧ w'.ownsRow base 75 2 (.slice (some ⟨g, 0, none⟩) n cap) n (smps d) ∧ (∀ B w0, Below B w0 w → B ≤ base → Below B w0 w') := by
  obtain ⟨m, rfl⟩ : ∃ m : List TokB, l = m.map (·.p) := ⟨l.pmap TokB.mk hb, by simp [List.map_pmap]⟩
  rw [← encTB_flat] at ho
  have hlen : m.length = n := by have := ho.1; rw [flatMap_lenK (s := 2) (fun _ => rfl)] at this; omega
  obtain ⟨hH, hlt, hbg⟩ := holdsK_of_own (enc := encTB) (fun _ => rfl) ho
  have eg : ∀ args w, (callFunc 72 args).run Try.prog w = .ok (.enter 72 args) w := enters_of Try.func72 (by kernel_rfl) rfl
  have hcon := AnyQ.slices_SortFunc Try.sortTok 2 Try.isAgg75 Try.sizeOf75 encTB (fun _ => rfl) (fun x v hv => by simp [encTB] at hv; rcases hv with rfl | rfl <;> rfl) cfTB swoTB 72 #[] g 0 cap m.toArray w eg (fun _ _ _ _ x y => cmpTok_any x y _) hH hlt (by simp; omega)
  change Calls Try.prog 71 _ _ _ at hcon
  rw [show (m.toArray.size : Nat) = n by simpa using hlen] at hcon
  refine hcon.mono ?_
  rintro e w' ⟨rfl, d', q, os, hp, hs, rfl⟩
  have hd : d'.size = n := by rw [hp.1]; simpa using hlen
  have hs2 : m.toArray.size = n := by simpa using hlen
  refine ⟨d'.toList.map (·.p), rfl, ?_, ?_, ?_, fun B w0 h hB => below_sorted h (by omega) hlt q d' os⟩
  · have := hp.2.2
    rw [← hs2] at this
    have e1 : d'.extract 0 m.toArray.size = d' := by rw [hs2, ← hd]; simp
    have e2 : m.toArray.extract 0 m.toArray.size = m.toArray := by simp
    rw [e1, e2] at this
    exact this.map _
  · refine List.pairwise_map.2 (List.pairwise_iff_getElem.2 fun i j hi hj hij => ?_)
    have := hs i j (Nat.zero_le _) hij (by simp at hj; omega)
    rw [ltTB, getElem!_pos _ _ (by simpa using hj), getElem!_pos _ _ (by simpa using hi)] at this
    simp at this ⊢
    omega
  · rw [← encTB_flat]
    exact own_sorted (enc := encTB) (k := 2) (l := m) (fun _ => rfl) ho q d' hd os
end Go.Proofs.Ytkpofdfikmcjgaa
