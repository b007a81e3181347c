/- The law FnPosts. Written by a program of mine (genposts.py). -/
import Derived.Test.YtjadjkdihjddoaaDrawPost
import Derived.Test.YtjadjkdihjddoaaJoinPost
import Derived.Test.YtjadjkdihjddoaaSame
import Derived.Deep.DeepCutAuto
import Derived.Outline
import Derived.OwnWalk
namespace Go.Proofs.Ytjadjkdihjddoaa
set_option linter.unusedVariables false
set_option linter.unusedSimpArgs false
open Go.RowKit

/-- Two drawn lists. -/
def PostsV (base : Nat) (w : World) (v : Value) : Prop := ∃ A c k zs A' c' k' zs', v = .tuple #[.slice A k c, .slice A' k' c'] ∧ k ≤ 61 ∧ k' ≤ 61 ∧ w.ownsRow base 3 1 (.slice A k c) k (ints zs) ∧ w.ownsRow base 3 1 (.slice A' k' c') k' (ints zs')
set_option maxRecDepth 100000 in
set_option maxHeartbeats 1000000 in
theorem DrawMeetPosts_any (A : Option Addr) (n c : Nat) (l : List UInt8) (w : World) (h : Rd w w.heap.size 1 A n (bys l)) (hn : n ≤ 1048576) : Calls Try.prog 41 #[.slice A n c] w (DrawnP w (PostsV w.heap.size)) := by
  have HH := Lib.hid (fun t => cur_newP (c := c) (t := t) h hn)
  clear h
  go_enter Try.func41, Try.ntmps41
  go_wp2_with fail
  refine (posts_any ⟨w.heap.size, w.heap.size, n, c, A, l⟩ 0 _ (HH.out _) (by omega)).mono ?_
  rintro e w1 ⟨_, rfl, ⟨A1, c1, k1, z1, rfl, hk1, ho1⟩, hcu, hch⟩
  have hs1 := hch.size
  simp at hs1
  have HO1 := Lib.hid ho1
  have HC := Lib.hid hcu
  have HW := Lib.hid hch
  clear ho1 hcu hch
  go_wp2_with fail
  refine (posts_any ⟨w.heap.size, w.heap.size, n, c, A, l⟩ 140 _ (HC.out.more (by omega)) (by omega)).mono ?_
  rintro e w2 ⟨_, rfl, ⟨A2, c2, k2, z2, rfl, hk2, ho2⟩, hcu, hch⟩
  have HB := Lib.hid (new_belowP (HW.out.trans hch))
  have HO2 := Lib.hid (own_mono ho2 (show w.heap.size ≤ w1.heap.size by omega))
  have HO3 := Lib.hid (own_mono (own_chP HO1.out hch (by simp)) (show w.heap.size ≤ _ by simp))
  clear ho2 hcu hch
  go_wp2
  go_ret2
  exact ⟨_, rfl, ⟨A1, c1, k1, z1, A2, c2, k2, z2, rfl, hk1, hk2, HO3.out, HO2.out⟩, HB.out⟩
/-- A drawn list, and two numbers. -/
def LeapV (base : Nat) (w : World) (v : Value) : Prop := ∃ A c k zs f x, v = .tuple #[.slice A k c, .int .i64 f, .int .i64 x] ∧ k ≤ 61 ∧ w.ownsRow base 3 1 (.slice A k c) k (ints zs) ∧ -1 ≤ f ∧ f ≤ 70 ∧ -1 ≤ x ∧ x ≤ 50
set_option maxRecDepth 100000 in
set_option maxHeartbeats 1000000 in
theorem DrawLeapFrom_any (A : Option Addr) (n c : Nat) (l : List UInt8) (w : World) (h : Rd w w.heap.size 1 A n (bys l)) (hn : n ≤ 1048576) : Calls Try.prog 45 #[.slice A n c] w (DrawnP w (LeapV w.heap.size)) := by
  have HH := Lib.hid (fun t => cur_newP (c := c) (t := t) h hn)
  clear h
  go_enter Try.func45, Try.ntmps45
  go_wp2_with fail
  refine (posts_any ⟨w.heap.size, w.heap.size, n, c, A, l⟩ 0 _ (HH.out _) (by omega)).mono ?_
  rintro e w1 ⟨_, rfl, ⟨A1, c1, k1, z1, rfl, hk1, ho1⟩, hcu, hch⟩
  have hs1 := hch.size
  simp at hs1
  have HO1 := Lib.hid ho1
  have HC := Lib.hid hcu
  have HW := Lib.hid hch
  clear ho1 hcu hch
  go_wp2_with fail
  refine (pick_any ⟨w.heap.size, w.heap.size, n, c, A, l⟩ 140 _ _ (HC.out.more (by omega)) (by omega) (by omega)).mono ?_
  rintro e w2 ⟨_, rfl, ⟨r, rfl, hr0, hr1⟩, hcu, hch⟩
  have HO2 := Lib.hid (own_chP HO1.out hch (by simp))
  have HC2 := Lib.hid hcu
  have HW2 := Lib.hid (HW.out.trans hch)
  clear hcu hch HC HW HO1
  have hr2 : r ≤ 64 := by omega
  clear hr1
  go_wp2_with fail
  refine (pick_any ⟨w.heap.size, w.heap.size, n, c, A, l⟩ 142 _ _ (HC2.out.more (by omega)) (by omega) (by omega)).mono ?_
  rintro e w3 ⟨_, rfl, ⟨q, rfl, hq0, hq1⟩, hcu, hch⟩
  have HO3 := Lib.hid (own_mono (own_chP HO2.out hch (by simp)) (show w.heap.size ≤ _ by simp))
  have HB := Lib.hid (new_belowP (HW2.out.trans hch))
  clear hcu hch
  have hq2 : q ≤ 39 := by omega
  clear hq1
  go_wp2
  go_ret3
  exact ⟨_, rfl, ⟨A1, c1, k1, z1, _, _, rfl, hk1, HO3.out, by omega, by omega, by omega, by omega⟩, HB.out⟩
theorem leap_spec {zs : List Int} {x : Int} : ∀ (f k : Nat), k + f = zs.length → k ≤ leap zs x f k ∧ leap zs x f k ≤ zs.length ∧ (∀ y, zs[leap zs x f k]? = some y → ¬ y < x) ∧ (k < leap zs x f k → ∀ y, zs[leap zs x f k - 1]? = some y → y < x)
  | 0, k, h => by
    rw [leap_end (by omega)]
    exact ⟨Nat.le_refl _, by omega, fun y hy => by have := (List.getElem?_eq_some_iff.1 hy).1; omega, fun h => absurd h (by omega)⟩
  | f + 1, k, h => by
    obtain ⟨y, hy⟩ : ∃ y, zs[k]? = some y := ⟨_, List.getElem?_eq_getElem (by omega)⟩
    by_cases hl : y < x
    · rw [leap_go hy hl]
      obtain ⟨h1, h2, h3, h4⟩ := leap_spec (zs := zs) (x := x) f (k + 1) (by omega)
      refine ⟨by omega, h2, h3, fun _ z hz => ?_⟩
      by_cases he : k + 1 < leap zs x f (k + 1)
      · exact h4 he z hz
      · have : leap zs x f (k + 1) = k + 1 := by omega
        rw [this, Nat.add_sub_cancel, hy] at hz
        injection hz with hz
        omega
    · rw [leap_stop hy hl]
      exact ⟨Nat.le_refl _, by omega, fun z hz => by rw [hy] at hz; injection hz with hz; omega, fun h => absurd h (by omega)⟩
theorem setR_yes {P : List Int → List Int → List Int} {a b : List Int} (h : (goodPosts a && goodPosts b) = true) : setR P a b = P a b := by unfold setR; rw [h]; rfl
theorem setR_len (P : List Int → List Int → List Int) (hP : ∀ a b, (P a b).length ≤ a.length + b.length) (a b : List Int) : (setR P a b).length ≤ a.length + b.length := by unfold setR; split; exact hP a b; simp
set_option maxRecDepth 200000 in
set_option maxHeartbeats 16000000 in
theorem law_FnPosts (A : Option Addr) (n c : Nat) (l : List UInt8) (A' : Option Addr) (n' c' : Nat) (l' : List UInt8) (w : World) (h : Rd w w.heap.size 1 A n (bys l)) (hn : n ≤ 140737488355328) (h' : Rd w w.heap.size 1 A' n' (bys l')) (hn' : n' ≤ 140737488355328) :
    Calls Try.prog 10 #[.slice A n c, .slice A' n' c'] w fun e w' => e = .returned (.bool true) ∧ Below w.heap.size w w' := by
  have H := Lib.hid h
  have H' := Lib.hid h'
  clear h h'
  by_cases hs : n + n' ≤ 1048576
  · go_enter Try.func10, Try.ntmps10
    go_wp2_with fail
    refine (DrawMeetPosts_any A n c l _ H.out (by omega)).mono ?_
    rintro e w1 ⟨_, rfl, ⟨Aa, ca, ka, za, Ab, cb, kb, zb, rfl, hka, hkb, hoa, hob⟩, hb⟩
    have HB1 := Lib.hid hb
    have HRa := Lib.hid (Rd.of_own hoa)
    have HRb := Lib.hid (Rd.of_own hob)
    have hla := (Rd.of_own hoa).int_len
    have hlb := (Rd.of_own hob).int_len
    have hs1 := hb.size
    clear hb hoa hob
    obtain ⟨K, hK⟩ : ∃ K, (goodPosts za && goodPosts zb) = K := ⟨_, rfl⟩
    obtain ⟨KJ, hKJ⟩ : ∃ K, okJoin za zb = K := ⟨_, rfl⟩
    obtain ⟨M, hM⟩ : ∃ M, setR meetP za zb = M := ⟨_, rfl⟩
    obtain ⟨J, hJ⟩ : ∃ M, joinR za zb = M := ⟨_, rfl⟩
    obtain ⟨E, hE⟩ : ∃ M, setR lessP za zb = M := ⟨_, rfl⟩
    have hml : M.length ≤ 61 := by rw [← hM]; unfold setR; split; exact Nat.le_trans (List.length_filter_le ..) (by omega); simp
    have hel : E.length ≤ 61 := by rw [← hE]; unfold setR; split; exact Nat.le_trans (List.length_filter_le ..) (by omega); simp
    have hjl : J.length ≤ 122 := by
      rw [← hJ]
      cases e : okJoin za zb
      · rw [joinR_no e]; simp
      · rw [joinR_yes e]; have := joinP_len zb za; omega
    have HK := Lib.hid hK
    have HKJ := Lib.hid hKJ
    have HM := Lib.hid hM
    have HJ := Lib.hid hJ
    have HE := Lib.hid hE
    have HLA := Lib.hid hla
    have HLB := Lib.hid hlb
    clear hla hlb
    have C := iMeetPosts_any w1.heap.size Aa Ab ka ca kb cb za zb w1 (Nat.le_refl _) HRa.out (by omega) HRb.out (by omega)
    rw [HK.out] at C
    rw [HM.out] at C
    have HC := Lib.hid C
    clear C
    go_wp2_with fail
    refine HC.out.mono ?_
    rintro e w2 ⟨Am, cm, rfl, hr, hc⟩
    have hb := hc.below0
    clear HC hc
    have HRqa := Lib.hid ((HRa.out.below hb).more hb.size)
    clear HRa
    have HRa := Lib.hid HRqa.out
    clear HRqa
    have HRqb := Lib.hid ((HRb.out.below hb).more hb.size)
    clear HRb
    have HRb := Lib.hid HRqb.out
    clear HRqb
    have HB2 := Lib.hid (HB1.out.trans (hb.mono HB1.out.size))
    clear HB1
    clear hb
    have HRm := Lib.hid hr.rd
    clear hr
    have C := sMeetPosts_any w2.heap.size Aa Ab ka ca kb cb za zb w2 (Nat.le_refl _) HRa.out (by omega) HRb.out (by omega)
    rw [HK.out] at C
    rw [HM.out] at C
    have HC := Lib.hid C
    clear C
    go_wp2_with fail
    refine HC.out.mono ?_
    rintro e w3 ⟨Amm, cmm, rfl, hr, hc⟩
    have hb := hc.below0
    clear HC hc
    have HRqa := Lib.hid ((HRa.out.below hb).more hb.size)
    clear HRa
    have HRa := Lib.hid HRqa.out
    clear HRqa
    have HRqb := Lib.hid ((HRb.out.below hb).more hb.size)
    clear HRb
    have HRb := Lib.hid HRqb.out
    clear HRqb
    have HRqm := Lib.hid ((HRm.out.below hb).more hb.size)
    clear HRm
    have HRm := Lib.hid HRqm.out
    clear HRqm
    have HB3 := Lib.hid (HB2.out.trans (hb.mono HB2.out.size))
    clear HB2
    clear hb
    have HRmm := Lib.hid hr.rd
    clear hr
    have C := iJoinPosts_any w3.heap.size Aa Ab ka ca kb cb za zb w3 (Nat.le_refl _) HRa.out (by omega) HRb.out (by omega)
    rw [HKJ.out] at C
    rw [HJ.out] at C
    have HC := Lib.hid C
    clear C
    go_wp2_with fail
    refine HC.out.mono ?_
    rintro e w4 ⟨Aj, cj, rfl, hr, hc⟩
    have hb := hc.below0
    clear HC hc
    have HRqa := Lib.hid ((HRa.out.below hb).more hb.size)
    clear HRa
    have HRa := Lib.hid HRqa.out
    clear HRqa
    have HRqb := Lib.hid ((HRb.out.below hb).more hb.size)
    clear HRb
    have HRb := Lib.hid HRqb.out
    clear HRqb
    have HRqm := Lib.hid ((HRm.out.below hb).more hb.size)
    clear HRm
    have HRm := Lib.hid HRqm.out
    clear HRqm
    have HRqmm := Lib.hid ((HRmm.out.below hb).more hb.size)
    clear HRmm
    have HRmm := Lib.hid HRqmm.out
    clear HRqmm
    have HB4 := Lib.hid (HB3.out.trans (hb.mono HB3.out.size))
    clear HB3
    clear hb
    have HRj := Lib.hid hr.rd
    clear hr
    have C := sJoinPosts_any w4.heap.size Aa Ab ka ca kb cb za zb w4 (Nat.le_refl _) HRa.out (by omega) HRb.out (by omega)
    rw [HKJ.out] at C
    rw [HJ.out] at C
    have HC := Lib.hid C
    clear C
    go_wp2_with fail
    refine HC.out.mono ?_
    rintro e w5 ⟨Ajj, cjj, rfl, hr, hc⟩
    have hb := hc.below0
    clear HC hc
    have HRqa := Lib.hid ((HRa.out.below hb).more hb.size)
    clear HRa
    have HRa := Lib.hid HRqa.out
    clear HRqa
    have HRqb := Lib.hid ((HRb.out.below hb).more hb.size)
    clear HRb
    have HRb := Lib.hid HRqb.out
    clear HRqb
    have HRqm := Lib.hid ((HRm.out.below hb).more hb.size)
    clear HRm
    have HRm := Lib.hid HRqm.out
    clear HRqm
    have HRqmm := Lib.hid ((HRmm.out.below hb).more hb.size)
    clear HRmm
    have HRmm := Lib.hid HRqmm.out
    clear HRqmm
    have HRqj := Lib.hid ((HRj.out.below hb).more hb.size)
    clear HRj
    have HRj := Lib.hid HRqj.out
    clear HRqj
    have HB5 := Lib.hid (HB4.out.trans (hb.mono HB4.out.size))
    clear HB4
    clear hb
    have HRjj := Lib.hid hr.rd
    clear hr
    have C := iLessPosts_any w5.heap.size Aa Ab ka ca kb cb za zb w5 (Nat.le_refl _) HRa.out (by omega) HRb.out (by omega)
    rw [HK.out] at C
    rw [HE.out] at C
    have HC := Lib.hid C
    clear C
    go_wp2_with fail
    refine HC.out.mono ?_
    rintro e w6 ⟨Al, cl, rfl, hr, hc⟩
    have hb := hc.below0
    clear HC hc
    have HRqa := Lib.hid ((HRa.out.below hb).more hb.size)
    clear HRa
    have HRa := Lib.hid HRqa.out
    clear HRqa
    have HRqb := Lib.hid ((HRb.out.below hb).more hb.size)
    clear HRb
    have HRb := Lib.hid HRqb.out
    clear HRqb
    have HRqm := Lib.hid ((HRm.out.below hb).more hb.size)
    clear HRm
    have HRm := Lib.hid HRqm.out
    clear HRqm
    have HRqmm := Lib.hid ((HRmm.out.below hb).more hb.size)
    clear HRmm
    have HRmm := Lib.hid HRqmm.out
    clear HRqmm
    have HRqj := Lib.hid ((HRj.out.below hb).more hb.size)
    clear HRj
    have HRj := Lib.hid HRqj.out
    clear HRqj
    have HRqjj := Lib.hid ((HRjj.out.below hb).more hb.size)
    clear HRjj
    have HRjj := Lib.hid HRqjj.out
    clear HRqjj
    have HB6 := Lib.hid (HB5.out.trans (hb.mono HB5.out.size))
    clear HB5
    clear hb
    have HRl := Lib.hid hr.rd
    clear hr
    have C := sLessPosts_any w6.heap.size Aa Ab ka ca kb cb za zb w6 (Nat.le_refl _) HRa.out (by omega) HRb.out (by omega)
    rw [HK.out] at C
    rw [HE.out] at C
    have HC := Lib.hid C
    clear C
    go_wp2_with fail
    refine HC.out.mono ?_
    rintro e w7 ⟨All, cll, rfl, hr, hc⟩
    have hb := hc.below0
    clear HC hc
    have HRqa := Lib.hid ((HRa.out.below hb).more hb.size)
    clear HRa
    have HRa := Lib.hid HRqa.out
    clear HRqa
    have HRqb := Lib.hid ((HRb.out.below hb).more hb.size)
    clear HRb
    have HRb := Lib.hid HRqb.out
    clear HRqb
    have HRqm := Lib.hid ((HRm.out.below hb).more hb.size)
    clear HRm
    have HRm := Lib.hid HRqm.out
    clear HRqm
    have HRqmm := Lib.hid ((HRmm.out.below hb).more hb.size)
    clear HRmm
    have HRmm := Lib.hid HRqmm.out
    clear HRqmm
    have HRqj := Lib.hid ((HRj.out.below hb).more hb.size)
    clear HRj
    have HRj := Lib.hid HRqj.out
    clear HRqj
    have HRqjj := Lib.hid ((HRjj.out.below hb).more hb.size)
    clear HRjj
    have HRjj := Lib.hid HRqjj.out
    clear HRqjj
    have HRql := Lib.hid ((HRl.out.below hb).more hb.size)
    clear HRl
    have HRl := Lib.hid HRql.out
    clear HRql
    have HB7 := Lib.hid (HB6.out.trans (hb.mono HB6.out.size))
    clear HB6
    clear hb
    have HRll := Lib.hid hr.rd
    clear hr
    go_wp2_with fail
    refine (sameInts_same w7.heap.size Am Amm M.length cm cmm M w7 HRm.out HRmm.out (by omega)).mono ?_
    rintro e w8 ⟨rfl, hb⟩
    have HRqa := Lib.hid ((HRa.out.below hb).more hb.size)
    clear HRa
    have HRa := Lib.hid HRqa.out
    clear HRqa
    have HRqb := Lib.hid ((HRb.out.below hb).more hb.size)
    clear HRb
    have HRb := Lib.hid HRqb.out
    clear HRqb
    have HRqm := Lib.hid ((HRm.out.below hb).more hb.size)
    clear HRm
    have HRm := Lib.hid HRqm.out
    clear HRqm
    have HRqmm := Lib.hid ((HRmm.out.below hb).more hb.size)
    clear HRmm
    have HRmm := Lib.hid HRqmm.out
    clear HRqmm
    have HRqj := Lib.hid ((HRj.out.below hb).more hb.size)
    clear HRj
    have HRj := Lib.hid HRqj.out
    clear HRqj
    have HRqjj := Lib.hid ((HRjj.out.below hb).more hb.size)
    clear HRjj
    have HRjj := Lib.hid HRqjj.out
    clear HRqjj
    have HRql := Lib.hid ((HRl.out.below hb).more hb.size)
    clear HRl
    have HRl := Lib.hid HRql.out
    clear HRql
    have HRqll := Lib.hid ((HRll.out.below hb).more hb.size)
    clear HRll
    have HRll := Lib.hid HRqll.out
    clear HRqll
    have HB8 := Lib.hid (HB7.out.trans (hb.mono HB7.out.size))
    clear HB7
    clear hb
    go_wp2_with fail
    refine (sameInts_same w8.heap.size Aj Ajj J.length cj cjj J w8 HRj.out HRjj.out (by omega)).mono ?_
    rintro e w9 ⟨rfl, hb⟩
    have HRqa := Lib.hid ((HRa.out.below hb).more hb.size)
    clear HRa
    have HRa := Lib.hid HRqa.out
    clear HRqa
    have HRqb := Lib.hid ((HRb.out.below hb).more hb.size)
    clear HRb
    have HRb := Lib.hid HRqb.out
    clear HRqb
    have HRqm := Lib.hid ((HRm.out.below hb).more hb.size)
    clear HRm
    have HRm := Lib.hid HRqm.out
    clear HRqm
    have HRqmm := Lib.hid ((HRmm.out.below hb).more hb.size)
    clear HRmm
    have HRmm := Lib.hid HRqmm.out
    clear HRqmm
    have HRqj := Lib.hid ((HRj.out.below hb).more hb.size)
    clear HRj
    have HRj := Lib.hid HRqj.out
    clear HRqj
    have HRqjj := Lib.hid ((HRjj.out.below hb).more hb.size)
    clear HRjj
    have HRjj := Lib.hid HRqjj.out
    clear HRqjj
    have HRql := Lib.hid ((HRl.out.below hb).more hb.size)
    clear HRl
    have HRl := Lib.hid HRql.out
    clear HRql
    have HRqll := Lib.hid ((HRll.out.below hb).more hb.size)
    clear HRll
    have HRll := Lib.hid HRqll.out
    clear HRqll
    have HB9 := Lib.hid (HB8.out.trans (hb.mono HB8.out.size))
    clear HB8
    clear hb
    go_wp2_with fail
    refine (sameInts_same w9.heap.size Al All E.length cl cll E w9 HRl.out HRll.out (by omega)).mono ?_
    rintro e w10 ⟨rfl, hb⟩
    have HRqa := Lib.hid ((HRa.out.below hb).more hb.size)
    clear HRa
    have HRa := Lib.hid HRqa.out
    clear HRqa
    have HRqb := Lib.hid ((HRb.out.below hb).more hb.size)
    clear HRb
    have HRb := Lib.hid HRqb.out
    clear HRqb
    have HRqm := Lib.hid ((HRm.out.below hb).more hb.size)
    clear HRm
    have HRm := Lib.hid HRqm.out
    clear HRqm
    have HRqmm := Lib.hid ((HRmm.out.below hb).more hb.size)
    clear HRmm
    have HRmm := Lib.hid HRqmm.out
    clear HRqmm
    have HRqj := Lib.hid ((HRj.out.below hb).more hb.size)
    clear HRj
    have HRj := Lib.hid HRqj.out
    clear HRqj
    have HRqjj := Lib.hid ((HRjj.out.below hb).more hb.size)
    clear HRjj
    have HRjj := Lib.hid HRqjj.out
    clear HRqjj
    have HRql := Lib.hid ((HRl.out.below hb).more hb.size)
    clear HRl
    have HRl := Lib.hid HRql.out
    clear HRql
    have HRqll := Lib.hid ((HRll.out.below hb).more hb.size)
    clear HRll
    have HRll := Lib.hid HRqll.out
    clear HRqll
    have HB10 := Lib.hid (HB9.out.trans (hb.mono HB9.out.size))
    clear HB9
    clear hb
    obtain ⟨ga, hga⟩ : ∃ g, goodPosts za = g := ⟨_, rfl⟩
    have HGA := Lib.hid hga
    clear hga
    have C := iGoodPosts_any w10.heap.size Aa ka ca za w10 HRa.out (by omega)
    rw [HGA.out] at C
    have HC := Lib.hid C
    clear C
    go_wp2_with fail
    refine HC.out.mono ?_
    rintro e w' ⟨rfl, rfl⟩
    clear HC
    have C := sGoodPosts_any w10.heap.size Aa ka ca za w10 HRa.out (by omega)
    rw [HGA.out] at C
    have HC := Lib.hid C
    clear C
    go_wp2_with fail
    refine HC.out.mono ?_
    rintro e w' ⟨rfl, rfl⟩
    clear HC
    clear HRmm
    clear HRjj
    clear HRll
    go_upto_if 115 with fail
    go_cut [] (fun wx => Below w.heap.size w wx)
    case first =>
      cases K with
      | false =>
        go_wp2_with fail
        go_meet
        exact HB10.out
      | true =>
        have hk2 := HK.out
        simp only [Bool.and_eq_true] at hk2
        obtain ⟨hga, hgb⟩ := hk2
        have sa := (goodPosts_iff.1 hga).1
        have sb := (goodPosts_iff.1 hgb).1
        have eM : M = meetP za zb := by rw [← HM.out]; exact setR_yes HK.out
        have eE : E = lessP za zb := by rw [← HE.out]; exact setR_yes HK.out
        have k1 : (goodPosts za && goodPosts E) = true := by rw [hga, eE]; exact good_filter hga _
        have k2 : (goodPosts zb && goodPosts za) = true := by rw [hga, hgb]; rfl
        have K1 := Lib.hid k1
        have K2 := Lib.hid k2
        have E1 := Lib.hid (show setR lessP za E = M by rw [setR_yes k1, eE, less_less sa, eM])
        have E2 := Lib.hid (show setR meetP zb za = M by rw [setR_yes k2, meet_comm sb sa, eM])
        have GM := Lib.hid (show goodPosts M = true by rw [eM]; exact good_filter hga _)
        have LN := Lib.hid (show (M.length : Int) + (E.length : Int) = (ka : Int) by have := meet_less_len za zb; rw [eM, eE]; have := HLA.out; omega)
        have LJ := Lib.hid (show KJ = true → (J.length : Int) = (E.length : Int) + (kb : Int) by intro e; have e2 := joinR_yes (HKJ.out.trans e); rw [HJ.out] at e2; have := join_len sa sb; rw [e2, eE]; have := HLB.out; omega)
        clear hga hgb sa sb eM eE k1 k2
        have C := iLessPosts_any w10.heap.size Aa Al ka ca E.length cl za E w10 (Nat.le_refl _) HRa.out (by omega) HRl.out (by omega)
        rw [K1.out] at C
        rw [E1.out] at C
        have HC := Lib.hid C
        clear C
        go_wp2_with fail
        refine HC.out.mono ?_
        rintro e w11 ⟨An, cn, rfl, hr, hc⟩
        have hb := hc.below0
        clear HC hc
        have HRqa := Lib.hid ((HRa.out.below hb).more hb.size)
        clear HRa
        have HRa := Lib.hid HRqa.out
        clear HRqa
        have HRqb := Lib.hid ((HRb.out.below hb).more hb.size)
        clear HRb
        have HRb := Lib.hid HRqb.out
        clear HRqb
        have HRqm := Lib.hid ((HRm.out.below hb).more hb.size)
        clear HRm
        have HRm := Lib.hid HRqm.out
        clear HRqm
        have HRql := Lib.hid ((HRl.out.below hb).more hb.size)
        clear HRl
        have HRl := Lib.hid HRql.out
        clear HRql
        have HRqj := Lib.hid ((HRj.out.below hb).more hb.size)
        clear HRj
        have HRj := Lib.hid HRqj.out
        clear HRqj
        have HB11 := Lib.hid (HB10.out.trans (hb.mono HB10.out.size))
        clear HB10
        clear hb
        have HRn := Lib.hid hr.rd
        clear hr
        have C := iMeetPosts_any w11.heap.size Ab Aa kb cb ka ca zb za w11 (Nat.le_refl _) HRb.out (by omega) HRa.out (by omega)
        rw [K2.out] at C
        rw [E2.out] at C
        have HC := Lib.hid C
        clear C
        go_wp2_with fail
        refine HC.out.mono ?_
        rintro e w12 ⟨Ak, ck, rfl, hr, hc⟩
        have hb := hc.below0
        clear HC hc
        have HRqa := Lib.hid ((HRa.out.below hb).more hb.size)
        clear HRa
        have HRa := Lib.hid HRqa.out
        clear HRqa
        have HRqb := Lib.hid ((HRb.out.below hb).more hb.size)
        clear HRb
        have HRb := Lib.hid HRqb.out
        clear HRqb
        have HRqm := Lib.hid ((HRm.out.below hb).more hb.size)
        clear HRm
        have HRm := Lib.hid HRqm.out
        clear HRqm
        have HRql := Lib.hid ((HRl.out.below hb).more hb.size)
        clear HRl
        have HRl := Lib.hid HRql.out
        clear HRql
        have HRqj := Lib.hid ((HRj.out.below hb).more hb.size)
        clear HRj
        have HRj := Lib.hid HRqj.out
        clear HRqj
        have HRqn := Lib.hid ((HRn.out.below hb).more hb.size)
        clear HRn
        have HRn := Lib.hid HRqn.out
        clear HRqn
        have HB12 := Lib.hid (HB11.out.trans (hb.mono HB11.out.size))
        clear HB11
        clear hb
        have HRk := Lib.hid hr.rd
        clear hr
        have C := iGoodPosts_any w12.heap.size Am M.length cm M w12 HRm.out (by omega)
        rw [GM.out] at C
        have HC := Lib.hid C
        clear C
        go_wp2_with fail
        refine HC.out.mono ?_
        rintro e w' ⟨rfl, rfl⟩
        clear HC
        go_wp2_with fail
        refine (sameInts_same w12.heap.size An Am M.length cn cm M w12 HRn.out HRm.out (by omega)).mono ?_
        rintro e w13 ⟨rfl, hb⟩
        have HRqm := Lib.hid ((HRm.out.below hb).more hb.size)
        clear HRm
        have HRm := Lib.hid HRqm.out
        clear HRqm
        have HRqn := Lib.hid ((HRn.out.below hb).more hb.size)
        clear HRn
        have HRn := Lib.hid HRqn.out
        clear HRqn
        have HRqk := Lib.hid ((HRk.out.below hb).more hb.size)
        clear HRk
        have HRk := Lib.hid HRqk.out
        clear HRqk
        have HB13 := Lib.hid (HB12.out.trans (hb.mono HB12.out.size))
        clear HB12
        clear hb
        go_wp2_with fail
        refine (sameInts_same w13.heap.size Ak Am M.length ck cm M w13 HRk.out HRm.out (by omega)).mono ?_
        rintro e w14 ⟨rfl, hb⟩
        have HRqm := Lib.hid ((HRm.out.below hb).more hb.size)
        clear HRm
        have HRm := Lib.hid HRqm.out
        clear HRqm
        have HRqn := Lib.hid ((HRn.out.below hb).more hb.size)
        clear HRn
        have HRn := Lib.hid HRqn.out
        clear HRqn
        have HRqk := Lib.hid ((HRk.out.below hb).more hb.size)
        clear HRk
        have HRk := Lib.hid HRqk.out
        clear HRqk
        have HB14 := Lib.hid (HB13.out.trans (hb.mono HB13.out.size))
        clear HB13
        clear hb
        have ln := LN.out
        have lj := LJ.out
        cases KJ with
        | false =>
          go_wp2_with fail
          go_meet
          exact HB14.out
        | true =>
          have lj2 := lj rfl
          clear lj
          go_wp2_with fail
          go_meet
          exact HB14.out
    case rest =>
      have HC := Lib.hid hcut
      have hcs := hcut.size
      have HD := Lib.hid ((H'.out.below hcut).more hcut.size)
      clear hcut HB10 HRa HRb HRm HRl HRj
      go_wp2_with fail
      refine (DrawLeapFrom_any A' n' c' l' _ HD.out (by omega)).mono ?_
      rintro e y1 ⟨_, rfl, ⟨Ax, cx, kx, zx, f, x, rfl, hkx, hox, hf0, hf1, hx0, hx1⟩, hb⟩
      have HBY := Lib.hid (HC.out.trans (hb.mono hcs))
      have HRx := Lib.hid (Rd.of_own hox)
      have hlx := (Rd.of_own hox).int_len
      clear hb hox HD HC
      have C1 := iLeapFrom_any y1.heap.size Ax kx cx zx f x y1 HRx.out (by omega)
      have C2 := sLeapFrom_any y1.heap.size Ax kx cx zx f x y1 HRx.out (by omega)
      obtain ⟨KK, hKK⟩ : ∃ K, (goodPosts zx && inB f 0 kx) = K := ⟨_, rfl⟩
      rw [hKK] at C1 C2
      cases KK with
      | false =>
        have C1' := Lib.hid C1
        have C2' := Lib.hid C2
        clear C1 C2 hKK
        go_wp2_with fail
        refine C1'.out.mono ?_
        rintro e w' ⟨rfl, rfl⟩
        go_wp2_with fail
        refine C2'.out.mono ?_
        rintro e w' ⟨rfl, rfl⟩
        go_wp2
        go_ret
        exact ⟨rfl, HBY.out⟩
      | true =>
        simp only [Bool.and_eq_true] at hKK
        obtain ⟨hf2, hf3⟩ := inB_iff.1 hKK.2
        obtain ⟨fn, rfl⟩ := Int.eq_ofNat_of_zero_le hf2
        have hsp := leap_spec (zs := zx) (x := x) (kx - fn) fn (by omega)
        simp only [Int.toNat_natCast, if_true] at C1 C2
        obtain ⟨R, hR⟩ : ∃ R, leap zx x (kx - fn) fn = R := ⟨_, rfl⟩
        rw [hR] at C1 C2 hsp
        obtain ⟨r1, r2, r3, r4⟩ := hsp
        have C1' := Lib.hid C1
        have C2' := Lib.hid C2
        have R3 := Lib.hid r3
        have R4 := Lib.hid r4
        have HLX := Lib.hid hlx
        clear C1 C2 hKK hR r3 r4 hlx
        have hrk : R ≤ kx := by have := HLX.out; omega
        clear r2
        go_wp2_with fail
        refine C1'.out.mono ?_
        rintro e w' ⟨rfl, rfl⟩
        go_wp2_with fail
        refine C2'.out.mono ?_
        rintro e w' ⟨rfl, rfl⟩
        have g1 : ¬ ((R : Int) < (fn : Int)) := by omega
        by_cases hR1 : R < kx
        · obtain ⟨b, off, y, rfl, hB, hy, hcy⟩ := HRx.out.int_at hR1
          have hyx : ¬ y < x := by have := R3.out y hy; omega
          by_cases hR2 : fn < R
          · obtain ⟨b2, off2, z, he, hB2, hz, hcz⟩ := HRx.out.int_at (k := R - 1) (by omega)
            obtain ⟨rfl, rfl⟩ : b = b2 ∧ off = off2 := by simpa using he
            have hzx : z < x := R4.out hR2 z hz
            have hr1 : ((R : Int) - 1) = ((R - 1 : Nat) : Int) := by omega
            clear hy hz he
            go_wp2
            go_ret
            exact ⟨rfl, HBY.out⟩
          · clear hy
            go_wp2
            go_ret
            exact ⟨rfl, HBY.out⟩
        · by_cases hR2 : fn < R
          · obtain ⟨b2, off2, z, rfl, hB2, hz, hcz⟩ := HRx.out.int_at (k := R - 1) (by omega)
            have hzx : z < x := R4.out hR2 z hz
            have hr1 : ((R : Int) - 1) = ((R - 1 : Nat) : Int) := by omega
            clear hz
            go_wp2
            go_ret
            exact ⟨rfl, HBY.out⟩
          · go_wp2
            go_ret
            exact ⟨rfl, HBY.out⟩
  · go_enter Try.func10, Try.ntmps10
    go_wp2
    go_ret
    exact ⟨rfl, Below.refl _ _⟩
end Go.Proofs.Ytjadjkdihjddoaa
