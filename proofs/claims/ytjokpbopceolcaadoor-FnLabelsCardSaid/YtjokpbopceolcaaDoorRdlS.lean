/- ReadLabels: the reference's walk. -/
import Derived.Test.YtjokpbopceolcaaDoorSplS
import Derived.Test.YtjokpbopceolcaaDoorGotR
import Derived.Test.YtjokpbopceolcaaDoorTwo
namespace Go.Proofs.YtjokpbopceolcaaDoor
set_option linter.unusedVariables false
set_option linter.unusedSimpArgs false
open Go.RowKit

theorem own_casesX {w : World} {base e size n c : Nat} {A : Option Addr} {xs : List Value} (h : w.ownsRow base e size (.slice A n c) n xs) (hn : 0 < n) : ∃ g, A = some ⟨g, 0, none⟩ := by
  rcases h.2 with ⟨_, rfl⟩ | ⟨g, cap, cur, hv, _⟩
  · omega
  · injection hv with e1 _ e3
    exact ⟨g, e1⟩
def LR (s : ByteArray) (w : World) (e : Ending) (w' : World) : Prop := match refL s.data.toList with
  | some l => GotR 48 2 w l.length (lbls l) true e w'
  | none => GotR 48 2 w 0 [] false e w'
theorem LR.no_ {s : ByteArray} {w w' : World} (h : refL s.data.toList = none) (hb : Below w.heap.size w w') : LR s w (.returned (.tuple #[.slice none 0 0, .bool false])) w' := by
  unfold LR; rw [h]; exact GotR.no_ hb
theorem LR.yes {s : ByteArray} {w w' : World} {l : List Lab} {A : Option Addr} {c n : Nat} (h : refL s.data.toList = some l) (hn : n = l.length) (ho : w'.ownsRow w.heap.size 48 2 (.slice A n c) n (lbls l)) (hb : Below w.heap.size w w') : LR s w (.returned (.tuple #[.slice A n c, .bool true])) w' := by
  subst hn; unfold LR; rw [h]; exact GotR.own_ ho hb
theorem pairs1_snoc : ∀ (a : List (List UInt8)) (t : List UInt8) {l : List Lab}, pairs1 a = some l → pairs1 (a ++ [t]) = (pair1 t).map fun p => l ++ [p]
  | [], t, l, h => by
    simp [pairs1] at h; subst h
    simp only [List.nil_append, pairs1]
    cases pair1 t <;> rfl
  | x :: a, t, l, h => by
    rw [pairs1] at h
    rw [List.cons_append, pairs1]
    cases e : pair1 x with
    | none => rw [e] at h; cases h
    | some p =>
      rw [e] at h
      cases e2 : pairs1 a with
      | none => rw [e2] at h; cases h
      | some l' =>
        rw [e2] at h
        have h : some (p :: l') = some l := h
        injection h with h
        subst h
        show (pairs1 (a ++ [t])).map (p :: ·) = _
        rw [pairs1_snoc a t e2]
        cases pair1 t <;> rfl
theorem pairs1_bad : ∀ (a : List (List UInt8)) (t : List UInt8) (b : List (List UInt8)), pair1 t = none → pairs1 (a ++ t :: b) = none
  | [], t, b, h => by rw [List.nil_append, pairs1, h]
  | x :: a, t, b, h => by
    rw [List.cons_append, pairs1]
    cases pair1 x with
    | none => rfl
    | some p => show (pairs1 (a ++ t :: b)).map (p :: ·) = none; rw [pairs1_bad a t b h]; rfl
theorem pair1_two {t : List UInt8} (h : (sp 61 t).length = 2) : ∃ a b, sp 61 t = [a, b] ∧ pair1 t = some (toB a, toB b) := by
  match e : sp 61 t with
  | [] => rw [e] at h; simp at h
  | [a] => rw [e] at h; simp at h
  | [a, b] => exact ⟨a, b, rfl, by unfold pair1; rw [e]⟩
  | a :: b :: c :: r => rw [e] at h; simp at h
theorem pair1_not {t : List UInt8} (h : (sp 61 t).length ≠ 2) : pair1 t = none := by
  unfold pair1
  split
  · rename_i a b e; rw [e] at h; simp at h
  · rfl
theorem refL_no {s : List UInt8} (h : ¬ (s.length ≤ 600 ∧ braced s)) : refL s = none := by unfold refL; rw [if_neg h]
theorem refL_pairs {s : List UInt8} (h : s.length ≤ 600 ∧ braced s) (h2 : 2 < s.length) :
    (pairs1 (sp 44 (bodyOf s)) = none → refL s = none) ∧ ∀ l, pairs1 (sp 44 (bodyOf s)) = some l → (goodLab l = true → refL s = some l) ∧ (goodLab l = false → refL s = none) := by
  unfold refL
  rw [if_pos h, if_pos h2]
  exact ⟨fun e => by rw [e], fun l e => ⟨fun g => by rw [e]; exact if_pos g, fun g => by rw [e]; exact if_neg (by simp [g])⟩⟩
theorem refL_two {s : List UInt8} (h : s.length ≤ 600 ∧ braced s) (h2 : ¬ 2 < s.length) : refL s = some [] := by
  have e : goodLab [] = true := by decide
  unfold refL
  rw [if_pos h, if_neg h2]
  exact if_pos e
theorem cutLen_le (c : UInt8) (t : List UInt8) : ∀ p ∈ sp c t, p.length ≤ t.length := by
  induction t with
  | nil => intro p hp; simp [sp] at hp; subst hp; simp
  | cons x l ih =>
    intro p hp
    rw [sp] at hp
    by_cases h : x = c
    · rw [if_pos h] at hp
      rcases List.mem_cons.1 hp with rfl | hp
      · simp
      · have := ih p hp; simp; omega
    · rw [if_neg h] at hp
      cases e : sp c l with
      | nil => exact absurd e (sp_ne c l)
      | cons a r =>
        rw [e] at hp ih
        simp only [glue, List.singleton_append, List.mem_cons] at hp
        rcases hp with rfl | hp
        · have := ih a (by simp); simp; omega
        · have := ih p (by simp [hp]); simp; omega
set_option maxRecDepth 100000 in
set_option maxHeartbeats 8000000 in
theorem sReadLabels_any (s : ByteArray) (w : World) (hs : s.size ≤ 1048576) : Calls Tryd.prog 7 #[.string s] w (LR s w) := by
  obtain ⟨i0, hi, hz0, hz1, hz2⟩ := info_parts infoLabel
  have HI := Lib.hid (And.intro hi (And.intro hz0 (And.intro hz1 hz2)))
  clear hi hz0 hz1 hz2
  have CIN := Lib.hid (fun w => l1In_any s.size 2 600 w)
  have hsz : s.data.toList.length = s.size := by simp
  have HA := Lib.hid (fun (k : Nat) (h : k < s.size) => byte_atG s k h)
  have HNO := Lib.hid (fun h => refL_no (s := s.data.toList) h)
  have HSZ := Lib.hid hsz
  clear hsz
  cases hin : inB (s.size : Int) 2 600 with
  | false =>
    rw [hin] at CIN
    have HN := Lib.hid (HNO.out (fun h => by
      have h1 := h.2.1
      rw [HSZ.out] at h h1
      have : inB (s.size : Int) 2 600 = true := inB_iff.2 (by omega)
      rw [hin] at this; cases this))
    clear hin
    go_enter Tryd.func7, Tryd.ntmps7
    go_wp2_with fail
    refine (CIN.out _).mono ?_
    rintro e w' ⟨rfl, rfl⟩
    go_wp2
    go_ret2
    exact LR.no_ HN.out (Below.refl _ _)
  | true =>
    rw [hin] at CIN
    have hb2 := inB_iff.1 hin
    clear hin
    have h0s : 0 < s.size := by omega
    have hx0 := HA.out 0 h0s
    by_cases hc0 : s[0] = 123
    · have p1 : s[0].toNat = 123 := by rw [hc0]; rfl
      have p2 : ((s[0].toNat : Int) == 123) = true := by rw [hc0]; rfl
      have p3 : ((s[0].toNat : Int) != 123) = false := by rw [bne, p2]; rfl
      have p4 : (s[0].toNat : Int) = 123 := by omega
      obtain ⟨m, hm⟩ : ∃ m, m + 1 = s.size := ⟨s.size - 1, by omega⟩
      have hms : m < s.size := by omega
      have hmi : ((s.size : Int) - 1) = (m : Int) := by omega
      have hx1 := HA.out m hms
      by_cases hc1 : s[m] = 125
      · have r1 : s[m].toNat = 125 := by rw [hc1]; rfl
        have r2 : ((s[m].toNat : Int) == 125) = true := by rw [hc1]; rfl
        have r3 : ((s[m].toNat : Int) != 125) = false := by rw [bne, r2]; rfl
        have r4 : (s[m].toNat : Int) = 125 := by omega
        have hbr : s.data.toList.length ≤ 600 ∧ braced s.data.toList := by
          unfold braced
          rw [HSZ.out]
          exact ⟨by omega, by omega, by rw [hx0, hc0], by rw [show s.size - 1 = m by omega, hx1, hc1]⟩
        have HBR := Lib.hid hbr
        clear hx0 hc0 hx1 hc1 hbr
        by_cases h2 : 2 < s.size
        · have HP := Lib.hid (refL_pairs HBR.out (by rw [HSZ.out]; exact h2))
          obtain ⟨T, hT⟩ : ∃ T, s.extract 1 m = T := ⟨_, rfl⟩
          have hTs : T.size ≤ 600 := by rw [← hT]; simp; omega
          have hTl : T.data.toList = bodyOf s.data.toList := by
            rw [← hT, ByteArray.data_extract, Array.toList_extract]
            unfold bodyOf
            rw [HSZ.out, show s.size - 2 = m - 1 by omega]
          have CSP := l3Split_any T 44
          rw [hTl] at CSP
          obtain ⟨ps, hps⟩ : ∃ ps, sp 44 (bodyOf s.data.toList) = ps := ⟨_, rfl⟩
          have hpl : ∀ p ∈ ps, p.length ≤ 600 := by
            rw [← hps]
            intro p hp
            have := cutLen_le 44 _ p hp
            have h3 : (bodyOf s.data.toList).length = T.size := by rw [← hTl]; simp
            omega
          have hnl : ps.length ≤ 601 := by
            rw [← hps, sp_len]
            have := List.count_le_length (a := 44) (l := bodyOf s.data.toList)
            have h3 : (bodyOf s.data.toList).length = T.size := by rw [← hTl]; simp
            omega
          rw [hps] at CSP HP
          obtain ⟨N, hN⟩ : ∃ N, ps.length = N := ⟨_, rfl⟩
          rw [hN] at CSP hnl
          have HCS := Lib.hid (fun w => CSP w (by omega))
          have HPL := Lib.hid hpl
          have HN := Lib.hid hN
          clear CSP hTl hps hpl hN
          go_enter Tryd.func7, Tryd.ntmps7
          go_wp2_with fail
          refine (CIN.out _).mono ?_
          rintro e w' ⟨rfl, rfl⟩
          go_wp2_with fail
          refine (HCS.out _).mono ?_
          rintro e w1 ⟨A1, c1, rfl, ho1, hb1⟩
          have HR1 := Lib.hid (Rd.of_own ho1)
          have HB1 := Lib.hid hb1
          have hs1 := hb1.size
          clear ho1 hb1 HCS
          go_wp2_with fail
          go_loopw [4, 35] (fun v i wr => ∃ (k : Nat) (A : Option Addr) (cc : Nat) (l : List Lab), k ≤ N ∧ i = .int .i64 k ∧ v = .slice A k cc ∧ l.length = k ∧ wr.ownsRow w1.heap.size 48 2 (.slice A k cc) k (lbls l) ∧ Below w1.heap.size w1 wr ∧ Hid (pairs1 (ps.take k) = some l ∧ ∀ p ∈ l, p.1.size ≤ 600 ∧ p.2.size ≤ 600)) (fun _ i _ => N - (intOf i).toNat)
          case atStart => exact ⟨0, none, 0, [], Nat.zero_le _, rfl, rfl, rfl, World.ownsRow_nil _ _ _ _, Below.refl _ _, Lib.hid ⟨rfl, fun p hp => by cases hp⟩⟩
          case round =>
            obtain ⟨k, A, cc, l, hk, rfl, rfl, hl, ho, hb, HQ⟩ := hrel
            have HO := Lib.hid ho
            have HB := Lib.hid hb
            have HLk := Lib.hid hl
            have hsr := hb.size
            clear ho hb hl
            by_cases hlt : k < N
            · obtain ⟨b, off, xt, rfl, hbB, hxt, hct⟩ := HR1.out.str_at hlt
              have hct' := (bcell HB.out b (off + k) (by omega)).trans hct
              obtain ⟨t, ht, htb⟩ : ∃ t, ps[k]? = some t ∧ xt = toB t := by
                rw [List.getElem?_map] at hxt
                cases e : ps[k]? with
                | none => rw [e] at hxt; cases hxt
                | some t => rw [e] at hxt; injection hxt with hxt; exact ⟨t, rfl, hxt.symm⟩
              have htl := HPL.out t (List.mem_of_getElem? ht)
              have hts : xt.size ≤ 600 := by rw [htb, toB_size]; exact htl
              have htd : xt.data.toList = t := by rw [htb, toB_data]
              have CS2 := l3Split_any xt 61
              rw [htd] at CS2
              have HDR := Lib.hid (List.take_append_drop (k + 1) ps)
              have HSN := Lib.hid (take_snoc' ps k t ht)
              have hsl : ∀ p ∈ sp 61 t, p.length ≤ 600 := fun p hp => Nat.le_trans (cutLen_le 61 t p hp) htl
              have HSL := Lib.hid hsl
              have hcnt : (sp 61 t).length ≤ 601 := by rw [sp_len]; have := List.count_le_length (a := 61) (l := t); omega
              by_cases htwo : (sp 61 t).length = 2
              · obtain ⟨a, b2, hab, hpr⟩ := pair1_two htwo
                have HE := Lib.hid (show pairs1 (ps.take (k + 1)) = some (l ++ [(toB a, toB b2)]) by rw [HSN.out, pairs1_snoc _ _ HQ.out.1, hpr]; rfl)
                have HSM := Lib.hid (show ∀ p ∈ l ++ [(toB a, toB b2)], p.1.size ≤ 600 ∧ p.2.size ≤ 600 from fun p hp => by
                  rcases List.mem_append.1 hp with h3 | h3
                  · exact HQ.out.2 p h3
                  · rw [List.mem_singleton.1 h3, toB_size, toB_size]; exact ⟨hsl a (by rw [hab]; simp), hsl b2 (by rw [hab]; simp)⟩)
                rw [htwo, hab] at CS2
                have HCS2 := Lib.hid (fun w => CS2 w (by omega))
                clear CS2 htd htl htb ht hxt hsl hcnt htwo hab hpr
                go_wp2_with fail
                refine (HCS2.out _).mono ?_
                rintro e w2 ⟨A2, c2, rfl, ho2, hb2⟩
                obtain ⟨g2, rfl⟩ := own_casesX ho2 (by omega)
                have hg2 := (ho2.lt g2 rfl)
                have hd0 : w2.cell? ⟨g2, 0, none⟩ = some (.string (toB a)) := by rw [ho2.cellAt 0 (by omega)]; rfl
                have hd1 : w2.cell? ⟨g2, 1, none⟩ = some (.string (toB b2)) := by rw [ho2.cellAt 1 (by omega)]; rfl
                have HNEQ : ∀ g, (Value.slice A k cc).ownBlock = some g → g ≠ g2 := fun g e => by have := (HO.out.lt g e).2; omega
                have hg2l : g2 < w2.heap.size := hg2.2
                have HO2 := Lib.hid (own_below HO.out hb2 (Nat.le_refl _))
                have HB2 := Lib.hid (HB.out.trans (hb2.mono HB.out.size))
                have hs2 := hb2.size
                clear ho2 hb2 HO HB HCS2 hct hct' hg2
                obtain ⟨xa, hxa⟩ : ∃ x, toB a = x := ⟨_, rfl⟩
                obtain ⟨xb, hxb⟩ : ∃ x, toB b2 = x := ⟨_, rfl⟩
                rw [hxa] at hd0 HE HSM
                rw [hxb] at hd1 HE HSM
                have HNE := Lib.hid HNEQ
                clear hxa hxb HNEQ
                go_wp2_with fail
                go_region_held3 (fun w' => w'.cell? ⟨g2, 0, none⟩ = some (.string xa) ∧ w'.cell? ⟨g2, 1, none⟩ = some (.string xb))
                  (first
                    | go_keep
                    | (go_split_ands
                       exact ⟨grown_cell hgrow (by assumption) (by simp; omega) (fun g e => HNE.out g e), grown_cell hgrow (by assumption) (by simp; omega) (fun g e => HNE.out g e)⟩))
                  ((refine step_append_lies _ (by rfl) (.tmp 44) (.tmp 52) 22 (by rfl) w1.heap.size 48 i0 (.agg #[.string .empty, .string .empty]) 2 32 Tryd.underlying22 HI.out.1 HI.out.2.1 HI.out.2.2.1 HI.out.2.2.2 rfl (by decide) _ k (lbls l) (by rfl) (HO2.out.drew.alloc _) _ 1 1 [.string xa, .string xb] (by rfl) rfl (World.news_of_block (cs := #[.string xa, .string xb]) (t := 48) (fr := (0, 0)) (heap_alloc_new _ _)) (by simp [Value.oneCell']) (by decide) (by unfold maxLen; omega) (by omega) (by simp; omega) _ rfl ?_
                    intro g cap w3 ho3 hgrow hat hltg
                    have HBN := Lib.hid ((HB2.out.drew.alloc (by simp; omega) _).grown hgrow (by simp; omega) (fun k hk => (HO2.out.lt k hk).1))))
                all_goals go_wp2
                all_goals go_roundw
                case rel => exact ⟨k + 1, _, _, l ++ [(xa, xb)], by omega, by go_num, rfl, by rw [List.length_append, HLk.out]; rfl, by rw [lbls_app]; exact ho3, HBN.out, Lib.hid ⟨HE.out, HSM.out⟩⟩
                case measure => simp [intOf]; omega
              · have HBAD := Lib.hid (HP.out.1 (by rw [← HDR.out, HSN.out, List.append_assoc]; exact pairs1_bad _ t _ (pair1_not htwo)))
                obtain ⟨q, hq⟩ : ∃ q, (sp 61 t).length = q := ⟨_, rfl⟩
                rw [hq] at CS2 hcnt htwo
                have HCS2 := Lib.hid (fun w => CS2 w (by omega))
                clear CS2 htd htl htb ht hxt hsl hq HSL
                go_wp2_with fail
                refine (HCS2.out _).mono ?_
                rintro e w2 ⟨A2, c2, rfl, ho2, hb2⟩
                have HB2 := Lib.hid (HB1.out.trans ((HB.out.trans (hb2.mono HB.out.size)).mono hs1))
                have htwo' : ¬ (q : Int) = 2 := by omega
                clear ho2 hb2
                go_wp2
                go_ret2
                exact LR.no_ HBAD.out HB2.out
            · obtain rfl : k = N := by omega
              have HFIN := Lib.hid (HP.out.2 l (by have := HQ.out.1; rwa [List.take_of_length_le (by rw [HN.out]; exact Nat.le_refl _)] at this))
              have CG := Lib.hid (sGoodLabels_any wr.heap.size A k cc l wr (Nat.le_refl _) (Rd.of_own HO.out) (by omega) (fun p hp => by have := HQ.out.2 p hp; omega))
              have HBw := Lib.hid (HB1.out.trans (HB.out.mono hs1))
              have hsw := HB1.out.size
              cases hg : goodLab l with
              | true =>
                have HF := Lib.hid (HFIN.out.1 hg)
                rw [hg] at CG
                clear hg
                go_wp2_with fail
                refine CG.out.mono ?_
                rintro e w3 ⟨rfl, hb3⟩
                have HO3 := Lib.hid (own_mono (own_below HO.out hb3 (Nat.le_refl _)) hsw)
                have HB3 := Lib.hid (HBw.out.trans (hb3.mono HBw.out.size))
                clear hb3
                go_wp2
                go_ret2
                exact LR.yes HF.out HLk.out.symm HO3.out HB3.out
              | false =>
                have HF := Lib.hid (HFIN.out.2 hg)
                rw [hg] at CG
                clear hg
                go_wp2_with fail
                refine CG.out.mono ?_
                rintro e w3 ⟨rfl, hb3⟩
                have HB3 := Lib.hid (HBw.out.trans (hb3.mono HBw.out.size))
                clear hb3
                go_wp2
                go_ret2
                exact LR.no_ HF.out HB3.out
        · have HF := Lib.hid (refL_two HBR.out (by rw [HSZ.out]; exact h2))
          have CG := Lib.hid (fun w => sGoodLabels_any w.heap.size none 0 0 [] w (Nat.le_refl _) Rd.nil_ (by omega) (fun p hp => by cases hp))
          rw [show goodLab [] = true by decide] at CG
          go_enter Tryd.func7, Tryd.ntmps7
          go_wp2_with fail
          refine (CIN.out _).mono ?_
          rintro e w' ⟨rfl, rfl⟩
          go_wp2_with fail
          refine (CG.out _).mono ?_
          rintro e w3 ⟨rfl, hb3⟩
          have HB3 := Lib.hid hb3
          clear hb3
          go_wp2
          go_ret2
          exact LR.yes HF.out rfl (World.ownsRow_nil _ _ _ _) HB3.out
      · have r1 : ¬ s[m].toNat = 125 := fun e => hc1 (UInt8.toNat_inj.1 (by rw [e]; rfl))
        have r2 : ((s[m].toNat : Int) == 125) = false := by rw [beq_eq_false_iff_ne]; omega
        have r3 : ((s[m].toNat : Int) != 125) = true := by rw [bne, r2]; rfl
        have r4 : ¬ (s[m].toNat : Int) = 125 := by omega
        have HN := Lib.hid (HNO.out (fun h => by
          have h1 := h.2.2.2
          rw [HSZ.out, show s.size - 1 = m by omega, hx1] at h1
          injection h1 with h1
          exact hc1 h1))
        clear hx0 hc0 hx1 hc1
        go_enter Tryd.func7, Tryd.ntmps7
        go_wp2_with fail
        refine (CIN.out _).mono ?_
        rintro e w' ⟨rfl, rfl⟩
        go_wp2
        go_ret2
        exact LR.no_ HN.out (Below.refl _ _)
    · have p1 : ¬ s[0].toNat = 123 := fun e => hc0 (UInt8.toNat_inj.1 (by rw [e]; rfl))
      have p2 : ((s[0].toNat : Int) == 123) = false := by rw [beq_eq_false_iff_ne]; omega
      have p3 : ((s[0].toNat : Int) != 123) = true := by rw [bne, p2]; rfl
      have p4 : ¬ (s[0].toNat : Int) = 123 := by omega
      have HN := Lib.hid (HNO.out (fun h => by
        have h1 := h.2.2.1
        rw [hx0] at h1
        injection h1 with h1
        exact hc0 h1))
      clear hx0 hc0
      go_enter Tryd.func7, Tryd.ntmps7
      go_wp2_with fail
      refine (CIN.out _).mono ?_
      rintro e w' ⟨rfl, rfl⟩
      go_wp2
      go_ret2
      exact LR.no_ HN.out (Below.refl _ _)
end Go.Proofs.YtjokpbopceolcaaDoor
