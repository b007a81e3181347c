/- MergeLabels: the reference's walk, and the law. -/
import Derived.Test.YtjokpbopceolcaaDoorMergeI
import Derived.Test.YtjokpbopceolcaaDoorAppR
import Derived.Test.YtjokpbopceolcaaDoorTwo
namespace Go.Proofs.YtjokpbopceolcaaDoor
set_option linter.unusedVariables false
set_option linter.unusedSimpArgs false
open Go.RowKit

theorem drop_at {α : Type} {l : List α} {k : Nat} {x : α} (h : l[k]? = some x) : l.drop k = x :: l.drop (k + 1) := by
  obtain ⟨h1, rfl⟩ := List.getElem?_eq_some_iff.1 h
  exact List.drop_eq_getElem_cons h1
theorem lbls_drop (l : List Lab) (k : Nat) : (lbls l).drop (k * 2) = lbls (l.drop k) := by
  induction l generalizing k with
  | nil => simp [lbls]
  | cons p l ih =>
    cases k with
    | zero => simp [lbls]
    | succ k =>
      have e : (k + 1) * 2 = k * 2 + 2 := by omega
      rw [e]
      show (lbls l).drop (k * 2) = _
      rw [ih]
      rfl
theorem merge_len (a b : List Lab) : (merge a b).length ≤ a.length + b.length := by
  have key : ∀ (f : Nat) (a b : List Lab), (mergeR f a b).length ≤ a.length + b.length := by
    intro f
    induction f with
    | zero => intro a b; simp [mergeR]
    | succ f ih =>
      intro a b
      cases b with
      | nil => rw [mergeR_nil_r]; simp
      | cons y b =>
        cases a with
        | nil => rw [mergeR_nil_l]; simp
        | cons x a =>
          rw [mergeR]
          have h1 := ih a (y :: b)
          have h2 := ih a b
          have h3 := ih (x :: a) b
          simp only [List.length_cons] at *
          split
          · simp only [List.length_cons]; omega
          · split <;> simp only [List.length_cons] <;> omega
  exact key _ a b
/-- What the loops keep: what is out, and what is to be merged yet. -/
def MInv (a b out : List Lab) (i k : Nat) : Prop := out ++ merge (a.drop i) (b.drop k) = merge a b
theorem MInv.zero (a b : List Lab) : MInv a b [] 0 0 := rfl
section
variable {a b out : List Lab} {i k : Nat} {p x : Lab}
theorem MInv.less (h : MInv a b out i k) (hp : a[i]? = some p) (hx : b[k]? = some x) (hl : lessS p.1 x.1 = true) : MInv a b (out ++ [p]) (i + 1) k := by
  unfold MInv at *
  rw [drop_at hp, drop_at hx, merge_less hl] at h
  rw [← h, List.append_assoc, drop_at hx]; rfl
theorem MInv.same (h : MInv a b out i k) (hp : a[i]? = some p) (hx : b[k]? = some x) (he : p.1 = x.1) : MInv a b (out ++ [x]) (i + 1) (k + 1) := by
  unfold MInv at *
  rw [drop_at hp, drop_at hx, merge_same he] at h
  rw [← h, List.append_assoc]; rfl
theorem MInv.more (h : MInv a b out i k) (hp : a[i]? = some p) (hx : b[k]? = some x) (hl : lessS p.1 x.1 = false) (he : ¬ p.1 = x.1) : MInv a b (out ++ [x]) i (k + 1) := by
  unfold MInv at *
  rw [drop_at hp, drop_at hx, merge_more hl he] at h
  rw [← h, List.append_assoc, drop_at hp]; rfl
theorem MInv.last (h : MInv a b out i k) (hi : a.length ≤ i) (hx : b[k]? = some x) : MInv a b (out ++ [x]) i (k + 1) := by
  unfold MInv at *
  rw [List.drop_of_length_le hi] at *
  rw [drop_at hx, merge_nil_l] at h
  rw [← h, List.append_assoc, merge_nil_l]; rfl
theorem MInv.end_ (h : MInv a b out i k) (hk : b.length ≤ k) : out ++ a.drop i = merge a b := by
  unfold MInv at h
  rw [List.drop_of_length_le hk, merge_nil_r] at h
  exact h
theorem MInv.len (h : MInv a b out i k) : out.length ≤ a.length + b.length := by
  have h1 := merge_len a b
  unfold MInv at h
  rw [← h, List.length_append] at h1
  omega
end
set_option maxRecDepth 100000 in
set_option maxHeartbeats 8000000 in
theorem sMergeLabels_any (B : Nat) (A A' : Option Addr) (n c n' c' : Nat) (a b : List Lab) (w : World) (hBw : B ≤ w.heap.size) (h : Rd w B 2 A n (lbls a)) (hn : n ≤ 1048576) (hcap : n ≤ c) (h' : Rd w B 2 A' n' (lbls b)) (hn' : n' ≤ 1048576) (hfa : lblFit a) (hfb : lblFit b) :
    Calls Tryd.prog 24 #[.slice A n c, .slice A' n' c'] w (GotR 48 2 w (mergeL a b).length (lbls (mergeL a b)) (okMerge a b)) := by
  have C1 := Lib.hid (sGoodLabels_any B A n c a w hBw h hn hfa)
  have C2 := Lib.hid (fun w1 (hb : Below w.heap.size w w1) => sGoodLabels_any B A' n' c' b w1 (Nat.le_trans hBw hb.size) (h'.below (hb.mono hBw)) hn' hfb)
  clear hfa hfb
  cases hg1 : goodLab a with
  | false =>
    have hk : okMerge a b = false := by unfold okMerge; rw [hg1]; rfl
    have HK := Lib.hid hk
    rw [hg1] at C1
    clear hg1 h h' hk C2
    go_enter Tryd.func24, Tryd.ntmps24
    go_wp2_with fail
    refine C1.out.mono ?_
    rintro e w1 ⟨rfl, hb1⟩
    have HB := Lib.hid hb1
    clear hb1
    go_wp2
    go_ret2
    rw [merge_no HK.out, HK.out]
    exact GotR.no_ HB.out
  | true =>
    rw [hg1] at C1
    cases hg2 : goodLab b with
    | false =>
      have hk : okMerge a b = false := by unfold okMerge; rw [hg1, hg2]; rfl
      have HK := Lib.hid hk
      rw [hg2] at C2
      clear hg1 hg2 h h' hk
      go_enter Tryd.func24, Tryd.ntmps24
      go_wp2_with fail
      refine C1.out.mono ?_
      rintro e w1 ⟨rfl, hb1⟩
      have HB := Lib.hid hb1
      clear hb1
      go_wp2_with fail
      refine (C2.out _ HB.out).mono ?_
      rintro e w2 ⟨rfl, hb2⟩
      have HB2 := Lib.hid (HB.out.trans (hb2.mono HB.out.size))
      clear hb2
      go_wp2
      go_ret2
      rw [merge_no HK.out, HK.out]
      exact GotR.no_ HB2.out
    | true =>
      rw [hg2] at C2
      obtain ⟨i0, hi, hi0, hi1, hi2⟩ := info_parts infoLabel
      have HI := Lib.hid (And.intro hi (And.intro hi0 (And.intro hi1 hi2)))
      clear hi hi0 hi1 hi2
      have HOK := Lib.hid (show okMerge a b = decide ((merge a b).length ≤ 6) by unfold okMerge; rw [hg1, hg2]; rfl)
      have hla := goodLab_len hg1
      have hlb := goodLab_len hg2
      have hna := h.lab_len
      have hnb := h'.lab_len
      have hn6 : n ≤ 6 := by omega
      have hn6' : n' ≤ 6 := by omega
      have HAL := Lib.hid hna
      have HBL := Lib.hid hnb
      have H := Lib.hid h
      have H' := Lib.hid h'
      clear h h' hg1 hg2 hla hlb hna hnb
      go_enter Tryd.func24, Tryd.ntmps24
      go_wp2_with fail
      refine C1.out.mono ?_
      rintro e w1 ⟨rfl, hb1⟩
      have HB1 := Lib.hid hb1
      clear hb1
      go_wp2_with fail
      refine (C2.out _ HB1.out).mono ?_
      rintro e w2 ⟨rfl, hb2⟩
      have HB2 := Lib.hid (HB1.out.trans (hb2.mono HB1.out.size))
      have hs2 : w.heap.size ≤ w2.heap.size := HB2.out.size
      clear hb2 C1 C2
      go_wp2_with fail
      go_loopw [6, 7, 20] (fun o1 o2 o3 wr => ∃ (k i m : Nat) (A4 : Option Addr) (c4 : Nat) (out : List Lab), k ≤ n' ∧ i ≤ n ∧ o3 = .int .i64 k ∧ o2 = .int .i64 i ∧ m = out.length ∧ o1 = .slice A4 m c4 ∧ MInv a b out i k ∧
        wr.ownsRow w.heap.size 48 2 (.slice A4 m c4) m (lbls out) ∧ Below w.heap.size w wr) (fun _ _ i _ => n' - (intOf i).toNat)
      case atStart => exact ⟨0, 0, 0, none, 0, [], Nat.zero_le _, Nat.zero_le _, rfl, rfl, rfl, rfl, MInv.zero a b, World.ownsRow_nil _ _ _ _, HB2.out⟩
      case round =>
        clear HB1 HB2
        obtain ⟨k, i, m, A4, c4, out, hk, hin, rfl, rfl, hm, rfl, hinv, ho, hb⟩ := hrel
        obtain ⟨wo, rfl⟩ : ∃ wo : World, wo = wr := ⟨_, rfl⟩
        have hml := hinv.len
        have hal := HAL.out
        have hbl := HBL.out
        have hm12 : m ≤ 12 := by omega
        have HINV := Lib.hid hinv
        have HM := Lib.hid hm
        have HO := Lib.hid ho
        have HB := Lib.hid hb
        have hsz := hb.size
        clear hinv ho hb hml hal hbl hm
        by_cases hlt : k < n'
        · obtain ⟨b1, off1, x, y, rfl, hb1, hx, hcx, hcy⟩ := H'.out.lab_at hlt
          have hdx : wo.cell? ⟨b1, off1 + k * 2, none⟩ = some (.string x) := (bcell HB.out _ _ (by omega)).trans hcx
          have hdy : wo.cell? ⟨b1, off1 + k * 2 + 1, none⟩ = some (.string y) := (bcell HB.out _ _ (by omega)).trans hcy
          have HX := Lib.hid hx
          clear hx hcx hcy
          go_wp2
          go_loopw [6, 7] (fun o1 o2 wr => ∃ (i m : Nat) (A4 : Option Addr) (c4 : Nat) (out : List Lab), i ≤ n ∧ o2 = .int .i64 i ∧ m = out.length ∧ o1 = .slice A4 m c4 ∧ MInv a b out i k ∧
            wr.ownsRow w.heap.size 48 2 (.slice A4 m c4) m (lbls out) ∧ Below w.heap.size w wr ∧ wo.heap.size < wr.heap.size ∧ wr.cell? ⟨wo.heap.size, 0, none⟩ = some (.string x) ∧ wr.cell? ⟨wo.heap.size, 1, none⟩ = some (.string y) ∧ (∀ q, (Value.slice A4 m c4).ownBlock = some q → q ≠ wo.heap.size)) (fun _ i _ => n - (intOf i).toNat)
          case atStart => exact ⟨i, m, A4, c4, out, hin, rfl, HM.out, rfl, HINV.out, HO.out.alloc _, HB.out.alloc hsz _, by simp, by simp, by simp, fun q hq => by have := (HO.out.lt q hq).2; omega⟩
          case round =>
            clear HO HB HINV HM hdx hdy
            clear hm12 hsz
            obtain ⟨i, m, A4, c4, out, hin, rfl, hm, rfl, hinv, ho, hb, hbox, hex, hey, hne⟩ := hrel
            have hml := hinv.len
            have hal := HAL.out
            have hbl := HBL.out
            have hm12 : m ≤ 12 := by omega
            have HINV := Lib.hid hinv
            have HM := Lib.hid hm
            have HO := Lib.hid ho
            have HB := Lib.hid hb
            have HNE := Lib.hid hne
            have hsz := hb.size
            clear hinv ho hb hml hal hbl hm hne
            by_cases hi : i < n
            · obtain ⟨b3, off3, p, r, rfl, hb3, hp, hcp, hcr⟩ := H.out.lab_at hi
              have hep : wr.cell? ⟨b3, off3 + i * 2, none⟩ = some (.string p) := (bcell HB.out _ _ (by omega)).trans hcp
              have her : wr.cell? ⟨b3, off3 + i * 2 + 1, none⟩ = some (.string r) := (bcell HB.out _ _ (by omega)).trans hcr
              have HP := Lib.hid hp
              clear hp hcp hcr
              cases hd : Op.bytesLess p.toList x.toList with
              | true =>
                have HLS := Lib.hid (show lessS p x = true from hd)
                go_wp2
                go_quiet (fail)
                have hexq : (wr.drewN nq).cell? ⟨wo.heap.size, 0, none⟩ = some (.string x) := hex
                have heyq : (wr.drewN nq).cell? ⟨wo.heap.size, 1, none⟩ = some (.string y) := hey
                have HOq := Lib.hid (own_drewN HO.out nq)
                have HBq := Lib.hid (Below.drewN HB.out nq)
                have hszq : w.heap.size ≤ (wr.drewN nq).heap.size := hsz
                have hboxq : wo.heap.size < (wr.drewN nq).heap.size := hbox
                clear hex hey HO HB hsz hbox
                have hepq : (wr.drewN nq).cell? ⟨b3, off3 + i * 2, none⟩ = some (.string p) := hep
                have herq : (wr.drewN nq).cell? ⟨b3, off3 + i * 2 + 1, none⟩ = some (.string r) := her
                clear hep her
                generalize wr.drewN nq = wq at *
                clear wr nq
                obtain ⟨wr, rfl⟩ : ∃ wr : World, wr = wq := ⟨_, rfl⟩
                have hex := hexq
                have hey := heyq
                have HO := Lib.hid HOq.out
                have HB := Lib.hid HBq.out
                have hsz := hszq
                have hbox := hboxq
                clear hexq heyq HOq HBq hszq hboxq
                have hep := hepq
                have her := herq
                clear hepq herq
                clear hd
                go_wp2_with (at_builtin; refine wpList_append_lies _ rfl (.tmp 38) (.tmp 43) 22 rfl w.heap.size 48 i0 (.agg #[.string .empty, .string .empty]) 2 32 Tryd.underlying22 HI.out.1 HI.out.2.1 HI.out.2.2.1 HI.out.2.2.2 rfl (by decide) _ m _ rfl (HO.out.alloc _) ⟨wr.heap.size, 0, none⟩ 1 1 (lbls [(p, r)]) rfl rfl ?c1 (lbls_one _) (by decide) ?c3 ?c4 ?c5 (wr.heap.size + 1) (by simp) ?_)
                case c1 =>
                  intro i u hj
                  match i, hj with
                  | 0, hj => simp [lbls] at hj; subst hj; simp [Addr.add]
                  | 1, hj => simp [lbls] at hj; subst hj; simp [Addr.add]
                  | i + 2, hj => simp [lbls] at hj
                case c3 => unfold maxLen; omega
                case c4 => omega
                case c5 => simp; omega
                intro g6 c6 w6 ho6 hg6 hat hlt6
                have HB6 := Lib.hid ((HB.out.alloc hsz (.cells #[.string p, .string r] 48)).grown hg6 (by simp; omega) (fun k hk => (HO.out.lt k hk).1))
                have HO6 := Lib.hid (show w6.ownsRow w.heap.size 48 2 (.slice (some ⟨g6, 0, none⟩) (m + 1) c6) (m + 1) (lbls (out ++ [(p, r)])) by rw [lbls_app]; exact ho6)
                have hs6 : wr.heap.size + 1 ≤ w6.heap.size := by have := hg6.size; simpa using this
                have hex6 : w6.cell? ⟨wo.heap.size, 0, none⟩ = some (.string x) := grown_cell hg6 ((World.cell?_alloc_lt _ _ _ (by simp; omega)).trans hex) (by simp; omega) (fun g hg => HNE.out g hg)
                have hey6 : w6.cell? ⟨wo.heap.size, 1, none⟩ = some (.string y) := grown_cell hg6 ((World.cell?_alloc_lt _ _ _ (by simp; omega)).trans hey) (by simp; omega) (fun g hg => HNE.out g hg)
                have HNE6 := Lib.hid (show ∀ q, (Value.slice (some ⟨g6, 0, none⟩) (m + 1) c6).ownBlock = some q → q ≠ wo.heap.size by
                  intro q hq
                  have hq' : g6 = q := by simpa [Value.ownBlock] using hq
                  rcases hat with h | h
                  · exact HNE.out q (by rw [← hq']; exact h)
                  · omega)
                clear ho6 hg6 hat hlt6 HO HB HNE hex hey
                go_wp2
                go_roundw
                case rel => exact ⟨i + 1, m + 1, _, c6, out ++ [(p, r)], by omega, by go_num, by rw [List.length_append, ← HM.out]; rfl, rfl, HINV.out.less HP.out HX.out HLS.out, HO6.out, HB6.out, by omega, hex6, hey6, HNE6.out⟩
                case measure => simp [intOf]; omega
              | false =>
                have HLS := Lib.hid (show lessS p x = false from hd)
                by_cases he : p = x
                · have heq : (p.toList == x.toList) = true := by rw [eqS]; simpa using he
                  have HIN2 := Lib.hid (HINV.out.same HP.out HX.out he)
                  have HEQ := Lib.hid heq
                  clear heq he
                  go_wp2
                  go_quiet (fail)
                  have hexq : (wr.drewN nq).cell? ⟨wo.heap.size, 0, none⟩ = some (.string x) := hex
                  have heyq : (wr.drewN nq).cell? ⟨wo.heap.size, 1, none⟩ = some (.string y) := hey
                  have HOq := Lib.hid (own_drewN HO.out nq)
                  have HBq := Lib.hid (Below.drewN HB.out nq)
                  have hszq : w.heap.size ≤ (wr.drewN nq).heap.size := hsz
                  have hboxq : wo.heap.size < (wr.drewN nq).heap.size := hbox
                  clear hex hey HO HB hsz hbox
                  have hepq : (wr.drewN nq).cell? ⟨b3, off3 + i * 2, none⟩ = some (.string p) := hep
                  have herq : (wr.drewN nq).cell? ⟨b3, off3 + i * 2 + 1, none⟩ = some (.string r) := her
                  clear hep her
                  generalize wr.drewN nq = wq at *
                  clear wr nq
                  obtain ⟨wr, rfl⟩ : ∃ wr : World, wr = wq := ⟨_, rfl⟩
                  have hex := hexq
                  have hey := heyq
                  have HO := Lib.hid HOq.out
                  have HB := Lib.hid HBq.out
                  have hsz := hszq
                  have hbox := hboxq
                  clear hexq heyq HOq HBq hszq hboxq
                  have hep := hepq
                  have her := herq
                  clear hepq herq
                  clear hd
                  have heq := HEQ.out
                  go_wp2
                  go_quiet (fail)
                  have hexq : (wr.drewN nq).cell? ⟨wo.heap.size, 0, none⟩ = some (.string x) := hex
                  have heyq : (wr.drewN nq).cell? ⟨wo.heap.size, 1, none⟩ = some (.string y) := hey
                  have HOq := Lib.hid (own_drewN HO.out nq)
                  have HBq := Lib.hid (Below.drewN HB.out nq)
                  have hszq : w.heap.size ≤ (wr.drewN nq).heap.size := hsz
                  have hboxq : wo.heap.size < (wr.drewN nq).heap.size := hbox
                  clear hex hey HO HB hsz hbox
                  have hepq : (wr.drewN nq).cell? ⟨b3, off3 + i * 2, none⟩ = some (.string p) := hep
                  have herq : (wr.drewN nq).cell? ⟨b3, off3 + i * 2 + 1, none⟩ = some (.string r) := her
                  clear hep her
                  generalize wr.drewN nq = wq at *
                  clear wr nq
                  obtain ⟨wr, rfl⟩ : ∃ wr : World, wr = wq := ⟨_, rfl⟩
                  have hex := hexq
                  have hey := heyq
                  have HO := Lib.hid HOq.out
                  have HB := Lib.hid HBq.out
                  have hsz := hszq
                  have hbox := hboxq
                  clear hexq heyq HOq HBq hszq hboxq
                  have hep := hepq
                  have her := herq
                  clear hepq herq
                  clear heq hep her
                  go_wp2_with (at_builtin; refine wpList_append_own _ rfl (.tmp 63) (.tmp 65) 22 rfl w.heap.size 48 i0 (.agg #[.string .empty, .string .empty]) 2 32 Tryd.underlying22 HI.out.1 HI.out.2.1 HI.out.2.2.1 HI.out.2.2.2 rfl (by decide) _ m _ rfl ((HO.out.alloc _)) ⟨wr.heap.size, 0, none⟩ 1 1 (lbls [(x, y)]) rfl rfl ?c1 (lbls_one _) ?c3 ?c4 ?c5 ?_)
                  case c1 =>
                    intro i u hj
                    match i, hj with
                    | 0, hj => simp [lbls] at hj; subst hj; simp [Addr.add]
                    | 1, hj => simp [lbls] at hj; subst hj; simp [Addr.add]
                    | i + 2, hj => simp [lbls] at hj
                  case c3 => unfold maxLen; omega
                  case c4 => omega
                  case c5 => simp; omega
                  intro v' w6 ho6 hg6 _
                  have HB6 := Lib.hid ((HB.out.alloc hsz (.cells #[.string x, .string y] 48)).grown hg6 (by simp; omega) (fun k hk => (HO.out.lt k hk).1))
                  obtain ⟨A6, c6, rfl⟩ := own_slice ho6
                  have HO6 := Lib.hid (show w6.ownsRow w.heap.size 48 2 (.slice A6 (m + 1) c6) (m + 1) (lbls (out ++ [(x, y)])) by rw [lbls_app]; exact ho6)
                  clear ho6 hg6
                  go_wp2
                  go_roundw
                  case rel => exact ⟨k + 1, i + 1, m + 1, A6, c6, out ++ [(x, y)], by omega, by omega, by go_num, by go_num, by rw [List.length_append, ← HM.out]; rfl, rfl, HIN2.out, HO6.out, HB6.out⟩
                  case measure => simp [intOf]; omega
                · have heq : (p.toList == x.toList) = false := by rw [eqS]; simpa using he
                  have HIN2 := Lib.hid (HINV.out.more HP.out HX.out HLS.out he)
                  have HEQ := Lib.hid heq
                  clear heq he
                  go_wp2
                  go_quiet (fail)
                  have hexq : (wr.drewN nq).cell? ⟨wo.heap.size, 0, none⟩ = some (.string x) := hex
                  have heyq : (wr.drewN nq).cell? ⟨wo.heap.size, 1, none⟩ = some (.string y) := hey
                  have HOq := Lib.hid (own_drewN HO.out nq)
                  have HBq := Lib.hid (Below.drewN HB.out nq)
                  have hszq : w.heap.size ≤ (wr.drewN nq).heap.size := hsz
                  have hboxq : wo.heap.size < (wr.drewN nq).heap.size := hbox
                  clear hex hey HO HB hsz hbox
                  have hepq : (wr.drewN nq).cell? ⟨b3, off3 + i * 2, none⟩ = some (.string p) := hep
                  have herq : (wr.drewN nq).cell? ⟨b3, off3 + i * 2 + 1, none⟩ = some (.string r) := her
                  clear hep her
                  generalize wr.drewN nq = wq at *
                  clear wr nq
                  obtain ⟨wr, rfl⟩ : ∃ wr : World, wr = wq := ⟨_, rfl⟩
                  have hex := hexq
                  have hey := heyq
                  have HO := Lib.hid HOq.out
                  have HB := Lib.hid HBq.out
                  have hsz := hszq
                  have hbox := hboxq
                  clear hexq heyq HOq HBq hszq hboxq
                  have hep := hepq
                  have her := herq
                  clear hepq herq
                  clear hd
                  have heq := HEQ.out
                  go_wp2
                  go_quiet (fail)
                  have hexq : (wr.drewN nq).cell? ⟨wo.heap.size, 0, none⟩ = some (.string x) := hex
                  have heyq : (wr.drewN nq).cell? ⟨wo.heap.size, 1, none⟩ = some (.string y) := hey
                  have HOq := Lib.hid (own_drewN HO.out nq)
                  have HBq := Lib.hid (Below.drewN HB.out nq)
                  have hszq : w.heap.size ≤ (wr.drewN nq).heap.size := hsz
                  have hboxq : wo.heap.size < (wr.drewN nq).heap.size := hbox
                  clear hex hey HO HB hsz hbox
                  have hepq : (wr.drewN nq).cell? ⟨b3, off3 + i * 2, none⟩ = some (.string p) := hep
                  have herq : (wr.drewN nq).cell? ⟨b3, off3 + i * 2 + 1, none⟩ = some (.string r) := her
                  clear hep her
                  generalize wr.drewN nq = wq at *
                  clear wr nq
                  obtain ⟨wr, rfl⟩ : ∃ wr : World, wr = wq := ⟨_, rfl⟩
                  have hex := hexq
                  have hey := heyq
                  have HO := Lib.hid HOq.out
                  have HB := Lib.hid HBq.out
                  have hsz := hszq
                  have hbox := hboxq
                  clear hexq heyq HOq HBq hszq hboxq
                  have hep := hepq
                  have her := herq
                  clear hepq herq
                  clear heq hep her
                  go_wp2_with (at_builtin; refine wpList_append_own _ rfl (.tmp 63) (.tmp 65) 22 rfl w.heap.size 48 i0 (.agg #[.string .empty, .string .empty]) 2 32 Tryd.underlying22 HI.out.1 HI.out.2.1 HI.out.2.2.1 HI.out.2.2.2 rfl (by decide) _ m _ rfl ((HO.out.alloc _)) ⟨wr.heap.size, 0, none⟩ 1 1 (lbls [(x, y)]) rfl rfl ?c1 (lbls_one _) ?c3 ?c4 ?c5 ?_)
                  case c1 =>
                    intro i u hj
                    match i, hj with
                    | 0, hj => simp [lbls] at hj; subst hj; simp [Addr.add]
                    | 1, hj => simp [lbls] at hj; subst hj; simp [Addr.add]
                    | i + 2, hj => simp [lbls] at hj
                  case c3 => unfold maxLen; omega
                  case c4 => omega
                  case c5 => simp; omega
                  intro v' w6 ho6 hg6 _
                  have HB6 := Lib.hid ((HB.out.alloc hsz (.cells #[.string x, .string y] 48)).grown hg6 (by simp; omega) (fun k hk => (HO.out.lt k hk).1))
                  obtain ⟨A6, c6, rfl⟩ := own_slice ho6
                  have HO6 := Lib.hid (show w6.ownsRow w.heap.size 48 2 (.slice A6 (m + 1) c6) (m + 1) (lbls (out ++ [(x, y)])) by rw [lbls_app]; exact ho6)
                  clear ho6 hg6
                  go_wp2
                  go_roundw
                  case rel => exact ⟨k + 1, i, m + 1, A6, c6, out ++ [(x, y)], by omega, by omega, by go_num, rfl, by rw [List.length_append, ← HM.out]; rfl, rfl, HIN2.out, HO6.out, HB6.out⟩
                  case measure => simp [intOf]; omega
            · have HIN2 := Lib.hid (HINV.out.last (by rw [HAL.out]; omega) HX.out)
              go_wp2
              go_quiet (fail)
              have hexq : (wr.drewN nq).cell? ⟨wo.heap.size, 0, none⟩ = some (.string x) := hex
              have heyq : (wr.drewN nq).cell? ⟨wo.heap.size, 1, none⟩ = some (.string y) := hey
              have HOq := Lib.hid (own_drewN HO.out nq)
              have HBq := Lib.hid (Below.drewN HB.out nq)
              have hszq : w.heap.size ≤ (wr.drewN nq).heap.size := hsz
              have hboxq : wo.heap.size < (wr.drewN nq).heap.size := hbox
              clear hex hey HO HB hsz hbox
              generalize wr.drewN nq = wq at *
              clear wr nq
              obtain ⟨wr, rfl⟩ : ∃ wr : World, wr = wq := ⟨_, rfl⟩
              have hex := hexq
              have hey := heyq
              have HO := Lib.hid HOq.out
              have HB := Lib.hid HBq.out
              have hsz := hszq
              have hbox := hboxq
              clear hexq heyq HOq HBq hszq hboxq
              go_wp2
              go_quiet (fail)
              have hexq : (wr.drewN nq).cell? ⟨wo.heap.size, 0, none⟩ = some (.string x) := hex
              have heyq : (wr.drewN nq).cell? ⟨wo.heap.size, 1, none⟩ = some (.string y) := hey
              have HOq := Lib.hid (own_drewN HO.out nq)
              have HBq := Lib.hid (Below.drewN HB.out nq)
              have hszq : w.heap.size ≤ (wr.drewN nq).heap.size := hsz
              have hboxq : wo.heap.size < (wr.drewN nq).heap.size := hbox
              clear hex hey HO HB hsz hbox
              generalize wr.drewN nq = wq at *
              clear wr nq
              obtain ⟨wr, rfl⟩ : ∃ wr : World, wr = wq := ⟨_, rfl⟩
              have hex := hexq
              have hey := heyq
              have HO := Lib.hid HOq.out
              have HB := Lib.hid HBq.out
              have hsz := hszq
              have hbox := hboxq
              clear hexq heyq HOq HBq hszq hboxq
              go_wp2_with (at_builtin; refine wpList_append_own _ rfl (.tmp 63) (.tmp 65) 22 rfl w.heap.size 48 i0 (.agg #[.string .empty, .string .empty]) 2 32 Tryd.underlying22 HI.out.1 HI.out.2.1 HI.out.2.2.1 HI.out.2.2.2 rfl (by decide) _ m _ rfl ((HO.out.alloc _)) ⟨wr.heap.size, 0, none⟩ 1 1 (lbls [(x, y)]) rfl rfl ?c1 (lbls_one _) ?c3 ?c4 ?c5 ?_)
              case c1 =>
                intro i u hj
                match i, hj with
                | 0, hj => simp [lbls] at hj; subst hj; simp [Addr.add]
                | 1, hj => simp [lbls] at hj; subst hj; simp [Addr.add]
                | i + 2, hj => simp [lbls] at hj
              case c3 => unfold maxLen; omega
              case c4 => omega
              case c5 => simp; omega
              intro v' w6 ho6 hg6 _
              have HB6 := Lib.hid ((HB.out.alloc hsz (.cells #[.string x, .string y] 48)).grown hg6 (by simp; omega) (fun k hk => (HO.out.lt k hk).1))
              obtain ⟨A6, c6, rfl⟩ := own_slice ho6
              have HO6 := Lib.hid (show w6.ownsRow w.heap.size 48 2 (.slice A6 (m + 1) c6) (m + 1) (lbls (out ++ [(x, y)])) by rw [lbls_app]; exact ho6)
              clear ho6 hg6
              go_wp2
              go_roundw
              case rel => exact ⟨k + 1, i, m + 1, A6, c6, out ++ [(x, y)], by omega, by omega, by go_num, rfl, by rw [List.length_append, ← HM.out]; rfl, rfl, HIN2.out, HO6.out, HB6.out⟩
              case measure => simp [intOf]; omega
        · have HE := Lib.hid (HINV.out.end_ (by rw [HBL.out]; omega))
          have hc2 := H.out.cut (k := i) (cap := c) hin hcap
          by_cases hcz : c = i
          · simp only [hcz, if_true] at hc2
            have HSD := Lib.hid hc2
            clear hc2
            have hnl : (merge a b).length = m + (n - i) := by rw [← HE.out, List.length_append, List.length_drop, HAL.out, ← HM.out]
            have HNL := Lib.hid hnl
            clear hnl
            have hmn : m + (n - i) ≤ 12 := by
              have h1 := merge_len a b
              have h2 := HAL.out
              have h3 := HBL.out
              have h4 := HNL.out
              omega
            go_wp2_with (at_builtin; refine wpList_append_rd rfl (.tmp 68) (.tmp 71) 22 rfl w.heap.size 48 i0 (.agg #[.string .empty, .string .empty]) 2 32 Tryd.underlying22 HI.out.1 HI.out.2.1 HI.out.2.2.1 HI.out.2.2.2 rfl (by decide) _ m _ rfl HO.out _ (n - i) _ B ((lbls a).drop (i * 2)) rfl ?e0 ?e1 ?e2 (by omega) hsz ?_)
            case e0 => first | exact HSD.out.below (HB.out.mono hBw) | simpa using HSD.out.below (HB.out.mono hBw)
            case e1 => rw [lbls_drop]; exact lbls_one _
            case e2 => unfold maxLen; omega
            intro v3 w6 ho6 hg6
            have HB6 := Lib.hid (HB.out.grown hg6 hsz (fun k hk => (HO.out.lt k hk).1))
            obtain ⟨A7, c7, rfl⟩ := own_slice ho6
            have HO6 := Lib.hid (show w6.ownsRow w.heap.size 48 2 (.slice A7 (m + (n - i)) c7) (m + (n - i)) (lbls (merge a b)) by rw [← HE.out, lbls_app, ← lbls_drop]; exact ho6)
            clear ho6 hg6
            by_cases h6 : m + (n - i) ≤ 6
            · have HK := Lib.hid (HOK.out.trans (decide_eq_true (by rw [HNL.out]; exact h6)))
              go_wp2
              go_ret2
              rw [merge_yes HK.out, HK.out, HNL.out]
              exact GotR.own_ HO6.out HB6.out
            · have HK := Lib.hid (HOK.out.trans (decide_eq_false (by rw [HNL.out]; exact h6)))
              go_wp2
              go_ret2
              rw [merge_no HK.out, HK.out]
              exact GotR.no_ HB6.out
          · simp only [hcz, if_false] at hc2
            cases hA : A with
            | none =>
              rw [hA, Option.map_none] at hc2
              have HSD := Lib.hid hc2
              clear hc2
              have hnl : (merge a b).length = m + (n - i) := by rw [← HE.out, List.length_append, List.length_drop, HAL.out, ← HM.out]
              have HNL := Lib.hid hnl
              clear hnl
              have hmn : m + (n - i) ≤ 12 := by
                have h1 := merge_len a b
                have h2 := HAL.out
                have h3 := HBL.out
                have h4 := HNL.out
                omega
              go_wp2_with (at_builtin; refine wpList_append_rd rfl (.tmp 68) (.tmp 71) 22 rfl w.heap.size 48 i0 (.agg #[.string .empty, .string .empty]) 2 32 Tryd.underlying22 HI.out.1 HI.out.2.1 HI.out.2.2.1 HI.out.2.2.2 rfl (by decide) _ m _ rfl HO.out _ (n - i) _ B ((lbls a).drop (i * 2)) rfl ?e0 ?e1 ?e2 (by omega) hsz ?_)
              case e0 => first | exact HSD.out.below (HB.out.mono hBw) | simpa using HSD.out.below (HB.out.mono hBw)
              case e1 => rw [lbls_drop]; exact lbls_one _
              case e2 => unfold maxLen; omega
              intro v3 w6 ho6 hg6
              have HB6 := Lib.hid (HB.out.grown hg6 hsz (fun k hk => (HO.out.lt k hk).1))
              obtain ⟨A7, c7, rfl⟩ := own_slice ho6
              have HO6 := Lib.hid (show w6.ownsRow w.heap.size 48 2 (.slice A7 (m + (n - i)) c7) (m + (n - i)) (lbls (merge a b)) by rw [← HE.out, lbls_app, ← lbls_drop]; exact ho6)
              clear ho6 hg6
              by_cases h6 : m + (n - i) ≤ 6
              · have HK := Lib.hid (HOK.out.trans (decide_eq_true (by rw [HNL.out]; exact h6)))
                go_wp2
                go_ret2
                rw [merge_yes HK.out, HK.out, HNL.out]
                exact GotR.own_ HO6.out HB6.out
              · have HK := Lib.hid (HOK.out.trans (decide_eq_false (by rw [HNL.out]; exact h6)))
                go_wp2
                go_ret2
                rw [merge_no HK.out, HK.out]
                exact GotR.no_ HB6.out
            | some q =>
              obtain ⟨qb, qo, qs⟩ := q
              rw [hA, Option.map_some] at hc2
              have HSD := Lib.hid hc2
              clear hc2
              have hnl : (merge a b).length = m + (n - i) := by rw [← HE.out, List.length_append, List.length_drop, HAL.out, ← HM.out]
              have HNL := Lib.hid hnl
              clear hnl
              have hmn : m + (n - i) ≤ 12 := by
                have h1 := merge_len a b
                have h2 := HAL.out
                have h3 := HBL.out
                have h4 := HNL.out
                omega
              go_wp2_with (at_builtin; refine wpList_append_rd rfl (.tmp 68) (.tmp 71) 22 rfl w.heap.size 48 i0 (.agg #[.string .empty, .string .empty]) 2 32 Tryd.underlying22 HI.out.1 HI.out.2.1 HI.out.2.2.1 HI.out.2.2.2 rfl (by decide) _ m _ rfl HO.out _ (n - i) _ B ((lbls a).drop (i * 2)) rfl ?e0 ?e1 ?e2 (by omega) hsz ?_)
              case e0 => first | exact HSD.out.below (HB.out.mono hBw) | simpa using HSD.out.below (HB.out.mono hBw)
              case e1 => rw [lbls_drop]; exact lbls_one _
              case e2 => unfold maxLen; omega
              intro v3 w6 ho6 hg6
              have HB6 := Lib.hid (HB.out.grown hg6 hsz (fun k hk => (HO.out.lt k hk).1))
              obtain ⟨A7, c7, rfl⟩ := own_slice ho6
              have HO6 := Lib.hid (show w6.ownsRow w.heap.size 48 2 (.slice A7 (m + (n - i)) c7) (m + (n - i)) (lbls (merge a b)) by rw [← HE.out, lbls_app, ← lbls_drop]; exact ho6)
              clear ho6 hg6
              by_cases h6 : m + (n - i) ≤ 6
              · have HK := Lib.hid (HOK.out.trans (decide_eq_true (by rw [HNL.out]; exact h6)))
                go_wp2
                go_ret2
                rw [merge_yes HK.out, HK.out, HNL.out]
                exact GotR.own_ HO6.out HB6.out
              · have HK := Lib.hid (HOK.out.trans (decide_eq_false (by rw [HNL.out]; exact h6)))
                go_wp2
                go_ret2
                rw [merge_no HK.out, HK.out]
                exact GotR.no_ HB6.out
end Go.Proofs.YtjokpbopceolcaaDoor
