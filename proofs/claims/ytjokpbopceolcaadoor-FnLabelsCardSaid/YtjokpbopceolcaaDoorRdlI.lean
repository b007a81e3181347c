/- ReadLabels: the program's walk. -/
import Derived.Test.YtjokpbopceolcaaDoorRdlS
import Derived.Test.YtjokpbopceolcaaDoorShSplit
import Derived.Shelf.Strings.Count
import Derived.Shelf.Strings.Cut
import Derived.Shelf.Strings.Split
namespace Go.Proofs.YtjokpbopceolcaaDoor
set_option linter.unusedVariables false
set_option linter.unusedSimpArgs false
open Go.RowKit

/-- The library's variable holds some number. -/
def MxAt (w : World) : Prop := ∃ m, w.cell? ⟨0, 0, none⟩ = some (.int .i64 m)
theorem MxAt.below {w w' : World} (h : MxAt w) (hb : Below w.heap.size w w') : MxAt w' := by
  obtain ⟨m, hm⟩ := h
  exact ⟨m, (bcell hb _ _ (World.block_lt_of_cell? w _ hm)).trans hm⟩
theorem mx_of {w : World} (h : w.ShapedOpen Tryd.prog) : MxAt w := Tryd.mSplit.s1_3 w h
theorem toB_ext (l : List UInt8) (a b : Nat) : (toB l).extract a b = toB ((l.drop a).take (b - a)) := by
  have := toB_cut (toB l) a b
  rw [toB_data] at this
  exact this.symm
theorem ix_one (l : List UInt8) (c : UInt8) : Lib.indexB (toB l) ⟨#[c]⟩ = Lib.indexByte l c := by
  show Lib.index (toB l).data.toList [c] = _
  rw [toB_data, Lib.index_one]
theorem no_of_ix {l : List UInt8} {c : UInt8} (h : Lib.indexByte l c = -1) : c ∉ l := fun hm => by
  obtain ⟨k, hk⟩ := List.getElem?_of_mem hm
  exact Lib.indexByte_none h k hk
theorem at_of_ix {l : List UInt8} {c : UInt8} {i : Nat} (h : Lib.indexByte l c = i) : l = l.take i ++ c :: l.drop (i + 1) ∧ c ∉ l.take i ∧ i < l.length := by
  obtain ⟨h1, h2⟩ := Lib.indexByte_some h
  obtain ⟨hi, he⟩ := List.getElem?_eq_some_iff.1 h1
  refine ⟨?_, fun hm => ?_, hi⟩
  · conv => lhs; rw [← List.take_append_drop i l, List.drop_eq_getElem_cons hi, he]
  · obtain ⟨k, hk⟩ := List.getElem?_of_mem hm
    rw [List.getElem?_take] at hk
    split at hk
    · exact h2 k (by assumption) hk
    · cases hk
theorem cut1_no {l : List UInt8} {c : UInt8} (h : c ∉ l) : cut1 c l = (l, []) := by
  induction l with
  | nil => rfl
  | cons x l ih => rw [cut1, if_neg (fun e => h (by rw [e]; simp)), ih (fun e => h (by simp [e]))]
theorem cut_one (l : List UInt8) (c : UInt8) : (Lib.cut l [c]).1 = (cut1 c l).1 ∧ (Lib.cut l [c]).2.1 = (cut1 c l).2 := by
  have hx : Lib.index l [c] = Lib.indexByte l c := Lib.index_one l c
  unfold Lib.cut
  rw [hx]
  by_cases h : 0 ≤ Lib.indexByte l c
  · rw [if_pos h]
    obtain ⟨i, hi⟩ := Int.eq_ofNat_of_zero_le h
    obtain ⟨h1, h2, h3⟩ := at_of_ix hi
    have hc : cut1 c l = (l.take i, l.drop (i + 1)) := by
      have := cut1_at c (l.drop (i + 1)) h2
      rwa [← h1] at this
    rw [hc, hi]
    exact ⟨rfl, rfl⟩
  · rw [if_neg h]
    have h1 : Lib.indexByte l c = -1 := by have := Lib.indexByte_ge l c; omega
    rw [cut1_no (no_of_ix h1)]
    exact ⟨rfl, rfl⟩
theorem split_one (c : UInt8) : ∀ (n : Nat) (l : List UInt8), l.length ≤ n → Lib.splitB ⟨#[c]⟩ 0 (Lib.countB (toB l) ⟨#[c]⟩) (toB l) = (sp c l).map toB := by
  intro n
  induction n with
  | zero =>
    intro l hl
    obtain rfl : l = [] := List.eq_nil_of_length_eq_zero (by omega)
    rw [Lib.countB_miss _ _ (by rw [ix_one]; rfl), Lib.splitB_zero]
    rfl
  | succ n ih =>
    intro l hl
    by_cases h : Lib.indexByte l c = -1
    · rw [Lib.countB_miss _ _ (by rw [ix_one]; exact h), Lib.splitB_zero, sp_no c (no_of_ix h)]
      rfl
    · obtain ⟨i, hi⟩ : ∃ i : Nat, Lib.indexByte l c = i := ⟨(Lib.indexByte l c).toNat, by have := Lib.indexByte_ge l c; omega⟩
      have hib : Lib.indexB (toB l) ⟨#[c]⟩ = i := by rw [ix_one]; exact hi
      obtain ⟨h1, h2, h3⟩ := at_of_ix hi
      have hs1 : (⟨#[c]⟩ : ByteArray).size = 1 := rfl
      have hrest : (toB l).extract (i + (⟨#[c]⟩ : ByteArray).size) (toB l).size = toB (l.drop (i + 1)) := by
        rw [toB_ext, hs1, toB_size, List.take_of_length_le (by rw [List.length_drop]; exact Nat.le_refl _)]
      rw [Lib.countB_hit _ _ i (by rw [hs1]; exact Nat.le_refl _) hib, Nat.add_comm, Lib.splitB_hit _ _ _ _ i hib, hrest, ih _ (by rw [List.length_drop]; omega)]
      conv => rhs; rw [h1, sp_at c _ h2]
      rw [List.map_cons, toB_ext]
      simp
theorem count_split (c : UInt8) (l : List UInt8) : Lib.countB (toB l) ⟨#[c]⟩ + 1 = (sp c l).length := by
  have h := congrArg List.length (split_one c l.length l (Nat.le_refl _))
  rw [List.length_map, Lib.splitB_all _ (by show 1 ≤ 1; omega) 0 _ _ rfl] at h
  exact h
theorem cnt44 (s : ByteArray) (w : World) : Calls Tryd.prog 52 #[.string s, .string ⟨#[44]⟩] w fun e w' => e = .returned (.int .i64 (s.data.toList.count 44 : Nat)) ∧ w = w' :=
  (Any.strings_Count_one { Tryd.mCount with } s 44 w).mono fun e w' ⟨he, hw⟩ => ⟨he, hw.symm⟩
theorem cut61 (s : ByteArray) (w : World) (hs : s.size ≤ 1048576) (hm : MxAt w) : Calls Tryd.prog 54 #[.string s, .string ⟨#[61]⟩] w fun e w' => (∃ k, e = .returned (.tuple #[.string (cutLab s.data.toList).1, .string (cutLab s.data.toList).2, .bool k])) ∧ ∃ n, w' = w.drewN n := by
  obtain ⟨m, hm⟩ := hm
  refine (Any.strings_Cut { Tryd.mCut with } s ⟨#[61]⟩ m w (by omega) hm).mono fun e w' ⟨he, hw⟩ => ⟨⟨(Lib.cut s.data.toList [61]).2.2, he.trans ?_⟩, hw⟩
  obtain ⟨h1, h2⟩ := cut_one s.data.toList 61
  show Ending.returned (.tuple #[.string ⟨(Lib.cut s.data.toList [61]).1.toArray⟩, .string ⟨(Lib.cut s.data.toList [61]).2.1.toArray⟩, .bool (Lib.cut s.data.toList [61]).2.2]) = _
  rw [h1, h2]
  rfl
theorem spl44 (s : ByteArray) (w : World) (hs : s.size ≤ 1048576) (hm : MxAt w) : Calls Tryd.prog 53 #[.string s, .string ⟨#[44]⟩] w fun e w' => ∃ A, e = .returned (.slice A (sp 44 s.data.toList).length (sp 44 s.data.toList).length) ∧
    Rd w' w'.heap.size 1 A (sp 44 s.data.toList).length (strs ((sp 44 s.data.toList).map toB)) ∧ Below w.heap.size w w' := by
  obtain ⟨m, hm⟩ := hm
  have e1 := count_split 44 s.data.toList
  have e2 := split_one 44 _ s.data.toList (Nat.le_refl _)
  rw [toB_of] at e1 e2
  refine (Any.strings_Split { Tryd.mSplit with } infoStr s ⟨#[44]⟩ m w (by omega) hm (by show 1 ≤ 1; omega)).mono fun e w' ⟨he, hw⟩ => ?_
  subst hw
  rw [e1] at he
  refine ⟨_, he, ?_, (Below.refl _ _).alloc (Nat.le_refl _) _⟩
  rw [e2]
  have hle : (sp 44 s.data.toList).length ≤ maxLen := by
    rw [sp_len]
    have := List.count_le_length (a := 44) (l := s.data.toList)
    have h3 : s.data.toList.length = s.size := by simp
    unfold maxLen; omega
  have := World.ownsRow_lit (base := w.heap.size) (e := 9) (size := 1) w (((sp 44 s.data.toList).map toB).map Value.string).toArray (sp 44 s.data.toList).length (Nat.le_refl _) hle (by simp)
  rw [List.toList_toArray] at this
  exact Rd.of_own this
theorem impL_one : impL [123, 125] = some [] := by unfold impL; rw [if_pos rfl]
theorem impL_no {s : List UInt8} (h0 : s ≠ [123, 125]) (h : ¬ (braced s ∧ s.count 44 < 6)) : impL s = none := by unfold impL; rw [if_neg h0, if_neg h]
theorem impL_at {s : List UInt8} (h0 : s ≠ [123, 125]) (h : braced s ∧ s.count 44 < 6) {l : List Lab} (hl : (sp 44 (bodyOf s)).map cutLab = l) :
    (goodLab l = true ∧ (labTxt l).data.toList = s → impL s = some l) ∧ (¬ (goodLab l = true ∧ (labTxt l).data.toList = s) → impL s = none) := by
  subst hl
  unfold impL
  rw [if_neg h0, if_pos h]
  exact ⟨fun g => if_pos g, fun g => if_neg g⟩
theorem ILR.no_ {s : ByteArray} {w w' : World} (h : impL s.data.toList = none) (hb : Below w.heap.size w w') : LR s w (.returned (.tuple #[.slice none 0 0, .bool false])) w' := LR.no_ ((impL_eq _).symm.trans h) hb
theorem ILR.yes {s : ByteArray} {w w' : World} {l : List Lab} {A : Option Addr} {c n : Nat} (h : impL s.data.toList = some l) (hn : n = l.length) (ho : w'.ownsRow w.heap.size 48 2 (.slice A n c) n (lbls l)) (hb : Below w.heap.size w w') : LR s w (.returned (.tuple #[.slice A n c, .bool true])) w' := LR.yes ((impL_eq _).symm.trans h) hn ho hb
theorem cut1_le (c : UInt8) (l : List UInt8) : (cut1 c l).1.length ≤ l.length ∧ (cut1 c l).2.length ≤ l.length := by
  induction l with
  | nil => simp [cut1]
  | cons x l ih =>
    rw [cut1]
    split
    · simp
    · simp; omega
set_option maxRecDepth 100000 in
set_option maxHeartbeats 8000000 in
theorem readLabels_any (s : ByteArray) (w : World) (hs : s.size ≤ 1048576) (hm : MxAt w) : Calls Tryd.prog 31 #[.string s] w (LR s w) := by
  obtain ⟨i0, hi, hz0, hz1, hz2⟩ := info_parts infoLabel
  have HI := Lib.hid (And.intro hi (And.intro hz0 (And.intro hz1 hz2)))
  have HM := Lib.hid hm
  clear hi hz0 hz1 hz2 hm
  by_cases h0 : s = ⟨#[123, 125]⟩
  · have HN := Lib.hid (show impL s.data.toList = some [] by rw [h0]; exact impL_one)
    rw [h0]
    clear h0
    rw [show impL s.data.toList = impL s.data.toList from rfl] at HN
    go_enter Tryd.func31, Tryd.ntmps31
    go_wp2
    go_ret2
    exact ILR.yes (by rfl) rfl (World.ownsRow_nil _ _ _ _) (Below.refl _ _)
  · have hsz : s.data.toList.length = s.size := by simp
    have hne : s.data.toList ≠ [123, 125] := fun e => h0 (by rw [← toB_of s, e]; rfl)
    have q1 : ¬ s.toList = [123, 125] := by rw [ByteArray.toList_eq]; exact hne
    have q2 : (s.toList == [123, 125]) = false := by rw [beq_eq_false_iff_ne]; exact q1
    have HA := Lib.hid (fun (k : Nat) (h : k < s.size) => byte_atG s k h)
    have HNO := Lib.hid (fun h => impL_no hne h)
    have HYES := Lib.hid (fun h {l : List Lab} hl => impL_at (l := l) hne h hl)
    have HSZ := Lib.hid hsz
    have CNT := Lib.hid (cnt44 s)
    have hcl := List.count_le_length (a := 44) (l := s.data.toList)
    obtain ⟨Q, hQ⟩ : ∃ Q, s.data.toList.count 44 = Q := ⟨_, rfl⟩
    rw [hQ] at CNT HNO HYES hcl
    have hQ2 : Q ≤ 1048576 := by omega
    clear hsz hne hQ hcl
    by_cases h2 : 2 ≤ s.size
    · have h0s : 0 < s.size := by omega
      have hx0 := HA.out 0 h0s
      by_cases hc0 : s[0] = 123
      · have p1 : s[0].toNat = 123 := by rw [hc0]; rfl
        have p2 : ((s[0].toNat : Int) == 123) = true := by rw [hc0]; rfl
        have p3 : ((s[0].toNat : Int) != 123) = false := by rw [bne, p2]; rfl
        have p4 : (s[0].toNat : Int) = 123 := by omega
        obtain ⟨m, hm⟩ : ∃ m, m + 1 = s.size := ⟨s.size - 1, by omega⟩
        have hms : m < s.size := by omega
        have hmi : ((s.size : Int) - 1) = (m : Int) := by omega
        have hx1 := HA.out m hms
        by_cases hc1 : s[m] = 125
        · have r1 : s[m].toNat = 125 := by rw [hc1]; rfl
          have r2 : ((s[m].toNat : Int) == 125) = true := by rw [hc1]; rfl
          have r3 : ((s[m].toNat : Int) != 125) = false := by rw [bne, r2]; rfl
          have r4 : (s[m].toNat : Int) = 125 := by omega
          have hbr : braced s.data.toList := by
            unfold braced
            rw [HSZ.out]
            exact ⟨by omega, by rw [hx0, hc0], by rw [show s.size - 1 = m by omega, hx1, hc1]⟩
          have HBR := Lib.hid hbr
          clear hx0 hc0 hx1 hc1 hbr
          by_cases hq6 : Q < 6
          · obtain ⟨T, hT⟩ : ∃ T, s.extract 1 m = T := ⟨_, rfl⟩
            have hTs : T.size ≤ 1048574 := by rw [← hT]; simp; omega
            have hTl : T.data.toList = bodyOf s.data.toList := by
              rw [← hT, ByteArray.data_extract, Array.toList_extract]
              unfold bodyOf
              rw [HSZ.out, show s.size - 2 = m - 1 by omega]
            have CSP := fun w h => spl44 T w (by omega) h
            rw [hTl] at CSP
            obtain ⟨ps, hps⟩ : ∃ ps, sp 44 (bodyOf s.data.toList) = ps := ⟨_, rfl⟩
            have hpl : ∀ p ∈ ps, p.length ≤ 1048576 := by
              rw [← hps]
              intro p hp
              have := cutLen_le 44 _ p hp
              have h3 : (bodyOf s.data.toList).length = T.size := by rw [← hTl]; simp
              omega
            have hnl : ps.length ≤ 1048576 := by
              rw [← hps, sp_len]
              have := List.count_le_length (a := 44) (l := bodyOf s.data.toList)
              have h3 : (bodyOf s.data.toList).length = T.size := by rw [← hTl]; simp
              omega
            have HY := Lib.hid (HYES.out ⟨HBR.out, hq6⟩ rfl)
            rw [hps] at CSP HY
            obtain ⟨N, hN⟩ : ∃ N, ps.length = N := ⟨_, rfl⟩
            rw [hN] at CSP hnl
            have HCS := Lib.hid CSP
            have HPL := Lib.hid hpl
            have HN := Lib.hid hN
            clear CSP hTl hps hpl hN HYES
            go_enter Tryd.func31, Tryd.ntmps31
            go_wp2_with fail
            refine (CNT.out _).mono ?_
            rintro e w' ⟨rfl, rfl⟩
            go_wp2_with fail
            refine (HCS.out _ HM.out).mono ?_
            rintro e w1 ⟨A1, rfl, hr1, hb1⟩
            have HR1 := Lib.hid hr1
            have HB1 := Lib.hid hb1
            have hs1 := hb1.size
            clear hr1 hb1 HCS
            go_wp2_with fail
            go_loopw [4, 40] (fun v i wr => ∃ (k : Nat) (A : Option Addr) (cc : Nat), k ≤ N ∧ i = .int .i64 k ∧ v = .slice A k cc ∧ wr.ownsRow w1.heap.size 48 2 (.slice A k cc) k (lbls ((ps.take k).map cutLab)) ∧ Below w1.heap.size w1 wr) (fun _ i _ => N - (intOf i).toNat)
            case atStart => exact ⟨0, none, 0, Nat.zero_le _, rfl, rfl, World.ownsRow_nil _ _ _ _, Below.refl _ _⟩
            case round =>
              obtain ⟨k, A, cc, hk, rfl, rfl, ho, hb⟩ := hrel
              have HO := Lib.hid ho
              have HB := Lib.hid hb
              have hsr := hb.size
              clear ho hb
              by_cases hlt : k < N
              · obtain ⟨b, off, xt, rfl, hbB, hxt, hct⟩ := HR1.out.str_at hlt
                have hct' := (bcell HB.out b (off + k) (by omega)).trans hct
                obtain ⟨t, ht, htb⟩ : ∃ t, ps[k]? = some t ∧ xt = toB t := by
                  rw [List.getElem?_map] at hxt
                  cases e : ps[k]? with
                  | none => rw [e] at hxt; cases hxt
                  | some t => rw [e] at hxt; injection hxt with hxt; exact ⟨t, rfl, hxt.symm⟩
                have hts : xt.size ≤ 1048576 := by rw [htb, toB_size]; exact HPL.out t (List.mem_of_getElem? ht)
                have htd : xt.data.toList = t := by rw [htb, toB_data]
                have CC := cut61 xt
                rw [htd] at CC
                have HSN := Lib.hid (take_snoc' ps k t ht)
                obtain ⟨xa, hxa⟩ : ∃ x, (cutLab t).1 = x := ⟨_, rfl⟩
                obtain ⟨xb, hxb⟩ : ∃ x, (cutLab t).2 = x := ⟨_, rfl⟩
                have HCL := Lib.hid (show cutLab t = (xa, xb) by rw [← hxa, ← hxb])
                rw [hxa, hxb] at CC
                have HCC := Lib.hid (fun w h => CC w hts h)
                have hmx := HM.out.below (HB1.out.trans (HB.out.mono hs1))
                have HMX := Lib.hid hmx
                clear CC htd htb ht hxt hxa hxb hmx
                go_wp2_with fail
                refine (HCC.out _ HMX.out).mono ?_
                rintro e w2 ⟨⟨kb, rfl⟩, hdr⟩
                have hb2 := (Ch.of_drewN hdr).below0
                have HO2 := Lib.hid (own_below HO.out hb2 (Nat.le_refl _))
                have HB2 := Lib.hid (HB.out.trans (hb2.mono HB.out.size))
                have hs2 := hb2.size
                clear hdr hb2 HO HB HCC hct hct' HMX
                go_wp2_with (at_builtin; refine wpList_append_own _ rfl (.tmp 50) (.tmp 54) 22 rfl w1.heap.size 48 i0 (.agg #[.string .empty, .string .empty]) 2 32 Tryd.underlying22 HI.out.1 HI.out.2.1 HI.out.2.2.1 HI.out.2.2.2 rfl (by decide) _ k _ rfl (HO2.out.alloc _) ⟨w2.heap.size, 0, none⟩ 1 1 (lbls [(xa, xb)]) rfl rfl ?c1 (lbls_one _) ?c3 ?c4 ?c5 ?_)
                case c1 =>
                  intro i u hj
                  match i, hj with
                  | 0, hj => simp [lbls] at hj; subst hj; simp [Addr.add]
                  | 1, hj => simp [lbls] at hj; subst hj; simp [Addr.add]
                  | i + 2, hj => simp [lbls] at hj
                case c3 => unfold maxLen; omega
                case c4 => omega
                case c5 => simp; omega
                intro v' w6 ho6 hg6 _
                obtain ⟨A6, c6, rfl⟩ := own_slice ho6
                have HO6 := Lib.hid (show w6.ownsRow w1.heap.size 48 2 (.slice A6 (k + 1) c6) (k + 1) (lbls ((ps.take (k + 1)).map cutLab)) by rw [HSN.out, List.map_append, List.map_singleton, HCL.out, lbls_app, List.map_take]; exact ho6)
                have HB6 := Lib.hid ((HB2.out.alloc (by omega) (.cells #[.string xa, .string xb] 48)).grown hg6 (by simp; omega) (fun k hk => (HO2.out.lt k hk).1))
                clear ho6 hg6
                go_wp2
                go_roundw
                case rel => exact ⟨k + 1, A6, c6, by omega, by go_num, rfl, HO6.out, HB6.out⟩
                case measure => simp [intOf]; omega
              · obtain rfl : k = N := by omega
                have ho := HO.out
                rw [List.take_of_length_le (by rw [HN.out]; exact Nat.le_refl _)] at ho
                obtain ⟨L, hL⟩ : ∃ L, ps.map cutLab = L := ⟨_, rfl⟩
                have hfit : lblFit L := by
                  rw [← hL]
                  intro p hp
                  obtain ⟨t, ht, rfl⟩ := List.mem_map.1 hp
                  have h3 := HPL.out t ht
                  have h4 := cut1_le 61 t
                  unfold cutLab
                  rw [toB_size, toB_size]
                  omega
                have hLl : L.length = k := by rw [← hL, List.length_map, HN.out]
                rw [hL] at ho HY
                have CG := Lib.hid (areLabels_any wr.heap.size A k cc L wr (Nat.le_refl _) (Rd.of_own ho) (by omega) hfit)
                have HOw := Lib.hid ho
                have HBw := Lib.hid (HB1.out.trans (HB.out.mono hs1))
                have hsw := HB1.out.size
                have HLl := Lib.hid hLl
                clear ho hL hfit hLl HO HB
                cases hg : goodLab L with
                | false =>
                  have HF := Lib.hid (HY.out.2 (fun h => by rw [hg] at h; cases h.1))
                  rw [hg] at CG
                  clear hg
                  go_wp2_with fail
                  refine CG.out.mono ?_
                  rintro e w3 ⟨rfl, hb3⟩
                  have HB3 := Lib.hid (HBw.out.trans (hb3.mono HBw.out.size))
                  clear hb3
                  go_wp2
                  go_ret2
                  exact ILR.no_ HF.out HB3.out
                | true =>
                  have HG := Lib.hid hg
                  rw [hg] at CG
                  have h6 : k ≤ 6 := by rw [← HLl.out]; exact goodLab_len hg
                  have h8 : ∀ p ∈ L, p.1.size ≤ 8 ∧ p.2.size ≤ 8 := fun p hp => by
                    obtain ⟨w1, w2⟩ := labOk_t (x := p.1) (y := p.2) (good_mem hg p hp)
                    exact ⟨(wordOk_len w1).2, (wordOk_len w2).2⟩
                  have H8 := Lib.hid h8
                  clear hg h8
                  go_wp2_with fail
                  refine CG.out.mono ?_
                  rintro e w3 ⟨rfl, hb3⟩
                  have HO3 := Lib.hid (own_below HOw.out hb3 (Nat.le_refl _))
                  have HB3 := Lib.hid (HBw.out.trans (hb3.mono HBw.out.size))
                  clear hb3 CG
                  have CT := labelsText_any w3.heap.size A k cc L w3 (Nat.le_refl _) (Rd.of_own HO3.out) h6 H8.out
                  obtain ⟨X, hX⟩ : ∃ X, labTxt L = X := ⟨_, rfl⟩
                  rw [hX] at CT HY
                  have HCT := Lib.hid CT
                  clear CT hX
                  by_cases hXs : X = s
                  · have HF := Lib.hid (HY.out.1 ⟨HG.out, by rw [hXs]⟩)
                    subst hXs
                    go_wp2_with fail
                    refine HCT.out.mono ?_
                    rintro e w4 ⟨rfl, hb4⟩
                    have HO4 := Lib.hid (own_mono (own_below HO3.out hb4 (Nat.le_refl _)) hsw)
                    have HB4 := Lib.hid (HB3.out.trans (hb4.mono HB3.out.size))
                    clear hb4
                    go_wp2
                    go_ret2
                    exact ILR.yes HF.out HLl.out.symm HO4.out HB4.out
                  · have hXd : X.data.toList ≠ s.data.toList := fun e => hXs (by rw [← toB_of X, ← toB_of s, e])
                    have HF := Lib.hid (HY.out.2 (fun h => hXd h.2))
                    have q3 : ¬ X.toList = s.toList := by rw [ByteArray.toList_eq, ByteArray.toList_eq]; exact hXd
                    have q4 : (X.toList == s.toList) = false := by rw [beq_eq_false_iff_ne]; exact q3
                    clear hXd
                    go_wp2_with fail
                    refine HCT.out.mono ?_
                    rintro e w4 ⟨rfl, hb4⟩
                    have HB4 := Lib.hid (HB3.out.trans (hb4.mono HB3.out.size))
                    clear hb4
                    go_wp2
                    go_ret2
                    exact ILR.no_ HF.out HB4.out
          · have HN := Lib.hid (HNO.out (fun h => hq6 h.2))
            have hq6' : (6 : Int) ≤ (Q : Int) := by omega
            go_enter Tryd.func31, Tryd.ntmps31
            go_wp2_with fail
            refine (CNT.out _).mono ?_
            rintro e w' ⟨rfl, rfl⟩
            go_wp2
            go_ret2
            exact ILR.no_ HN.out (Below.refl _ _)
        · have r1 : ¬ s[m].toNat = 125 := fun e => hc1 (UInt8.toNat_inj.1 (by rw [e]; rfl))
          have r2 : ((s[m].toNat : Int) == 125) = false := by rw [beq_eq_false_iff_ne]; omega
          have r3 : ((s[m].toNat : Int) != 125) = true := by rw [bne, r2]; rfl
          have r4 : ¬ (s[m].toNat : Int) = 125 := by omega
          have HN := Lib.hid (HNO.out (fun h => by
            have h1 := h.1.2.2
            rw [HSZ.out, show s.size - 1 = m by omega, hx1] at h1
            injection h1 with h1
            exact hc1 h1))
          clear hx0 hc0 hx1 hc1
          go_enter Tryd.func31, Tryd.ntmps31
          go_wp2
          go_ret2
          exact ILR.no_ HN.out (Below.refl _ _)
      · have p1 : ¬ s[0].toNat = 123 := fun e => hc0 (UInt8.toNat_inj.1 (by rw [e]; rfl))
        have p2 : ((s[0].toNat : Int) == 123) = false := by rw [beq_eq_false_iff_ne]; omega
        have p3 : ((s[0].toNat : Int) != 123) = true := by rw [bne, p2]; rfl
        have p4 : ¬ (s[0].toNat : Int) = 123 := by omega
        have HN := Lib.hid (HNO.out (fun h => by
          have h1 := h.1.2.1
          rw [hx0] at h1
          injection h1 with h1
          exact hc0 h1))
        clear hx0 hc0
        go_enter Tryd.func31, Tryd.ntmps31
        go_wp2
        go_ret2
        exact ILR.no_ HN.out (Below.refl _ _)
    · have HN := Lib.hid (HNO.out (fun h => by have h1 := h.1.1; rw [HSZ.out] at h1; exact h2 h1))
      go_enter Tryd.func31, Tryd.ntmps31
      go_wp2
      go_ret2
      exact ILR.no_ HN.out (Below.refl _ _)
set_option maxHeartbeats 1000000 in
theorem iReadLabels_any (s : ByteArray) (w : World) (hs : s.size ≤ 1048576) (hm : MxAt w) : Calls Tryd.prog 8 #[.string s] w (LR s w) := by
  have HC := Lib.hid (readLabels_any s w hs hm)
  obtain ⟨o, ho⟩ : ∃ o, refL s.data.toList = o := ⟨_, rfl⟩
  unfold LR at HC ⊢
  rw [ho] at HC ⊢
  clear ho hm
  cases o with
  | some l =>
    go_enter Tryd.func8, Tryd.ntmps8
    go_wp2_with fail
    refine HC.out.mono ?_
    rintro e w' ⟨A, c, rfl, hr, hc⟩
    have HR := Lib.hid hr
    have HCH := Lib.hid hc
    clear hr hc
    go_wp2
    go_ret2
    exact ⟨A, c, rfl, HR.out, HCH.out⟩
  | none =>
    go_enter Tryd.func8, Tryd.ntmps8
    go_wp2_with fail
    refine HC.out.mono ?_
    rintro e w' ⟨A, c, rfl, hr, hc⟩
    have HR := Lib.hid hr
    have HCH := Lib.hid hc
    clear hr hc
    go_wp2
    go_ret2
    exact ⟨A, c, rfl, HR.out, HCH.out⟩
end Go.Proofs.YtjokpbopceolcaaDoor
