/- Whether a form fits a text: the program's walk. -/
import Derived.Test.YtbpeceejboojoaaFitP
import Derived.Deep.RegionHeld3
import Derived.Deep.RegionWith
import Derived.Deep.DeepCutAuto
namespace Go.Proofs.Ytbpeceejboojoaa
set_option linter.unusedVariables false
set_option linter.unusedSimpArgs false
open Go.RowKit

theorem infoSSB : (Try.prog.info? 70).map (fun i => (i.zero, i.size, i.bytes)) = some (some (.slice none 0 0), 1, 24) := by kernel_rfl
theorem infoSB : (Try.prog.info? 71).map (fun i => (i.zero, i.size, i.bytes)) = some (some (.slice none 0 0), 1, 24) := by kernel_rfl
theorem infoBool : (Try.prog.info? 4).map (fun i => (i.zero, i.size, i.bytes)) = some (some (.bool false), 1, 1) := by kernel_rfl
/-- A block of so many cells that may be written. -/
def Blk (w : World) (b N : Nat) : Prop := (∀ j, j < N → ∃ u, w.cell? ⟨b, j, none⟩ = some u) ∧ (∀ j, w.frozen? ⟨b, j, none⟩ = false) ∧ b < w.heap.size
theorem Blk.of {w : World} {base e n c g : Nat} {xs : List Value} (h : w.ownsRow base e 1 (.slice (some ⟨g, 0, none⟩) n c) n xs) : Blk w g n := by
  refine ⟨fun j hj => ?_, fun j => h.frozenAt j, (h.lt g rfl).2⟩
  rw [h.cellAt j (by omega)]
  exact ⟨_, List.getElem?_eq_getElem (by have := h.1; omega)⟩
theorem Blk.bel {w w' : World} {b N B : Nat} (h : Blk w b N) (hb : Below B w w') (hB : b < B) : Blk w' b N :=
  ⟨fun j hj => by obtain ⟨u, hu⟩ := h.1 j hj; exact ⟨u, (bcell hb _ _ hB).trans hu⟩, fun j => (hb.frozen (p := ⟨b, j, none⟩) hB).trans (h.2.1 j), Nat.lt_of_lt_of_le h.2.2 hb.size⟩
theorem Blk.set {w : World} {b N b' k : Nat} {v : Value} (h : Blk w b N) : Blk (w.setCell ⟨b', k, none⟩ v) b N := by
  refine ⟨fun j hj => ?_, fun j => by rw [World.frozen?_setCell]; exact h.2.1 j, by rw [World.size_setCell]; exact h.2.2⟩
  obtain ⟨u, hu⟩ := h.1 j hj
  by_cases e : (⟨b, j, none⟩ : Addr) = ⟨b', k, none⟩
  · rw [e]; exact ⟨v, World.cell?_setCell_same _ _ _ (by rw [← e]; exact hu)⟩
  · exact ⟨u, (World.cell?_setCell_other _ _ _ _ (fun h => e h.symm)).trans hu⟩
theorem seg_all (s : List UInt8) : seg s 0 s.length = s := by unfold seg; simp
set_option maxRecDepth 100000 in
set_option maxHeartbeats 16000000 in
theorem fits_any (B : Nat) (A : Option Addr) (n c : Nat) (l : List Prt) (s : ByteArray) (w : World) (hBw : B ≤ w.heap.size) (h : Rd w B 4 A n (prts l)) (hn : n ≤ 24) (hg : goodPrt l = true) (hs : s.size ≤ 1000) :
    Calls Try.prog 27 #[.slice A n c, .string s] w fun e w' => e = .returned (.bool (mt (tr l (n - 1)) s.data.toList)) ∧ Below w.heap.size w w' := by
  obtain ⟨i0, hi0, hz0, hz1, hz2⟩ := info_parts infoSSB
  have HI0 := Lib.hid (And.intro hi0 (And.intro hz0 (And.intro hz1 hz2)))
  clear hi0 hz0 hz1 hz2
  obtain ⟨i1, hi0, hz0, hz1, hz2⟩ := info_parts infoSB
  have HI1 := Lib.hid (And.intro hi0 (And.intro hz0 (And.intro hz1 hz2)))
  clear hi0 hz0 hz1 hz2
  obtain ⟨i2, hi0, hz0, hz1, hz2⟩ := info_parts infoBool
  have HI2 := Lib.hid (And.intro hi0 (And.intro hz0 (And.intro hz1 hz2)))
  clear hi0 hz0 hz1 hz2
  have hlen := h.prt_len
  have H := Lib.hid h
  have hn1 : 1 ≤ n := by
    unfold goodPrt at hg
    simp only [Bool.and_eq_true, decide_eq_true_eq] at hg
    omega
  have hsz : s.data.toList.length = s.size := by simp
  have HV := Lib.hid (show mt (tr l (n - 1)) s.data.toList = vT l s.data.toList (n - 1) 0 s.size by unfold vT; rw [← hsz, seg_all])
  obtain ⟨N, hN⟩ : ∃ N, N = s.size + 1 := ⟨_, rfl⟩
  have HG := Lib.hid hg
  have HNi := Lib.hid (show ((s.size : Int) + 1) = (N : Int) by omega)
  clear h hg hsz hlen
  go_enter Try.func27, Try.ntmps27
  go_upto_region 2 with fail
  rw [HNi.out]
  have hN1 : N ≤ 1001 := by omega
  have hN2 : 1 ≤ N := by omega
  have HN := Lib.hid hN
  clear hN
  go_wp2_with (at_make; refine wpList_make_full _ rfl (.tmp 15) (.tmp 15) 69 rfl w.heap.size 70 i0 (.slice none 0 0) 1 Try.underlying69 HI0.out.1 HI0.out.2.1 HI0.out.2.2.1 _ _ _ _ n rfl rfl rfl rfl (by rw [HI0.out.2.2.2]; omega) (by unfold maxLen; omega) (Nat.le_refl _) ?_; intro w1 hown hgrow)
  have HB1 := Lib.hid (show Below w.heap.size w w1 from (Below.refl _ _).grown hgrow (Nat.le_refl _) (by simp))
  have HK1 := Lib.hid (Blk.of hown)
  obtain ⟨T, hT⟩ : ∃ T, w.heap.size = T := ⟨_, rfl⟩
  have HT := Lib.hid hT
  rw [hT] at HK1 ⊢
  clear hown hgrow hT
  go_wp2_with fail
  go_loopw [19] (fun v wr => ∃ k : Nat, k ≤ n ∧ v = .int .i64 k ∧ Blk wr T n ∧ Below w.heap.size w wr ∧ ∀ j, j < k → Tb wr T N j 0 wr.heap.size (vT l s.data.toList j)) (fun v _ => n - (intOf v).toNat)
  case atStart => exact ⟨0, Nat.zero_le _, rfl, HK1.out, HB1.out, fun j hj => by omega⟩
  case round =>
    clear HK1 HB1
    obtain ⟨k, hk, rfl, hkT, hbw, hold⟩ := hrel
    have HKT := Lib.hid hkT
    have HBW := Lib.hid hbw
    have HOLD := Lib.hid hold
    have hsw := hbw.size
    have hTw := hkT.2.2
    have hTe := HT.out
    clear hkT hbw hold
    by_cases hlt : k < n
    · obtain ⟨b0, off, kd, x, pa, pb, rfl, hbB, hp, hc0, hc1, hc2, hc3⟩ := H.out.prt_at hlt
      have d0 := (bcell HBW.out b0 (off + k * 4) (by omega)).trans hc0
      have d1 := (bcell HBW.out b0 (off + k * 4 + 1) (by omega)).trans hc1
      have d2 := (bcell HBW.out b0 (off + k * 4 + 2) (by omega)).trans hc2
      have d3 := (bcell HBW.out b0 (off + k * 4 + 3) (by omega)).trans hc3
      have HP := Lib.hid hp
      clear hp hc0 hc1 hc2 hc3
      go_wp2_with (at_make; refine wpList_make_full _ rfl (.tmp 26) (.tmp 26) 70 rfl (wr.heap.size + 1) 71 i1 (.slice none 0 0) 1 Try.underlying70 HI1.out.1 HI1.out.2.1 HI1.out.2.2.1 _ _ _ _ N rfl rfl rfl rfl (by rw [HI1.out.2.2.2]; omega) (by unfold maxLen; omega) (by simp) ?_; intro w2 hown hgrow; have hbx : Below wr.heap.size wr w2 := ((Below.refl _ _).alloc (Nat.le_refl _) _).trans (((Below.refl _ _).grown hgrow (show wr.heap.size + 1 ≤ _ by simp) (by simp)).mono (Nat.le_succ _)); obtain ⟨uT, huT⟩ := (HKT.out.bel hbx hTw).1 k hlt; have hfT := (HKT.out.bel hbx hTw).2.1 k)
      obtain ⟨r, hr⟩ : ∃ r, wr.heap.size + 1 = r := ⟨_, rfl⟩
      have hsa : (wr.alloc (.cells #[.int .i64 kd, .string x, .int .i64 pa, .int .i64 pb] 50)).heap.size = r := by rw [← hr]; simp
      rw [hsa] at hown
      have hb2 : Below r (wr.alloc (.cells #[.int .i64 kd, .string x, .int .i64 pa, .int .i64 pb] 50)) w2 := (Below.refl _ _).grown hgrow (by rw [hsa]; exact Nat.le_refl _) (by simp)
      have hk2 := Blk.of hown
      have hs2 := hk2.2.2
      obtain ⟨P8, hP8⟩ : ∃ P8, wr.heap.size = P8 := ⟨_, rfl⟩
      have hPr : P8 < r := by omega
      have hTP : T < P8 := by omega
      have hp0 : w2.cell? ⟨P8, 0, none⟩ = some (.int .i64 kd) := (bcell hb2 _ _ hPr).trans (by rw [← hP8]; simp)
      have hp1 : w2.cell? ⟨P8, 1, none⟩ = some (.string x) := (bcell hb2 _ _ hPr).trans (by rw [← hP8]; simp)
      have hp2 : w2.cell? ⟨P8, 2, none⟩ = some (.int .i64 pa) := (bcell hb2 _ _ hPr).trans (by rw [← hP8]; simp)
      have hp3 : w2.cell? ⟨P8, 3, none⟩ = some (.int .i64 pb) := (bcell hb2 _ _ hPr).trans (by rw [← hP8]; simp)
      obtain ⟨w3, hw3⟩ : ∃ w3, w2.setCell ⟨T, k, none⟩ (.slice (some ⟨r, 0, none⟩) N N) = w3 := ⟨_, rfl⟩
      rw [hr, hP8, hw3]
      have hs3 : w3.heap.size = w2.heap.size := by rw [← hw3, World.size_setCell]
      have HKT3 := Lib.hid (show Blk w3 T n by rw [← hw3]; exact (HKT.out.bel hbx hTw).set)
      have HB3 := Lib.hid (show Below w.heap.size w w3 by rw [← hw3]; exact (HBW.out.trans (hbx.mono hsw)).setCell (by simp; omega) _)
      have HOLD3 := Lib.hid (show ∀ j, j < k → Tb w3 T N j 0 P8 (vT l s.data.toList j) from fun j hj => by rw [← hw3, ← hP8]; exact ((HOLD.out j hj).bel hbx hTw (Nat.le_refl _)).setT (by omega))
      have HK3 := Lib.hid (show Blk w3 r N by rw [← hw3]; exact hk2.set)
      have HTK := Lib.hid (show w3.cell? ⟨T, k, none⟩ = some (.slice (some ⟨r, 0, none⟩) N N) by rw [← hw3]; exact World.cell?_setCell_same _ _ _ huT)
      have ne : ∀ i, w3.cell? ⟨P8, i, none⟩ = w2.cell? ⟨P8, i, none⟩ := fun i => by rw [← hw3]; exact World.cell?_setCell_other _ _ _ _ (by intro e; injection e; omega)
      have HPP := Lib.hid (And.intro ((ne 0).trans hp0) (And.intro ((ne 1).trans hp1) (And.intro ((ne 2).trans hp2) ((ne 3).trans hp3))))
      have hr3 : r < w3.heap.size := by omega
      have hTr : T < r := by omega
      have hT3 : T < w3.heap.size := by omega
      clear hown hgrow hb2 hbx hk2 HKT HBW HOLD d0 d1 d2 d3 hp0 hp1 hp2 hp3 ne huT hfT uT hsa hr hP8 hw3 hs2 hs3
      go_loopw [9] (fun v wq => ∃ lo : Nat, lo ≤ N ∧ v = .int .i64 ((lo : Int) - 1) ∧ Below r w3 wq ∧ Blk wq r N ∧ Rw wq r N lo wq.heap.size (vT l s.data.toList k)) (fun v _ => (intOf v + 1).toNat)
      case atStart => exact ⟨N, Nat.le_refl _, rfl, Below.refl _ _, HK3.out, fun f h1 h2 => by omega⟩
      case round =>
        clear HK3
        obtain ⟨lo, hlo, rfl, hbq, hkq, hrow⟩ := hrel
        by_cases hl0 : 0 < lo
        · obtain ⟨g, rfl⟩ : ∃ g, lo = g + 1 := ⟨lo - 1, by omega⟩
          rw [show (((g + 1 : Nat) : Int) - 1) = (g : Int) by omega]
          have hgN : g < N := by omega
          have HBQ := Lib.hid hbq
          have HROW := Lib.hid hrow
          have hsq := hbq.size
          obtain ⟨wm, hrun, hown, hgrow⟩ := run_make_full (P := Try.prog) (w := wr.drew) wr.heap.size 71 4 i2 (.bool false) 1 Try.underlying71 HI2.out.1 HI2.out.2.1 HI2.out.2.2.1 .i64 .i64 N (by rw [HI2.out.2.2.2]; omega) (by unfold maxLen; omega) (Nat.le_refl _)
          have hbm : Below wr.heap.size wr wm := ((Below.refl wr.heap.size wr).drew).grown hgrow (Nat.le_refl _) (by simp)
          have hkm := Blk.of hown
          have hc1 : wr.drew.cell? ⟨T, k, none⟩ = some (.slice (some ⟨r, 0, none⟩) N N) := (bcell hbq _ _ hTr).trans HTK.out
          have hc2 : wm.cell? ⟨T, k, none⟩ = some (.slice (some ⟨r, 0, none⟩) N N) := (bcell hbm _ _ (by omega)).trans hc1
          obtain ⟨ur, hur⟩ := (hkq.bel hbm (by omega)).1 g hgN
          have hfr := (hkq.bel hbm (by omega)).2.1 g
          have hrun' : Sem.run Try.prog (Instr.makeSlice 71 (.int .i64 (N : Int)) (.int .i64 (N : Int))) wr.drew = .ok (.slice (some ⟨wr.heap.size, 0, none⟩) N N) wm := hrun
          have HKQ := Lib.hid hkq
          have HOM := Lib.hid hown
          have HBM := Lib.hid hbm
          have HKM := Lib.hid hkm
          clear hbq hkq hrow hgrow hrun hown hbm hkm
          go_wp2_with fail
          go_region_with (fail)
          all_goals
            obtain ⟨b, hb⟩ : ∃ b, wr.heap.size = b := ⟨_, rfl⟩
            obtain ⟨w6, hw6⟩ : ∃ w6, wm.setCell ⟨r, g, none⟩ (.slice (some ⟨wr.heap.size, 0, none⟩) N N) = w6 := ⟨_, rfl⟩
            rw [hw6, hb]
            have hkm : Blk wm b N := by rw [← hb]; exact HKM.out
            have hbm6 : Below r wr w6 := by rw [← hw6]; exact (HBM.out.mono (by omega)).setCell (by simp) _
            have HB6 := Lib.hid (HBQ.out.trans hbm6)
            have HKR6 := Lib.hid (show Blk w6 r N by rw [← hw6]; exact (HKQ.out.bel HBM.out (by omega)).set)
            have HKB6 := Lib.hid (show Blk w6 b N by rw [← hw6]; exact hkm.set)
            have HRG := Lib.hid (show w6.cell? ⟨r, g, none⟩ = some (.slice (some ⟨b, 0, none⟩) N N) by rw [← hw6, ← hb]; exact World.cell?_setCell_same _ _ _ hur)
            have HRW := Lib.hid (show Rw w6 r N (g + 1) b (vT l s.data.toList k) from by
              rw [← hb]
              intro f hf hfN
              obtain ⟨b', q1, q0, q2, q3⟩ := HROW.out f hf hfN
              rw [← hw6]
              exact ⟨b', (World.cell?_setCell_other _ _ _ _ (by intro e; injection e; omega)).trans ((bcell HBM.out _ _ (by omega)).trans q1), q0, q2,
                fun t ht htN => (World.cell?_setCell_other _ _ _ _ (by intro e; injection e; omega)).trans ((bcell HBM.out _ _ q2).trans (q3 t ht htN))⟩)
            have hrb : r < b := by omega
            have hb6 : b < w6.heap.size := HKB6.out.2.2
            clear hc1 hc2 hur hfr hrun' hkm hbm6 HKQ HOM HBM HKM HBQ HROW hw6 hb hsq
            go_wp2_with fail
            go_loopw [10] (fun v wz => ∃ t : Nat, g ≤ t ∧ t ≤ N ∧ v = .int .i64 t ∧ Below b w6 wz ∧ Blk wz b N ∧ ∀ t', g ≤ t' → t' < t → wz.cell? ⟨b, t', none⟩ = some (.bool (vT l s.data.toList k g t'))) (fun v _ => N - (intOf v).toNat)
            case atStart => exact ⟨g, Nat.le_refl _, by omega, rfl, Below.refl _ _, HKB6.out, fun t' h1 h2 => by omega⟩
            case round =>
              obtain ⟨t, hgt, htN, rfl, hbz, hkz, hcz⟩ := hrel
              have HBZ := Lib.hid hbz
              have HKZ := Lib.hid hkz
              have HCZ := Lib.hid hcz
              have hsz := hbz.size
              clear hbz hkz hcz
              by_cases htlt : t < N
              · have hbelz : Below r w3 wr := HB6.out.trans (HBZ.out.mono (by omega))
                have hp := HPP.out
                have hTc : wr.drew.cell? ⟨T, k, none⟩ = some (.slice (some ⟨r, 0, none⟩) N N) := (bcell hbelz _ _ hTr).trans HTK.out
                have hRc : wr.drew.cell? ⟨r, g, none⟩ = some (.slice (some ⟨b, 0, none⟩) N N) := (bcell HBZ.out _ _ hrb).trans HRG.out
                have p0 : wr.drew.cell? ⟨P8, 0, none⟩ = some (.int .i64 kd) := (bcell hbelz _ _ hPr).trans hp.1
                have p1 : wr.drew.cell? ⟨P8, 1, none⟩ = some (.string x) := (bcell hbelz _ _ hPr).trans hp.2.1
                have p2 : wr.drew.cell? ⟨P8, 2, none⟩ = some (.int .i64 pa) := (bcell hbelz _ _ hPr).trans hp.2.2.1
                have p3 : wr.drew.cell? ⟨P8, 3, none⟩ = some (.int .i64 pb) := (bcell hbelz _ _ hPr).trans hp.2.2.2
                have htab : TabF wr T N k g l s.data.toList := ⟨by omega, fun j hj => ((HOLD3.out j hj).bel hbelz hTr (by omega)).wide (by omega),
                  ⟨r, hTc, hTr, by omega, (HRW.out.bel HBZ.out hrb (Nat.le_refl _)).wide (by omega)⟩⟩
                have HCF := Lib.hid (fitsPart_any T n n N l s k g t ⟨kd, x, pa, pb⟩ wr.drew HG.out HP.out HN.out hs hlt hn hgt htlt (htab.below ((Below.refl _ _).drew)))
                have HV8 := Lib.hid HKZ.out
                clear hp htab hbelz
                go_wp2_with fail
                go_region_held3 (fun w' => w'.cell? ⟨T, k, none⟩ = some (.slice (some ⟨r, 0, none⟩) N N) ∧ w'.cell? ⟨r, g, none⟩ = some (.slice (some ⟨b, 0, none⟩) N N) ∧ w'.cell? ⟨P8, 0, none⟩ = some (.int .i64 kd) ∧ w'.cell? ⟨P8, 1, none⟩ = some (.string x) ∧ w'.cell? ⟨P8, 2, none⟩ = some (.int .i64 pa) ∧ w'.cell? ⟨P8, 3, none⟩ = some (.int .i64 pb))
                  (first | go_keep | (go_split_ands; exact ⟨(bcell hb7 _ _ (by simp; omega)).trans (by assumption), (bcell hb7 _ _ (by simp; omega)).trans (by assumption), (bcell hb7 _ _ (by simp; omega)).trans (by assumption), (bcell hb7 _ _ (by simp; omega)).trans (by assumption), (bcell hb7 _ _ (by simp; omega)).trans (by assumption), (bcell hb7 _ _ (by simp; omega)).trans (by assumption)⟩) | (go_split_ands; exact ⟨(World.cell?_setCell_other _ _ _ _ (by intro e; injection e; omega)).trans ((bcell hb7 _ _ (by simp; omega)).trans (by assumption)), (World.cell?_setCell_other _ _ _ _ (by intro e; injection e; omega)).trans ((bcell hb7 _ _ (by simp; omega)).trans (by assumption)), (World.cell?_setCell_other _ _ _ _ (by intro e; injection e; omega)).trans ((bcell hb7 _ _ (by simp; omega)).trans (by assumption)), (World.cell?_setCell_other _ _ _ _ (by intro e; injection e; omega)).trans ((bcell hb7 _ _ (by simp; omega)).trans (by assumption)), (World.cell?_setCell_other _ _ _ _ (by intro e; injection e; omega)).trans ((bcell hb7 _ _ (by simp; omega)).trans (by assumption)), (World.cell?_setCell_other _ _ _ _ (by intro e; injection e; omega)).trans ((bcell hb7 _ _ (by simp; omega)).trans (by assumption))⟩) | (go_split_ands; exact ⟨(World.cell?_setCell_other _ _ _ _ (by intro e; injection e; omega)).trans (by assumption), (World.cell?_setCell_other _ _ _ _ (by intro e; injection e; omega)).trans (by assumption), (World.cell?_setCell_other _ _ _ _ (by intro e; injection e; omega)).trans (by assumption), (World.cell?_setCell_other _ _ _ _ (by intro e; injection e; omega)).trans (by assumption), (World.cell?_setCell_other _ _ _ _ (by intro e; injection e; omega)).trans (by assumption), (World.cell?_setCell_other _ _ _ _ (by intro e; injection e; omega)).trans (by assumption)⟩))
                  ((go_at_call 43; refine HCF.out.mono ?_; rintro e w7 ⟨rfl, hb7⟩; obtain ⟨ut, hut⟩ := (Blk.bel (w := wr.drew) HKZ.out hb7 (by simp; omega)).1 t htlt; have hft := (Blk.bel (w := wr.drew) HKZ.out hb7 (by simp; omega)).2.1 t))
                have HB8 := Lib.hid (show Below b w6 (w7.setCell ⟨b, t, none⟩ (.bool (vT l s.data.toList k g t))) from (HBZ.out.trans (((Below.refl _ _).drew.trans hb7).mono (by simp; omega))).setCell (by simp) _)
                have HK8 := Lib.hid (show Blk (w7.setCell ⟨b, t, none⟩ (.bool (vT l s.data.toList k g t))) b N from (Blk.bel (w := wr.drew) HKZ.out hb7 (by simp; omega)).set)
                have HC8 := Lib.hid (show ∀ t', g ≤ t' → t' < t + 1 → (w7.setCell ⟨b, t, none⟩ (.bool (vT l s.data.toList k g t))).cell? ⟨b, t', none⟩ = some (.bool (vT l s.data.toList k g t')) from fun t' h1 h2 => by
                  by_cases he : t' = t
                  · subst he; exact World.cell?_setCell_same _ _ _ hut
                  · exact (World.cell?_setCell_other _ _ _ _ (by intro e; injection e; omega)).trans ((bcell hb7 _ _ (by simp; omega)).trans (HCZ.out t' h1 (by omega))))
                clear hTc hRc p0 p1 p2 p3 hb7 hut hft HCF HBZ HKZ HCZ HV8
                go_wp2
                go_roundw
                case rel => exact ⟨t + 1, by omega, by omega, by go_num, HB8.out, HK8.out, HC8.out⟩
                case measure => simp [intOf]; omega
              · obtain rfl : t = N := by omega
                have HB9 := Lib.hid (HB6.out.trans (HBZ.out.mono (by omega)))
                have HKR9 := Lib.hid (HKR6.out.bel HBZ.out hrb)
                have HR9 := Lib.hid (show Rw wr r t g wr.heap.size (vT l s.data.toList k) from fun f hf hfN => by
                  by_cases he : f = g
                  · subst he
                    exact ⟨b, (bcell HBZ.out _ _ hrb).trans HRG.out, hrb, by omega, fun t' h1 h2 => HCZ.out t' h1 h2⟩
                  · exact (HRW.out.bel HBZ.out hrb (Nat.le_refl _)).wide (by omega) f (by omega) hfN)
                go_wp2
                go_roundw
                case rel => exact ⟨g, by omega, by go_num, HB9.out, HKR9.out, HR9.out⟩
                case measure => first | (simp [intOf]; done) | (simp [intOf]; omega)
        · obtain rfl : lo = 0 := by omega
          have HB4 := Lib.hid (HB3.out.trans (hbq.mono (by omega)))
          have HKT4 := Lib.hid (HKT3.out.bel hbq hTr)
          have hsq := hbq.size
          have HO4 := Lib.hid (show ∀ j, j < k + 1 → Tb wr T N j 0 wr.heap.size (vT l s.data.toList j) from fun j hj => by
            by_cases he : j = k
            · subst he; exact ⟨r, (bcell hbq _ _ hTr).trans HTK.out, hTr, by omega, hrow⟩
            · exact ((HOLD3.out j (by omega)).bel hbq hTr (by omega)).wide (by omega))
          clear hbq hkq hrow
          go_wp2
          go_roundw
          case rel => exact ⟨k + 1, by omega, by go_num, HKT4.out, HB4.out, HO4.out⟩
          case measure => simp [intOf]; omega
    · obtain rfl : k = n := by omega
      obtain ⟨m, rfl⟩ : ∃ m, k = m + 1 := ⟨k - 1, by omega⟩
      obtain ⟨q, rfl⟩ : ∃ q, N = q + 1 := ⟨N - 1, by omega⟩
      obtain ⟨r1, b1, e1, e2, e3⟩ := (HOLD.out m (by omega)).at_ (Nat.zero_le _) (Nat.zero_le _) (show q < q + 1 by omega)
      have hqs : q = s.size := by have := HN.out; omega
      have HFV := Lib.hid (show vT l s.data.toList m 0 q = mt (tr l (m + 1 - 1)) s.data.toList by rw [HV.out, hqs]; rfl)
      obtain ⟨V, hV⟩ : ∃ V, vT l s.data.toList m 0 q = V := ⟨_, rfl⟩
      rw [hV] at e3 HFV
      have hm1 : (((m + 1 : Nat) : Int) - 1) = (m : Int) := by omega
      have hq1 : (((q + 1 : Nat) : Int) - 1) = (q : Int) := by omega
      clear hV hqs
      go_wp2
      go_ret
      rw [← HFV.out]
      exact ⟨rfl, HBW.out⟩
end Go.Proofs.Ytbpeceejboojoaa
