/- What a query selects: the program's walk. -/
import Derived.Test.YtpdclppieicaeaaEvalS
import Derived.Test.YtpdclppieicaeaaJoinI
namespace Go.Proofs.Ytpdclppieicaeaa
set_option linter.unusedVariables false
set_option linter.unusedSimpArgs false
open Go.RowKit

theorem hne_of_own {w : World} {base T n c g : Nat} {A : Option Addr} {xs : List Value} (h : w.ownsRow base T 1 (.slice A n c) n xs) (hg : g < base) : 0 < n → A ≠ some ⟨g, 0, none⟩ := fun hn e => by
  obtain ⟨b, cap, hv, hb, _⟩ := own_form h hn
  injection hv with e'
  rw [e'] at e
  injection e with e
  injection e with e
  omega
theorem hne_of_rd {w : World} {B n g : Nat} {A : Option Addr} {xs : List Value} (h : Rd w B 1 A n xs) (hg : B ≤ g) : 0 < n → A ≠ some ⟨g, 0, none⟩ := fun hn e => by
  obtain ⟨b, off, e', hb, _⟩ := h.2 hn
  rw [e'] at e
  injection e with e
  injection e with e
  omega
set_option maxRecDepth 100000 in
set_option maxHeartbeats 16000000 in
theorem evalQuery_any (B : Nat) (A : Option Addr) (n c : Nat) (ls : List (List Lab)) (A2 : Option Addr) (n2 c2 : Nat) (q : List Qry) (w : World) (hBw : B ≤ w.heap.size) (h : RdSS w B A n ls) (hg : goodSer ls = true) (h2 : Rd w B 5 A2 n2 (qrys q)) (hq : goodQry q = true) :
    Calls Try.prog 48 #[.slice A n c, .slice A2 n2 c2] w (OwnV w.heap.size w (evalL ls q)) := by
  obtain ⟨i0, hi, hi0, hi1, hi2⟩ := info_parts infoInt
  have HI := Lib.hid (And.intro hi (And.intro hi0 (And.intro hi1 hi2)))
  clear hi hi0 hi1 hi2
  obtain ⟨i1, hi, hi0, hi1, hi2⟩ := info_parts infoIntS
  have HI1 := Lib.hid (And.intro hi (And.intro hi0 (And.intro hi1 hi2)))
  clear hi hi0 hi1 hi2
  have hn := goodSer_len hg
  rw [h.len] at hn
  have HL := Lib.hid h.len
  have HQL := Lib.hid h2.qry_len
  have hq20 := goodQ_len hq
  rw [HQL.out] at hq20
  obtain ⟨hq1, hq2⟩ := hq20
  have HG := Lib.hid hg
  have HGQ := Lib.hid hq
  have H := Lib.hid h
  have H2 := Lib.hid h2
  clear h h2 hg hq
  go_enter Try.func48, Try.ntmps48
  go_wp2
  go_loopw [5, 12] (fun v i wr => ∃ (k : Nat) (A' : Option Addr) (c' : Nat), k ≤ n ∧ i = .int .i64 k ∧ v = .slice A' k c' ∧ wr.ownsRow w.heap.size 3 1 (.slice A' k c') k (ints (allP k)) ∧ Below w.heap.size w wr) (fun _ i _ => n - (intOf i).toNat)
  case atStart => exact ⟨0, none, 0, Nat.zero_le _, rfl, rfl, World.ownsRow_nil _ _ _ _, Below.refl _ _⟩
  case round =>
    obtain ⟨k, A', c', hk, rfl, rfl, ho, hb⟩ := hrel
    have hsz := hb.size
    have HO := Lib.hid ho
    have HB := Lib.hid hb
    clear ho hb
    by_cases hlt : k < n
    · go_wp2_with (at_builtin; refine wpList_append_own _ rfl (.tmp 15) (.tmp 17) 27 rfl w.heap.size 3 i0 (.int .i64 0) 1 8 Try.underlying27 HI.out.1 HI.out.2.1 HI.out.2.2.1 HI.out.2.2.2 rfl (by decide) _ _ _ rfl (HO.out.alloc _) ⟨wr.heap.size, 0, none⟩ 1 1 [.int .i64 k] rfl rfl (by intro j u hj; cases j with | zero => simp at hj; subst hj; simp [Addr.add] | succ j => simp at hj) (by intro u hu; simp at hu; subst hu; rfl) (by unfold maxLen; omega) (by omega) (by simp; omega) ?_)
      intro v' w2 ho2 hg2 _
      obtain ⟨A3, c3, rfl⟩ := own_slice ho2
      have HO3 := Lib.hid (show w2.ownsRow w.heap.size 3 1 (.slice A3 (k + 1) c3) (k + 1) (ints (allP (k + 1))) by
        rw [allP_succ, ints_app]
        exact ho2)
      have HB3 := Lib.hid ((HB.out.alloc hsz _).grown hg2 (by simp; omega) (fun k hk => (HO.out.lt k hk).1))
      clear ho2 hg2
      go_wp2
      go_roundw
      case rel => exact ⟨k + 1, A3, c3, by omega, by go_num, rfl, HO3.out, HB3.out⟩
      case measure => simp [intOf]; omega
    · obtain rfl : k = n := by omega
      obtain ⟨w1, hw1⟩ : ∃ w1, wr = w1 := ⟨_, rfl⟩
      subst hw1
      obtain ⟨B1, hB1⟩ : ∃ B1, wr.heap.size = B1 := ⟨_, rfl⟩
      have HB1 := Lib.hid hB1
      have HAL := Lib.hid (show Rd wr B1 1 A' k (ints (allP k)) from hB1 ▸ Rd.of_own HO.out)
      have HAO := Lib.hid (R0.of_own HO.out)
      have HW := Lib.hid (H.out.below (HB.out.mono hBw))
      have HW2 := Lib.hid (H2.out.below (HB.out.mono hBw))
      have hB1B : B ≤ B1 := by omega
      rw [hB1] at hsz
      clear hB1 H H2 hk hlt
      obtain ⟨w1, hw1⟩ : ∃ w1, w1 = wr := ⟨_, rfl⟩
      rw [← hw1] at HO HB HB1 HAL HAO HW HW2 ⊢
      clear hw1
      go_wp2_with (at_make; refine wpList_make_full _ rfl (.tmp 21) (.tmp 21) 92 rfl B1 27 i1 (.slice none 0 0) 1 Try.underlying92 HI1.out.1 HI1.out.2.1 HI1.out.2.2.1 _ _ _ _ n2 rfl rfl rfl rfl (by rw [HI1.out.2.2.2]; omega) (by unfold maxLen; omega) (by rw [HB1.out]; exact Nat.le_refl _) ?_; intro w2 hown hgrow)
      have hbm : Below B1 w1 w2 := (Below.refl _ _).grown hgrow (by rw [HB1.out]; exact Nat.le_refl _) (by simp)
      rw [HB1.out] at hown
      obtain ⟨Z, hZ⟩ : ∃ Z, Z = (madeCells (Value.cells (.slice none 0 0)) (n2 * 1)).toList := ⟨_, rfl⟩
      rw [← hZ] at hown
      have HZ := Lib.hid (show Z.length = n2 by have := hown.1; omega)
      have hlt1 : B1 < w2.heap.size := by
        obtain ⟨g, cap, hv, _, hlt, _⟩ := own_form hown (by omega)
        injection hv with e
        injection e with e
        injection e with e
        omega
      have HM0 := Lib.hid (show ToldM 27 B1 B1 n2 0 Z [] w2 from ToldM.start hown (Nat.le_refl _) hlt1)
      have HBM := Lib.hid hbm
      rw [HB1.out]
      clear hown hgrow hZ hbm hlt1
      go_loopw [25] (fun i wr => ∃ (m : Nat), m ≤ n2 ∧ i = .int .i64 m ∧ ToldM 27 B1 B1 n2 m Z (evs ls (q.take m)) wr ∧ Below B1 w1 wr) (fun i _ => n2 - (intOf i).toNat)
      case atStart => exact ⟨0, Nat.zero_le _, rfl, HM0.out, HBM.out⟩
      case round =>
        clear HM0 HBM
        obtain ⟨m, hm, rfl, ht, hb⟩ := hrel
        have hsz2 := hb.size
        rw [HB1.out] at hsz2
        have hBlt : B1 < wr.heap.size := by obtain ⟨hs, _, _, _, _, h6, _⟩ := ht; exact h6
        have HT := Lib.hid ht
        have HBB := Lib.hid hb
        clear ht hb
        by_cases hlt2 : m < n2
        · obtain ⟨b0, off, kd, x, y, a, b, rfl, hbB, hp, hc0, hc1, hc2, hc3, hc4⟩ := HW2.out.qry_at hlt2
          have hc0 := (bcell HBB.out _ _ (by omega)).trans hc0
          have hc1 := (bcell HBB.out _ _ (by omega)).trans hc1
          have hc2 := (bcell HBB.out _ _ (by omega)).trans hc2
          have hc3 := (bcell HBB.out _ _ (by omega)).trans hc3
          have hc4 := (bcell HBB.out _ _ (by omega)).trans hc4
          have hsh := goodQ_at HGQ.out hp
          have hev := evs_step (se := ls) hp
          have HMQ := Lib.hid (show m ≤ q.length by rw [HQL.out]; omega)
          clear hp
          cases hsh with
          | all =>
            have HEV := Lib.hid (show evs ls (q.take (m + 1)) = evs ls (q.take m) ++ [allP k] by rw [hev, ← HL.out]; rfl)
            have hne := hne_of_rd HAL.out (Nat.le_refl B1)
            have HRW := Lib.hid (show R0 wr (A', k, c') (allP k) from ⟨(HAL.out.below HBB.out).more hsz2, HAO.out.2⟩)
            obtain ⟨⟨u0, hu0⟩, hf0⟩ := HT.out.slot hlt2 HZ.out
            have hu1 := fun o => (World.cell?_alloc_lt wr o ⟨B1, m, none⟩ hBlt).trans hu0
            have hf1 := fun o => (((Below.refl _ _).alloc (Nat.le_refl _) o).frozen (p := ⟨B1, m, none⟩) hBlt).trans hf0
            have HT5 := Lib.hid (HT.out.put hlt2 HZ.out (h := (A', k, c')) (z := allP k) HRW.out hne)
            have HB5 := Lib.hid (HBB.out.setCell (p := ⟨B1, m, none⟩) (Nat.le_refl _) (.slice A' k c'))
            clear HRW hne hev
            go_wp2
            go_roundw
            case rel => exact ⟨m + 1, by omega, by go_num, by rw [HEV.out]; exact HT5.out.below ((Below.refl _ _).alloc (Nat.le_refl _) _), HB5.out.alloc (by rw [World.size_setCell]; exact hsz2) _⟩
            case measure => simp [intOf]; omega
          | has x y hx =>
            have HEV := Lib.hid (show evs ls (q.take (m + 1)) = evs ls (q.take m) ++ [postsL ls (x, y)] by rw [hev]; rfl)
            obtain ⟨wq, hwq⟩ : ∃ wq, wr.alloc (.cells #[.int .i64 2, .string x, .string y, .int .i64 0, .int .i64 0] 59) = wq := ⟨_, rfl⟩
            have hbq : Below wr.heap.size wr wq := hwq ▸ (Below.refl _ _).alloc (Nat.le_refl _) _
            have hsq : wq.heap.size = wr.heap.size + 1 := by rw [← hwq]; simp
            have hsqd : wq.drew.heap.size = wr.heap.size + 1 := hsq
            have e0 : wq.cell? ⟨wr.heap.size, 0, none⟩ = some (.int .i64 2) := by rw [← hwq]; exact World.cell?_alloc_at _ _ _ _ rfl
            have e1 : wq.cell? ⟨wr.heap.size, 1, none⟩ = some (.string x) := by rw [← hwq]; exact World.cell?_alloc_at _ _ _ _ rfl
            have e2 : wq.cell? ⟨wr.heap.size, 2, none⟩ = some (.string y) := by rw [← hwq]; exact World.cell?_alloc_at _ _ _ _ rfl
            have e3 : wq.cell? ⟨wr.heap.size, 3, none⟩ = some (.int .i64 0) := by rw [← hwq]; exact World.cell?_alloc_at _ _ _ _ rfl
            have e4 : wq.cell? ⟨wr.heap.size, 4, none⟩ = some (.int .i64 0) := by rw [← hwq]; exact World.cell?_alloc_at _ _ _ _ rfl
            have HWQ := Lib.hid hwq
            have HBQ0 := Lib.hid hbq
            have HTQ := Lib.hid (HT.out.below hbq)
            have HBQ := Lib.hid (HBB.out.trans (hbq.mono hsz2))
            clear hwq hbq
            have HC := Lib.hid (postsOf_any B A k c ls x y wq (by omega) (HW.out.below (HBQ.out.mono hB1B)) HG.out)
            clear hev
            go_wp2_with fail
            rw [HWQ.out]
            refine HC.out.mono ?_
            rintro e w3 ⟨A3, c3, rfl, ho3, hb3⟩
            obtain ⟨⟨u0, hu0⟩, hf0⟩ := (HTQ.out.below hb3).slot hlt2 HZ.out
            have hWs : B1 ≤ w3.heap.size := by have := hb3.size; omega
            have HRW := Lib.hid (R0.of_own ho3)
            have hne := hne_of_own ho3 (g := B1) (by omega)
            have HT5 := Lib.hid ((HTQ.out.below hb3).put hlt2 HZ.out (h := (A3, (postsL ls (x, y)).length, c3)) (z := (postsL ls (x, y))) HRW.out hne)
            have HB5 := Lib.hid ((HBQ.out.trans (hb3.mono (by omega))).setCell (p := ⟨B1, m, none⟩) (Nat.le_refl _) (.slice A3 (postsL ls (x, y)).length c3))
            clear ho3 hb3 HTQ HBQ HC HWQ HRW hne HBQ0 e0 e1 e2 e3 e4
            go_wp2
            go_roundw
            case rel => exact ⟨m + 1, by omega, by go_num, by rw [HEV.out]; exact HT5.out, HB5.out⟩
            case measure => simp [intOf]; omega
          | and a b ha hb =>
            obtain ⟨A1, n1, c1, z1, hz1, hd1, hr1⟩ := HT.out.at_ ha
            obtain ⟨A4, n4, c4, z4, hz4, hd4, hr4⟩ := HT.out.at_ hb
            obtain ⟨hs1, hg1⟩ := evs_at HMQ.out hz1
            obtain ⟨hs4, hg4⟩ := evs_at HMQ.out hz4
            have HEV := Lib.hid (show evs ls (q.take (m + 1)) = evs ls (q.take m) ++ [meetP z1 z4] by
              rw [hev]
              show _ ++ [meetP ((evs ls (q.take m)).getD ((a : Int)).toNat []) ((evs ls (q.take m)).getD ((b : Int)).toNat [])] = _
              rw [Int.toNat_natCast, Int.toNat_natCast, hg1, hg4])
            have hln1 := hs1.len
            have hln4 := hs4.len
            rw [HL.out] at hln1 hln4
            have hi1 := hr1.1.int_len
            have hi4 := hr4.1.int_len
            have hn1 : n1 ≤ 60 := by show (A1, n1, c1).2.1 ≤ 60; omega
            have hn4 : n4 ≤ 60 := by show (A4, n4, c4).2.1 ≤ 60; omega
            have han : a < n2 := by omega
            have hbn : b < n2 := by omega
            obtain ⟨wq, hwq⟩ : ∃ wq, wr.alloc (.cells #[.int .i64 3, .string ⟨#[]⟩, .string ⟨#[]⟩, .int .i64 a, .int .i64 b] 59) = wq := ⟨_, rfl⟩
            have hbq : Below wr.heap.size wr wq := hwq ▸ (Below.refl _ _).alloc (Nat.le_refl _) _
            have hsq : wq.heap.size = wr.heap.size + 1 := by rw [← hwq]; simp
            have hsqd : wq.drew.heap.size = wr.heap.size + 1 := hsq
            have e0 : wq.cell? ⟨wr.heap.size, 0, none⟩ = some (.int .i64 3) := by rw [← hwq]; exact World.cell?_alloc_at _ _ _ _ rfl
            have e1 : wq.cell? ⟨wr.heap.size, 1, none⟩ = some (.string ⟨#[]⟩) := by rw [← hwq]; exact World.cell?_alloc_at _ _ _ _ rfl
            have e2 : wq.cell? ⟨wr.heap.size, 2, none⟩ = some (.string ⟨#[]⟩) := by rw [← hwq]; exact World.cell?_alloc_at _ _ _ _ rfl
            have e3 : wq.cell? ⟨wr.heap.size, 3, none⟩ = some (.int .i64 a) := by rw [← hwq]; exact World.cell?_alloc_at _ _ _ _ rfl
            have e4 : wq.cell? ⟨wr.heap.size, 4, none⟩ = some (.int .i64 b) := by rw [← hwq]; exact World.cell?_alloc_at _ _ _ _ rfl
            have e0 : wq.drew.cell? ⟨wr.heap.size, 0, none⟩ = some (.int .i64 3) := e0
            have e1 : wq.drew.cell? ⟨wr.heap.size, 1, none⟩ = some (.string ⟨#[]⟩) := e1
            have e2 : wq.drew.cell? ⟨wr.heap.size, 2, none⟩ = some (.string ⟨#[]⟩) := e2
            have e3 : wq.drew.cell? ⟨wr.heap.size, 3, none⟩ = some (.int .i64 a) := e3
            have e4 : wq.drew.cell? ⟨wr.heap.size, 4, none⟩ = some (.int .i64 b) := e4
            have HWQ := Lib.hid hwq
            have HBQ0 := Lib.hid hbq.drew
            have HTQ := Lib.hid (HT.out.below hbq.drew)
            have HBQ := Lib.hid (HBB.out.trans (hbq.drew.mono hsz2))
            clear hwq hbq
            have q1 : wq.drew.cell? ⟨B1, a, none⟩ = some (.slice A1 n1 c1) := (bcell HBQ0.out _ _ hBlt).trans hd1
            have q4 : wq.drew.cell? ⟨B1, b, none⟩ = some (.slice A4 n4 c4) := (bcell HBQ0.out _ _ hBlt).trans hd4
            have HC := Lib.hid (meet_any wr.heap.size A1 A4 n1 c1 n4 c4 z1 z4 wq.drew (by omega) (hr1.1.below HBQ0.out) (by omega) (hr4.1.below HBQ0.out) (by omega))
            clear hev hz1 hz4 hs1 hs4 hg1 hg4 hln1 hln4 hi1 hi4 hd1 hd4 hr1 hr4
            go_wp2_with fail
            rw [HWQ.out]
            go_region_held3 (fun w' => w'.cell? ⟨wr.heap.size, 3, none⟩ = some (.int .i64 a) ∧ w'.cell? ⟨wr.heap.size, 4, none⟩ = some (.int .i64 b) ∧ w'.cell? ⟨B1, a, none⟩ = some (.slice A1 n1 c1) ∧ w'.cell? ⟨B1, b, none⟩ = some (.slice A4 n4 c4))
              (first | go_keep | (go_split_ands; exact ⟨(by first | exact (bcell hb3 _ _ (by omega)).trans (by assumption) | exact (World.cell?_setCell_other _ _ _ _ (by first | (simp; done) | (simp; omega))).trans (by first | assumption | exact (bcell hb3 _ _ (by omega)).trans (by assumption))), (by first | exact (bcell hb3 _ _ (by omega)).trans (by assumption) | exact (World.cell?_setCell_other _ _ _ _ (by first | (simp; done) | (simp; omega))).trans (by first | assumption | exact (bcell hb3 _ _ (by omega)).trans (by assumption))), (by first | exact (bcell hb3 _ _ (by omega)).trans (by assumption) | exact (World.cell?_setCell_other _ _ _ _ (by first | (simp; done) | (simp; omega))).trans (by first | assumption | exact (bcell hb3 _ _ (by omega)).trans (by assumption))), (by first | exact (bcell hb3 _ _ (by omega)).trans (by assumption) | exact (World.cell?_setCell_other _ _ _ _ (by first | (simp; done) | (simp; omega))).trans (by first | assumption | exact (bcell hb3 _ _ (by omega)).trans (by assumption)))⟩))
              ((go_at_call 56; refine HC.out.mono ?_; rintro e w3 ⟨A3, c3, rfl, ho3, hb3⟩; obtain ⟨⟨u0, hu0⟩, hf0⟩ := (HTQ.out.below hb3).slot hlt2 HZ.out))
            all_goals
              have hWs : B1 ≤ w3.heap.size := by have := hb3.size; omega
              have HRW := Lib.hid (R0.of_own ho3)
              have hne := hne_of_own ho3 (g := B1) (by omega)
              have HT5 := Lib.hid ((HTQ.out.below hb3).put hlt2 HZ.out (h := (A3, (meetP z1 z4).length, c3)) (z := (meetP z1 z4)) HRW.out hne)
              have HB5 := Lib.hid ((HBQ.out.trans (hb3.mono (by omega))).setCell (p := ⟨B1, m, none⟩) (Nat.le_refl _) (.slice A3 (meetP z1 z4).length c3))
              clear ho3 hb3 HTQ HBQ HC HWQ HRW hne HBQ0 e0 e1 e2 e3 e4 q1 q4
              go_wp2
              go_roundw
              case rel => exact ⟨m + 1, by omega, by go_num, by rw [HEV.out]; exact HT5.out, HB5.out⟩
              case measure => simp [intOf]; omega
          | or a b ha hb =>
            obtain ⟨A1, n1, c1, z1, hz1, hd1, hr1⟩ := HT.out.at_ ha
            obtain ⟨A4, n4, c4, z4, hz4, hd4, hr4⟩ := HT.out.at_ hb
            obtain ⟨hs1, hg1⟩ := evs_at HMQ.out hz1
            obtain ⟨hs4, hg4⟩ := evs_at HMQ.out hz4
            have HEV := Lib.hid (show evs ls (q.take (m + 1)) = evs ls (q.take m) ++ [joinP z1 z4] by
              rw [hev]
              show _ ++ [joinP ((evs ls (q.take m)).getD ((a : Int)).toNat []) ((evs ls (q.take m)).getD ((b : Int)).toNat [])] = _
              rw [Int.toNat_natCast, Int.toNat_natCast, hg1, hg4])
            have hln1 := hs1.len
            have hln4 := hs4.len
            rw [HL.out] at hln1 hln4
            have hi1 := hr1.1.int_len
            have hi4 := hr4.1.int_len
            have hn1 : n1 ≤ 60 := by show (A1, n1, c1).2.1 ≤ 60; omega
            have hn4 : n4 ≤ 60 := by show (A4, n4, c4).2.1 ≤ 60; omega
            have han : a < n2 := by omega
            have hbn : b < n2 := by omega
            obtain ⟨wq, hwq⟩ : ∃ wq, wr.alloc (.cells #[.int .i64 4, .string ⟨#[]⟩, .string ⟨#[]⟩, .int .i64 a, .int .i64 b] 59) = wq := ⟨_, rfl⟩
            have hbq : Below wr.heap.size wr wq := hwq ▸ (Below.refl _ _).alloc (Nat.le_refl _) _
            have hsq : wq.heap.size = wr.heap.size + 1 := by rw [← hwq]; simp
            have hsqd : wq.drew.heap.size = wr.heap.size + 1 := hsq
            have e0 : wq.cell? ⟨wr.heap.size, 0, none⟩ = some (.int .i64 4) := by rw [← hwq]; exact World.cell?_alloc_at _ _ _ _ rfl
            have e1 : wq.cell? ⟨wr.heap.size, 1, none⟩ = some (.string ⟨#[]⟩) := by rw [← hwq]; exact World.cell?_alloc_at _ _ _ _ rfl
            have e2 : wq.cell? ⟨wr.heap.size, 2, none⟩ = some (.string ⟨#[]⟩) := by rw [← hwq]; exact World.cell?_alloc_at _ _ _ _ rfl
            have e3 : wq.cell? ⟨wr.heap.size, 3, none⟩ = some (.int .i64 a) := by rw [← hwq]; exact World.cell?_alloc_at _ _ _ _ rfl
            have e4 : wq.cell? ⟨wr.heap.size, 4, none⟩ = some (.int .i64 b) := by rw [← hwq]; exact World.cell?_alloc_at _ _ _ _ rfl
            have e0 : wq.drew.cell? ⟨wr.heap.size, 0, none⟩ = some (.int .i64 4) := e0
            have e1 : wq.drew.cell? ⟨wr.heap.size, 1, none⟩ = some (.string ⟨#[]⟩) := e1
            have e2 : wq.drew.cell? ⟨wr.heap.size, 2, none⟩ = some (.string ⟨#[]⟩) := e2
            have e3 : wq.drew.cell? ⟨wr.heap.size, 3, none⟩ = some (.int .i64 a) := e3
            have e4 : wq.drew.cell? ⟨wr.heap.size, 4, none⟩ = some (.int .i64 b) := e4
            have HWQ := Lib.hid hwq
            have HBQ0 := Lib.hid hbq.drew
            have HTQ := Lib.hid (HT.out.below hbq.drew)
            have HBQ := Lib.hid (HBB.out.trans (hbq.drew.mono hsz2))
            clear hwq hbq
            have q1 : wq.drew.cell? ⟨B1, a, none⟩ = some (.slice A1 n1 c1) := (bcell HBQ0.out _ _ hBlt).trans hd1
            have q4 : wq.drew.cell? ⟨B1, b, none⟩ = some (.slice A4 n4 c4) := (bcell HBQ0.out _ _ hBlt).trans hd4
            have HC := Lib.hid (join_any wr.heap.size A1 A4 n1 c1 n4 c4 z1 z4 wq.drew (by omega) (hr1.1.below HBQ0.out) (by omega) (hr4.1.below HBQ0.out) (by omega) hs1.1)
            clear hev hz1 hz4 hs1 hs4 hg1 hg4 hln1 hln4 hi1 hi4 hd1 hd4 hr1 hr4
            go_wp2_with fail
            rw [HWQ.out]
            go_region_held3 (fun w' => w'.cell? ⟨wr.heap.size, 3, none⟩ = some (.int .i64 a) ∧ w'.cell? ⟨wr.heap.size, 4, none⟩ = some (.int .i64 b) ∧ w'.cell? ⟨B1, a, none⟩ = some (.slice A1 n1 c1) ∧ w'.cell? ⟨B1, b, none⟩ = some (.slice A4 n4 c4))
              (first | go_keep | (go_split_ands; exact ⟨(by first | exact (bcell hb3 _ _ (by omega)).trans (by assumption) | exact (World.cell?_setCell_other _ _ _ _ (by first | (simp; done) | (simp; omega))).trans (by first | assumption | exact (bcell hb3 _ _ (by omega)).trans (by assumption))), (by first | exact (bcell hb3 _ _ (by omega)).trans (by assumption) | exact (World.cell?_setCell_other _ _ _ _ (by first | (simp; done) | (simp; omega))).trans (by first | assumption | exact (bcell hb3 _ _ (by omega)).trans (by assumption))), (by first | exact (bcell hb3 _ _ (by omega)).trans (by assumption) | exact (World.cell?_setCell_other _ _ _ _ (by first | (simp; done) | (simp; omega))).trans (by first | assumption | exact (bcell hb3 _ _ (by omega)).trans (by assumption))), (by first | exact (bcell hb3 _ _ (by omega)).trans (by assumption) | exact (World.cell?_setCell_other _ _ _ _ (by first | (simp; done) | (simp; omega))).trans (by first | assumption | exact (bcell hb3 _ _ (by omega)).trans (by assumption)))⟩))
              ((go_at_call 70; refine HC.out.mono ?_; rintro e w3 ⟨A3, c3, rfl, ho3, hb3⟩; obtain ⟨⟨u0, hu0⟩, hf0⟩ := (HTQ.out.below hb3).slot hlt2 HZ.out))
            all_goals
              have hWs : B1 ≤ w3.heap.size := by have := hb3.size; omega
              have HRW := Lib.hid (R0.of_own ho3)
              have hne := hne_of_own ho3 (g := B1) (by omega)
              have HT5 := Lib.hid ((HTQ.out.below hb3).put hlt2 HZ.out (h := (A3, (joinP z1 z4).length, c3)) (z := (joinP z1 z4)) HRW.out hne)
              have HB5 := Lib.hid ((HBQ.out.trans (hb3.mono (by omega))).setCell (p := ⟨B1, m, none⟩) (Nat.le_refl _) (.slice A3 (joinP z1 z4).length c3))
              clear ho3 hb3 HTQ HBQ HC HWQ HRW hne HBQ0 e0 e1 e2 e3 e4 q1 q4
              go_wp2
              go_roundw
              case rel => exact ⟨m + 1, by omega, by go_num, by rw [HEV.out]; exact HT5.out, HB5.out⟩
              case measure => simp [intOf]; omega
          | not_ a ha =>
            obtain ⟨A1, n1, c1, z1, hz1, hd1, hr1⟩ := HT.out.at_ ha
            obtain ⟨hs1, hg1⟩ := evs_at HMQ.out hz1
            have HEV := Lib.hid (show evs ls (q.take (m + 1)) = evs ls (q.take m) ++ [lessP (allP k) z1] by
              rw [hev]
              show _ ++ [lessP (allP ls.length) ((evs ls (q.take m)).getD ((a : Int)).toNat [])] = _
              rw [Int.toNat_natCast, hg1, HL.out])
            have hln1 := hs1.len
            rw [HL.out] at hln1
            have hi1 := hr1.1.int_len
            have hn1 : n1 ≤ 60 := by show (A1, n1, c1).2.1 ≤ 60; omega
            obtain ⟨wq, hwq⟩ : ∃ wq, wr.alloc (.cells #[.int .i64 5, .string ⟨#[]⟩, .string ⟨#[]⟩, .int .i64 a, .int .i64 0] 59) = wq := ⟨_, rfl⟩
            have hbq : Below wr.heap.size wr wq := hwq ▸ (Below.refl _ _).alloc (Nat.le_refl _) _
            have hsq : wq.heap.size = wr.heap.size + 1 := by rw [← hwq]; simp
            have hsqd : wq.drew.heap.size = wr.heap.size + 1 := hsq
            have e0 : wq.cell? ⟨wr.heap.size, 0, none⟩ = some (.int .i64 5) := by rw [← hwq]; exact World.cell?_alloc_at _ _ _ _ rfl
            have e1 : wq.cell? ⟨wr.heap.size, 1, none⟩ = some (.string ⟨#[]⟩) := by rw [← hwq]; exact World.cell?_alloc_at _ _ _ _ rfl
            have e2 : wq.cell? ⟨wr.heap.size, 2, none⟩ = some (.string ⟨#[]⟩) := by rw [← hwq]; exact World.cell?_alloc_at _ _ _ _ rfl
            have e3 : wq.cell? ⟨wr.heap.size, 3, none⟩ = some (.int .i64 a) := by rw [← hwq]; exact World.cell?_alloc_at _ _ _ _ rfl
            have e4 : wq.cell? ⟨wr.heap.size, 4, none⟩ = some (.int .i64 0) := by rw [← hwq]; exact World.cell?_alloc_at _ _ _ _ rfl
            have HWQ := Lib.hid hwq
            have HBQ0 := Lib.hid hbq
            have HTQ := Lib.hid (HT.out.below hbq)
            have HBQ := Lib.hid (HBB.out.trans (hbq.mono hsz2))
            clear hwq hbq
            have q1 : ∀ o, (wr.alloc o).cell? ⟨B1, a, none⟩ = some (.slice A1 n1 c1) := fun o => (World.cell?_alloc_lt wr o ⟨B1, a, none⟩ hBlt).trans hd1
            have HC := Lib.hid (less_any wr.heap.size A' A1 k c' n1 c1 (allP k) z1 wq (by omega) ((HAL.out.below HBQ.out).more hsz2) (by omega) (hr1.1.below HBQ0.out) (by omega))
            clear hev hz1 hs1 hg1 hln1 hi1 hd1 hr1
            go_wp2_with fail
            rw [HWQ.out]
            refine HC.out.mono ?_
            rintro e w3 ⟨A3, c3, rfl, ho3, hb3⟩
            obtain ⟨⟨u0, hu0⟩, hf0⟩ := (HTQ.out.below hb3).slot hlt2 HZ.out
            have hWs : B1 ≤ w3.heap.size := by have := hb3.size; omega
            have HRW := Lib.hid (R0.of_own ho3)
            have hne := hne_of_own ho3 (g := B1) (by omega)
            have HT5 := Lib.hid ((HTQ.out.below hb3).put hlt2 HZ.out (h := (A3, (lessP (allP k) z1).length, c3)) (z := (lessP (allP k) z1)) HRW.out hne)
            have HB5 := Lib.hid ((HBQ.out.trans (hb3.mono (by omega))).setCell (p := ⟨B1, m, none⟩) (Nat.le_refl _) (.slice A3 (lessP (allP k) z1).length c3))
            clear ho3 hb3 HTQ HBQ HC HWQ HRW hne HBQ0 e0 e1 e2 e3 e4 q1
            go_wp2
            go_roundw
            case rel => exact ⟨m + 1, by omega, by go_num, by rw [HEV.out]; exact HT5.out, HB5.out⟩
            case measure => simp [intOf]; omega
        · obtain rfl : m = n2 := by omega
          obtain ⟨A1, n1, c1, z1, hz1, hd1, hr1⟩ := HT.out.at_ (j := m - 1) (by omega)
          have hzz := evs_at (se := ls) (q := q) (k := m) (by rw [HQL.out]; exact Nat.le_refl _) hz1
          have HZE := Lib.hid (show evalL ls q = z1 by
            have e := hzz.2
            rw [List.take_of_length_le (by rw [HQL.out]; exact Nat.le_refl _)] at e
            unfold evalL
            rw [HQL.out]; exact e)
          have hln1 := hzz.1.len
          rw [HL.out] at hln1
          have hi1 := hr1.1.int_len
          have hn1 : n1 ≤ 60 := by show (A1, n1, c1).2.1 ≤ 60; omega
          have hmi : ((m : Int) - 1).toNat = m - 1 := by omega
          have HCL := Lib.hid (clone_any wr.heap.size A1 n1 c1 z1 wr (Nat.le_refl _) hr1.1 (by omega))
          clear hz1 hzz hr1 hln1
          go_wp2_with fail
          refine HCL.out.mono ?_
          rintro e w3 ⟨A3, c3, rfl, ho3, hb3⟩
          have ho3 : w3.ownsRow wr.heap.size 3 1 (.slice A3 n1 c3) n1 (ints z1) := ho3
          have HO3 := Lib.hid ho3
          have HB3 := Lib.hid (HBB.out.trans (hb3.mono hsz2))
          clear ho3 hb3 HCL
          go_wp2
          go_ret
          rw [HZE.out]
          have e1 : z1.length = n1 := hi1
          rw [← HB1.out] at HB3
          refine ⟨A3, c3, by rw [e1]; rfl, ?_, HB.out.trans (HB3.out.mono (by rw [HB1.out]; exact hsz))⟩
          rw [e1]
          exact own_mono HO3.out (by omega)
end Go.Proofs.Ytpdclppieicaeaa
