/- What a query selects: the reference's walk. -/
import Derived.Test.YtpdclppieicaeaaPostsOf
import Derived.Test.YtpdclppieicaeaaTold
import Derived.Test.YtpdclppieicaeaaSets
import Derived.Test.YtpdclppieicaeaaPutI
import Derived.Deep.RegionHeld3
namespace Go.Proofs.Ytpdclppieicaeaa
set_option linter.unusedVariables false
set_option linter.unusedSimpArgs false
open Go.RowKit

theorem infoIntS : (Try.prog.info? 27).map (fun i => (i.zero, i.size, i.bytes)) = some (some (.slice none 0 0), 1, 24) := by kernel_rfl
theorem evs_step {se : List (List Lab)} {q : List Qry} {k : Nat} {p : Qry} (h : q[k]? = some p) : evs se (q.take (k + 1)) = evs se (q.take k) ++ [ev1 se (evs se (q.take k)) p] := by
  rw [take_snoc' q k p h, evs_snoc]
theorem evs_at {se : List (List Lab)} {q : List Qry} {k j : Nat} {z : List Int} (hk : k ≤ q.length) (h : (evs se (q.take k))[j]? = some z) : Sel se.length z ∧ (evs se (q.take k)).getD j [] = z :=
  ⟨sel_evs se q k hk z (List.mem_of_getElem? h), by rw [List.getD, h]; rfl⟩
set_option maxRecDepth 100000 in
set_option maxHeartbeats 16000000 in
theorem l4Eval_any (B : Nat) (A : Option Addr) (n c : Nat) (ls : List (List Lab)) (A2 : Option Addr) (n2 c2 : Nat) (q : List Qry) (w : World) (hBw : B ≤ w.heap.size) (h : RdSS w B A n ls) (hg : goodSer ls = true) (h2 : Rd w B 5 A2 n2 (qrys q)) (hq : goodQry q = true) :
    Calls Try.prog 45 #[.slice A n c, .slice A2 n2 c2] w (OwnV w.heap.size w (evalL ls q)) := by
  obtain ⟨i0, hi, hi0, hi1, hi2⟩ := info_parts infoInt
  have HI := Lib.hid (And.intro hi (And.intro hi0 (And.intro hi1 hi2)))
  clear hi hi0 hi1 hi2
  obtain ⟨i1, hi, hi0, hi1, hi2⟩ := info_parts infoIntS
  have HI1 := Lib.hid (And.intro hi (And.intro hi0 (And.intro hi1 hi2)))
  clear hi hi0 hi1 hi2
  have hn := goodSer_len hg
  rw [h.len] at hn
  have HL := Lib.hid h.len
  have HQL := Lib.hid h2.qry_len
  have hq20 := goodQ_len hq
  rw [HQL.out] at hq20
  obtain ⟨hq1, hq2⟩ := hq20
  have HG := Lib.hid hg
  have HGQ := Lib.hid hq
  have H := Lib.hid h
  have H2 := Lib.hid h2
  clear h h2 hg hq
  go_enter Try.func45, Try.ntmps45
  go_wp2
  go_loopw [5, 13] (fun v i wr => ∃ (k : Nat) (A' : Option Addr) (c' : Nat), k ≤ n ∧ i = .int .i64 k ∧ v = .slice A' k c' ∧ wr.ownsRow w.heap.size 3 1 (.slice A' k c') k (ints (allP k)) ∧ Below w.heap.size w wr) (fun _ i _ => n - (intOf i).toNat)
  case atStart => exact ⟨0, none, 0, Nat.zero_le _, rfl, rfl, World.ownsRow_nil _ _ _ _, Below.refl _ _⟩
  case round =>
    obtain ⟨k, A', c', hk, rfl, rfl, ho, hb⟩ := hrel
    have hsz := hb.size
    have HO := Lib.hid ho
    have HB := Lib.hid hb
    clear ho hb
    by_cases hlt : k < n
    · go_wp2_with (at_builtin; refine wpList_append_own _ rfl (.tmp 16) (.tmp 18) 27 rfl w.heap.size 3 i0 (.int .i64 0) 1 8 Try.underlying27 HI.out.1 HI.out.2.1 HI.out.2.2.1 HI.out.2.2.2 rfl (by decide) _ _ _ rfl (HO.out.alloc _) ⟨wr.heap.size, 0, none⟩ 1 1 [.int .i64 k] rfl rfl (by intro j u hj; cases j with | zero => simp at hj; subst hj; simp [Addr.add] | succ j => simp at hj) (by intro u hu; simp at hu; subst hu; rfl) (by unfold maxLen; omega) (by omega) (by simp; omega) ?_)
      intro v' w2 ho2 hg2 _
      obtain ⟨A3, c3, rfl⟩ := own_slice ho2
      have HO3 := Lib.hid (show w2.ownsRow w.heap.size 3 1 (.slice A3 (k + 1) c3) (k + 1) (ints (allP (k + 1))) by
        rw [allP_succ, ints_app]
        exact ho2)
      have HB3 := Lib.hid ((HB.out.alloc hsz _).grown hg2 (by simp; omega) (fun k hk => (HO.out.lt k hk).1))
      clear ho2 hg2
      go_wp2
      go_roundw
      case rel => exact ⟨k + 1, A3, c3, by omega, by go_num, rfl, HO3.out, HB3.out⟩
      case measure => simp [intOf]; omega
    · obtain rfl : k = n := by omega
      obtain ⟨w1, hw1⟩ : ∃ w1, wr = w1 := ⟨_, rfl⟩
      subst hw1
      obtain ⟨B1, hB1⟩ : ∃ B1, wr.heap.size = B1 := ⟨_, rfl⟩
      have HB1 := Lib.hid hB1
      have HAL := Lib.hid (show Rd wr B1 1 A' k (ints (allP k)) from hB1 ▸ Rd.of_own HO.out)
      have HAO := Lib.hid (R0.of_own HO.out)
      have HW := Lib.hid (H.out.below (HB.out.mono hBw))
      have HW2 := Lib.hid (H2.out.below (HB.out.mono hBw))
      have hB1B : B ≤ B1 := by omega
      rw [hB1] at hsz
      clear hB1 H H2 hk hlt
      go_wp2
      obtain ⟨w1, hw1⟩ : ∃ w1, w1 = wr := ⟨_, rfl⟩
      rw [← hw1] at HO HB HB1 HAL HAO HW HW2 ⊢
      clear hw1
      go_loopw [7, 23] (fun v i wr => ∃ (k : Nat) (At : Option Addr) (ct : Nat), k ≤ n2 ∧ i = .int .i64 k ∧ v = .slice At k ct ∧ Told 27 B1 (.slice At k ct) k (evs ls (q.take k)) wr ∧ Below B1 w1 wr) (fun _ i _ => n2 - (intOf i).toNat)
      case atStart => exact ⟨0, none, 0, Nat.zero_le _, rfl, rfl, Told.start, Below.refl _ _⟩
      case round =>
        obtain ⟨m, At, ct, hm, rfl, rfl, ht, hb⟩ := hrel
        have hsz2 := hb.size
        rw [HB1.out] at hsz2
        have HT := Lib.hid ht
        have HBB := Lib.hid hb
        clear ht hb
        by_cases hlt2 : m < n2
        · obtain ⟨b0, off, kd, x, y, a, b, rfl, hbB, hp, hc0, hc1, hc2, hc3, hc4⟩ := HW2.out.qry_at hlt2
          have hc0 := (bcell HBB.out _ _ (by omega)).trans hc0
          have hc1 := (bcell HBB.out _ _ (by omega)).trans hc1
          have hc2 := (bcell HBB.out _ _ (by omega)).trans hc2
          have hc3 := (bcell HBB.out _ _ (by omega)).trans hc3
          have hc4 := (bcell HBB.out _ _ (by omega)).trans hc4
          have hsh := goodQ_at HGQ.out hp
          have hev := evs_step (se := ls) hp
          have HMQ := Lib.hid (show m ≤ q.length by rw [HQL.out]; omega)
          have HTW0 := Lib.hid (fun o => HT.out.below ((Below.refl _ _).alloc (Nat.le_refl _) o))
          clear hp
          cases hsh with
          | all =>
            have HEV := Lib.hid (show evs ls (q.take (m + 1)) = evs ls (q.take m) ++ [allP k] by rw [hev, ← HL.out]; rfl)
            have HTW := Lib.hid (HTW0.out (.cells #[.int .i64 1, .string ⟨#[]⟩, .string ⟨#[]⟩, .int .i64 0, .int .i64 0] 59))
            have HRW := Lib.hid (show R0 (wr.alloc (.cells #[.int .i64 1, .string ⟨#[]⟩, .string ⟨#[]⟩, .int .i64 0, .int .i64 0] 59)) (A', k, c') (allP k) from
              ⟨(HAL.out.below (HBB.out.alloc hsz2 _)).more (by simp; omega), HAO.out.2⟩)
            have HBW := Lib.hid (HBB.out.alloc hsz2 (.cells #[.int .i64 1, .string ⟨#[]⟩, .string ⟨#[]⟩, .int .i64 0, .int .i64 0] 59))
            have hWs : B1 ≤ (wr.alloc (.cells #[.int .i64 1, .string ⟨#[]⟩, .string ⟨#[]⟩, .int .i64 0, .int .i64 0] 59)).heap.size := by simp; omega
            clear hev
            obtain ⟨hs, hl1, hl2, hoT, h0, hr⟩ := HTW.out
            have HO := Lib.hid hoT
            have HL1 := Lib.hid hl1
            have HL2 := Lib.hid hl2
            have H00 := Lib.hid h0
            have HRR := Lib.hid hr
            clear hoT hl1 hl2 h0 hr
            go_wp2_with (at_builtin; refine wpList_append_own _ rfl (.tmp 71) (.tmp 73) 92 rfl B1 27 i1 (.slice none 0 0) 1 24 Try.underlying92 HI1.out.1 HI1.out.2.1 HI1.out.2.2.1 HI1.out.2.2.2 rfl (by decide) _ m _ rfl (HO.out.alloc _) ⟨wr.heap.size + 1, 0, none⟩ 1 1 [.slice A' k c'] rfl rfl (by intro j u hj; cases j with | zero => simp at hj; subst hj; simp [Addr.add] | succ j => simp at hj) (by intro u hu; simp at hu; subst hu; rfl) (by unfold maxLen; omega) (by omega) (by simp; omega) ?_)
            intro v' w5 ho5 hg5 _
            obtain ⟨A5, c5, rfl⟩ := own_slice ho5
            have HT5 := Lib.hid (Told.app HL1.out HL2.out (HO.out.alloc _) H00.out (fun j h z e e' => (HRR.out j h z e e').below ((Below.refl _ _).alloc (Nat.le_refl _) _)) (h := (A', k, c')) (z := allP k) (HRW.out.below ((Below.refl _ _).alloc (Nat.le_refl _) _)) ho5 hg5)
            have HB5 := Lib.hid ((HBW.out.alloc hWs _).grown hg5 (by simp; omega) (fun k hk => (HO.out.lt k hk).1))
            clear ho5 hg5 HTW HRW HBW HRR HO
            go_wp2
            go_roundw
            case rel => exact ⟨m + 1, A5, c5, by omega, by go_num, rfl, by rw [HEV.out]; exact HT5.out, HB5.out⟩
            case measure => simp [intOf]; omega
          | has x y hx =>
            have HEV := Lib.hid (show evs ls (q.take (m + 1)) = evs ls (q.take m) ++ [postsL ls (x, y)] by rw [hev]; rfl)
            obtain ⟨wq, hwq⟩ : ∃ wq, wr.alloc (.cells #[.int .i64 2, .string x, .string y, .int .i64 0, .int .i64 0] 59) = wq := ⟨_, rfl⟩
            have hbq : Below wr.heap.size wr wq := hwq ▸ (Below.refl _ _).alloc (Nat.le_refl _) _
            have hsq : wq.heap.size = wr.heap.size + 1 := by rw [← hwq]; simp
            have e0 : wq.cell? ⟨wr.heap.size, 0, none⟩ = some (.int .i64 2) := by rw [← hwq]; exact World.cell?_alloc_at _ _ _ _ rfl
            have e1 : wq.cell? ⟨wr.heap.size, 1, none⟩ = some (.string x) := by rw [← hwq]; exact World.cell?_alloc_at _ _ _ _ rfl
            have e2 : wq.cell? ⟨wr.heap.size, 2, none⟩ = some (.string y) := by rw [← hwq]; exact World.cell?_alloc_at _ _ _ _ rfl
            have e3 : wq.cell? ⟨wr.heap.size, 3, none⟩ = some (.int .i64 0) := by rw [← hwq]; exact World.cell?_alloc_at _ _ _ _ rfl
            have e4 : wq.cell? ⟨wr.heap.size, 4, none⟩ = some (.int .i64 0) := by rw [← hwq]; exact World.cell?_alloc_at _ _ _ _ rfl
            have HWQ := Lib.hid hwq
            have HBQ0 := Lib.hid hbq
            have HTQ := Lib.hid (HT.out.below hbq)
            have HBQ := Lib.hid (HBB.out.trans (hbq.mono hsz2))
            clear hwq hbq HTW0
            have HC := Lib.hid (l4Posts_any B A k c ls x y wq (by omega) (HW.out.below (HBQ.out.mono hB1B)) HG.out)
            clear hev
            go_wp2_with fail
            rw [HWQ.out]
            refine HC.out.mono ?_
            rintro e w3 ⟨A3, c3, rfl, ho3, hb3⟩
            have hWs : B1 ≤ w3.heap.size := by have := hb3.size; omega
            have HTW := Lib.hid (HTQ.out.below hb3)
            have HRW := Lib.hid (R0.of_own ho3)
            have HBW := Lib.hid (HBQ.out.trans (hb3.mono (by omega)))
            clear ho3 hb3 HTQ HBQ HC e0 e1 e2 e3 e4 HWQ
            obtain ⟨hs, hl1, hl2, hoT, h0, hr⟩ := HTW.out
            have HO := Lib.hid hoT
            have HL1 := Lib.hid hl1
            have HL2 := Lib.hid hl2
            have H00 := Lib.hid h0
            have HRR := Lib.hid hr
            clear hoT hl1 hl2 h0 hr
            go_wp2_with (at_builtin; refine wpList_append_own _ rfl (.tmp 71) (.tmp 73) 92 rfl B1 27 i1 (.slice none 0 0) 1 24 Try.underlying92 HI1.out.1 HI1.out.2.1 HI1.out.2.2.1 HI1.out.2.2.2 rfl (by decide) _ m _ rfl (HO.out.alloc _) ⟨w3.heap.size, 0, none⟩ 1 1 [.slice A3 (postsL ls (x, y)).length c3] rfl rfl (by intro j u hj; cases j with | zero => simp at hj; subst hj; simp [Addr.add] | succ j => simp at hj) (by intro u hu; simp at hu; subst hu; rfl) (by unfold maxLen; omega) (by omega) (by simp; omega) ?_)
            intro v' w5 ho5 hg5 _
            obtain ⟨A5, c5, rfl⟩ := own_slice ho5
            have HT5 := Lib.hid (Told.app HL1.out HL2.out (HO.out.alloc _) H00.out (fun j h z e e' => (HRR.out j h z e e').below ((Below.refl _ _).alloc (Nat.le_refl _) _)) (h := (A3, (postsL ls (x, y)).length, c3)) (z := postsL ls (x, y)) (HRW.out.below ((Below.refl _ _).alloc (Nat.le_refl _) _)) ho5 hg5)
            have HB5 := Lib.hid ((HBW.out.alloc hWs _).grown hg5 (by simp; omega) (fun k hk => (HO.out.lt k hk).1))
            clear ho5 hg5 HTW HRW HBW HRR HO
            go_wp2
            go_roundw
            case rel => exact ⟨m + 1, A5, c5, by omega, by go_num, rfl, by rw [HEV.out]; exact HT5.out, HB5.out⟩
            case measure => simp [intOf]; omega
          | and a b ha hb =>
            obtain ⟨bt, A1, n1, c1, z1, rfl, hbt, hblt, hz1, hd1, hr1⟩ := HT.out.at_ ha
            obtain ⟨bt', A4, n4, c4, z4, hbe, hbt', hblt', hz4, hd4, hr4⟩ := HT.out.at_ hb
            obtain rfl : bt = bt' := by injection hbe with e; injection e
            obtain ⟨hs1, hg1⟩ := evs_at HMQ.out hz1
            obtain ⟨hs4, hg4⟩ := evs_at HMQ.out hz4
            have HEV := Lib.hid (show evs ls (q.take (m + 1)) = evs ls (q.take m) ++ [meetP z1 z4] by
              rw [hev]
              show _ ++ [meetP ((evs ls (q.take m)).getD ((a : Int)).toNat []) ((evs ls (q.take m)).getD ((b : Int)).toNat [])] = _
              rw [Int.toNat_natCast, Int.toNat_natCast, hg1, hg4])
            have hln1 := hs1.len
            have hln4 := hs4.len
            rw [HL.out] at hln1 hln4
            have hi1 := hr1.1.int_len
            have hi4 := hr4.1.int_len
            have hn1 : n1 ≤ 60 := by show (A1, n1, c1).2.1 ≤ 60; omega
            have hn4 : n4 ≤ 60 := by show (A4, n4, c4).2.1 ≤ 60; omega
            obtain ⟨wq, hwq⟩ : ∃ wq, wr.alloc (.cells #[.int .i64 3, .string ⟨#[]⟩, .string ⟨#[]⟩, .int .i64 a, .int .i64 b] 59) = wq := ⟨_, rfl⟩
            have hbq : Below wr.heap.size wr wq := hwq ▸ (Below.refl _ _).alloc (Nat.le_refl _) _
            have hsq : wq.heap.size = wr.heap.size + 1 := by rw [← hwq]; simp
            have hsqd : wq.drew.heap.size = wr.heap.size + 1 := hsq
            have e0 : wq.cell? ⟨wr.heap.size, 0, none⟩ = some (.int .i64 3) := by rw [← hwq]; exact World.cell?_alloc_at _ _ _ _ rfl
            have e1 : wq.cell? ⟨wr.heap.size, 1, none⟩ = some (.string ⟨#[]⟩) := by rw [← hwq]; exact World.cell?_alloc_at _ _ _ _ rfl
            have e2 : wq.cell? ⟨wr.heap.size, 2, none⟩ = some (.string ⟨#[]⟩) := by rw [← hwq]; exact World.cell?_alloc_at _ _ _ _ rfl
            have e3 : wq.cell? ⟨wr.heap.size, 3, none⟩ = some (.int .i64 a) := by rw [← hwq]; exact World.cell?_alloc_at _ _ _ _ rfl
            have e4 : wq.cell? ⟨wr.heap.size, 4, none⟩ = some (.int .i64 b) := by rw [← hwq]; exact World.cell?_alloc_at _ _ _ _ rfl
            have e0 : wq.drew.cell? ⟨wr.heap.size, 0, none⟩ = some (.int .i64 3) := e0
            have e1 : wq.drew.cell? ⟨wr.heap.size, 1, none⟩ = some (.string ⟨#[]⟩) := e1
            have e2 : wq.drew.cell? ⟨wr.heap.size, 2, none⟩ = some (.string ⟨#[]⟩) := e2
            have e3 : wq.drew.cell? ⟨wr.heap.size, 3, none⟩ = some (.int .i64 a) := e3
            have e4 : wq.drew.cell? ⟨wr.heap.size, 4, none⟩ = some (.int .i64 b) := e4
            have HWQ := Lib.hid hwq
            have HBQ0 := Lib.hid hbq.drew
            have HTQ := Lib.hid (HT.out.below hbq.drew)
            have HBQ := Lib.hid (HBB.out.trans (hbq.drew.mono hsz2))
            clear hwq hbq HTW0
            have q1 : wq.drew.cell? ⟨bt, a, none⟩ = some (.slice A1 n1 c1) := (bcell HBQ0.out _ _ hblt).trans hd1
            have q4 : wq.drew.cell? ⟨bt, b, none⟩ = some (.slice A4 n4 c4) := (bcell HBQ0.out _ _ hblt).trans hd4
            have HC := Lib.hid (l4Those_any wr.heap.size A1 A4 n1 c1 n4 c4 z1 z4 true wq.drew (by omega) (hr1.1.below HBQ0.out) (by omega) (hr4.1.below HBQ0.out) (by omega) (meetP z1 z4) (meet_those z1 z4))
            clear hev hz1 hz4 hs4 hg1 hg4 hln1 hln4 hi1 hi4 hd1 hd4 hr1 hr4 hbe hbt'
            go_wp2_with fail
            rw [HWQ.out]
            go_region_held3 (fun w' => w'.cell? ⟨wr.heap.size, 3, none⟩ = some (.int .i64 a) ∧ w'.cell? ⟨wr.heap.size, 4, none⟩ = some (.int .i64 b) ∧ w'.cell? ⟨bt, a, none⟩ = some (.slice A1 n1 c1) ∧ w'.cell? ⟨bt, b, none⟩ = some (.slice A4 n4 c4))
              (first | go_keep | (go_split_ands; exact ⟨(bcell hb3 _ _ (by omega)).trans (by assumption), (bcell hb3 _ _ (by omega)).trans (by assumption), (bcell hb3 _ _ (by omega)).trans (by assumption), (bcell hb3 _ _ (by omega)).trans (by assumption)⟩))
              ((go_at_call 67; refine HC.out.mono ?_; rintro e w3 ⟨A3, c3, rfl, ho3, hb3⟩))
            have hWs : B1 ≤ w3.heap.size := by have := hb3.size; omega
            have HTW := Lib.hid (HTQ.out.below hb3)
            have HRW := Lib.hid (R0.of_own ho3)
            have HBW := Lib.hid (HBQ.out.trans (hb3.mono (by omega)))
            clear ho3 hb3 HTQ HBQ HC e0 e1 e2 e3 e4 HWQ q1 q4 HBQ0 hs1
            obtain ⟨hs, hl1, hl2, hoT, h0, hr⟩ := HTW.out
            have HO := Lib.hid hoT
            have HL1 := Lib.hid hl1
            have HL2 := Lib.hid hl2
            have H00 := Lib.hid h0
            have HRR := Lib.hid hr
            clear hoT hl1 hl2 h0 hr
            go_wp2_with (at_builtin; refine wpList_append_own _ rfl (.tmp 71) (.tmp 73) 92 rfl B1 27 i1 (.slice none 0 0) 1 24 Try.underlying92 HI1.out.1 HI1.out.2.1 HI1.out.2.2.1 HI1.out.2.2.2 rfl (by decide) _ m _ rfl (HO.out.alloc _) ⟨w3.heap.size, 0, none⟩ 1 1 [.slice A3 (meetP z1 z4).length c3] rfl rfl (by intro j u hj; cases j with | zero => simp at hj; subst hj; simp [Addr.add] | succ j => simp at hj) (by intro u hu; simp at hu; subst hu; rfl) (by unfold maxLen; omega) (by omega) (by simp; omega) ?_)
            intro v' w5 ho5 hg5 _
            obtain ⟨A5, c5, rfl⟩ := own_slice ho5
            have HT5 := Lib.hid (Told.app HL1.out HL2.out (HO.out.alloc _) H00.out (fun j h z e e' => (HRR.out j h z e e').below ((Below.refl _ _).alloc (Nat.le_refl _) _)) (h := (A3, (meetP z1 z4).length, c3)) (z := meetP z1 z4) (HRW.out.below ((Below.refl _ _).alloc (Nat.le_refl _) _)) ho5 hg5)
            have HB5 := Lib.hid ((HBW.out.alloc hWs _).grown hg5 (by simp; omega) (fun k hk => (HO.out.lt k hk).1))
            clear ho5 hg5 HTW HRW HBW HRR HO
            go_wp2
            go_roundw
            case rel => exact ⟨m + 1, A5, c5, by omega, by go_num, rfl, by rw [HEV.out]; exact HT5.out, HB5.out⟩
            case measure => simp [intOf]; omega
          | or a b ha hb =>
            obtain ⟨bt, A1, n1, c1, z1, rfl, hbt, hblt, hz1, hd1, hr1⟩ := HT.out.at_ ha
            obtain ⟨bt', A4, n4, c4, z4, hbe, hbt', hblt', hz4, hd4, hr4⟩ := HT.out.at_ hb
            obtain rfl : bt = bt' := by injection hbe with e; injection e
            obtain ⟨hs1, hg1⟩ := evs_at HMQ.out hz1
            obtain ⟨hs4, hg4⟩ := evs_at HMQ.out hz4
            have HEV := Lib.hid (show evs ls (q.take (m + 1)) = evs ls (q.take m) ++ [joinP z1 z4] by
              rw [hev]
              show _ ++ [joinP ((evs ls (q.take m)).getD ((a : Int)).toNat []) ((evs ls (q.take m)).getD ((b : Int)).toNat [])] = _
              rw [Int.toNat_natCast, Int.toNat_natCast, hg1, hg4])
            have hln1 := hs1.len
            have hln4 := hs4.len
            rw [HL.out] at hln1 hln4
            have hi1 := hr1.1.int_len
            have hi4 := hr4.1.int_len
            have hn1 : n1 ≤ 60 := by show (A1, n1, c1).2.1 ≤ 60; omega
            have hn4 : n4 ≤ 60 := by show (A4, n4, c4).2.1 ≤ 60; omega
            obtain ⟨wq, hwq⟩ : ∃ wq, wr.alloc (.cells #[.int .i64 4, .string ⟨#[]⟩, .string ⟨#[]⟩, .int .i64 a, .int .i64 b] 59) = wq := ⟨_, rfl⟩
            have hbq : Below wr.heap.size wr wq := hwq ▸ (Below.refl _ _).alloc (Nat.le_refl _) _
            have hsq : wq.heap.size = wr.heap.size + 1 := by rw [← hwq]; simp
            have hsqd : wq.drew.heap.size = wr.heap.size + 1 := hsq
            have e0 : wq.cell? ⟨wr.heap.size, 0, none⟩ = some (.int .i64 4) := by rw [← hwq]; exact World.cell?_alloc_at _ _ _ _ rfl
            have e1 : wq.cell? ⟨wr.heap.size, 1, none⟩ = some (.string ⟨#[]⟩) := by rw [← hwq]; exact World.cell?_alloc_at _ _ _ _ rfl
            have e2 : wq.cell? ⟨wr.heap.size, 2, none⟩ = some (.string ⟨#[]⟩) := by rw [← hwq]; exact World.cell?_alloc_at _ _ _ _ rfl
            have e3 : wq.cell? ⟨wr.heap.size, 3, none⟩ = some (.int .i64 a) := by rw [← hwq]; exact World.cell?_alloc_at _ _ _ _ rfl
            have e4 : wq.cell? ⟨wr.heap.size, 4, none⟩ = some (.int .i64 b) := by rw [← hwq]; exact World.cell?_alloc_at _ _ _ _ rfl
            have e0 : wq.drew.cell? ⟨wr.heap.size, 0, none⟩ = some (.int .i64 4) := e0
            have e1 : wq.drew.cell? ⟨wr.heap.size, 1, none⟩ = some (.string ⟨#[]⟩) := e1
            have e2 : wq.drew.cell? ⟨wr.heap.size, 2, none⟩ = some (.string ⟨#[]⟩) := e2
            have e3 : wq.drew.cell? ⟨wr.heap.size, 3, none⟩ = some (.int .i64 a) := e3
            have e4 : wq.drew.cell? ⟨wr.heap.size, 4, none⟩ = some (.int .i64 b) := e4
            have HWQ := Lib.hid hwq
            have HBQ0 := Lib.hid hbq.drew
            have HTQ := Lib.hid (HT.out.below hbq.drew)
            have HBQ := Lib.hid (HBB.out.trans (hbq.drew.mono hsz2))
            clear hwq hbq HTW0
            have q1 : wq.drew.cell? ⟨bt, a, none⟩ = some (.slice A1 n1 c1) := (bcell HBQ0.out _ _ hblt).trans hd1
            have q4 : wq.drew.cell? ⟨bt, b, none⟩ = some (.slice A4 n4 c4) := (bcell HBQ0.out _ _ hblt).trans hd4
            have HC := Lib.hid (l4Join_any wr.heap.size A1 A4 n1 c1 n4 c4 z1 z4 wq.drew (by omega) (hr1.1.below HBQ0.out) (by omega) (hr4.1.below HBQ0.out) (by omega))
            clear hev hz1 hz4 hs4 hg1 hg4 hln1 hln4 hi1 hi4 hd1 hd4 hr1 hr4 hbe hbt'
            go_wp2_with fail
            rw [HWQ.out]
            go_region_held3 (fun w' => w'.cell? ⟨wr.heap.size, 3, none⟩ = some (.int .i64 a) ∧ w'.cell? ⟨wr.heap.size, 4, none⟩ = some (.int .i64 b) ∧ w'.cell? ⟨bt, a, none⟩ = some (.slice A1 n1 c1) ∧ w'.cell? ⟨bt, b, none⟩ = some (.slice A4 n4 c4))
              (first | go_keep | (go_split_ands; exact ⟨(bcell hb3 _ _ (by omega)).trans (by assumption), (bcell hb3 _ _ (by omega)).trans (by assumption), (bcell hb3 _ _ (by omega)).trans (by assumption), (bcell hb3 _ _ (by omega)).trans (by assumption)⟩))
              ((go_at_call 68; refine HC.out.mono ?_; rintro e w3 ⟨A3, c3, rfl, ho3, hb3⟩))
            have hWs : B1 ≤ w3.heap.size := by have := hb3.size; omega
            have HTW := Lib.hid (HTQ.out.below hb3)
            have HRW := Lib.hid (R0.of_own ho3)
            have HBW := Lib.hid (HBQ.out.trans (hb3.mono (by omega)))
            clear ho3 hb3 HTQ HBQ HC e0 e1 e2 e3 e4 HWQ q1 q4 HBQ0 hs1
            obtain ⟨hs, hl1, hl2, hoT, h0, hr⟩ := HTW.out
            have HO := Lib.hid hoT
            have HL1 := Lib.hid hl1
            have HL2 := Lib.hid hl2
            have H00 := Lib.hid h0
            have HRR := Lib.hid hr
            clear hoT hl1 hl2 h0 hr
            go_wp2_with (at_builtin; refine wpList_append_own _ rfl (.tmp 71) (.tmp 73) 92 rfl B1 27 i1 (.slice none 0 0) 1 24 Try.underlying92 HI1.out.1 HI1.out.2.1 HI1.out.2.2.1 HI1.out.2.2.2 rfl (by decide) _ m _ rfl (HO.out.alloc _) ⟨w3.heap.size, 0, none⟩ 1 1 [.slice A3 (joinP z1 z4).length c3] rfl rfl (by intro j u hj; cases j with | zero => simp at hj; subst hj; simp [Addr.add] | succ j => simp at hj) (by intro u hu; simp at hu; subst hu; rfl) (by unfold maxLen; omega) (by omega) (by simp; omega) ?_)
            intro v' w5 ho5 hg5 _
            obtain ⟨A5, c5, rfl⟩ := own_slice ho5
            have HT5 := Lib.hid (Told.app HL1.out HL2.out (HO.out.alloc _) H00.out (fun j h z e e' => (HRR.out j h z e e').below ((Below.refl _ _).alloc (Nat.le_refl _) _)) (h := (A3, (joinP z1 z4).length, c3)) (z := joinP z1 z4) (HRW.out.below ((Below.refl _ _).alloc (Nat.le_refl _) _)) ho5 hg5)
            have HB5 := Lib.hid ((HBW.out.alloc hWs _).grown hg5 (by simp; omega) (fun k hk => (HO.out.lt k hk).1))
            clear ho5 hg5 HTW HRW HBW HRR HO
            go_wp2
            go_roundw
            case rel => exact ⟨m + 1, A5, c5, by omega, by go_num, rfl, by rw [HEV.out]; exact HT5.out, HB5.out⟩
            case measure => simp [intOf]; omega
          | not_ a ha =>
            obtain ⟨bt, A1, n1, c1, z1, rfl, hbt, hblt, hz1, hd1, hr1⟩ := HT.out.at_ ha
            obtain ⟨hs1, hg1⟩ := evs_at HMQ.out hz1
            have HEV := Lib.hid (show evs ls (q.take (m + 1)) = evs ls (q.take m) ++ [lessP (allP k) z1] by
              rw [hev]
              show _ ++ [lessP (allP ls.length) ((evs ls (q.take m)).getD ((a : Int)).toNat [])] = _
              rw [Int.toNat_natCast, hg1, HL.out])
            have hln1 := hs1.len
            rw [HL.out] at hln1
            have hi1 := hr1.1.int_len
            have hn1 : n1 ≤ 60 := by show (A1, n1, c1).2.1 ≤ 60; omega
            obtain ⟨wq, hwq⟩ : ∃ wq, wr.alloc (.cells #[.int .i64 5, .string ⟨#[]⟩, .string ⟨#[]⟩, .int .i64 a, .int .i64 0] 59) = wq := ⟨_, rfl⟩
            have hbq : Below wr.heap.size wr wq := hwq ▸ (Below.refl _ _).alloc (Nat.le_refl _) _
            have hsq : wq.heap.size = wr.heap.size + 1 := by rw [← hwq]; simp
            have e0 : wq.cell? ⟨wr.heap.size, 0, none⟩ = some (.int .i64 5) := by rw [← hwq]; exact World.cell?_alloc_at _ _ _ _ rfl
            have e1 : wq.cell? ⟨wr.heap.size, 1, none⟩ = some (.string ⟨#[]⟩) := by rw [← hwq]; exact World.cell?_alloc_at _ _ _ _ rfl
            have e2 : wq.cell? ⟨wr.heap.size, 2, none⟩ = some (.string ⟨#[]⟩) := by rw [← hwq]; exact World.cell?_alloc_at _ _ _ _ rfl
            have e3 : wq.cell? ⟨wr.heap.size, 3, none⟩ = some (.int .i64 a) := by rw [← hwq]; exact World.cell?_alloc_at _ _ _ _ rfl
            have e4 : wq.cell? ⟨wr.heap.size, 4, none⟩ = some (.int .i64 0) := by rw [← hwq]; exact World.cell?_alloc_at _ _ _ _ rfl
            have HWQ := Lib.hid hwq
            have HBQ0 := Lib.hid hbq
            have HTQ := Lib.hid (HT.out.below hbq)
            have HBQ := Lib.hid (HBB.out.trans (hbq.mono hsz2))
            clear hwq hbq HTW0
            have q1 : ∀ o, (wr.alloc o).cell? ⟨bt, a, none⟩ = some (.slice A1 n1 c1) := fun o => (World.cell?_alloc_lt wr o ⟨bt, a, none⟩ hblt).trans hd1
            have HC := Lib.hid (l4Those_any wr.heap.size A' A1 k c' n1 c1 (allP k) z1 false wq (by omega) ((HAL.out.below HBQ.out).more hsz2) (by omega) (hr1.1.below HBQ0.out) (by omega) (lessP (allP k) z1) (less_those (allP k) z1))
            clear hev hz1 hs1 hg1 hln1 hi1 hd1 hr1
            go_wp2_with fail
            rw [HWQ.out]
            refine HC.out.mono ?_
            rintro e w3 ⟨A3, c3, rfl, ho3, hb3⟩
            have hWs : B1 ≤ w3.heap.size := by have := hb3.size; omega
            have HTW := Lib.hid (HTQ.out.below hb3)
            have HRW := Lib.hid (R0.of_own ho3)
            have HBW := Lib.hid (HBQ.out.trans (hb3.mono (by omega)))
            clear ho3 hb3 HTQ HBQ HC e0 e1 e2 e3 e4 HWQ q1 HBQ0
            obtain ⟨hs, hl1, hl2, hoT, h0, hr⟩ := HTW.out
            have HO := Lib.hid hoT
            have HL1 := Lib.hid hl1
            have HL2 := Lib.hid hl2
            have H00 := Lib.hid h0
            have HRR := Lib.hid hr
            clear hoT hl1 hl2 h0 hr
            go_wp2_with (at_builtin; refine wpList_append_own _ rfl (.tmp 71) (.tmp 73) 92 rfl B1 27 i1 (.slice none 0 0) 1 24 Try.underlying92 HI1.out.1 HI1.out.2.1 HI1.out.2.2.1 HI1.out.2.2.2 rfl (by decide) _ m _ rfl (HO.out.alloc _) ⟨w3.heap.size, 0, none⟩ 1 1 [.slice A3 (lessP (allP k) z1).length c3] rfl rfl (by intro j u hj; cases j with | zero => simp at hj; subst hj; simp [Addr.add] | succ j => simp at hj) (by intro u hu; simp at hu; subst hu; rfl) (by unfold maxLen; omega) (by omega) (by simp; omega) ?_)
            intro v' w5 ho5 hg5 _
            obtain ⟨A5, c5, rfl⟩ := own_slice ho5
            have HT5 := Lib.hid (Told.app HL1.out HL2.out (HO.out.alloc _) H00.out (fun j h z e e' => (HRR.out j h z e e').below ((Below.refl _ _).alloc (Nat.le_refl _) _)) (h := (A3, (lessP (allP k) z1).length, c3)) (z := lessP (allP k) z1) (HRW.out.below ((Below.refl _ _).alloc (Nat.le_refl _) _)) ho5 hg5)
            have HB5 := Lib.hid ((HBW.out.alloc hWs _).grown hg5 (by simp; omega) (fun k hk => (HO.out.lt k hk).1))
            clear ho5 hg5 HTW HRW HBW HRR HO
            go_wp2
            go_roundw
            case rel => exact ⟨m + 1, A5, c5, by omega, by go_num, rfl, by rw [HEV.out]; exact HT5.out, HB5.out⟩
            case measure => simp [intOf]; omega
        · obtain rfl : m = n2 := by omega
          obtain ⟨bt, A1, n1, c1, z1, rfl, hbt, hblt, hz1, hd1, hr1⟩ := HT.out.at_ (j := m - 1) (by omega)
          have hzz := evs_at (se := ls) (q := q) (k := m) (by rw [HQL.out]; exact Nat.le_refl _) hz1
          have HZ := Lib.hid (show evalL ls q = z1 by
            have e := hzz.2
            rw [List.take_of_length_le (by rw [HQL.out]; exact Nat.le_refl _)] at e
            unfold evalL
            rw [HQL.out]; exact e)
          have hln1 := hzz.1.len
          rw [HL.out] at hln1
          have hi1 := hr1.1.int_len
          have hn1 : n1 ≤ 60 := by show (A1, n1, c1).2.1 ≤ 60; omega
          have hmi : ((m : Int) - 1).toNat = m - 1 := by omega
          have hRD := Lib.hid hr1.1
          clear hz1 hzz hr1 hln1
          have HON := Lib.hid (World.ownsRow_lit (base := B1) (e := 3) (size := 1) wr #[] 0 hsz2 (by unfold maxLen; omega) rfl)
          have hdo : ∀ o, (wr.alloc o).cell? ⟨bt, m - 1, none⟩ = some (.slice A1 n1 c1) := fun o => (World.cell?_alloc_lt wr o ⟨bt, m - 1, none⟩ hblt).trans hd1
          go_wp2_with (at_builtin; refine wpList_append_rd rfl (.tmp 76) (.tmp 82) 27 rfl B1 3 i0 (.int .i64 0) 1 8 Try.underlying27 HI.out.1 HI.out.2.1 HI.out.2.2.1 HI.out.2.2.2 rfl (by decide) _ 0 [] rfl HON.out A1 n1 c1 wr.heap.size (ints z1) rfl ?c0 (ints_one z1) (by unfold maxLen; omega) (by omega) (by simp; omega) ?_)
          case c0 => exact hRD.out.below ((Below.refl _ _).alloc (Nat.le_refl _) _)
          intro v' w5 ho5 hg5
          obtain ⟨A5, c5, rfl⟩ := own_slice ho5
          have HO5 := Lib.hid (show w5.ownsRow B1 3 1 (.slice A5 n1 c5) n1 (ints z1) by simpa using ho5)
          have HB5 := Lib.hid ((HBB.out.alloc hsz2 (.cells #[] 3)).grown hg5 (by simp; omega) (fun k hk => by simp [Value.ownBlock] at hk; omega))
          clear ho5 hg5
          go_wp2
          go_ret
          rw [HZ.out]
          have e1 : z1.length = n1 := hi1
          rw [← HB1.out] at HO5 HB5
          refine ⟨A5, c5, by rw [e1]; simp, ?_, HB.out.trans (HB5.out.mono (by rw [HB1.out]; exact hsz))⟩
          rw [e1]
          exact own_mono HO5.out (by rw [HB1.out]; exact hsz)
end Go.Proofs.Ytpdclppieicaeaa
