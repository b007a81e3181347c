/- The law FnRanges. Written by a program of mine (genranges.py). -/
import Derived.Test.YtbemnhdadafnnaaDrawChunk2
import Derived.Test.YtbemnhdadafnnaaSmpFns
import Derived.Test.YtbemnhdadafnnaaDecLaw
import Derived.Test.YtbemnhdadafnnaaAppR
import Derived.Deep.DeepCutAuto
import Derived.Outline
import Derived.OwnWalk
namespace Go.Proofs.Ytbemnhdadafnnaa
set_option linter.unusedVariables false
set_option linter.unusedSimpArgs false
open Go.RowKit

theorem wpList_wanted {P : Program} {w : World} {ops : Array Oper} {rest : List Oper} {o : Oper} {a : Act} {Q : Exit → Act → World → Prop} (hw : Region.wanted o (yielded ops a.tmps) = true)
    (h : wpList P ops Q ({ o with guard := none } :: rest) a w) : wpList P ops Q (o :: rest) a w := by
  have h2 : (if Region.wanted ({ o with guard := none } : Oper) (yielded ops a.tmps) = true then _ else _) := h
  show if Region.wanted o (yielded ops a.tmps) = true then _ else _
  rw [if_pos hw]
  rw [if_pos (by simp [Region.wanted])] at h2
  exact h2
set_option maxRecDepth 200000 in
set_option maxHeartbeats 16000000 in
theorem law_FnRanges (A : Option Addr) (n c : Nat) (l : List UInt8) (A' : Option Addr) (n' c' : Nat) (l' : List UInt8) (w : World) (h : Rd w w.heap.size 1 A n (bys l)) (hn : n ≤ 140737488355328) (h' : Rd w w.heap.size 1 A' n' (bys l')) (hn' : n' ≤ 140737488355328) :
    Calls Try.prog 3 #[.slice A n c, .slice A' n' c'] w fun e w' => e = .returned (.bool true) ∧ Below w.heap.size w w' := by
  obtain ⟨i0, hi, hi0, hi1, hi2⟩ := info_parts infoSmp
  have HI := Lib.hid (And.intro hi (And.intro hi0 (And.intro hi1 hi2)))
  clear hi hi0 hi1 hi2
  have H := Lib.hid h
  have H' := Lib.hid h'
  clear h h'
  by_cases hs : n + n' ≤ 1048576
  · go_enter Try.func3, Try.ntmps3
    go_wp2_with fail
    refine (DrawRangeOf_any A n c l _ H.out (by omega)).mono ?_
    rintro e w1 ⟨_, rfl, ⟨S, f, t, rfl, hS, hf0, hf1, ht0, ht1⟩, hb⟩
    have HB1 := Lib.hid hb
    have HRt := Lib.hid ((H'.out.below hb).more hb.size)
    have hs1 := hb.size
    clear hb
    have F := fun (l : List (Int × Int)) (m : Int) (e : rngT f t S.data.toList = some l) => range_facts (m := m) e
    have hRl : ((rngT f t S.data.toList).getD []).length ≤ 40 := rngT_len
    obtain ⟨R, hR⟩ : ∃ R, rngT f t S.data.toList = R := ⟨_, rfl⟩
    rw [hR] at F hRl
    have HF := Lib.hid F
    have HR := Lib.hid hR
    obtain ⟨X, hX⟩ : ∃ X, R.getD [] = X := ⟨_, rfl⟩
    obtain ⟨K, hK⟩ : ∃ X, R.isSome = X := ⟨_, rfl⟩
    rw [hX] at hRl
    have HX := Lib.hid hX
    have HK := Lib.hid hK
    clear hR hX hK F
    have C := (iRangeOf_any S f t w1 (by omega)).mono fun _ _ h => h.gotR
    rw [HR.out] at C
    rw [HX.out] at C
    rw [HK.out] at C
    have HC := Lib.hid C
    clear C
    go_wp2_with fail
    refine HC.out.mono ?_
    rintro e w2 ⟨Ax, cx, rfl, hr, hc⟩
    have hb := hc.below0
    have hcapx := hr.cap_
    clear HC hc
    have HRqt := Lib.hid ((HRt.out.below hb).more hb.size)
    clear HRt
    have HRt := Lib.hid HRqt.out
    clear HRqt
    have HB2 := Lib.hid (HB1.out.trans (hb.mono HB1.out.size))
    clear HB1
    clear hb
    have HRx := Lib.hid hr.rd
    clear hr
    have C := (sRangeOf_any S f t w2 (by omega)).mono fun _ _ h => h.gotR
    rw [HR.out] at C
    rw [HX.out] at C
    rw [HK.out] at C
    have HC := Lib.hid C
    clear C
    go_wp2_with fail
    refine HC.out.mono ?_
    rintro e w3 ⟨Axx, cxx, rfl, hr, hc⟩
    have hb := hc.below0
    have hcapxx := hr.cap_
    clear HC hc
    have HRqt := Lib.hid ((HRt.out.below hb).more hb.size)
    clear HRt
    have HRt := Lib.hid HRqt.out
    clear HRqt
    have HRqx := Lib.hid ((HRx.out.below hb).more hb.size)
    clear HRx
    have HRx := Lib.hid HRqx.out
    clear HRqx
    have HB3 := Lib.hid (HB2.out.trans (hb.mono HB2.out.size))
    clear HB2
    clear hb
    have HRxx := Lib.hid hr.rd
    clear hr
    have C := (sameSamples_same w3.heap.size Ax Axx X.length cx cxx X w3 HRx.out HRxx.out (by omega)).mono (fun e w' h => (⟨h.1, by obtain ⟨q, rfl⟩ := h.2; exact Below.drewN (Below.refl _ _) q⟩ : e = .returned (.bool true) ∧ Below w3.heap.size w3 w'))
    have HC := Lib.hid C
    clear C
    go_wp2_with fail
    refine HC.out.mono ?_
    rintro e w4 ⟨rfl, hb⟩
    clear HC
    have HRqt := Lib.hid ((HRt.out.below hb).more hb.size)
    clear HRt
    have HRt := Lib.hid HRqt.out
    clear HRqt
    have HRqx := Lib.hid ((HRx.out.below hb).more hb.size)
    clear HRx
    have HRx := Lib.hid HRqx.out
    clear HRqx
    have HRqxx := Lib.hid ((HRxx.out.below hb).more hb.size)
    clear HRxx
    have HRxx := Lib.hid HRqxx.out
    clear HRqxx
    have HB4 := Lib.hid (HB3.out.trans (hb.mono HB3.out.size))
    clear HB3
    clear hb
    clear HRxx
    obtain ⟨KF, hKF⟩ : ∃ k, (K && decide (f ≤ t)) = k := ⟨_, rfl⟩
    have HKF := Lib.hid hKF
    clear hKF
    go_upto_region 8 with fail
    go_cut [73] (fun s wx => s = .bool KF ∧ w4 = wx)
    case first =>
      cases K with
      | false =>
        go_wp2_with fail
        go_meet
        exact ⟨congrArg Value.bool HKF.out, rfl⟩
      | true =>
        by_cases hft : f ≤ t
        · go_wp2_with fail
          go_meet
          exact ⟨congrArg Value.bool (by rw [← HKF.out]; simp [hft]), rfl⟩
        · go_wp2_with fail
          go_meet
          exact ⟨congrArg Value.bool (by rw [← HKF.out]; simp [hft]), rfl⟩
    case rest =>
    obtain ⟨rfl, rfl⟩ := hcut
    go_upto_if 73 with fail
    go_cut [] (fun wx => Below w.heap.size w wx)
    case first =>
      cases KF with
      | false =>
        go_wp2_with fail
        go_meet
        exact HB4.out
      | true =>
        have hkf := HKF.out
        simp only [Bool.and_eq_true, decide_eq_true_eq] at hkf
        obtain ⟨rfl, hft⟩ := hkf
        go_wp2_with fail
        refine (numberOf_any w4.heap.size A' n' c' l' w4 HRt.out (by omega)).mono ?_
        rintro e w' ⟨⟨r0, hr0, rfl⟩, rfl⟩
        have hm0 : 0 ≤ (r0 : Int) % (t - f + 1) := Int.emod_nonneg _ (by omega)
        have hm1 : (r0 : Int) % (t - f + 1) < t - f + 1 := Int.emod_lt_of_pos _ (by omega)
        have hRX : R = some X := by
          have k1 := HK.out
          have k2 := HX.out
          cases R with
          | none => simp at k1
          | some x => simpa using k2
        obtain ⟨a, b, ha, hb, hab, hal, hbl⟩ := HF.out X (f + (r0 : Int) % (t - f + 1)) hRX (by omega) (by omega)
        have Hha := Lib.hid ha
        clear ha
        have Hhb := Lib.hid hb
        clear hb
        have Hhab := Lib.hid hab
        clear hab
        clear hRX
        have HLAB := Lib.hid (show X.length = a.length + b.length by rw [← Hhab.out]; simp)
        have C := (iRangeOf_any S f (f + (r0 : Int) % (t - f + 1)) w4 (by omega)).mono fun _ _ h => h.gotR
        rw [Hha.out] at C
        have HC := Lib.hid C
        clear C
        go_wp2_with fail
        refine HC.out.mono ?_
        rintro e w5 ⟨Aa, ca, rfl, hr, hc⟩
        have hb := hc.below0
        have hcapa := hr.cap_
        clear HC hc
        have HRqx := Lib.hid ((HRx.out.below hb).more hb.size)
        clear HRx
        have HRx := Lib.hid HRqx.out
        clear HRqx
        have HRqt := Lib.hid ((HRt.out.below hb).more hb.size)
        clear HRt
        have HRt := Lib.hid HRqt.out
        clear HRqt
        have HB5 := Lib.hid (HB4.out.trans (hb.mono HB4.out.size))
        clear HB4
        clear hb
        have HRa := Lib.hid hr.rd
        clear hr
        have C := (iRangeOf_any S (f + (r0 : Int) % (t - f + 1)) t w5 (by omega)).mono fun _ _ h => h.gotR
        rw [Hhb.out] at C
        have HC := Lib.hid C
        clear C
        go_wp2_with fail
        refine HC.out.mono ?_
        rintro e w6 ⟨Ab, cb, rfl, hr, hc⟩
        have hb := hc.below0
        have hcapb := hr.cap_
        clear HC hc
        have HRqx := Lib.hid ((HRx.out.below hb).more hb.size)
        clear HRx
        have HRx := Lib.hid HRqx.out
        clear HRqx
        have HRqt := Lib.hid ((HRt.out.below hb).more hb.size)
        clear HRt
        have HRt := Lib.hid HRqt.out
        clear HRqt
        have HRqa := Lib.hid ((HRa.out.below hb).more hb.size)
        clear HRa
        have HRa := Lib.hid HRqa.out
        clear HRqa
        have HB6 := Lib.hid (HB5.out.trans (hb.mono HB5.out.size))
        clear HB5
        clear hb
        have HRb := Lib.hid hr.rd
        clear hr
        have HRa0 := Lib.hid (show Rd w6 w6.heap.size 2 Aa a.length (smps a) from HRa.out)
        have HRb0 := Lib.hid (show Rd w6 w6.heap.size 2 Ab b.length (smps b) from HRb.out)
        go_wp2_with (at_builtin; refine wpList_wanted (by rfl) ?_; refine wpList_append_rd rfl (.tmp 104) (.tmp 105) 25 rfl w6.heap.size 31 i0 (.agg #[.int .i64 0, .int .i64 0]) 2 16 Try.underlying25 HI.out.1 HI.out.2.1 HI.out.2.2.1 HI.out.2.2.2 rfl (by decide) _ 0 _ rfl (World.ownsRow_lit w6 #[] 0 (Nat.le_refl _) (by unfold maxLen; omega) rfl) _ a.length _ w6.heap.size _ rfl (HRa0.out.below ((Below.refl _ _).alloc (Nat.le_refl _) _)) ?c1 ?c2 (by omega) (by simp) ?_)
        case c1 => exact smps_one _
        case c2 => unfold maxLen; omega
        intro v1 q1 ho4 hg4
        have HB41 := Lib.hid (((Below.refl w6.heap.size w6).alloc (Nat.le_refl _) (.cells #[] 31)).grown hg4 (by simp) (fun k hk => by simp [Value.ownBlock] at hk; omega))
        obtain ⟨A5, c5, rfl⟩ := own_slice ho4
        have HO4 := Lib.hid (show q1.ownsRow w6.heap.size 31 2 (.slice A5 a.length c5) a.length (smps a) by simpa using ho4)
        have hs41 := HB41.out.size
        clear ho4 hg4
        go_wp2_with (at_builtin; refine wpList_wanted (by rfl) ?_; refine wpList_append_rd rfl (.tmp 106) (.tmp 107) 25 rfl w6.heap.size 31 i0 (.agg #[.int .i64 0, .int .i64 0]) 2 16 Try.underlying25 HI.out.1 HI.out.2.1 HI.out.2.2.1 HI.out.2.2.2 rfl (by decide) _ a.length _ rfl HO4.out _ b.length _ w6.heap.size _ rfl (HRb0.out.below HB41.out) ?c1 ?c2 (by omega) hs41 ?_)
        case c1 => exact smps_one _
        case c2 => unfold maxLen; omega
        intro v2 q2 ho5 hg5
        have HB5 := Lib.hid (HB41.out.grown hg5 hs41 (fun k hk => (HO4.out.lt k hk).1))
        obtain ⟨A6, c6, rfl⟩ := own_slice ho5
        have HR6 := Lib.hid (show Rd q2 q2.heap.size 2 A6 X.length (smps X) by rw [← Hhab.out, smps_app, List.length_append]; exact Rd.of_own ho5)
        have hb := HB5.out
        clear ho5 hg5 HO4 HB41 HRa0 HRb0 HRa HRb
        have HRqx := Lib.hid ((HRx.out.below hb).more hb.size)
        clear HRx
        have HRx := Lib.hid HRqx.out
        clear HRqx
        have HB7 := Lib.hid (HB6.out.trans (hb.mono HB6.out.size))
        clear HB6
        clear hb
        have C := (sameSamples_same q2.heap.size A6 Ax X.length c6 cx X q2 HR6.out HRx.out (by omega)).mono (fun e w' h => (⟨h.1, by obtain ⟨q, rfl⟩ := h.2; exact Below.drewN (Below.refl _ _) q⟩ : e = .returned (.bool true) ∧ Below q2.heap.size q2 w'))
        have HC := Lib.hid C
        clear C
        go_wp2_with fail
        rw [← HLAB.out]
        refine HC.out.mono ?_
        rintro e w8 ⟨rfl, hb⟩
        clear HC
        have HRqx := Lib.hid ((HRx.out.below hb).more hb.size)
        clear HRx
        have HRx := Lib.hid HRqx.out
        clear HRqx
        have HB8 := Lib.hid (HB7.out.trans (hb.mono HB7.out.size))
        clear HB7
        clear hb
        go_wp2_with fail
        go_meet
        exact HB8.out
    case rest =>
      have HC := Lib.hid hcut
      have hcs := hcut.size
      have HD := Lib.hid ((H'.out.below hcut).more hcut.size)
      clear hcut HB4 HRx HRt HF HK HX HR
      go_wp2_with fail
      refine (DrawAppendChunk_any A' n' c' l' _ HD.out (by omega)).mono ?_
      rintro e y1 ⟨_, rfl, ⟨T, x, y, rfl, hT, hx0, hx1, hy0, hy1⟩, hb⟩
      have HB1 := Lib.hid (HC.out.trans (hb.mono hcs))
      have HRt := Lib.hid ((HD.out.below hb).more hb.size)
      clear hb HD HC
      have hAs := appR_size T.data.toList (x, y)
      have F2 := fun (e : appK T.data.toList (x, y) = true) => app_facts e
      obtain ⟨G, hG⟩ : ∃ q, appR T.data.toList (x, y) = q := ⟨_, rfl⟩
      obtain ⟨KG, hKG⟩ : ∃ q, appK T.data.toList (x, y) = q := ⟨_, rfl⟩
      rw [hG] at hAs
      rw [hG, hKG] at F2
      have HF2 := Lib.hid F2
      have HG := Lib.hid hG
      have HKG := Lib.hid hKG
      clear hG hKG F2
      obtain ⟨g, hg⟩ : ∃ g, y1.heap.size = g := ⟨_, rfl⟩
      obtain ⟨yb, hyb⟩ : ∃ yb, y1.alloc (.cells #[.int .i64 x, .int .i64 y] 31) = yb := ⟨_, rfl⟩
      have hb0 : Below y1.heap.size y1 yb := hyb ▸ (Below.refl _ _).alloc (Nat.le_refl _) _
      have hsb : g < yb.heap.size := by rw [← hyb]; simp; omega
      have d0 : yb.cell? ⟨g, 0, none⟩ = some (.int .i64 x) := by rw [← hyb, ← hg]; exact World.cell?_alloc_at _ _ _ _ (by simp)
      have d1 : yb.cell? ⟨g, 1, none⟩ = some (.int .i64 y) := by rw [← hyb, ← hg]; exact World.cell?_alloc_at _ _ _ _ (by simp)
      have f0 : yb.frozen? ⟨g, 0, none⟩ = false := by rw [← hyb, ← hg]; exact World.frozen?_alloc_at _ _ _ _ rfl
      have f1 : yb.frozen? ⟨g, 1, none⟩ = false := by rw [← hyb, ← hg]; exact World.frozen?_alloc_at _ _ _ _ rfl
      have HBb := Lib.hid (HB1.out.trans (hb0.mono HB1.out.size))
      have HRb := Lib.hid ((HRt.out.below hb0).more hb0.size)
      have HYB := Lib.hid hyb
      have HGG := Lib.hid hg
      clear hb0 HRt HB1
      go_wp2_with fail
      have C := iAppendChunk_any T x y yb (by omega)
      rw [HG.out, HKG.out] at C
      have HCA := Lib.hid C
      clear C
      refine HCA.out.mono ?_
      rintro e y2 ⟨rfl, hb⟩
      have d0' : y2.cell? ⟨g, 0, none⟩ = some (.int .i64 x) := (bcell hb _ _ hsb).trans d0
      have d1' : y2.cell? ⟨g, 1, none⟩ = some (.int .i64 y) := (bcell hb _ _ hsb).trans d1
      have hsb2 : g < y2.heap.size := Nat.lt_of_lt_of_le hsb hb.size
      have HB2 := Lib.hid (HBb.out.trans (hb.mono HBb.out.size))
      have HR2 := Lib.hid ((HRb.out.below hb).more hb.size)
      clear hb HBb HRb HCA d0 d1 f0 f1
      have C := sAppendChunk_any T x y y2 (by omega)
      rw [HG.out, HKG.out] at C
      have HCA := Lib.hid C
      clear C
      go_wp2_with fail
      refine HCA.out.mono ?_
      rintro e y3 ⟨rfl, hb⟩
      have HD3 := Lib.hid (And.intro ((bcell hb _ _ hsb2).trans d0') ((bcell hb _ _ hsb2).trans d1'))
      have hsb3 : g < y3.heap.size := Nat.lt_of_lt_of_le hsb2 hb.size
      have HB3 := Lib.hid (HB2.out.trans (hb.mono HB2.out.size))
      have HR3 := Lib.hid ((HR2.out.below hb).more hb.size)
      clear hb HB2 HR2 HCA d0' d1'
      go_wp2_with fail
      refine (DrawJoinChunks_any A' n' c' l' _ HR3.out (by omega)).mono ?_
      rintro e y4 ⟨_, rfl, ⟨S2, T2, rfl, hS2, hT2⟩, hb⟩
      have HD4 := Lib.hid (And.intro ((bcell hb _ _ hsb3).trans HD3.out.1) ((bcell hb _ _ hsb3).trans HD3.out.2))
      have hsb4 : g < y4.heap.size := Nat.lt_of_lt_of_le hsb3 hb.size
      have HB4 := Lib.hid (HB3.out.trans (hb.mono HB3.out.size))
      clear hb HB3 HR3 HD3
      obtain ⟨J, hJ⟩ : ∃ q, joinR S2.data.toList T2.data.toList = q := ⟨_, rfl⟩
      obtain ⟨KJ, hKJ⟩ : ∃ q, joinK S2.data.toList T2.data.toList = q := ⟨_, rfl⟩
      have C := iJoinChunks_any S2 T2 y4 (by omega) (by omega)
      have C2 := fun w => sJoinChunks_any S2 T2 w (by omega) (by omega)
      rw [hJ, hKJ] at C
      simp only [hJ, hKJ] at C2
      have HCA := Lib.hid C
      have HCB := Lib.hid C2
      clear C C2 hJ hKJ
      go_wp2_with fail
      refine HCA.out.mono ?_
      rintro e y5 ⟨rfl, hb⟩
      have HD5 := Lib.hid (And.intro ((bcell hb _ _ hsb4).trans HD4.out.1) ((bcell hb _ _ hsb4).trans HD4.out.2))
      have hsb5 : g < y5.heap.size := Nat.lt_of_lt_of_le hsb4 hb.size
      have HB5 := Lib.hid (HB4.out.trans (hb.mono HB4.out.size))
      clear hb HB4 HD4 HCA
      go_wp2_with fail
      refine (HCB.out _).mono ?_
      rintro e y6 ⟨rfl, hb⟩
      have HD6 := Lib.hid (And.intro ((bcell hb _ _ hsb5).trans HD5.out.1) ((bcell hb _ _ hsb5).trans HD5.out.2))
      have hsb6 : g < y6.heap.size := Nat.lt_of_lt_of_le hsb5 hb.size
      have HB6 := Lib.hid (HB5.out.trans (hb.mono HB5.out.size))
      clear hb HB5 HD5 HCB
      cases KG with
      | false =>
        go_wp2_with fail
        go_ret
        exact ⟨rfl, HB6.out⟩
      | true =>
        obtain ⟨q, hq, hq2, hql⟩ := HF2.out rfl
        have C := (iDecodeChunk_any T y6 (by omega)).mono fun _ _ h => h.gotR
        have C2 := fun w => (iDecodeChunk_any G w (by omega)).mono fun _ _ h => h.gotR
        rw [hq] at C
        simp only [hq2] at C2
        simp only [Option.getD_some, Option.isSome_some] at C C2
        obtain ⟨N2, hN2'⟩ : ∃ N, (q ++ [(x, y)]).length = N := ⟨_, rfl⟩
        have hN2 : (N2 : Int) = (q.length : Int) + 1 := by rw [← hN2']; simp
        have hwr : IntKind.i64.wrap ((q.length : Int) + 1) = (q.length : Int) + 1 := IntWalk.i64_in _ (by omega)
        rw [hN2'] at C2
        have HCA := Lib.hid C
        have HCB := Lib.hid C2
        clear C C2 hq hq2 hN2'
        go_wp2_with fail
        refine HCA.out.mono ?_
        rintro e y7 ⟨Aq, cq, rfl, hr, hc⟩
        have hb := hc.below0
        have HRq := Lib.hid hr.rd
        have HD7 := Lib.hid (And.intro ((bcell hb _ _ hsb6).trans HD6.out.1) ((bcell hb _ _ hsb6).trans HD6.out.2))
        have hsb7 : g < y7.heap.size := Nat.lt_of_lt_of_le hsb6 hb.size
        have HB7 := Lib.hid (HB6.out.trans (hb.mono HB6.out.size))
        clear hr hc hb HB6 HD6 HCA
        go_wp2_with fail
        refine (HCB.out _).mono ?_
        rintro e y8 ⟨Ar, cr, rfl, hr, hc⟩
        have hb := hc.below0
        have hcap := hr.cap_
        have HRr := Lib.hid hr.rd
        have HRq8 := Lib.hid ((HRq.out.below hb).more hb.size)
        have d0' : y8.cell? ⟨g, 0, none⟩ = some (.int .i64 x) := (bcell hb _ _ hsb7).trans HD7.out.1
        have d1' : y8.cell? ⟨g, 1, none⟩ = some (.int .i64 y) := (bcell hb _ _ hsb7).trans HD7.out.2
        have HB8 := Lib.hid (HB7.out.trans (hb.mono HB7.out.size))
        clear hr hc hb HB7 HD7 HCB HRq
        have HRp := Lib.hid (show Rd y8 y8.heap.size 2 Ar q.length (smps q) by
          have := HRr.out.pre (k := q.length) (by omega)
          rw [smps_app, List.take_left' (by rw [smps_len])] at this
          exact this)
        have hkc : q.length ≤ cr := by omega
        have hkc2 : (q.length : Int) ≤ (cr : Int) := by omega
        have hkc3 : q.length ≤ N2 := by omega
        obtain ⟨b0, off, x', y', rfl, hbB, hx, hc0, hc1⟩ := HRr.out.smp_at (k := q.length) (by omega)
        rw [List.getElem?_append_right (Nat.le_refl _), Nat.sub_self] at hx
        simp only [List.getElem?_cons_zero, Option.some.injEq, Prod.mk.injEq] at hx
        obtain ⟨rfl, rfl⟩ := hx
        go_wp2_with fail
        go_quiet ((go_at_call 8; exact Calls.quiet_of (sameSamples_same y8.heap.size _ Aq q.length _ cq q _ (Rd.drewN HRp.out _) (Rd.drewN HRq8.out _) (by omega))))
        go_wp2_with fail
        go_ret
        exact ⟨rfl, Below.drewN HB8.out _⟩
  · go_enter Try.func3, Try.ntmps3
    go_wp2
    go_ret
    exact ⟨rfl, Below.refl _ _⟩
end Go.Proofs.Ytbemnhdadafnnaa
