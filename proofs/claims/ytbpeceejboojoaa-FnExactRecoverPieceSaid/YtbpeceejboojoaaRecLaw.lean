/- The law RecoverPiece. -/
import Derived.Test.YtbpeceejboojoaaRecI
import Derived.Test.YtbpeceejboojoaaOpen
namespace Go.Proofs.Ytbpeceejboojoaa
set_option linter.unusedVariables false
set_option linter.unusedSimpArgs false
open Go.RowKit

theorem both_RecoverPiece (x : Int) (s : ByteArray) (hss : s.size ≤ 1048576) : ∃ (X : Int) (S : ByteArray) (Z : List Int) (r : Int) (b : Bool), Z.length ≤ 1048576 ∧
    (∀ w, Calls Try.prog 14 #[.int .i64 x, .string s] w fun e w' => ∃ v, e = .returned (.tuple #[v, .int .i64 r, .bool b]) ∧ PcV w X S Z v w') ∧
    (∀ w, Calls Try.prog 15 #[.int .i64 x, .string s] w fun e w' => ∃ v, e = .returned (.tuple #[v, .int .i64 r, .bool b]) ∧ PcV w X S Z v w') := by
  by_cases h : inB x 0 1000 = true ∧ s.size ≤ 60
  · refine ⟨x, s.extract 0 (whole s.data.toList 0), third 0 (starts (s.extract 0 (whole s.data.toList 0)).data.toList), (s.size : Int) - (whole s.data.toList 0 : Nat), true, ?_, fun w => ?_, fun w => ?_⟩
    · refine Nat.le_trans (third_len _ _) (Nat.le_trans (starts_le _) ?_)
      have h1 : (s.extract 0 (whole s.data.toList 0)).data.toList.length = (s.extract 0 (whole s.data.toList 0)).size := by simp
      rw [h1]; simp; omega
    · refine (sRecoverPiece_any x s w hss).mono fun e w' hr => ?_
      unfold RpR at hr; rw [if_pos h] at hr; exact hr
    · refine (iRecoverPiece_any x s w hss).mono fun e w' hr => ?_
      unfold RpR at hr; rw [if_pos h] at hr; exact hr
  · refine ⟨0, ⟨#[]⟩, [], 0, false, by simp, fun w => ?_, fun w => ?_⟩
    · refine (sRecoverPiece_any x s w hss).mono fun e w' hr => ?_
      unfold RpR at hr; rw [if_neg h] at hr; exact ⟨_, hr.1, none, 0, rfl, World.ownsRow_nil _ _ _ _, hr.2⟩
    · refine (iRecoverPiece_any x s w hss).mono fun e w' hr => ?_
      unfold RpR at hr; rw [if_neg h] at hr; exact ⟨_, hr.1, none, 0, rfl, World.ownsRow_nil _ _ _ _, hr.2⟩
theorem PcB.new {w : World} {a b c : Value} {T : TypeId} : PcB (w.alloc (.cells #[a, b, c] T)) w.heap.size a b c :=
  ⟨World.cell?_alloc_at _ _ _ _ rfl, World.cell?_alloc_at _ _ _ _ rfl, World.cell?_alloc_at _ _ _ _ rfl, fun j => World.frozen?_alloc_at _ _ _ _ rfl⟩
theorem PcB.ch {w w' : World} {g lo hi : Nat} {a b c : Value} (h : PcB w g a b c) (hc : Ch lo hi w w') (hg : g < w.heap.size) (hd : g < lo ∨ hi ≤ g) : PcB w' g a b c :=
  ⟨cell_chR h.c0 hc hg hd, cell_chR h.c1 hc hg hd, cell_chR h.c2 hc hg hd, fun j => (frozen_chR hc hg hd).trans (h.fr j)⟩
set_option maxRecDepth 100000 in
set_option maxHeartbeats 1000000 in
theorem eqPiece_any (X : Int) (S : ByteArray) (Z : List Int) (A A' : Option Addr) (n c c' B B' : Nat) (w : World) (hB : B ≤ w.heap.size) (hB' : B' ≤ w.heap.size) (h : Rd w B 1 A n (ints Z)) (h' : Rd w B' 1 A' n (ints Z)) (hn : n ≤ 1048576) :
    Calls Try.prog 16 #[.agg #[.int .i64 X, .string S, .slice A n c], .agg #[.int .i64 X, .string S, .slice A' n c']] w fun e w' => e = .returned (.bool true) ∧ Below w.heap.size w w' := by
  have H := Lib.hid (fun o o' => (eq_Int B B' A A' n c c' Z ((w.alloc o).alloc o') (h.below ((below2 _ _).mono hB)) (h'.below ((below2 _ _).mono hB')) hn))
  clear h h'
  go_enter Try.func16, Try.ntmps16
  go_wp2_with fail
  refine (H.out _ _).mono ?_
  rintro e w1 ⟨rfl, hc⟩
  have HB := Lib.hid ((below2 _ _ : Below w.heap.size w _).trans (hc.below0.mono (by simp; omega)))
  clear hc H
  go_wp2
  go_ret
  exact ⟨rfl, HB.out⟩
set_option maxRecDepth 100000 in
set_option maxHeartbeats 1000000 in
theorem markPiece_any (X m : Int) (S : ByteArray) (ms : List Value) (Z : List Int) (A : Option Addr) (n c lo hi : Nat) (w : World) (h : Row 3 1 lo hi A n c (ints Z) w)
    (hm : ∀ w, Row 3 1 lo hi A n c (ints Z) w → Calls Try.prog 34 #[.slice A n c, .int .i64 1] w fun e w' => e = .returned (.int .i64 m) ∧ Row 3 1 lo hi A n c ms w' ∧ Ch lo hi w w') :
    Calls Try.prog 17 #[.agg #[.int .i64 X, .string S, .slice A n c], .int .i64 1] w fun e w' => e = .returned (.int .i64 m) ∧ Row 3 1 lo hi A n c ms w' ∧ Ch lo hi w w' := by
  have H := Lib.hid (fun o => hm (w.alloc o) (h.keep (Ch.alloc _ _) (.inr (Nat.zero_le _))))
  clear h hm
  go_enter Try.func17, Try.ntmps17
  go_wp2_with fail
  refine (H.out _).mono ?_
  rintro e w1 ⟨rfl, hr, hc⟩
  have HR := Lib.hid hr
  have HC := Lib.hid ((Ch.alloc _ _).wide.trans hc)
  clear hc hr H
  go_wp2
  go_ret
  exact ⟨rfl, HR.out, HC.out⟩
set_option maxRecDepth 100000 in
set_option maxHeartbeats 1000000 in
theorem heldPiece_any (X m : Int) (S : ByteArray) (ms : List Value) (A : Option Addr) (n c B : Nat) (w : World) (hB : B ≤ w.heap.size) (hmm : 1 ≤ m) (h : Rd w B 1 A n ms)
    (hm : ∀ w, Rd w B 1 A n ms → Calls Try.prog 35 #[.slice A n c, .int .i64 1] w fun e w' => e = .returned (.int .i64 m) ∧ Ch 0 0 w w') :
    Calls Try.prog 18 #[.agg #[.int .i64 X, .string S, .slice A n c], .int .i64 1] w fun e w' => e = .returned (.int .i64 m) ∧ Below w.heap.size w w' := by
  have H := Lib.hid (fun o => hm (w.alloc o) (h.below (((Below.refl _ _).alloc (Nat.le_refl _) o).mono hB)))
  clear h hm
  go_enter Try.func18, Try.ntmps18
  go_wp2_with fail
  refine (H.out _).mono ?_
  rintro e w1 ⟨rfl, hc⟩
  have HB := Lib.hid (((Below.refl _ _).alloc (Nat.le_refl _) _ : Below w.heap.size w _).trans (hc.below0.mono (by simp)))
  clear hc H
  go_wp2
  go_ret
  exact ⟨rfl, HB.out⟩
set_option maxRecDepth 100000 in
set_option maxHeartbeats 8000000 in
theorem law_RecoverPiece (x : Int) (s : ByteArray) (w : World) : Calls Try.prog 4 #[.int .i64 x, .string s] w fun e w' => e = .returned (.bool true) ∧ Below w.heap.size w w' := by
  by_cases hss : s.size ≤ 1048576
  · obtain ⟨X, S, Z, r, b, hZ, CS, CI⟩ := both_RecoverPiece x s hss
    obtain ⟨m, ms, hm0, hm1, CM, CH⟩ := mh_Int Z.length 1 hZ (by omega) (by omega)
    obtain ⟨n, hn⟩ : ∃ n, Z.length = n := ⟨_, rfl⟩
    rw [hn] at CM CH hZ
    have HCS := Lib.hid CS
    have HCI := Lib.hid CI
    have HCM := Lib.hid CM
    have HCH := Lib.hid CH
    have HN := Lib.hid hn
    clear CS CI CM CH hn
    go_enter Try.func4, Try.ntmps4
    go_wp2_with fail
    refine (HCS.out w).mono ?_
    rintro e w1 ⟨v, rfl, A1, c1, rfl, ho1, hb1⟩
    rw [HN.out] at ho1 ⊢
    have hs1 := hb1.size
    have HB1 := Lib.hid hb1
    have HR1 := Lib.hid (Rd.of_own ho1)
    clear ho1 hb1 HCS
    go_wp2_with fail
    obtain ⟨o1, ho1⟩ : ∃ o1, (Obj.cells #[.int .i64 X, .string S, .slice A1 n c1] 36) = o1 := ⟨_, rfl⟩
    have P1 : PcB (w1.alloc o1) w1.heap.size (.int .i64 X) (.string S) (.slice A1 n c1) := ho1 ▸ PcB.new
    rw [ho1]
    obtain ⟨wa, hwa⟩ : ∃ wa, w1.alloc o1 = wa := ⟨_, rfl⟩
    have ba : Below w1.heap.size w1 wa := hwa ▸ (Below.refl _ _).alloc (Nat.le_refl _) _
    have hsa : wa.heap.size = w1.heap.size + 1 := by rw [← hwa]; simp
    rw [hwa] at P1 ⊢
    clear hwa ho1
    refine (HCI.out wa).mono ?_
    rintro e w2 ⟨v, rfl, A2, c2, rfl, ho2, hb2⟩
    rw [HN.out] at ho2 ⊢
    have hs2 := hb2.size
    have P1 := P1.below hb2 (by omega)
    have HRa := Lib.hid ((HR1.out.below ba).below (hb2.mono (by omega)))
    have HB2 := Lib.hid ((HB1.out.trans (ba.mono hs1)).trans (hb2.mono (by omega)))
    have HO2 := Lib.hid (Row.of_own ho2)
    have HP1 := Lib.hid P1
    clear ho2 hb2 P1 ba HR1 HB1
    obtain ⟨g5, hg5⟩ : ∃ g5, w1.heap.size = g5 := ⟨_, rfl⟩
    rw [hg5] at HP1 HRa hsa ⊢
    have hg5l : g5 < w2.heap.size := by omega
    have hwg5 : w.heap.size ≤ g5 := by omega
    have q0 : ∀ o, (w2.alloc o).cell? ⟨g5, 0, none⟩ = some (.int .i64 X) := fun o => (World.cell?_alloc_lt w2 o ⟨g5, 0, none⟩ hg5l).trans HP1.out.c0
    have q1 : ∀ o, (w2.alloc o).cell? ⟨g5, 1, none⟩ = some (.string S) := fun o => (World.cell?_alloc_lt w2 o ⟨g5, 1, none⟩ hg5l).trans HP1.out.c1
    have q2 : ∀ o, (w2.alloc o).cell? ⟨g5, 2, none⟩ = some (.slice A1 n c1) := fun o => (World.cell?_alloc_lt w2 o ⟨g5, 2, none⟩ hg5l).trans HP1.out.c2
    clear hs1 hg5
    go_wp2_with fail
    obtain ⟨o1, ho1⟩ : ∃ o1, (Obj.cells #[.int .i64 X, .string S, .slice A2 n c2] 36) = o1 := ⟨_, rfl⟩
    have P2 : PcB (w2.alloc o1) w2.heap.size (.int .i64 X) (.string S) (.slice A2 n c2) := ho1 ▸ PcB.new
    rw [ho1]
    obtain ⟨wb, hwb⟩ : ∃ wb, w2.alloc o1 = wb := ⟨_, rfl⟩
    have bb : Below w2.heap.size w2 wb := hwb ▸ (Below.refl _ _).alloc (Nat.le_refl _) _
    have hsb : wb.heap.size = w2.heap.size + 1 := by rw [← hwb]; simp
    rw [hwb] at P2 ⊢
    clear hwb ho1 q0 q1 q2
    obtain ⟨lo, hlo⟩ : ∃ lo, wa.heap.size = lo := ⟨_, rfl⟩
    rw [hlo] at HO2 hsa hs2
    obtain ⟨hi, hhi⟩ : ∃ hi, w2.heap.size = hi := ⟨_, rfl⟩
    rw [hhi] at HO2 P2 hsb hg5l hs2 bb ⊢
    have ro := HO2.out.keep (Ch.of_below (hhi.symm ▸ bb)) (.inr (Nat.zero_le _))
    have HRO := Lib.hid ro
    have HP15 := Lib.hid (HP1.out.below bb hg5l)
    have HP2 := Lib.hid P2
    have HRS := Lib.hid (HRa.out.below (bb.mono (by omega)))
    have HBB := Lib.hid (HB2.out.trans (bb.mono (by omega)))
    have CE := eqPiece_any X S Z A2 A1 n c2 c1 hi g5 wb (by omega) (by omega) HRO.out.rd HRS.out hZ
    have HCE := Lib.hid CE
    clear ro P2 bb HP1 HRa HB2 HO2 hlo hhi CE
    refine HCE.out.mono ?_
    rintro e w3 ⟨rfl, hb3⟩
    have hs3 := hb3.size
    have HRO := Lib.hid (HRO.out.keep (Ch.of_below hb3) (.inr (Nat.zero_le _)))
    have HP15 := Lib.hid (HP15.out.below hb3 (by omega))
    have HP2 := Lib.hid (HP2.out.below hb3 (by omega))
    have HRS := Lib.hid (HRS.out.below (hb3.mono (by omega)))
    have HBB := Lib.hid (HBB.out.trans (hb3.mono HBB.out.size))
    have q0 := HP2.out.c0
    have q1 := HP2.out.c1
    have q2 := HP2.out.c2
    clear hb3 HCE
    go_wp2_with fail
    refine (markPiece_any X m S ms Z A2 n c2 lo hi w3 HRO.out (fun w h => HCM.out lo hi A2 c2 Z w h)).mono ?_
    rintro e w4 ⟨rfl, hrm, hcm⟩
    have hs4 := hcm.size
    have hbm := hcm.below (B := g5 + 1) (by omega) (.inl (by omega))
    have HRM := Lib.hid hrm
    have HP15 := Lib.hid (HP15.out.below hbm (by omega))
    have HP2 := Lib.hid (HP2.out.ch hcm (by omega) (.inr (Nat.le_refl _)))
    have HRS := Lib.hid (HRS.out.below (hbm.mono (by omega)))
    have HBB := Lib.hid (HBB.out.trans (hbm.mono (by omega)))
    have q0 := HP2.out.c0
    have q1 := HP2.out.c1
    have q2 := HP2.out.c2
    clear hrm hcm hbm HRO HCM
    go_wp2_with fail
    refine (heldPiece_any X m S ms A2 n c2 hi w4 (by omega) hm0 HRM.out.rd (fun w h => HCH.out hi A2 c2 w h)).mono ?_
    rintro e w5 ⟨rfl, hb5⟩
    have hs5 := hb5.size
    have HRM := Lib.hid (HRM.out.keep (Ch.of_below hb5) (.inr (Nat.zero_le _)))
    have HP15 := Lib.hid (HP15.out.below hb5 (by omega))
    have HP2 := Lib.hid (HP2.out.below hb5 (by omega))
    have HRS := Lib.hid (HRS.out.below (hb5.mono (by omega)))
    have HBB := Lib.hid (HBB.out.trans (hb5.mono (by omega)))
    clear hb5 q0 q1 q2
    go_wp2_with fail
    refine (HCI.out w5).mono ?_
    rintro e w6 ⟨v, rfl, A3, c3, rfl, ho3, hb6⟩
    rw [HN.out] at ho3 ⊢
    have hs6 := hb6.size
    have HRM := Lib.hid (HRM.out.keep (Ch.of_below hb6) (.inr (Nat.zero_le _)))
    have HP15 := Lib.hid (HP15.out.below hb6 (by omega))
    have HP2 := Lib.hid (HP2.out.below hb6 (by omega))
    have HRS := Lib.hid (HRS.out.below (hb6.mono (by omega)))
    have HBB := Lib.hid (HBB.out.trans (hb6.mono (by omega)))
    have HR6 := Lib.hid (Rd.of_own ho3)
    obtain ⟨g6, hg6⟩ : ∃ g6, w6.heap.size = g6 := ⟨_, rfl⟩
    rw [hg6] at HR6 hs6
    have hg6l : g5 < w6.heap.size := by omega
    have q0 : ∀ o, (w6.alloc o).cell? ⟨g5, 0, none⟩ = some (.int .i64 X) := fun o => (World.cell?_alloc_lt w6 o ⟨g5, 0, none⟩ hg6l).trans HP15.out.c0
    have q1 : ∀ o, (w6.alloc o).cell? ⟨g5, 1, none⟩ = some (.string S) := fun o => (World.cell?_alloc_lt w6 o ⟨g5, 1, none⟩ hg6l).trans HP15.out.c1
    have q2 : ∀ o, (w6.alloc o).cell? ⟨g5, 2, none⟩ = some (.slice A1 n c1) := fun o => (World.cell?_alloc_lt w6 o ⟨g5, 2, none⟩ hg6l).trans HP15.out.c2
    have HG6 := Lib.hid hg6
    clear ho3 hb6 hg6 HCI
    go_wp2_with fail
    obtain ⟨o1, ho1⟩ : ∃ o1, (Obj.cells #[.int .i64 X, .string S, .slice A3 n c3] 36) = o1 := ⟨_, rfl⟩
    rw [ho1]
    obtain ⟨wc, hwc⟩ : ∃ wc, w6.alloc o1 = wc := ⟨_, rfl⟩
    have bb : Below w6.heap.size w6 wc := hwc ▸ (Below.refl _ _).alloc (Nat.le_refl _) _
    have hsc : wc.heap.size = g6 + 1 := by rw [← hwc, ← HG6.out]; simp
    rw [HG6.out] at bb
    rw [hwc]
    clear hwc ho1 q0 q1 q2 hg6l
    have HRM := Lib.hid (HRM.out.keep (Ch.of_below (HG6.out.symm ▸ bb)) (.inr (Nat.zero_le _)))
    have HP2 := Lib.hid (HP2.out.below bb (by omega))
    have HR6 := Lib.hid (HR6.out.below bb)
    have HRS := Lib.hid (HRS.out.below (bb.mono (by omega)))
    have HBB := Lib.hid (HBB.out.trans (bb.mono (by omega)))
    clear bb HP15
    refine (eqPiece_any X S Z A3 A1 n c3 c1 g6 g5 wc (by omega) (by omega) HR6.out HRS.out hZ).mono ?_
    rintro e w7 ⟨rfl, hb7⟩
    have hs7 := hb7.size
    have HRM := Lib.hid (HRM.out.keep (Ch.of_below hb7) (.inr (Nat.zero_le _)))
    have HP2 := Lib.hid (HP2.out.below hb7 (by omega))
    have HBB := Lib.hid (HBB.out.trans (hb7.mono (by omega)))
    have q0 := HP2.out.c0
    have q1 := HP2.out.c1
    have q2 := HP2.out.c2
    clear hb7 HRS HR6
    go_wp2_with fail
    refine (heldPiece_any X m S ms A2 n c2 hi w7 (by omega) hm0 HRM.out.rd (fun w h => HCH.out hi A2 c2 w h)).mono ?_
    rintro e w8 ⟨rfl, hb8⟩
    have HB8 := Lib.hid (HBB.out.trans (hb8.mono (by omega)))
    clear hb8
    go_wp2
    go_ret
    exact ⟨rfl, HB8.out⟩
  · have hbig : (1048576 : Int) < (s.size : Int) := by omega
    go_enter Try.func4, Try.ntmps4
    go_wp2
    go_ret
    exact ⟨rfl, Below.refl _ _⟩
end Go.Proofs.Ytbpeceejboojoaa
