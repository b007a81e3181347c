/- Pieces of a log: the reference's RecoverPiece. -/
import Derived.Test.YtbpeceejboojoaaRecS
namespace Go.Proofs.Ytbpeceejboojoaa
set_option linter.unusedVariables false
set_option linter.unusedSimpArgs false
open Go.RowKit

/-- A piece, handed back with an index of its own. -/
def PcV (w : World) (x : Int) (s : ByteArray) (zs : List Int) (v : Value) (w' : World) : Prop :=
  ∃ A c, v = .agg #[.int .i64 x, .string s, .slice A zs.length c] ∧ w'.ownsRow w.heap.size 3 1 (.slice A zs.length c) zs.length (ints zs) ∧ Below w.heap.size w w'
theorem starts_le (t : List UInt8) : (starts t).length ≤ t.length := by
  rw [starts_len]; have := (recs_facts t _ 0 (Nat.le_refl _)).1; omega
/-- Three cells of a block, stored. -/
theorem pc_store {w : World} {g : Nat} {u0 u1 u2 y s z : Value} (d0 : w.cell? ⟨g, 0, none⟩ = some u0) (d1 : w.cell? ⟨g, 1, none⟩ = some u1) (d2 : w.cell? ⟨g, 2, none⟩ = some u2) :
    let w' := ((w.setCell ⟨g, 0, none⟩ y).setCell ⟨g, 1, none⟩ s).setCell ⟨g, 2, none⟩ z
    w'.cell? ⟨g, 0, none⟩ = some y ∧ w'.cell? ⟨g, 1, none⟩ = some s ∧ w'.cell? ⟨g, 2, none⟩ = some z ∧ Ch g (g + 1) w w' := by
  have e1 : (w.setCell ⟨g, 0, none⟩ y).cell? ⟨g, 1, none⟩ = some u1 := (World.cell?_setCell_other _ _ _ _ (by simp)).trans d1
  have e2 : ((w.setCell ⟨g, 0, none⟩ y).setCell ⟨g, 1, none⟩ s).cell? ⟨g, 2, none⟩ = some u2 := (World.cell?_setCell_other _ _ _ _ (by simp)).trans ((World.cell?_setCell_other _ _ _ _ (by simp)).trans d2)
  refine ⟨?_, ?_, World.cell?_setCell_same _ _ _ e2, ?_⟩
  · exact (World.cell?_setCell_other _ _ _ _ (by simp)).trans ((World.cell?_setCell_other _ _ _ _ (by simp)).trans (World.cell?_setCell_same _ _ _ d0))
  · exact (World.cell?_setCell_other _ _ _ _ (by simp)).trans (World.cell?_setCell_same _ _ _ e1)
  · refine ⟨rfl, rfl, rfl, by simp only [World.size_setCell]; exact Nat.le_refl _, fun k hk ho => ?_⟩
    rw [Below.heap_setCell _ _ _ _ (by simp; omega), Below.heap_setCell _ _ _ _ (by simp; omega), Below.heap_setCell _ _ _ _ (by simp; omega)]
theorem own_chR {w w' : World} {base e s n a b : Nat} {v : Value} {xs : List Value} (h : w.ownsRow base e s v n xs) (hc : Ch a b w w') (hab : b ≤ base) : w'.ownsRow base e s v n xs := by
  refine ⟨h.1, ?_⟩
  rcases h.2 with h2 | ⟨g, cap, cur, hv, hl, hh, r⟩
  · exact .inl h2
  · have hlt := (h.lt g (by rw [hv]; rfl)).2
    exact .inr ⟨g, cap, cur, hv, hl, (hc.block g hlt (by omega)).trans hh, r⟩
set_option maxRecDepth 100000 in
set_option maxHeartbeats 4000000 in
theorem l6Piece_any (x : Int) (s : ByteArray) (w : World) (hs : s.size ≤ 60) : Calls Try.prog 31 #[.int .i64 x, .string s] w fun e w' => ∃ v, e = .returned v ∧ PcV w x s (third 0 (starts s.data.toList)) v w' := by
  have hsl := starts_le s.data.toList
  have hln : s.data.toList.length = s.size := by simp
  obtain ⟨t, ht⟩ : ∃ t, s.data.toList = t := ⟨_, rfl⟩
  rw [ht] at hsl hln ⊢
  have C1 := fun w => l6Starts_any s w hs
  rw [ht] at C1
  have HC := Lib.hid C1
  have HN := Lib.hid (show (starts t).length ≤ 60 by omega)
  clear ht C1 hsl hln
  go_enter Try.func31, Try.ntmps31
  go_wp2_with fail
  obtain ⟨wb, hwb⟩ : ∃ wb, w.alloc (.cells #[.int .i64 0, .string ⟨#[]⟩, .slice none 0 0] 36) = wb := ⟨_, rfl⟩
  have hb0 : Below w.heap.size w wb := hwb ▸ (Below.refl _ _).alloc (Nat.le_refl _) _
  have hsb : wb.heap.size = w.heap.size + 1 := by rw [← hwb]; simp
  have d0 : wb.cell? ⟨w.heap.size, 0, none⟩ = some (.int .i64 0) := by rw [← hwb]; exact World.cell?_alloc_at _ _ _ _ rfl
  have d1 : wb.cell? ⟨w.heap.size, 1, none⟩ = some (.string ⟨#[]⟩) := by rw [← hwb]; exact World.cell?_alloc_at _ _ _ _ rfl
  have d2 : wb.cell? ⟨w.heap.size, 2, none⟩ = some (.slice none 0 0) := by rw [← hwb]; exact World.cell?_alloc_at _ _ _ _ rfl
  have f : ∀ j, wb.frozen? ⟨w.heap.size, j, none⟩ = false := fun j => by rw [← hwb]; exact World.frozen?_alloc_at _ _ _ _ rfl
  rw [hwb]
  clear hwb
  refine (HC.out wb).mono ?_
  rintro e w1 ⟨A1, c1, rfl, ho1, hb1⟩
  have hs1 := hb1.size
  have d0 := (bcell hb1 _ _ (by omega)).trans d0
  have d1 := (bcell hb1 _ _ (by omega)).trans d1
  have d2 := (bcell hb1 _ _ (by omega)).trans d2
  have f : ∀ j, w1.frozen? ⟨w.heap.size, j, none⟩ = false := fun j => (hb1.frozen (p := ⟨w.heap.size, j, none⟩) (by show w.heap.size < _; omega)).trans (f j)
  have HB1 := Lib.hid (hb0.trans (hb1.mono (by omega)))
  have HR := Lib.hid (Rd.of_own ho1)
  have CI := l6Index_any A1 (starts t).length c1 (starts t) w1 HR.out HN.out
  have HCI := Lib.hid CI
  clear CI ho1 hb1 hb0 HC HR
  go_wp2_with fail
  refine HCI.out.mono ?_
  rintro e w2 ⟨A2, c2, rfl, ho2, hb2⟩
  have hs2 := hb2.size
  have d0 := (bcell hb2 _ _ (by omega)).trans d0
  have d1 := (bcell hb2 _ _ (by omega)).trans d1
  have d2 := (bcell hb2 _ _ (by omega)).trans d2
  have f : ∀ j, w2.frozen? ⟨w.heap.size, j, none⟩ = false := fun j => (hb2.frozen (p := ⟨w.heap.size, j, none⟩) (by show w.heap.size < _; omega)).trans (f j)
  have HB2 := Lib.hid (HB1.out.trans (hb2.mono (by omega)))
  have HO := Lib.hid ho2
  obtain ⟨zs, hz⟩ : ∃ zs, third 0 (starts t) = zs := ⟨_, rfl⟩
  rw [hz] at HO ⊢
  have f0 := f 0
  have f1 := f 1
  have f2 := f 2
  have HZ := Lib.hid hz
  clear hz ho2 hb2 HB1 HCI
  go_wp2_with fail
  have P := pc_store (y := .int .i64 x) (s := .string s) (z := .slice A2 zs.length c2) d0 d1 d2
  obtain ⟨w3, hw3⟩ : ∃ w3, (((w2.setCell ⟨w.heap.size, 0, none⟩ (.int .i64 x)).setCell ⟨w.heap.size, 1, none⟩ (.string s)).setCell ⟨w.heap.size, 2, none⟩ (.slice A2 zs.length c2)) = w3 := ⟨_, rfl⟩
  rw [hw3] at P ⊢
  obtain ⟨p0, p1, p2, hg⟩ := P
  clear d0 d1 d2 f0 f1 f2 f hw3
  refine bodyPost_ret (v := .agg #[.int .i64 x, .string s, .slice A2 zs.length c2]) (by simp [results, Try.results31, go_sem, p0, p1, p2]) rfl ⟨_, rfl, ?_⟩
  rw [HZ.out]
  refine ⟨A2, c2, rfl, own_mono (own_chR HO.out hg (by omega)) (by omega), HB2.out.trans (hg.below (by omega) (by omega))⟩
/-- What RecoverPiece hands back. -/
def RpR (x : Int) (s : ByteArray) (w : World) (e : Ending) (w' : World) : Prop :=
  if inB x 0 1000 = true ∧ s.size ≤ 60 then ∃ v, e = .returned (.tuple #[v, .int .i64 ((s.size : Int) - (whole s.data.toList 0 : Nat)), .bool true]) ∧ PcV w x (s.extract 0 (whole s.data.toList 0)) (third 0 (starts (s.extract 0 (whole s.data.toList 0)).data.toList)) v w'
  else e = .returned (.tuple #[.agg #[.int .i64 0, .string ⟨#[]⟩, .slice none 0 0], .int .i64 0, .bool false]) ∧ Below w.heap.size w w'
theorem RpR.no {x : Int} {s : ByteArray} {w w' : World} (h : ¬ (inB x 0 1000 = true ∧ s.size ≤ 60)) (hb : Below w.heap.size w w') :
    RpR x s w (.returned (.tuple #[.agg #[.int .i64 0, .string ⟨#[]⟩, .slice none 0 0], .int .i64 0, .bool false])) w' := by
  unfold RpR; rw [if_neg h]; exact ⟨rfl, hb⟩
theorem RpR.yes {x : Int} {s : ByteArray} {w w' : World} {v : Value} {W : Nat} {zs : List Int} (h : inB x 0 1000 = true ∧ s.size ≤ 60) (hW : whole s.data.toList 0 = W) (hz : third 0 (starts (s.extract 0 W).data.toList) = zs) (hp : PcV w x (s.extract 0 W) zs v w') :
    RpR x s w (.returned (.tuple #[v, .int .i64 ((s.size : Int) - (W : Int)), .bool true])) w' := by
  unfold RpR; rw [if_pos h, hW, hz]; exact ⟨v, rfl, hp⟩
theorem whole_le (s : ByteArray) : whole s.data.toList 0 ≤ s.size := by
  have h := ((recs_facts s.data.toList _ 0 (Nat.le_refl _)).2.1 (Nat.zero_le _)).1
  simpa using h
set_option maxRecDepth 100000 in
set_option maxHeartbeats 4000000 in
theorem sRecoverPiece_any (x : Int) (s : ByteArray) (w : World) (hss : s.size ≤ 1048576) : Calls Try.prog 14 #[.int .i64 x, .string s] w (RpR x s w) := by
  obtain ⟨K, hK⟩ : ∃ K, inB x 0 1000 = K := ⟨_, rfl⟩
  have CIN := Lib.hid (fun w => hK ▸ l1In_any x 0 1000 w)
  have HK := Lib.hid hK
  clear hK
  by_cases hlen : s.size ≤ 60
  · cases K with
    | false =>
      go_enter Try.func14, Try.ntmps14
      go_wp2_with (go_at_call 21; refine (CIN.out _).mono ?_; rintro e w' ⟨rfl, rfl⟩)
      exact bodyPost_ret (v := .tuple #[.agg #[.int .i64 0, .string ⟨#[]⟩, .slice none 0 0], .int .i64 0, .bool false]) (by simp [results, Try.results14, go_sem]) rfl (RpR.no (by rw [HK.out]; simp) ((Below.refl _ _).alloc (Nat.le_refl _) _))
    | true =>
      have HS := l6Starts_any s
      have hwl := whole_le s
      obtain ⟨t, ht⟩ : ∃ t, s.data.toList = t := ⟨_, rfl⟩
      rw [ht] at HS hwl
      obtain ⟨W, hW⟩ : ∃ W, whole t 0 = W := ⟨_, rfl⟩
      rw [hW] at hwl
      have HW := Lib.hid (show whole s.data.toList 0 = W by rw [ht, hW])
      have HC := Lib.hid (fun w => HS w hlen)
      have HD := Lib.hid (fun w => l6Piece_any x (s.extract 0 W) w (by simp; omega))
      have HWt := Lib.hid hW
      clear HS ht hW
      go_enter Try.func14, Try.ntmps14
      go_wp2_with (go_at_call 21; refine (CIN.out _).mono ?_; rintro e w' ⟨rfl, rfl⟩)
      obtain ⟨wb, hwb⟩ : ∃ wb, w.alloc (.cells #[.int .i64 0, .string ⟨#[]⟩, .slice none 0 0] 36) = wb := ⟨_, rfl⟩
      have hb0 : Below w.heap.size w wb := hwb ▸ (Below.refl _ _).alloc (Nat.le_refl _) _
      have hsb : wb.heap.size = w.heap.size + 1 := by rw [← hwb]; simp
      have d0 : wb.cell? ⟨w.heap.size, 0, none⟩ = some (.int .i64 0) := by rw [← hwb]; exact World.cell?_alloc_at _ _ _ _ rfl
      have d1 : wb.cell? ⟨w.heap.size, 1, none⟩ = some (.string ⟨#[]⟩) := by rw [← hwb]; exact World.cell?_alloc_at _ _ _ _ rfl
      have d2 : wb.cell? ⟨w.heap.size, 2, none⟩ = some (.slice none 0 0) := by rw [← hwb]; exact World.cell?_alloc_at _ _ _ _ rfl
      have f : ∀ j, wb.frozen? ⟨w.heap.size, j, none⟩ = false := fun j => by rw [← hwb]; exact World.frozen?_alloc_at _ _ _ _ rfl
      rw [hwb]
      clear hwb
      refine (HC.out _).mono ?_
      rintro e w1 ⟨A1, c1, rfl, ho1, hb1⟩
      rw [HWt.out]
      have hs1 := hb1.size
      have d0 := (bcell hb1 _ _ (by omega)).trans d0
      have d1 := (bcell hb1 _ _ (by omega)).trans d1
      have d2 := (bcell hb1 _ _ (by omega)).trans d2
      have f : ∀ j, w1.frozen? ⟨w.heap.size, j, none⟩ = false := fun j => (hb1.frozen (p := ⟨w.heap.size, j, none⟩) (by show w.heap.size < _; omega)).trans (f j)
      have HB1 := Lib.hid (hb0.trans (hb1.mono (by omega)))
      clear ho1 hb1 hb0 HC
      go_wp2_with fail
      refine (HD.out w1).mono ?_
      rintro e w2 ⟨v, rfl, A2, c2, rfl, ho2, hb2⟩
      have hs2 := hb2.size
      have d0 := (bcell hb2 _ _ (by omega)).trans d0
      have d1 := (bcell hb2 _ _ (by omega)).trans d1
      have d2 := (bcell hb2 _ _ (by omega)).trans d2
      have f : ∀ j, w2.frozen? ⟨w.heap.size, j, none⟩ = false := fun j => (hb2.frozen (p := ⟨w.heap.size, j, none⟩) (by show w.heap.size < _; omega)).trans (f j)
      have HB2 := Lib.hid (HB1.out.trans (hb2.mono (by omega)))
      have HO := Lib.hid ho2
      obtain ⟨zs, hz⟩ : ∃ zs, third 0 (starts (s.extract 0 W).data.toList) = zs := ⟨_, rfl⟩
      rw [hz] at HO ⊢
      have f0 := f 0
      have f1 := f 1
      have f2 := f 2
      have HZ := Lib.hid hz
      have hiw : IntKind.i64.wrap ((s.size : Int) - (W : Int)) = (s.size : Int) - (W : Int) := IntWalk.i64_in _ (by omega)
      clear hz ho2 hb2 HB1 HD
      go_wp2_with fail
      have P := pc_store (y := .int .i64 x) (s := .string (s.extract 0 W)) (z := .slice A2 zs.length c2) d0 d1 d2
      obtain ⟨w3, hw3⟩ : ∃ w3, (((w2.setCell ⟨w.heap.size, 0, none⟩ (.int .i64 x)).setCell ⟨w.heap.size, 1, none⟩ (.string (s.extract 0 W))).setCell ⟨w.heap.size, 2, none⟩ (.slice A2 zs.length c2)) = w3 := ⟨_, rfl⟩
      rw [hw3] at P ⊢
      obtain ⟨p0, p1, p2, hg⟩ := P
      clear d0 d1 d2 f0 f1 f2 f hw3
      refine bodyPost_ret (v := .tuple #[.agg #[.int .i64 x, .string (s.extract 0 W), .slice A2 zs.length c2], .int .i64 ((s.size : Int) - (W : Int)), .bool true]) (by simp [results, Try.results14, go_sem, p0, p1, p2]) rfl ?_
      refine RpR.yes (by rw [HK.out]; exact ⟨rfl, hlen⟩) HW.out HZ.out ⟨A2, c2, rfl, own_mono (own_chR HO.out hg (by omega)) (by omega), HB2.out.trans (hg.below (by omega) (by omega))⟩
  · have hbig : (60 : Int) < (s.size : Int) := by omega
    go_enter Try.func14, Try.ntmps14
    cases K <;> (go_wp2_with (go_at_call 21; refine (CIN.out _).mono ?_; rintro e w' ⟨rfl, rfl⟩))
    all_goals exact bodyPost_ret (v := .tuple #[.agg #[.int .i64 0, .string ⟨#[]⟩, .slice none 0 0], .int .i64 0, .bool false]) (by simp [results, Try.results14, go_sem]) rfl (RpR.no (fun h => hlen h.2) ((Below.refl _ _).alloc (Nat.le_refl _) _))
end Go.Proofs.Ytbpeceejboojoaa
