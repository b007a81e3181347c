/- The law NewLog. -/
import Derived.Test.YtbcbhgbbbdmklaaRowInts
import Derived.Test.YtbcbhgbbbdmklaaBeyond
import Derived.Test.YtbcbhgbbbdmklaaMark
namespace Go.Proofs.Ytbcbhgbbbdmklaa
set_option linter.unusedVariables false
set_option linter.unusedSimpArgs false
open Go.RowKit

/-- A piece of a log without an index, in block g. -/
structure PC (w : World) (g : Nat) (x : Int) (s : ByteArray) : Prop where
  lt : g < w.heap.size
  c0 : w.cell? ⟨g, 0, none⟩ = some (.int .i64 x)
  c1 : w.cell? ⟨g, 1, none⟩ = some (.string s)
  c2 : w.cell? ⟨g, 2, none⟩ = some (.slice none 0 0)
  fr : ∀ j, w.frozen? ⟨g, j, none⟩ = false
theorem PC.below {w w' : World} {g B : Nat} {x : Int} {s : ByteArray} (h : PC w g x s) (hb : Below B w w') (hg : g < B) : PC w' g x s :=
  ⟨Nat.lt_of_lt_of_le h.lt hb.size, (bcell hb _ _ hg).trans h.c0, (bcell hb _ _ hg).trans h.c1, (bcell hb _ _ hg).trans h.c2, fun j => (hb.frozen (p := ⟨g, j, none⟩) hg).trans (h.fr j)⟩
theorem PC.ch {w w' : World} {g a b : Nat} {x : Int} {s : ByteArray} (h : PC w g x s) (hc : Ch a b w w') (hg : g < a ∨ b ≤ g) : PC w' g x s := by
  have e := hc.block g h.lt hg
  have e1 : ∀ j, w'.cell? ⟨g, j, none⟩ = w.cell? ⟨g, j, none⟩ := fun j => by simp only [World.cell?, e]
  exact ⟨Nat.lt_of_lt_of_le h.lt hc.size, (e1 0).trans h.c0, (e1 1).trans h.c1, (e1 2).trans h.c2, fun j => (show w'.frozen? ⟨g, j, none⟩ = w.frozen? ⟨g, j, none⟩ by simp only [World.frozen?, e]).trans (h.fr j)⟩
set_option maxRecDepth 100000 in
set_option maxHeartbeats 1000000 in
theorem sNewLog_any (w : World) : Calls Try.prog 28 #[] w fun e w' => ∃ g, e = .returned (.agg #[.slice (some ⟨g, 0, none⟩) 1 1, .int .i64 0]) ∧ w.heap.size ≤ g ∧ PC w' g 0 ⟨#[]⟩ ∧ Below w.heap.size w w' := by
  go_enter Try.func28, Try.ntmps28
  go_wp2
  refine bodyPost_ret (v := .agg #[.slice (some ⟨w.heap.size + 1, 0, none⟩) 1 1, .int .i64 0]) (by simp [results, Try.results28, go_sem]) rfl ⟨w.heap.size + 1, rfl, by omega, ⟨by simp, ?_, ?_, ?_, fun j => ?_⟩, below2 _ _⟩
  · simp
  · simp
  · simp
  · simp
set_option maxRecDepth 100000 in
set_option maxHeartbeats 1000000 in
theorem iNewLog_any (w : World) : Calls Try.prog 29 #[] w fun e w' => ∃ g, e = .returned (.agg #[.slice (some ⟨g, 0, none⟩) 1 1, .int .i64 0]) ∧ w.heap.size ≤ g ∧ PC w' g 0 ⟨#[]⟩ ∧ Below w.heap.size w w' := by
  go_enter Try.func29, Try.ntmps29
  go_wp2
  refine bodyPost_ret (v := .agg #[.slice (some ⟨w.heap.size + 1, 0, none⟩) 1 1, .int .i64 0]) (by simp [results, Try.results29, go_sem]) rfl ⟨w.heap.size + 1, rfl, by omega, ⟨by simp, ?_, ?_, ?_, fun j => ?_⟩, below2 _ _⟩
  · simp
  · simp
  · simp
  · simp
set_option maxRecDepth 100000 in
set_option maxHeartbeats 1000000 in
theorem eqPiece_same (x : Int) (s : ByteArray) (w : World) : Calls Try.prog 35 #[.agg #[.int .i64 x, .string s, .slice none 0 0], .agg #[.int .i64 x, .string s, .slice none 0 0]] w fun e w' => e = .returned (.bool true) ∧ Below w.heap.size w w' := by
  go_enter Try.func35, Try.ntmps35
  go_wp2_with fail
  refine (eqIntS_same none none 0 0 0 0 [] _ Rd.nil_ Rd.nil_ (by omega)).mono ?_
  rintro e w1 ⟨rfl, q, rfl⟩
  go_wp2
  go_ret
  exact ⟨rfl, Below.drewN (below2 _ _) q⟩
set_option maxRecDepth 100000 in
set_option maxHeartbeats 4000000 in
theorem eqPieceS_same (g g' : Nat) (x : Int) (s : ByteArray) (w : World) (h : PC w g x s) (h' : PC w g' x s) :
    Calls Try.prog 57 #[.slice (some ⟨g, 0, none⟩) 1 1, .slice (some ⟨g', 0, none⟩) 1 1] w fun e w' => e = .returned (.bool true) ∧ Below w.heap.size w w' := by
  have H := Lib.hid h
  have H' := Lib.hid h'
  clear h h'
  go_enter Try.func57, Try.ntmps57
  go_wp2
  go_loopw [5] (fun i wr => ∃ k : Nat, k ≤ 1 ∧ i = .int .i64 k ∧ Below w.heap.size w wr) (fun i _ => 1 - (intOf i).toNat)
  case atStart => exact ⟨0, Nat.zero_le _, rfl, Below.refl _ _⟩
  case round =>
    obtain ⟨k, hk, rfl, hb⟩ := hrel
    have HB := Lib.hid hb
    have hsz := hb.size
    clear hb
    by_cases hlt : k = 0
    · subst hlt
      have P := H.out.below HB.out H.out.lt
      have P' := H'.out.below HB.out H'.out.lt
      have d0 := beyond_cell (B := wr.heap.size) (W := wr) P.c0 P.lt
      have d1 := beyond_cell (B := wr.heap.size) (W := wr) P.c1 P.lt
      have d2 := beyond_cell (B := wr.heap.size) (W := wr) P.c2 P.lt
      have d0' := beyond_cell (B := wr.heap.size) (W := wr) P'.c0 P'.lt
      have d1' := beyond_cell (B := wr.heap.size) (W := wr) P'.c1 P'.lt
      have d2' := beyond_cell (B := wr.heap.size) (W := wr) P'.c2 P'.lt
      clear P P'
      go_wp2_with fail
      refine wp_region_beyond (B := wr.heap.size) (W := wr) (Below.refl _ _) (by kernel_rfl) (by kernel_rfl) ?_
      repeat (go_big_quiet_step ((go_at_call 35; exact calls_beyond (Nat.le_refl _) (eqPiece_same _ _ _))))
      refine wpQuiet_nil ?_
      intro _ hw'
      obtain ⟨z, rfl⟩ := hw'
      have HBz := Lib.hid (HB.out.trans (z.2.mono hsz))
      generalize z.1 = wz at HBz ⊢
      clear d0 d0' d1 d1' d2 d2'
      go_wp2
      go_roundw
      case rel => exact ⟨1, by omega, rfl, HBz.out⟩
      case measure => simp [intOf]
    · obtain rfl : k = 1 := by omega
      go_wp2
      go_ret
      exact ⟨rfl, HB.out⟩
set_option maxRecDepth 100000 in
set_option maxHeartbeats 1000000 in
theorem eqLog_same (g g' : Nat) (x : Int) (s : ByteArray) (w : World) (h : PC w g x s) (h' : PC w g' x s) :
    Calls Try.prog 30 #[.agg #[.slice (some ⟨g, 0, none⟩) 1 1, .int .i64 0], .agg #[.slice (some ⟨g', 0, none⟩) 1 1, .int .i64 0]] w fun e w' => e = .returned (.bool true) ∧ Below w.heap.size w w' := by
  have hl := h.lt
  have hl' := h'.lt
  obtain ⟨wb, hwb⟩ : ∃ wb, wb = (w.alloc (.cells #[.slice (some ⟨g, 0, none⟩) 1 1, .int .i64 0] 44)).alloc (.cells #[.slice (some ⟨g', 0, none⟩) 1 1, .int .i64 0] 44) := ⟨_, rfl⟩
  have hb0 : Below w.heap.size w wb := hwb ▸ below2 _ _
  have hsb : wb.heap.size = w.heap.size + 2 := by rw [hwb]; simp
  have q1 : wb.cell? ⟨w.heap.size, 1, none⟩ = some (.int .i64 0) := by rw [hwb, World.cell?_alloc_lt _ _ _ (by simp)]; simp
  have q2 : wb.cell? ⟨w.heap.size + 1, 1, none⟩ = some (.int .i64 0) := by rw [hwb]; simp
  have HC := Lib.hid (eqPieceS_same g g' x s wb (h.below hb0 hl) (h'.below hb0 hl'))
  have HW := Lib.hid hwb
  have HB := Lib.hid hb0
  clear h h' hwb hb0
  go_enter Try.func30, Try.ntmps30
  go_wp2_with fail
  rw [← HW.out]
  refine HC.out.mono ?_
  rintro e w1 ⟨rfl, hb1⟩
  have r1 : w1.cell? ⟨w.heap.size, 1, none⟩ = some (.int .i64 0) := (bcell hb1 _ _ (by omega)).trans q1
  have r2 : w1.cell? ⟨w.heap.size + 1, 1, none⟩ = some (.int .i64 0) := (bcell hb1 _ _ (by omega)).trans q2
  have HB1 := Lib.hid (HB.out.trans (hb1.mono (by omega)))
  clear hb1 q1 q2
  go_wp2
  go_ret
  exact ⟨rfl, HB1.out⟩
set_option maxRecDepth 100000 in
set_option maxHeartbeats 4000000 in
theorem markPieceS_one (g : Nat) (w : World) (h : PC w g 0 ⟨#[]⟩) :
    Calls Try.prog 58 #[.slice (some ⟨g, 0, none⟩) 1 1, .int .i64 1] w fun e w' => e = .returned (.int .i64 3) ∧ PC w' g 1 (markS 2) ∧ Ch g (g + 1) w w' := by
  have hl := h.lt
  have hc0 := h.c0
  have hf0 := h.fr 0
  have H := Lib.hid h
  clear h
  go_enter Try.func58, Try.ntmps58
  go_wp2
  go_loopw [1, 5] (fun m i wr => (i = .int .i64 0 ∧ m = .int .i64 1 ∧ wr = w) ∨ (i = .int .i64 1 ∧ m = .int .i64 3 ∧ PC wr g 1 (markS 2) ∧ Ch g (g + 1) w wr)) (fun _ i _ => 1 - (intOf i).toNat)
  case atStart => exact .inl ⟨rfl, rfl, rfl⟩
  case round =>
    rcases hrel with ⟨rfl, rfl, rfl⟩ | ⟨rfl, rfl, hp, hc⟩
    · have HM := Lib.hid (fun w => markText_any 2 w (by omega) (by omega))
      go_wp2_with fail
      refine (HM.out _).mono ?_
      rintro e w1 ⟨rfl, hb1⟩
      have hs0 : (wr.setCell ⟨g, 0, none⟩ (.int .i64 1)).heap.size = wr.heap.size := World.size_setCell ..
      have hg1 : g < (wr.setCell ⟨g, 0, none⟩ (.int .i64 1)).heap.size := by rw [hs0]; exact hl
      have d0 : w1.cell? ⟨g, 0, none⟩ = some (.int .i64 1) := (bcell hb1 _ _ hg1).trans (World.cell?_setCell_same _ _ _ hc0)
      have d1 : w1.cell? ⟨g, 1, none⟩ = some (.string ⟨#[]⟩) := (bcell hb1 _ _ hg1).trans ((World.cell?_setCell_other _ _ _ _ (by simp)).trans H.out.c1)
      have d2 : w1.cell? ⟨g, 2, none⟩ = some (.slice none 0 0) := (bcell hb1 _ _ hg1).trans ((World.cell?_setCell_other _ _ _ _ (by simp)).trans H.out.c2)
      have df : ∀ j, w1.frozen? ⟨g, j, none⟩ = false := fun j => (hb1.frozen (p := ⟨g, j, none⟩) hg1).trans ((World.frozen?_setCell ..).trans (H.out.fr j))
      have hls : g < w1.heap.size := Nat.lt_of_lt_of_le hg1 hb1.size
      have HP := Lib.hid (show PC (w1.setCell ⟨g, 1, none⟩ (.string (markS 2))) g 1 (markS 2) from
        ⟨by rw [World.size_setCell]; exact hls, (World.cell?_setCell_other _ _ _ _ (by simp)).trans d0, World.cell?_setCell_same _ _ _ d1, (World.cell?_setCell_other _ _ _ _ (by simp)).trans d2, fun j => (World.frozen?_setCell ..).trans (df j)⟩)
      have c1 : Ch g (g + 1) wr (wr.setCell ⟨g, 0, none⟩ (.int .i64 1)) := ⟨rfl, rfl, rfl, by rw [hs0]; exact Nat.le_refl _, fun k hk ho => Below.heap_setCell _ _ _ _ (by simp; omega)⟩
      have c3 : Ch g (g + 1) w1 (w1.setCell ⟨g, 1, none⟩ (.string (markS 2))) := ⟨rfl, rfl, rfl, by rw [World.size_setCell]; exact Nat.le_refl _, fun k hk ho => Below.heap_setCell _ _ _ _ (by simp; omega)⟩
      have HC := Lib.hid ((c1.trans (Ch.of_below hb1).zero).trans c3)
      have df1 := df 1
      have e2 := HP.out.c2
      clear hb1 c1 c3 d0 df hc0 hf0
      go_wp2_with fail
      refine (markIntS_any 0 none 0 0 [] 3 _ (World.ownsRow_nil _ _ _ _) (by omega) (by omega) (by omega)).mono ?_
      rintro e w2 ⟨rfl, _, hg2⟩
      have HC2 := Lib.hid (Ch.of_grown (lo := 0) (hi := 0) hg2 (fun q hq => by simp [Value.ownBlock] at hq))
      clear hg2
      go_wp2
      go_roundw
      case rel => exact .inr ⟨rfl, rfl, HP.out.ch HC2.out (.inr (Nat.zero_le _)), HC.out.trans HC2.out.zero⟩
      case measure => simp [intOf]
    · have HP := Lib.hid hp
      have HC := Lib.hid hc
      clear hp hc
      go_wp2
      go_ret
      exact ⟨rfl, HP.out, HC.out⟩
set_option maxRecDepth 100000 in
set_option maxHeartbeats 1000000 in
theorem markLog_one (g : Nat) (w : World) (h : PC w g 0 ⟨#[]⟩) :
    Calls Try.prog 31 #[.agg #[.slice (some ⟨g, 0, none⟩) 1 1, .int .i64 0], .int .i64 1] w fun e w' => e = .returned (.int .i64 3) ∧ PC w' g 1 (markS 2) ∧ Ch g (g + 1) w w' := by
  have hl := h.lt
  have HC := Lib.hid (fun o => markPieceS_one g (w.alloc o) (h.below ((Below.refl _ _).alloc (Nat.le_refl _) o) hl))
  clear h
  go_enter Try.func31, Try.ntmps31
  go_wp2_with fail
  refine (HC.out _).mono ?_
  rintro e w1 ⟨rfl, hp, hc⟩
  have HP := Lib.hid hp
  have HCC := Lib.hid ((Ch.alloc _ _).zero.trans hc)
  clear hp hc
  go_wp2
  go_ret
  exact ⟨rfl, HP.out, HCC.out⟩
set_option maxRecDepth 100000 in
set_option maxHeartbeats 4000000 in
theorem heldPieceS_one (g : Nat) (w : World) (h : PC w g 1 (markS 2)) :
    Calls Try.prog 59 #[.slice (some ⟨g, 0, none⟩) 1 1, .int .i64 1] w fun e w' => e = .returned (.int .i64 3) ∧ Below w.heap.size w w' := by
  have H := Lib.hid h
  clear h
  go_enter Try.func59, Try.ntmps59
  go_wp2
  go_loopw [1, 5] (fun m i wr => (i = .int .i64 0 ∧ m = .int .i64 1 ∧ wr = w) ∨ (i = .int .i64 1 ∧ m = .int .i64 3 ∧ Below w.heap.size w wr)) (fun _ i _ => 1 - (intOf i).toNat)
  case atStart => exact .inl ⟨rfl, rfl, rfl⟩
  case round =>
    rcases hrel with ⟨rfl, rfl, rfl⟩ | ⟨rfl, rfl, hb⟩
    · have hc0 := H.out.c0
      have d1 := beyond_cell (B := wr.heap.size) (W := wr) H.out.c1 H.out.lt
      go_wp2_with fail
      go_wp2_with fail
      refine wp_region_beyond (B := wr.heap.size) (W := wr) (Below.refl _ _) (by kernel_rfl) (by kernel_rfl) ?_
      repeat (go_big_quiet_step ((go_at_call 51; exact calls_beyond (Nat.le_refl _) (markText_any _ _ (by omega) (by omega)))))
      refine wpQuiet_nil ?_
      intro _ hw'
      obtain ⟨z, rfl⟩ := hw'
      have HZ := Lib.hid z.2
      have hc2 : z.1.cell? ⟨g, 2, none⟩ = some (.slice none 0 0) := (bcell z.2 _ _ H.out.lt).trans H.out.c2
      generalize z.1 = wz at HZ hc2 ⊢
      clear d1 hc0
      go_wp2_with fail
      refine (heldIntS_any wz.heap.size none 0 0 3 _ (by simpa [marks, ints] using Rd.nil_) (by omega) (by omega) (by omega)).mono ?_
      rintro e w2 ⟨rfl, rfl⟩
      go_wp2
      go_roundw
      case rel => exact .inr ⟨rfl, rfl, HZ.out⟩
      case measure => simp [intOf]
    · have HB := Lib.hid hb
      clear hb
      go_wp2
      go_ret
      exact ⟨rfl, HB.out⟩
set_option maxRecDepth 100000 in
set_option maxHeartbeats 1000000 in
theorem heldLog_one (g : Nat) (w : World) (h : PC w g 1 (markS 2)) :
    Calls Try.prog 32 #[.agg #[.slice (some ⟨g, 0, none⟩) 1 1, .int .i64 0], .int .i64 1] w fun e w' => e = .returned (.int .i64 3) ∧ Below w.heap.size w w' := by
  have hl := h.lt
  have HC := Lib.hid (fun o => heldPieceS_one g (w.alloc o) (h.below ((Below.refl _ _).alloc (Nat.le_refl _) o) hl))
  clear h
  go_enter Try.func32, Try.ntmps32
  go_wp2_with fail
  refine (HC.out _).mono ?_
  rintro e w1 ⟨rfl, hb⟩
  have HB := Lib.hid (((Below.refl w.heap.size w).alloc (Nat.le_refl _) _).trans (hb.mono (by simp)))
  clear hb
  go_wp2
  go_ret
  exact ⟨rfl, HB.out⟩
theorem cell_ch {w w' : World} {b j lo hi : Nat} {v : Value} (h : w.cell? ⟨b, j, none⟩ = some v) (hc : Ch lo hi w w') (hb : b < w.heap.size) (hd : b < lo ∨ hi ≤ b) : w'.cell? ⟨b, j, none⟩ = some v := by
  have e := hc.block b hb hd
  have e1 : w'.cell? ⟨b, j, none⟩ = w.cell? ⟨b, j, none⟩ := by simp only [World.cell?, e]
  exact e1.trans h
set_option maxRecDepth 100000 in
set_option maxHeartbeats 4000000 in
theorem law_NewLog (w : World) : Calls Try.prog 8 #[] w fun e w' => e = .returned (.bool true) ∧ Below w.heap.size w w' := by
  go_enter Try.func8, Try.ntmps8
  go_wp2_with fail
  refine (sNewLog_any _).mono ?_
  rintro e w1 ⟨g1, rfl, hg1, hp1, hb1⟩
  have HB1 := Lib.hid (hb1.alloc hb1.size (.cells #[.slice (some ⟨g1, 0, none⟩) 1 1, .int .i64 0] 44))
  have hl1 := hp1.lt
  have HP1 := Lib.hid hp1
  have hs1 := hb1.size
  clear hp1 hb1
  go_wp2_with fail
  refine (iNewLog_any _).mono ?_
  rintro e w2 ⟨g2, rfl, hg2, hp2, hb2⟩
  have hl2 := hp2.lt
  have hs2 := hb2.size
  simp at hg2 hs2
  have hq0 : w2.cell? ⟨w1.heap.size, 0, none⟩ = some (.slice (some ⟨g1, 0, none⟩) 1 1) := (bcell hb2 _ _ (by simp)).trans (by simp)
  have hq1 : w2.cell? ⟨w1.heap.size, 1, none⟩ = some (.int .i64 0) := (bcell hb2 _ _ (by simp)).trans (by simp)
  have HP12 := Lib.hid (((HP1.out.below ((Below.refl _ _).alloc (Nat.le_refl _) _) hl1)).below hb2 (by simp; omega))
  have HP2 := Lib.hid hp2
  have HB2 := Lib.hid ((HB1.out.trans (hb2.mono (by simp; omega))).alloc (by omega) (.cells #[.slice (some ⟨g2, 0, none⟩) 1 1, .int .i64 0] 44))
  have HE := Lib.hid (eqLog_same g2 g1 0 ⟨#[]⟩ (w2.alloc (.cells #[.slice (some ⟨g2, 0, none⟩) 1 1, .int .i64 0] 44)) (hp2.below ((Below.refl _ _).alloc (Nat.le_refl _) _) hl2) (HP12.out.below ((Below.refl _ _).alloc (Nat.le_refl _) _) (by omega)))
  have hx0 : (w2.alloc (.cells #[.slice (some ⟨g2, 0, none⟩) 1 1, .int .i64 0] 44)).cell? ⟨w1.heap.size, 0, none⟩ = some (.slice (some ⟨g1, 0, none⟩) 1 1) := (World.cell?_alloc_lt _ _ _ (by simp; omega)).trans hq0
  have hx1 : (w2.alloc (.cells #[.slice (some ⟨g2, 0, none⟩) 1 1, .int .i64 0] 44)).cell? ⟨w1.heap.size, 1, none⟩ = some (.int .i64 0) := (World.cell?_alloc_lt _ _ _ (by simp; omega)).trans hq1
  clear hp2 hb2 HP1 HB1
  go_wp2_with fail
  refine HE.out.mono ?_
  rintro e w3 ⟨rfl, hb3⟩
  have hs3 := hb3.size
  simp at hs3
  have r0 : w3.cell? ⟨w1.heap.size, 0, none⟩ = some (.slice (some ⟨g1, 0, none⟩) 1 1) := (bcell hb3 _ _ (by simp; omega)).trans ((World.cell?_alloc_lt _ _ _ (by simp; omega)).trans hq0)
  have r1 : w3.cell? ⟨w1.heap.size, 1, none⟩ = some (.int .i64 0) := (bcell hb3 _ _ (by simp; omega)).trans ((World.cell?_alloc_lt _ _ _ (by simp; omega)).trans hq1)
  have t0 : w3.cell? ⟨w2.heap.size, 0, none⟩ = some (.slice (some ⟨g2, 0, none⟩) 1 1) := (bcell hb3 _ _ (by simp)).trans (by simp)
  have t1 : w3.cell? ⟨w2.heap.size, 1, none⟩ = some (.int .i64 0) := (bcell hb3 _ _ (by simp)).trans (by simp)
  have HP13 := Lib.hid ((HP12.out.below ((Below.refl _ _).alloc (Nat.le_refl _) (.cells #[.slice (some ⟨g2, 0, none⟩) 1 1, .int .i64 0] 44)) (by omega)).below hb3 (by simp; omega))
  have hp23 := (HP2.out.below ((Below.refl _ _).alloc (Nat.le_refl _) (.cells #[.slice (some ⟨g2, 0, none⟩) 1 1, .int .i64 0] 44)) hl2).below hb3 (by simp; omega)
  have HM := Lib.hid (markLog_one g2 w3 hp23)
  have HB3 := Lib.hid (HB2.out.trans (hb3.mono (by simp; omega)))
  clear hb3 hq0 hq1 hx0 hx1 hp23 HE HP12 HP2 HB2
  go_wp2_with fail
  refine HM.out.mono ?_
  rintro e w4 ⟨rfl, hp4, hc4⟩
  have hs4 := hc4.size
  have u0 := cell_ch r0 hc4 (by omega) (by omega)
  have u1 := cell_ch r1 hc4 (by omega) (by omega)
  have v0 := cell_ch t0 hc4 (by omega) (by omega)
  have v1 := cell_ch t1 hc4 (by omega) (by omega)
  have HP14 := Lib.hid (HP13.out.ch hc4 (by omega))
  have HP4 := Lib.hid hp4
  have HB4 := Lib.hid (HB3.out.trans (hc4.below (B := w.heap.size) (by omega) (by omega)))
  have HH := Lib.hid (heldLog_one g2 w4 hp4)
  clear r0 r1 t0 t1 hp4 hc4 HP13 HB3 HM
  go_wp2_with fail
  refine HH.out.mono ?_
  rintro e w5 ⟨rfl, hb5⟩
  have hs5 := hb5.size
  have a0 := (bcell hb5 _ _ (by omega)).trans u0
  have a1 := (bcell hb5 _ _ (by omega)).trans u1
  have b0 := (bcell hb5 _ _ (by omega)).trans v0
  have b1 := (bcell hb5 _ _ (by omega)).trans v1
  have HP15 := Lib.hid (HP14.out.below hb5 (by omega))
  have HP5 := Lib.hid (HP4.out.below hb5 (by omega))
  have HB5 := Lib.hid (HB4.out.trans (hb5.mono (by omega)))
  clear hb5 u0 u1 v0 v1 HP14 HP4 HB4 HH
  go_wp2_with fail
  refine (iNewLog_any _).mono ?_
  rintro e w6 ⟨g3, rfl, hg3, hp6, hb6⟩
  have hs6 := hb6.size
  have hl6 := hp6.lt
  have c0 := (bcell hb6 _ _ (by omega)).trans a0
  have c1 := (bcell hb6 _ _ (by omega)).trans a1
  have d0 := (bcell hb6 _ _ (by omega)).trans b0
  have d1 := (bcell hb6 _ _ (by omega)).trans b1
  have HP16 := Lib.hid ((HP15.out.below hb6 (by omega)).below ((Below.refl _ _).alloc (Nat.le_refl _) (.cells #[.slice (some ⟨g3, 0, none⟩) 1 1, .int .i64 0] 44)) (by omega))
  have HP6 := Lib.hid ((HP5.out.below hb6 (by omega)).below ((Below.refl _ _).alloc (Nat.le_refl _) (.cells #[.slice (some ⟨g3, 0, none⟩) 1 1, .int .i64 0] 44)) (by omega))
  have HB6 := Lib.hid ((HB5.out.trans (hb6.mono (by omega))).alloc (by omega) (.cells #[.slice (some ⟨g3, 0, none⟩) 1 1, .int .i64 0] 44))
  have HE2 := Lib.hid (eqLog_same g3 g1 0 ⟨#[]⟩ (w6.alloc (.cells #[.slice (some ⟨g3, 0, none⟩) 1 1, .int .i64 0] 44)) (hp6.below ((Below.refl _ _).alloc (Nat.le_refl _) _) hl6) HP16.out)
  have hy0 : (w6.alloc (.cells #[.slice (some ⟨g3, 0, none⟩) 1 1, .int .i64 0] 44)).cell? ⟨w1.heap.size, 0, none⟩ = some (.slice (some ⟨g1, 0, none⟩) 1 1) := (World.cell?_alloc_lt _ _ _ (by simp; omega)).trans c0
  have hy1 : (w6.alloc (.cells #[.slice (some ⟨g3, 0, none⟩) 1 1, .int .i64 0] 44)).cell? ⟨w1.heap.size, 1, none⟩ = some (.int .i64 0) := (World.cell?_alloc_lt _ _ _ (by simp; omega)).trans c1
  clear hb6 a0 a1 b0 b1 HP15 HP5 HB5 hp6
  go_wp2_with fail
  refine HE2.out.mono ?_
  rintro e w7 ⟨rfl, hb7⟩
  have hs7 := hb7.size
  simp at hs7
  have f0 : w7.cell? ⟨w2.heap.size, 0, none⟩ = some (.slice (some ⟨g2, 0, none⟩) 1 1) := (bcell hb7 _ _ (by simp; omega)).trans ((World.cell?_alloc_lt _ _ _ (by simp; omega)).trans d0)
  have f1 : w7.cell? ⟨w2.heap.size, 1, none⟩ = some (.int .i64 0) := (bcell hb7 _ _ (by simp; omega)).trans ((World.cell?_alloc_lt _ _ _ (by simp; omega)).trans d1)
  have HH2 := Lib.hid (heldLog_one g2 w7 (HP6.out.below hb7 (by simp; omega)))
  have HB7 := Lib.hid (HB6.out.trans (hb7.mono (by simp; omega)))
  clear hb7 c0 c1 d0 d1 hy0 hy1 HE2 HB6
  go_wp2_with fail
  refine HH2.out.mono ?_
  rintro e w8 ⟨rfl, hb8⟩
  have HB8 := Lib.hid (HB7.out.trans (hb8.mono (by omega)))
  clear hb8 f0 f1 HH2 HB7
  go_wp2
  go_ret
  exact ⟨rfl, HB8.out⟩
end Go.Proofs.Ytbcbhgbbbdmklaa
