/- The tree of a pattern: the reference's walk. -/
import Derived.Test.YtbpeceejboojoaaTreeM
import Derived.Test.YtbpeceejboojoaaPrtS
namespace Go.Proofs.Ytbpeceejboojoaa
set_option linter.unusedVariables false
set_option linter.unusedSimpArgs false
open Go.RowKit

/-- A part's four cells, in block b. -/
structure PN (w : World) (b : Nat) (k : Int) (s : ByteArray) (x y : Int) : Prop where
  lt : b < w.heap.size
  c0 : w.cell? ⟨b, 0, none⟩ = some (.int .i64 k)
  c1 : w.cell? ⟨b, 1, none⟩ = some (.string s)
  c2 : w.cell? ⟨b, 2, none⟩ = some (.int .i64 x)
  c3 : w.cell? ⟨b, 3, none⟩ = some (.int .i64 y)
theorem PN.bel {w w' : World} {b B : Nat} {k : Int} {s : ByteArray} {x y : Int} (h : PN w b k s x y) (hb : Below B w w') (hB : b < B) : PN w' b k s x y :=
  ⟨Nat.lt_of_lt_of_le h.lt hb.size, (bcell hb _ _ hB).trans h.c0, (bcell hb _ _ hB).trans h.c1, (bcell hb _ _ hB).trans h.c2, (bcell hb _ _ hB).trans h.c3⟩
theorem PN.setC {w : World} {b X j : Nat} {v : Value} {k : Int} {s : ByteArray} {x y : Int} (h : PN w b k s x y) (hX : b ≠ X) : PN (w.setCell ⟨X, j, none⟩ v) b k s x y :=
  ⟨by rw [World.size_setCell]; exact h.lt, (World.cell?_setCell_other _ _ _ _ (by intro e; injection e; omega)).trans h.c0, (World.cell?_setCell_other _ _ _ _ (by intro e; injection e; omega)).trans h.c1,
    (World.cell?_setCell_other _ _ _ _ (by intro e; injection e; omega)).trans h.c2, (World.cell?_setCell_other _ _ _ _ (by intro e; injection e; omega)).trans h.c3⟩
/-- What building a tree hands back. -/
def TreeV (w : World) (t : Tr) (e : Ending) (w' : World) : Prop := ∃ b, e = .returned (.pointer (some ⟨b, 0, none⟩)) ∧ TAt w' w.heap.size w'.heap.size t b ∧ Below w.heap.size w w'
/-- The two new blocks of a call: the part and the node. -/
def newW (w : World) (tp tx : Nat) (k : Int) (s : ByteArray) (x y : Int) : World := (w.alloc (.cells #[.int .i64 k, .string s, .int .i64 x, .int .i64 y] tp)).alloc (.cells #[.int .i64 k, .string s, .pointer none, .pointer none] tx)
section
variable {w : World} {tp tx : Nat} {k : Int} {s : ByteArray} {x y : Int}
theorem newW_size : (newW w tp tx k s x y).heap.size = w.heap.size + 2 := by simp [newW]
theorem newW_below : Below w.heap.size w (newW w tp tx k s x y) := below2 _ _
theorem newW_PN : PN (newW w tp tx k s x y) w.heap.size k s x y :=
  ⟨by rw [newW_size]; omega, by unfold newW; rw [World.cell?_alloc_lt _ _ _ (by simp)]; simp, by unfold newW; rw [World.cell?_alloc_lt _ _ _ (by simp)]; simp, by unfold newW; rw [World.cell?_alloc_lt _ _ _ (by simp)]; simp, by unfold newW; rw [World.cell?_alloc_lt _ _ _ (by simp)]; simp⟩
theorem newW_XN : XN (newW w tp tx k s x y) (w.heap.size + 1) k s :=
  ⟨by rw [newW_size]; omega, by simp [newW], by simp [newW], ⟨.pointer none, by simp [newW]⟩, ⟨.pointer none, by simp [newW]⟩, fun j => by simp [newW]⟩
theorem newW_Nd : Nd (newW w tp tx k s x y) (w.heap.size + 1) k s none none := ⟨by simp [newW], by simp [newW], by simp [newW], by simp [newW]⟩
end
theorem newW_leaf {w : World} {tp tx : Nat} {k : Int} {s : ByteArray} {t : Tr} (ht : ∀ b, w.heap.size ≤ b → b < w.heap.size + 2 → Nd (newW w tp tx k s 0 0) b k s none none → TAt (newW w tp tx k s 0 0) w.heap.size (w.heap.size + 2) t b) :
    TAt (newW w tp tx k s 0 0) w.heap.size (newW w tp tx k s 0 0).heap.size t (w.heap.size + 1) := by
  rw [newW_size]
  exact ht _ (by omega) (by omega) newW_Nd
set_option maxRecDepth 100000 in
set_option maxHeartbeats 16000000 in
theorem l5Tree_any (B : Nat) (A : Option Addr) (n c : Nat) (l : List Prt) (hn : n ≤ 24) (hg : goodPrt l = true) : ∀ (i : Nat), i < n → ∀ (w : World), B ≤ w.heap.size → Rd w B 4 A n (prts l) →
    Calls Try.prog 22 #[.slice A n c, .int .i64 i] w (TreeV w (tr l i)) := by
  intro i
  induction i using Nat.strongRecOn with
  | _ i ih =>
    intro hi w hBw h
    have H := Lib.hid h
    obtain ⟨b0, off, kd, x, pa, pb, rfl, hbB, hp, hc0, hc1, hc2, hc3⟩ := h.prt_at hi
    have hs := good_at hg hp
    clear h
    cases hs with
    | none =>
      have hT : tr l i = Tr.none := by rw [tr_eq hg hp]; rfl
      have HT := Lib.hid hT
      have C2 := Lib.hid (fun w => (show Calls Try.prog 37 #[.int .i64 1] w fun e w' => e = .returned (.bool false) ∧ w = w' from l5Two_any 1 w))
      have C1 := Lib.hid (fun w => (show Calls Try.prog 38 #[.int .i64 1] w fun e w' => e = .returned (.bool false) ∧ w = w' from l5One_any 1 w))
      have HL := Lib.hid (newW_leaf (w := w) (tp := 50) (tx := 65) (k := 1) (s := ⟨#[]⟩) (t := Tr.none) (fun b h1 h2 h3 => ⟨h1, h2, h3⟩))
      have HB := Lib.hid (newW_below (w := w) (tp := 50) (tx := 65) (k := 1) (s := ⟨#[]⟩) (x := 0) (y := 0))
      clear hT hp ih hg
      go_enter Try.func22, Try.ntmps22
      go_wp2_with (first | (go_at_call 37; refine (C2.out _).mono ?_; rintro e w' ⟨rfl, rfl⟩) | (go_at_call 38; refine (C1.out _).mono ?_; rintro e w' ⟨rfl, rfl⟩))
      go_ret
      exact ⟨_, rfl, by rw [HT.out]; exact HL.out, HB.out⟩
    | empty =>
      have hT : tr l i = Tr.empty := by rw [tr_eq hg hp]; rfl
      have HT := Lib.hid hT
      have C2 := Lib.hid (fun w => (show Calls Try.prog 37 #[.int .i64 2] w fun e w' => e = .returned (.bool false) ∧ w = w' from l5Two_any 2 w))
      have C1 := Lib.hid (fun w => (show Calls Try.prog 38 #[.int .i64 2] w fun e w' => e = .returned (.bool false) ∧ w = w' from l5One_any 2 w))
      have HL := Lib.hid (newW_leaf (w := w) (tp := 50) (tx := 65) (k := 2) (s := ⟨#[]⟩) (t := Tr.empty) (fun b h1 h2 h3 => ⟨h1, h2, h3⟩))
      have HB := Lib.hid (newW_below (w := w) (tp := 50) (tx := 65) (k := 2) (s := ⟨#[]⟩) (x := 0) (y := 0))
      clear hT hp ih hg
      go_enter Try.func22, Try.ntmps22
      go_wp2_with (first | (go_at_call 37; refine (C2.out _).mono ?_; rintro e w' ⟨rfl, rfl⟩) | (go_at_call 38; refine (C1.out _).mono ?_; rintro e w' ⟨rfl, rfl⟩))
      go_ret
      exact ⟨_, rfl, by rw [HT.out]; exact HL.out, HB.out⟩
    | letter ch h1 h2 =>
      have hT : tr l i = Tr.letter ch := by rw [tr_eq hg hp]; rfl
      have HT := Lib.hid hT
      have C2 := Lib.hid (fun w => (show Calls Try.prog 37 #[.int .i64 3] w fun e w' => e = .returned (.bool false) ∧ w = w' from l5Two_any 3 w))
      have C1 := Lib.hid (fun w => (show Calls Try.prog 38 #[.int .i64 3] w fun e w' => e = .returned (.bool false) ∧ w = w' from l5One_any 3 w))
      have HL := Lib.hid (newW_leaf (w := w) (tp := 50) (tx := 65) (k := 3) (s := ⟨#[ch]⟩) (t := Tr.letter ch) (fun b h1 h2 h3 => ⟨h1, h2, h3⟩))
      have HB := Lib.hid (newW_below (w := w) (tp := 50) (tx := 65) (k := 3) (s := ⟨#[ch]⟩) (x := 0) (y := 0))
      clear hT hp ih hg
      go_enter Try.func22, Try.ntmps22
      go_wp2_with (first | (go_at_call 37; refine (C2.out _).mono ?_; rintro e w' ⟨rfl, rfl⟩) | (go_at_call 38; refine (C1.out _).mono ?_; rintro e w' ⟨rfl, rfl⟩))
      go_ret
      exact ⟨_, rfl, by rw [HT.out]; exact HL.out, HB.out⟩
    | any =>
      have hT : tr l i = Tr.any := by rw [tr_eq hg hp]; rfl
      have HT := Lib.hid hT
      have C2 := Lib.hid (fun w => (show Calls Try.prog 37 #[.int .i64 4] w fun e w' => e = .returned (.bool false) ∧ w = w' from l5Two_any 4 w))
      have C1 := Lib.hid (fun w => (show Calls Try.prog 38 #[.int .i64 4] w fun e w' => e = .returned (.bool false) ∧ w = w' from l5One_any 4 w))
      have HL := Lib.hid (newW_leaf (w := w) (tp := 50) (tx := 65) (k := 4) (s := ⟨#[]⟩) (t := Tr.any) (fun b h1 h2 h3 => ⟨h1, h2, h3⟩))
      have HB := Lib.hid (newW_below (w := w) (tp := 50) (tx := 65) (k := 4) (s := ⟨#[]⟩) (x := 0) (y := 0))
      clear hT hp ih hg
      go_enter Try.func22, Try.ntmps22
      go_wp2_with (first | (go_at_call 37; refine (C2.out _).mono ?_; rintro e w' ⟨rfl, rfl⟩) | (go_at_call 38; refine (C1.out _).mono ?_; rintro e w' ⟨rfl, rfl⟩))
      go_ret
      exact ⟨_, rfl, by rw [HT.out]; exact HL.out, HB.out⟩
    | seq a b ha hb =>
      have hT : tr l i = Tr.seq (tr l a) (tr l b) := by rw [tr_eq hg hp]; rfl
      have HT := Lib.hid hT
      have C2 := Lib.hid (fun w => (show Calls Try.prog 37 #[.int .i64 5] w fun e w' => e = .returned (.bool true) ∧ w = w' from l5Two_any 5 w))
      obtain ⟨w1, hw1⟩ : ∃ w1, w1 = newW w 50 65 5 ⟨#[]⟩ a b := ⟨_, rfl⟩
      have hs1 : w1.heap.size = w.heap.size + 2 := by rw [hw1]; exact newW_size
      have hb1 : Below w.heap.size w w1 := hw1 ▸ newW_below
      have hP : PN w1 w.heap.size 5 ⟨#[]⟩ a b := hw1 ▸ newW_PN
      have hX : XN w1 (w.heap.size + 1) 5 ⟨#[]⟩ := hw1 ▸ newW_XN
      have IHb := Lib.hid (ih b hb (by omega) w1 (by omega) (H.out.below (hb1.mono hBw)))
      have IHa := Lib.hid (fun w' h1 h2 => ih a ha (by omega) w' h1 h2)
      have HW := Lib.hid (show (w.alloc (.cells #[.int .i64 5, .string ⟨#[]⟩, .int .i64 a, .int .i64 b] 50)).alloc (.cells #[.int .i64 5, .string ⟨#[]⟩, .pointer none, .pointer none] 65) = w1 from hw1.symm)
      have p0 := hP.c0
      have p3 := hP.c3
      clear hT hp ih hg hw1
      go_enter Try.func22, Try.ntmps22
      go_wp2_with (first | (go_at_call 37; refine (C2.out _).mono ?_; rintro e w' ⟨rfl, rfl⟩) | (rw [HW.out]; refine IHb.out.mono ?_))
      rintro e w2 ⟨q, rfl, ht2, hb2⟩
      have X2 := hX.bel hb2 (by omega)
      obtain ⟨u3, hu3⟩ := X2.c3
      have hf3 := X2.fr 3
      have S2 := X2.set3 (v := .pointer (some ⟨q, 0, none⟩))
      have hs2 := hb2.size
      have P2 := (hP.bel hb2 (by omega)).setC (X := w.heap.size + 1) (j := 3) (v := .pointer (some ⟨q, 0, none⟩)) (by omega)
      have hB2 : Below w.heap.size w (w2.setCell ⟨w.heap.size + 1, 3, none⟩ (.pointer (some ⟨q, 0, none⟩))) := (hb1.trans (hb2.mono (by omega))).setCell (by simp) _
      have hsW : (w2.setCell ⟨w.heap.size + 1, 3, none⟩ (.pointer (some ⟨q, 0, none⟩))).heap.size = w2.heap.size := World.size_setCell ..
      have tW : TAt (w2.setCell ⟨w.heap.size + 1, 3, none⟩ (.pointer (some ⟨q, 0, none⟩))) (w.heap.size + 2) w2.heap.size (tr l b) q := (ht2.setC (by omega)).wide (by omega) (Nat.le_refl _)
      have IA := Lib.hid (IHa.out (w2.setCell ⟨w.heap.size + 1, 3, none⟩ (.pointer (some ⟨q, 0, none⟩))) (by omega) (H.out.below (hB2.mono hBw)))
      have r0 := P2.c0
      have r2 := P2.c2
      clear ht2 hb2 X2 hP hX p0
      go_wp2_with (first | (go_at_call 37; refine (C2.out _).mono ?_; rintro e w' ⟨rfl, rfl⟩) | (refine IA.out.mono ?_))
      rintro e w3 ⟨p, rfl, ht3, hb3⟩
      have X3 := S2.1.bel hb3 (by omega)
      obtain ⟨u2, hu2⟩ := X3.c2
      have hf2 := X3.fr 2
      have S3 := X3.set2 (v := .pointer (some ⟨p, 0, none⟩))
      have c3 : (w3.setCell ⟨w.heap.size + 1, 2, none⟩ (.pointer (some ⟨p, 0, none⟩))).cell? ⟨w.heap.size + 1, 3, none⟩ = some (.pointer (some ⟨q, 0, none⟩)) := (World.cell?_setCell_other _ _ _ _ (by simp)).trans ((bcell hb3 _ _ (by omega)).trans S2.2)
      have hs3 := hb3.size
      have HF := Lib.hid (show TAt (w3.setCell ⟨w.heap.size + 1, 2, none⟩ (.pointer (some ⟨p, 0, none⟩))) w.heap.size w3.heap.size (Tr.seq (tr l a) (tr l b)) (w.heap.size + 1) from
        ⟨by omega, by omega, p, q, ⟨S3.1.c0, S3.1.c1, S3.2, c3⟩, (ht3.setC (by omega)).wide (by omega) (Nat.le_refl _), ((tW.bel hb3 (by omega)).setC (by omega)).wide (by omega) (by omega)⟩)
      have HBF := Lib.hid (show Below w.heap.size w (w3.setCell ⟨w.heap.size + 1, 2, none⟩ (.pointer (some ⟨p, 0, none⟩))) from (hB2.trans (hb3.mono (by omega))).setCell (by simp) _)
      clear ht3 hb3 X3 S3 S2 c3 P2 tW r0 r2 hB2 p3
      go_wp2
      go_ret
      exact ⟨_, rfl, by rw [HT.out, World.size_setCell]; exact HF.out, HBF.out⟩
    | alt a b ha hb =>
      have hT : tr l i = Tr.alt (tr l a) (tr l b) := by rw [tr_eq hg hp]; rfl
      have HT := Lib.hid hT
      have C2 := Lib.hid (fun w => (show Calls Try.prog 37 #[.int .i64 6] w fun e w' => e = .returned (.bool true) ∧ w = w' from l5Two_any 6 w))
      obtain ⟨w1, hw1⟩ : ∃ w1, w1 = newW w 50 65 6 ⟨#[]⟩ a b := ⟨_, rfl⟩
      have hs1 : w1.heap.size = w.heap.size + 2 := by rw [hw1]; exact newW_size
      have hb1 : Below w.heap.size w w1 := hw1 ▸ newW_below
      have hP : PN w1 w.heap.size 6 ⟨#[]⟩ a b := hw1 ▸ newW_PN
      have hX : XN w1 (w.heap.size + 1) 6 ⟨#[]⟩ := hw1 ▸ newW_XN
      have IHb := Lib.hid (ih b hb (by omega) w1 (by omega) (H.out.below (hb1.mono hBw)))
      have IHa := Lib.hid (fun w' h1 h2 => ih a ha (by omega) w' h1 h2)
      have HW := Lib.hid (show (w.alloc (.cells #[.int .i64 6, .string ⟨#[]⟩, .int .i64 a, .int .i64 b] 50)).alloc (.cells #[.int .i64 6, .string ⟨#[]⟩, .pointer none, .pointer none] 65) = w1 from hw1.symm)
      have p0 := hP.c0
      have p3 := hP.c3
      clear hT hp ih hg hw1
      go_enter Try.func22, Try.ntmps22
      go_wp2_with (first | (go_at_call 37; refine (C2.out _).mono ?_; rintro e w' ⟨rfl, rfl⟩) | (rw [HW.out]; refine IHb.out.mono ?_))
      rintro e w2 ⟨q, rfl, ht2, hb2⟩
      have X2 := hX.bel hb2 (by omega)
      obtain ⟨u3, hu3⟩ := X2.c3
      have hf3 := X2.fr 3
      have S2 := X2.set3 (v := .pointer (some ⟨q, 0, none⟩))
      have hs2 := hb2.size
      have P2 := (hP.bel hb2 (by omega)).setC (X := w.heap.size + 1) (j := 3) (v := .pointer (some ⟨q, 0, none⟩)) (by omega)
      have hB2 : Below w.heap.size w (w2.setCell ⟨w.heap.size + 1, 3, none⟩ (.pointer (some ⟨q, 0, none⟩))) := (hb1.trans (hb2.mono (by omega))).setCell (by simp) _
      have hsW : (w2.setCell ⟨w.heap.size + 1, 3, none⟩ (.pointer (some ⟨q, 0, none⟩))).heap.size = w2.heap.size := World.size_setCell ..
      have tW : TAt (w2.setCell ⟨w.heap.size + 1, 3, none⟩ (.pointer (some ⟨q, 0, none⟩))) (w.heap.size + 2) w2.heap.size (tr l b) q := (ht2.setC (by omega)).wide (by omega) (Nat.le_refl _)
      have IA := Lib.hid (IHa.out (w2.setCell ⟨w.heap.size + 1, 3, none⟩ (.pointer (some ⟨q, 0, none⟩))) (by omega) (H.out.below (hB2.mono hBw)))
      have r0 := P2.c0
      have r2 := P2.c2
      clear ht2 hb2 X2 hP hX p0
      go_wp2_with (first | (go_at_call 37; refine (C2.out _).mono ?_; rintro e w' ⟨rfl, rfl⟩) | (refine IA.out.mono ?_))
      rintro e w3 ⟨p, rfl, ht3, hb3⟩
      have X3 := S2.1.bel hb3 (by omega)
      obtain ⟨u2, hu2⟩ := X3.c2
      have hf2 := X3.fr 2
      have S3 := X3.set2 (v := .pointer (some ⟨p, 0, none⟩))
      have c3 : (w3.setCell ⟨w.heap.size + 1, 2, none⟩ (.pointer (some ⟨p, 0, none⟩))).cell? ⟨w.heap.size + 1, 3, none⟩ = some (.pointer (some ⟨q, 0, none⟩)) := (World.cell?_setCell_other _ _ _ _ (by simp)).trans ((bcell hb3 _ _ (by omega)).trans S2.2)
      have hs3 := hb3.size
      have HF := Lib.hid (show TAt (w3.setCell ⟨w.heap.size + 1, 2, none⟩ (.pointer (some ⟨p, 0, none⟩))) w.heap.size w3.heap.size (Tr.alt (tr l a) (tr l b)) (w.heap.size + 1) from
        ⟨by omega, by omega, p, q, ⟨S3.1.c0, S3.1.c1, S3.2, c3⟩, (ht3.setC (by omega)).wide (by omega) (Nat.le_refl _), ((tW.bel hb3 (by omega)).setC (by omega)).wide (by omega) (by omega)⟩)
      have HBF := Lib.hid (show Below w.heap.size w (w3.setCell ⟨w.heap.size + 1, 2, none⟩ (.pointer (some ⟨p, 0, none⟩))) from (hB2.trans (hb3.mono (by omega))).setCell (by simp) _)
      clear ht3 hb3 X3 S3 S2 c3 P2 tW r0 r2 hB2 p3
      go_wp2
      go_ret
      exact ⟨_, rfl, by rw [HT.out, World.size_setCell]; exact HF.out, HBF.out⟩
    | star a ha =>
      have hT : tr l i = Tr.star (tr l a) := by rw [tr_eq hg hp]; rfl
      have HT := Lib.hid hT
      have C2 := Lib.hid (fun w => (show Calls Try.prog 37 #[.int .i64 7] w fun e w' => e = .returned (.bool false) ∧ w = w' from l5Two_any 7 w))
      have C1 := Lib.hid (fun w => (show Calls Try.prog 38 #[.int .i64 7] w fun e w' => e = .returned (.bool true) ∧ w = w' from l5One_any 7 w))
      obtain ⟨w1, hw1⟩ : ∃ w1, w1 = newW w 50 65 7 ⟨#[]⟩ a 0 := ⟨_, rfl⟩
      have hs1 : w1.heap.size = w.heap.size + 2 := by rw [hw1]; exact newW_size
      have hb1 : Below w.heap.size w w1 := hw1 ▸ newW_below
      have hP : PN w1 w.heap.size 7 ⟨#[]⟩ a 0 := hw1 ▸ newW_PN
      have hX : XN w1 (w.heap.size + 1) 7 ⟨#[]⟩ := hw1 ▸ newW_XN
      have hNd : Nd w1 (w.heap.size + 1) 7 ⟨#[]⟩ none none := hw1 ▸ newW_Nd
      have IH := Lib.hid (ih a ha (by omega) w1 (by omega) (H.out.below (hb1.mono hBw)))
      have HW := Lib.hid (show (w.alloc (.cells #[.int .i64 7, .string ⟨#[]⟩, .int .i64 a, .int .i64 0] 50)).alloc (.cells #[.int .i64 7, .string ⟨#[]⟩, .pointer none, .pointer none] 65) = w1 from hw1.symm)
      have p0 := hP.c0
      have p2 := hP.c2
      clear hT hp ih hg hw1
      go_enter Try.func22, Try.ntmps22
      go_wp2_with (first | (go_at_call 37; refine (C2.out _).mono ?_; rintro e w' ⟨rfl, rfl⟩) | (go_at_call 38; refine (C1.out _).mono ?_; rintro e w' ⟨rfl, rfl⟩) | (rw [HW.out]; refine IH.out.mono ?_))
      rintro e w2 ⟨p, rfl, ht2, hb2⟩
      have X2 := hX.bel hb2 (by omega)
      obtain ⟨u2, hu2⟩ := X2.c2
      have hf2 := X2.fr 2
      have S2 := X2.set2 (v := .pointer (some ⟨p, 0, none⟩))
      have c3 : (w2.setCell ⟨w.heap.size + 1, 2, none⟩ (.pointer (some ⟨p, 0, none⟩))).cell? ⟨w.heap.size + 1, 3, none⟩ = some (.pointer none) := (World.cell?_setCell_other _ _ _ _ (by simp)).trans ((bcell hb2 _ _ (by omega)).trans hNd.c3)
      have hs2 := hb2.size
      have HF := Lib.hid (show TAt (w2.setCell ⟨w.heap.size + 1, 2, none⟩ (.pointer (some ⟨p, 0, none⟩))) w.heap.size w2.heap.size (Tr.star (tr l a)) (w.heap.size + 1) from
        ⟨by omega, by omega, p, ⟨S2.1.c0, S2.1.c1, S2.2, c3⟩, (ht2.setC (by omega)).wide (by omega) (Nat.le_refl _)⟩)
      have HBF := Lib.hid (show Below w.heap.size w (w2.setCell ⟨w.heap.size + 1, 2, none⟩ (.pointer (some ⟨p, 0, none⟩))) from (hb1.trans (hb2.mono (by omega))).setCell (by simp) _)
      clear ht2 hb2 X2 S2 c3 hNd hX hP p0 p2
      go_wp2
      go_ret
      exact ⟨_, rfl, by rw [HT.out, World.size_setCell]; exact HF.out, HBF.out⟩
    | not_ a ha =>
      have hT : tr l i = Tr.not_ (tr l a) := by rw [tr_eq hg hp]; rfl
      have HT := Lib.hid hT
      have C2 := Lib.hid (fun w => (show Calls Try.prog 37 #[.int .i64 8] w fun e w' => e = .returned (.bool false) ∧ w = w' from l5Two_any 8 w))
      have C1 := Lib.hid (fun w => (show Calls Try.prog 38 #[.int .i64 8] w fun e w' => e = .returned (.bool true) ∧ w = w' from l5One_any 8 w))
      obtain ⟨w1, hw1⟩ : ∃ w1, w1 = newW w 50 65 8 ⟨#[]⟩ a 0 := ⟨_, rfl⟩
      have hs1 : w1.heap.size = w.heap.size + 2 := by rw [hw1]; exact newW_size
      have hb1 : Below w.heap.size w w1 := hw1 ▸ newW_below
      have hP : PN w1 w.heap.size 8 ⟨#[]⟩ a 0 := hw1 ▸ newW_PN
      have hX : XN w1 (w.heap.size + 1) 8 ⟨#[]⟩ := hw1 ▸ newW_XN
      have hNd : Nd w1 (w.heap.size + 1) 8 ⟨#[]⟩ none none := hw1 ▸ newW_Nd
      have IH := Lib.hid (ih a ha (by omega) w1 (by omega) (H.out.below (hb1.mono hBw)))
      have HW := Lib.hid (show (w.alloc (.cells #[.int .i64 8, .string ⟨#[]⟩, .int .i64 a, .int .i64 0] 50)).alloc (.cells #[.int .i64 8, .string ⟨#[]⟩, .pointer none, .pointer none] 65) = w1 from hw1.symm)
      have p0 := hP.c0
      have p2 := hP.c2
      clear hT hp ih hg hw1
      go_enter Try.func22, Try.ntmps22
      go_wp2_with (first | (go_at_call 37; refine (C2.out _).mono ?_; rintro e w' ⟨rfl, rfl⟩) | (go_at_call 38; refine (C1.out _).mono ?_; rintro e w' ⟨rfl, rfl⟩) | (rw [HW.out]; refine IH.out.mono ?_))
      rintro e w2 ⟨p, rfl, ht2, hb2⟩
      have X2 := hX.bel hb2 (by omega)
      obtain ⟨u2, hu2⟩ := X2.c2
      have hf2 := X2.fr 2
      have S2 := X2.set2 (v := .pointer (some ⟨p, 0, none⟩))
      have c3 : (w2.setCell ⟨w.heap.size + 1, 2, none⟩ (.pointer (some ⟨p, 0, none⟩))).cell? ⟨w.heap.size + 1, 3, none⟩ = some (.pointer none) := (World.cell?_setCell_other _ _ _ _ (by simp)).trans ((bcell hb2 _ _ (by omega)).trans hNd.c3)
      have hs2 := hb2.size
      have HF := Lib.hid (show TAt (w2.setCell ⟨w.heap.size + 1, 2, none⟩ (.pointer (some ⟨p, 0, none⟩))) w.heap.size w2.heap.size (Tr.not_ (tr l a)) (w.heap.size + 1) from
        ⟨by omega, by omega, p, ⟨S2.1.c0, S2.1.c1, S2.2, c3⟩, (ht2.setC (by omega)).wide (by omega) (Nat.le_refl _)⟩)
      have HBF := Lib.hid (show Below w.heap.size w (w2.setCell ⟨w.heap.size + 1, 2, none⟩ (.pointer (some ⟨p, 0, none⟩))) from (hb1.trans (hb2.mono (by omega))).setCell (by simp) _)
      clear ht2 hb2 X2 S2 c3 hNd hX hP p0 p2
      go_wp2
      go_ret
      exact ⟨_, rfl, by rw [HT.out, World.size_setCell]; exact HF.out, HBF.out⟩
end Go.Proofs.Ytbpeceejboojoaa
