/- The tree of a pattern: the program's walk. -/
import Derived.Test.YtbcbhgbbbdmklaaTreeS
import Derived.Deep.RegionHeld3
namespace Go.Proofs.Ytbcbhgbbbdmklaa
set_option linter.unusedVariables false
set_option linter.unusedSimpArgs false
open Go.RowKit

/-- A tree somewhere above lo. -/
def TA (w : World) (lo : Nat) (t : Tr) (b : Nat) : Prop := ∃ hi, hi ≤ w.heap.size ∧ TAt w lo hi t b
theorem TA.bel {w w' : World} {lo B : Nat} {t : Tr} {b : Nat} (h : TA w lo t b) (hb : Below B w w') (hB : w.heap.size ≤ B) : TA w' lo t b := by
  obtain ⟨hi, h1, h2⟩ := h
  exact ⟨hi, Nat.le_trans h1 hb.size, h2.bel hb (by omega)⟩
theorem TA.setC {w : World} {lo X j : Nat} {v : Value} {t : Tr} {b : Nat} (h : TA w lo t b) (hX : X < lo) : TA (w.setCell ⟨X, j, none⟩ v) lo t b := by
  obtain ⟨hi, h1, h2⟩ := h
  exact ⟨hi, by rw [World.size_setCell]; exact h1, h2.setC (.inl hX)⟩
theorem TA.fin {w : World} {lo lo' : Nat} {t : Tr} {b : Nat} (h : TA w lo t b) (hl : lo' ≤ lo) : TAt w lo' w.heap.size t b := by
  obtain ⟨hi, h1, h2⟩ := h
  exact h2.wide hl h1
def BL (w0 w : World) : Prop := Below w0.heap.size w0 w ∧ w0.heap.size + 2 ≤ w.heap.size
theorem BL.set {w0 w : World} {X j : Nat} {v : Value} (h : BL w0 w) (hX : w0.heap.size ≤ X) : BL w0 (w.setCell ⟨X, j, none⟩ v) := ⟨h.1.setCell hX _, by rw [World.size_setCell]; exact h.2⟩
theorem BL.call {w0 w w' : World} (h : BL w0 w) (hb : Below w.heap.size w w') : BL w0 w' := ⟨h.1.trans (hb.mono (by have := h.2; omega)), Nat.le_trans h.2 hb.size⟩
theorem BL.below {w0 w : World} (h : BL w0 w) : Below w0.heap.size w0 w := h.1
theorem BL.drew {w0 w : World} (h : BL w0 w) : BL w0 w.drew := ⟨h.1.drew, h.2⟩
theorem XN.drew {w : World} {X : Nat} {k : Int} {s : ByteArray} (h : XN w X k s) : XN w.drew X k s := ⟨h.lt, h.c0, h.c1, h.c2, h.c3, h.fr⟩
set_option maxRecDepth 100000 in
set_option maxHeartbeats 16000000 in
theorem treeOf_any (B : Nat) (A : Option Addr) (n c : Nat) (l : List Prt) (hn : n ≤ 24) (hg : goodPrt l = true) : ∀ (i : Nat), i < n → ∀ (w : World), B ≤ w.heap.size → Rd w B 4 A n (prts l) →
    Calls Try.prog 48 #[.slice A n c, .int .i64 i] w (TreeV w (tr l i)) := by
  intro i
  induction i using Nat.strongRecOn with
  | _ i ih =>
    intro hi w hBw h
    have H := Lib.hid h
    obtain ⟨b0, off, kd, x, pa, pb, rfl, hbB, hp, hc0, hc1, hc2, hc3⟩ := h.prt_at hi
    have hs := good_at hg hp
    clear h
    cases hs with
    | none =>
      have hT : tr l i = Tr.none := by rw [tr_eq hg hp]; rfl
      have HT := Lib.hid hT
      have HL := Lib.hid (newW_leaf (w := w) (tp := 60) (tx := 91) (k := 1) (s := ⟨#[]⟩) (t := Tr.none) (fun b h1 h2 h3 => ⟨h1, h2, h3⟩))
      have HB := Lib.hid (newW_below (w := w) (tp := 60) (tx := 91) (k := 1) (s := ⟨#[]⟩) (x := 0) (y := 0))
      clear hT hp ih hg
      go_enter Try.func48, Try.ntmps48
      go_wp2
      go_ret
      exact ⟨_, rfl, by rw [HT.out]; exact HL.out, HB.out⟩
    | empty =>
      have hT : tr l i = Tr.empty := by rw [tr_eq hg hp]; rfl
      have HT := Lib.hid hT
      have HL := Lib.hid (newW_leaf (w := w) (tp := 60) (tx := 91) (k := 2) (s := ⟨#[]⟩) (t := Tr.empty) (fun b h1 h2 h3 => ⟨h1, h2, h3⟩))
      have HB := Lib.hid (newW_below (w := w) (tp := 60) (tx := 91) (k := 2) (s := ⟨#[]⟩) (x := 0) (y := 0))
      clear hT hp ih hg
      go_enter Try.func48, Try.ntmps48
      go_wp2
      go_ret
      exact ⟨_, rfl, by rw [HT.out]; exact HL.out, HB.out⟩
    | letter ch h1 h2 =>
      have hT : tr l i = Tr.letter ch := by rw [tr_eq hg hp]; rfl
      have HT := Lib.hid hT
      have HL := Lib.hid (newW_leaf (w := w) (tp := 60) (tx := 91) (k := 3) (s := ⟨#[ch]⟩) (t := Tr.letter ch) (fun b h1 h2 h3 => ⟨h1, h2, h3⟩))
      have HB := Lib.hid (newW_below (w := w) (tp := 60) (tx := 91) (k := 3) (s := ⟨#[ch]⟩) (x := 0) (y := 0))
      clear hT hp ih hg
      go_enter Try.func48, Try.ntmps48
      go_wp2
      go_ret
      exact ⟨_, rfl, by rw [HT.out]; exact HL.out, HB.out⟩
    | any =>
      have hT : tr l i = Tr.any := by rw [tr_eq hg hp]; rfl
      have HT := Lib.hid hT
      have HL := Lib.hid (newW_leaf (w := w) (tp := 60) (tx := 91) (k := 4) (s := ⟨#[]⟩) (t := Tr.any) (fun b h1 h2 h3 => ⟨h1, h2, h3⟩))
      have HB := Lib.hid (newW_below (w := w) (tp := 60) (tx := 91) (k := 4) (s := ⟨#[]⟩) (x := 0) (y := 0))
      clear hT hp ih hg
      go_enter Try.func48, Try.ntmps48
      go_wp2
      go_ret
      exact ⟨_, rfl, by rw [HT.out]; exact HL.out, HB.out⟩
    | seq a b ha hb =>
      have hT : tr l i = Tr.seq (tr l a) (tr l b) := by rw [tr_eq hg hp]; rfl
      have HT := Lib.hid hT
      obtain ⟨w1, hw1⟩ : ∃ w1, w1 = newW w 60 91 5 ⟨#[]⟩ a b := ⟨_, rfl⟩
      have hs1 : w1.heap.size = w.heap.size + 2 := by rw [hw1]; exact newW_size
      have hb1 : BL w w1 := ⟨hw1 ▸ newW_below, by omega⟩
      have hP : PN w1 w.heap.size 5 ⟨#[]⟩ a b := hw1 ▸ newW_PN
      have hX : XN w1 (w.heap.size + 1) 5 ⟨#[]⟩ := hw1 ▸ newW_XN
      have CG := Lib.hid (show ∀ (j : Nat), j < i → ∀ w', BL w w' → Calls Try.prog 48 #[.slice (some ⟨b0, off, none⟩) n c, .int .i64 j] w' fun e w'' => ∃ p, e = .returned (.pointer (some ⟨p, 0, none⟩)) ∧ TA w'' (w.heap.size + 2) (tr l j) p ∧ Below w'.heap.size w' w'' from
        fun j hj w' h => (ih j hj (by omega) w' (by have := h.2; omega) (H.out.below (h.1.mono hBw))).mono fun e w'' ⟨p, he, ht, hb⟩ => ⟨p, he, ⟨_, Nat.le_refl _, ht.wide h.2 (Nat.le_refl _)⟩, hb⟩)
      have HW := Lib.hid (show (w.alloc (.cells #[.int .i64 5, .string ⟨#[]⟩, .int .i64 a, .int .i64 b] 60)).alloc (.cells #[.int .i64 5, .string ⟨#[]⟩, .pointer none, .pointer none] 91) = w1 from hw1.symm)
      have p2 := hP.c2
      have p3 := hP.c3
      have hXd := hX.drew
      have hBd := hb1.drew
      have hs1d : w1.drew.heap.size = w.heap.size + 2 := hs1
      clear hT hp ih hg hw1 hP
      go_enter Try.func48, Try.ntmps48
      go_wp2_with fail
      rw [HW.out]
      go_region_held3 (fun w' => w'.cell? ⟨w.heap.size, 2, none⟩ = some (.int .i64 a) ∧ w'.cell? ⟨w.heap.size, 3, none⟩ = some (.int .i64 b))
        (first | go_keep | (go_split_ands; exact ⟨(bcell hb _ _ (by first | omega | (simp; omega))).trans (by first | assumption | (simp; assumption) | (refine (World.cell?_setCell_other _ _ _ _ (by simp)).trans ?_; assumption)), (bcell hb _ _ (by first | omega | (simp; omega))).trans (by first | assumption | (simp; assumption) | (refine (World.cell?_setCell_other _ _ _ _ (by simp)).trans ?_; assumption))⟩))
        ((go_at_call 48; refine (CG.out _ (by assumption) _ (by repeat (first | assumption | refine BL.set ?_ (by omega)))).mono ?_; rintro e w5 ⟨p, rfl, ht, hb⟩; have hBL := BL.call (by repeat (first | assumption | refine BL.set ?_ (by omega))) hb; have hsz5 := hBL.2; have hXN := XN.bel (X := w.heap.size + 1) (k := 5) (s := ⟨#[]⟩) (by repeat (first | assumption | refine (XN.set2 ?_).1 | refine (XN.set3 ?_).1)) hb (by first | omega | (simp; omega)); obtain ⟨u2, hu2⟩ := hXN.c2; obtain ⟨u3, hu3⟩ := hXN.c3; have hf2 := hXN.fr 2; have hf3 := hXN.fr 3))
      all_goals go_wp2
      all_goals go_ret
      all_goals refine ⟨_, rfl, ?_, ?_⟩
      all_goals first
        | exact BL.below (by repeat (first | assumption | refine BL.set ?_ (by omega)))
        | (rw [HT.out]
           exact ⟨by omega, by simp; omega, _, _,
             ⟨(show XN _ (w.heap.size + 1) 5 ⟨#[]⟩ by repeat (first | assumption | refine (XN.set2 ?_).1 | refine (XN.set3 ?_).1)).c0,
              (show XN _ (w.heap.size + 1) 5 ⟨#[]⟩ by repeat (first | assumption | refine (XN.set2 ?_).1 | refine (XN.set3 ?_).1)).c1,
              by repeat (first | exact World.cell?_setCell_same _ _ _ (by assumption) | exact World.cell?_setCell_same _ _ _ ((World.cell?_setCell_other _ _ _ _ (by simp)).trans (by assumption)) | refine (World.cell?_setCell_other _ _ _ _ (by simp)).trans ?_ | refine (bcell (by assumption) _ _ (by first | omega | (simp; omega))).trans ?_),
              by repeat (first | exact World.cell?_setCell_same _ _ _ (by assumption) | exact World.cell?_setCell_same _ _ _ ((World.cell?_setCell_other _ _ _ _ (by simp)).trans (by assumption)) | refine (World.cell?_setCell_other _ _ _ _ (by simp)).trans ?_ | refine (bcell (by assumption) _ _ (by first | omega | (simp; omega))).trans ?_)⟩,
             TA.fin (lo := w.heap.size + 2) (by repeat (first | assumption | refine TA.setC ?_ (by omega) | refine TA.bel ?_ (by assumption) (Nat.le_refl _))) (by omega),
             TA.fin (lo := w.heap.size + 2) (by repeat (first | assumption | refine TA.setC ?_ (by omega) | refine TA.bel ?_ (by assumption) (Nat.le_refl _))) (by omega)⟩)
    | alt a b ha hb =>
      have hT : tr l i = Tr.alt (tr l a) (tr l b) := by rw [tr_eq hg hp]; rfl
      have HT := Lib.hid hT
      obtain ⟨w1, hw1⟩ : ∃ w1, w1 = newW w 60 91 6 ⟨#[]⟩ a b := ⟨_, rfl⟩
      have hs1 : w1.heap.size = w.heap.size + 2 := by rw [hw1]; exact newW_size
      have hb1 : BL w w1 := ⟨hw1 ▸ newW_below, by omega⟩
      have hP : PN w1 w.heap.size 6 ⟨#[]⟩ a b := hw1 ▸ newW_PN
      have hX : XN w1 (w.heap.size + 1) 6 ⟨#[]⟩ := hw1 ▸ newW_XN
      have CG := Lib.hid (show ∀ (j : Nat), j < i → ∀ w', BL w w' → Calls Try.prog 48 #[.slice (some ⟨b0, off, none⟩) n c, .int .i64 j] w' fun e w'' => ∃ p, e = .returned (.pointer (some ⟨p, 0, none⟩)) ∧ TA w'' (w.heap.size + 2) (tr l j) p ∧ Below w'.heap.size w' w'' from
        fun j hj w' h => (ih j hj (by omega) w' (by have := h.2; omega) (H.out.below (h.1.mono hBw))).mono fun e w'' ⟨p, he, ht, hb⟩ => ⟨p, he, ⟨_, Nat.le_refl _, ht.wide h.2 (Nat.le_refl _)⟩, hb⟩)
      have HW := Lib.hid (show (w.alloc (.cells #[.int .i64 6, .string ⟨#[]⟩, .int .i64 a, .int .i64 b] 60)).alloc (.cells #[.int .i64 6, .string ⟨#[]⟩, .pointer none, .pointer none] 91) = w1 from hw1.symm)
      have p2 := hP.c2
      have p3 := hP.c3
      have hXd := hX.drew
      have hBd := hb1.drew
      have hs1d : w1.drew.heap.size = w.heap.size + 2 := hs1
      clear hT hp ih hg hw1 hP
      go_enter Try.func48, Try.ntmps48
      go_wp2_with fail
      rw [HW.out]
      go_region_held3 (fun w' => w'.cell? ⟨w.heap.size, 2, none⟩ = some (.int .i64 a) ∧ w'.cell? ⟨w.heap.size, 3, none⟩ = some (.int .i64 b))
        (first | go_keep | (go_split_ands; exact ⟨(bcell hb _ _ (by first | omega | (simp; omega))).trans (by first | assumption | (simp; assumption) | (refine (World.cell?_setCell_other _ _ _ _ (by simp)).trans ?_; assumption)), (bcell hb _ _ (by first | omega | (simp; omega))).trans (by first | assumption | (simp; assumption) | (refine (World.cell?_setCell_other _ _ _ _ (by simp)).trans ?_; assumption))⟩))
        ((go_at_call 48; refine (CG.out _ (by assumption) _ (by repeat (first | assumption | refine BL.set ?_ (by omega)))).mono ?_; rintro e w5 ⟨p, rfl, ht, hb⟩; have hBL := BL.call (by repeat (first | assumption | refine BL.set ?_ (by omega))) hb; have hsz5 := hBL.2; have hXN := XN.bel (X := w.heap.size + 1) (k := 6) (s := ⟨#[]⟩) (by repeat (first | assumption | refine (XN.set2 ?_).1 | refine (XN.set3 ?_).1)) hb (by first | omega | (simp; omega)); obtain ⟨u2, hu2⟩ := hXN.c2; obtain ⟨u3, hu3⟩ := hXN.c3; have hf2 := hXN.fr 2; have hf3 := hXN.fr 3))
      all_goals go_wp2
      all_goals go_ret
      all_goals refine ⟨_, rfl, ?_, ?_⟩
      all_goals first
        | exact BL.below (by repeat (first | assumption | refine BL.set ?_ (by omega)))
        | (rw [HT.out]
           exact ⟨by omega, by simp; omega, _, _,
             ⟨(show XN _ (w.heap.size + 1) 6 ⟨#[]⟩ by repeat (first | assumption | refine (XN.set2 ?_).1 | refine (XN.set3 ?_).1)).c0,
              (show XN _ (w.heap.size + 1) 6 ⟨#[]⟩ by repeat (first | assumption | refine (XN.set2 ?_).1 | refine (XN.set3 ?_).1)).c1,
              by repeat (first | exact World.cell?_setCell_same _ _ _ (by assumption) | exact World.cell?_setCell_same _ _ _ ((World.cell?_setCell_other _ _ _ _ (by simp)).trans (by assumption)) | refine (World.cell?_setCell_other _ _ _ _ (by simp)).trans ?_ | refine (bcell (by assumption) _ _ (by first | omega | (simp; omega))).trans ?_),
              by repeat (first | exact World.cell?_setCell_same _ _ _ (by assumption) | exact World.cell?_setCell_same _ _ _ ((World.cell?_setCell_other _ _ _ _ (by simp)).trans (by assumption)) | refine (World.cell?_setCell_other _ _ _ _ (by simp)).trans ?_ | refine (bcell (by assumption) _ _ (by first | omega | (simp; omega))).trans ?_)⟩,
             TA.fin (lo := w.heap.size + 2) (by repeat (first | assumption | refine TA.setC ?_ (by omega) | refine TA.bel ?_ (by assumption) (Nat.le_refl _))) (by omega),
             TA.fin (lo := w.heap.size + 2) (by repeat (first | assumption | refine TA.setC ?_ (by omega) | refine TA.bel ?_ (by assumption) (Nat.le_refl _))) (by omega)⟩)
    | star a ha =>
      have hT : tr l i = Tr.star (tr l a) := by rw [tr_eq hg hp]; rfl
      have HT := Lib.hid hT
      obtain ⟨w1, hw1⟩ : ∃ w1, w1 = newW w 60 91 7 ⟨#[]⟩ a 0 := ⟨_, rfl⟩
      have hs1 : w1.heap.size = w.heap.size + 2 := by rw [hw1]; exact newW_size
      have hb1 : Below w.heap.size w w1 := hw1 ▸ newW_below
      have hX : XN w1 (w.heap.size + 1) 7 ⟨#[]⟩ := hw1 ▸ newW_XN
      have hNd : Nd w1 (w.heap.size + 1) 7 ⟨#[]⟩ none none := hw1 ▸ newW_Nd
      have IH := Lib.hid (ih a ha (by omega) w1 (by omega) (H.out.below (hb1.mono hBw)))
      have HW := Lib.hid (show (w.alloc (.cells #[.int .i64 7, .string ⟨#[]⟩, .int .i64 a, .int .i64 0] 60)).alloc (.cells #[.int .i64 7, .string ⟨#[]⟩, .pointer none, .pointer none] 91) = w1 from hw1.symm)
      clear hT hp ih hg hw1
      go_enter Try.func48, Try.ntmps48
      go_wp2_with fail
      rw [HW.out]
      refine IH.out.mono ?_
      rintro e w2 ⟨p, rfl, ht2, hb2⟩
      have X2 := hX.bel hb2 (by omega)
      obtain ⟨u2, hu2⟩ := X2.c2
      have hf2 := X2.fr 2
      have S2 := X2.set2 (v := .pointer (some ⟨p, 0, none⟩))
      have c3 : (w2.setCell ⟨w.heap.size + 1, 2, none⟩ (.pointer (some ⟨p, 0, none⟩))).cell? ⟨w.heap.size + 1, 3, none⟩ = some (.pointer none) := (World.cell?_setCell_other _ _ _ _ (by simp)).trans ((bcell hb2 _ _ (by omega)).trans hNd.c3)
      have hs2 := hb2.size
      have HF := Lib.hid (show TAt (w2.setCell ⟨w.heap.size + 1, 2, none⟩ (.pointer (some ⟨p, 0, none⟩))) w.heap.size w2.heap.size (Tr.star (tr l a)) (w.heap.size + 1) from
        ⟨by omega, by omega, p, ⟨S2.1.c0, S2.1.c1, S2.2, c3⟩, (ht2.setC (by omega)).wide (by omega) (Nat.le_refl _)⟩)
      have HBF := Lib.hid (show Below w.heap.size w (w2.setCell ⟨w.heap.size + 1, 2, none⟩ (.pointer (some ⟨p, 0, none⟩))) from (hb1.trans (hb2.mono (by omega))).setCell (by simp) _)
      clear ht2 hb2 X2 S2 c3 hNd hX
      go_wp2
      go_ret
      exact ⟨_, rfl, by rw [HT.out, World.size_setCell]; exact HF.out, HBF.out⟩
    | not_ a ha =>
      have hT : tr l i = Tr.not_ (tr l a) := by rw [tr_eq hg hp]; rfl
      have HT := Lib.hid hT
      obtain ⟨w1, hw1⟩ : ∃ w1, w1 = newW w 60 91 8 ⟨#[]⟩ a 0 := ⟨_, rfl⟩
      have hs1 : w1.heap.size = w.heap.size + 2 := by rw [hw1]; exact newW_size
      have hb1 : Below w.heap.size w w1 := hw1 ▸ newW_below
      have hX : XN w1 (w.heap.size + 1) 8 ⟨#[]⟩ := hw1 ▸ newW_XN
      have hNd : Nd w1 (w.heap.size + 1) 8 ⟨#[]⟩ none none := hw1 ▸ newW_Nd
      have IH := Lib.hid (ih a ha (by omega) w1 (by omega) (H.out.below (hb1.mono hBw)))
      have HW := Lib.hid (show (w.alloc (.cells #[.int .i64 8, .string ⟨#[]⟩, .int .i64 a, .int .i64 0] 60)).alloc (.cells #[.int .i64 8, .string ⟨#[]⟩, .pointer none, .pointer none] 91) = w1 from hw1.symm)
      clear hT hp ih hg hw1
      go_enter Try.func48, Try.ntmps48
      go_wp2_with fail
      rw [HW.out]
      refine IH.out.mono ?_
      rintro e w2 ⟨p, rfl, ht2, hb2⟩
      have X2 := hX.bel hb2 (by omega)
      obtain ⟨u2, hu2⟩ := X2.c2
      have hf2 := X2.fr 2
      have S2 := X2.set2 (v := .pointer (some ⟨p, 0, none⟩))
      have c3 : (w2.setCell ⟨w.heap.size + 1, 2, none⟩ (.pointer (some ⟨p, 0, none⟩))).cell? ⟨w.heap.size + 1, 3, none⟩ = some (.pointer none) := (World.cell?_setCell_other _ _ _ _ (by simp)).trans ((bcell hb2 _ _ (by omega)).trans hNd.c3)
      have hs2 := hb2.size
      have HF := Lib.hid (show TAt (w2.setCell ⟨w.heap.size + 1, 2, none⟩ (.pointer (some ⟨p, 0, none⟩))) w.heap.size w2.heap.size (Tr.not_ (tr l a)) (w.heap.size + 1) from
        ⟨by omega, by omega, p, ⟨S2.1.c0, S2.1.c1, S2.2, c3⟩, (ht2.setC (by omega)).wide (by omega) (Nat.le_refl _)⟩)
      have HBF := Lib.hid (show Below w.heap.size w (w2.setCell ⟨w.heap.size + 1, 2, none⟩ (.pointer (some ⟨p, 0, none⟩))) from (hb1.trans (hb2.mono (by omega))).setCell (by simp) _)
      clear ht2 hb2 X2 S2 c3 hNd hX
      go_wp2
      go_ret
      exact ⟨_, rfl, by rw [HT.out, World.size_setCell]; exact HF.out, HBF.out⟩
end Go.Proofs.Ytbcbhgbbbdmklaa
