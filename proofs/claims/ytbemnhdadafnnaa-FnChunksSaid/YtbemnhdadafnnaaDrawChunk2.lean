/- The draws of chunks that grow. -/
import Derived.Test.YtbemnhdadafnnaaDrawChunk
namespace Go.Proofs.Ytbemnhdadafnnaa
set_option linter.unusedVariables false
set_option linter.unusedSimpArgs false
open Go.RowKit

theorem froz_same {w w' : World} {b j : Nat} (h : w'.heap[b]? = w.heap[b]?) : w'.frozen? ⟨b, j, none⟩ = w.frozen? ⟨b, j, none⟩ := by
  simp only [World.frozen?, h]
/-- A drawn chunk, and a sample. -/
def GrowV (_ : World) (v : Value) : Prop := ∃ (S : ByteArray) (x y : Int), v = .tuple #[.string S, .agg #[.int .i64 x, .int .i64 y]] ∧ S.size ≤ 488 ∧ 0 ≤ x ∧ x ≤ 50000 ∧ 0 ≤ y ∧ y ≤ 99
set_option maxRecDepth 100000 in
set_option maxHeartbeats 2000000 in
theorem DrawAppendChunk_any (A : Option Addr) (n c : Nat) (l : List UInt8) (w : World) (h : Rd w w.heap.size 1 A n (bys l)) (hn : n ≤ 1048576) : Calls Try.prog 10 #[.slice A n c] w (DrawnP w GrowV) := by
  obtain ⟨wb, hwb⟩ : ∃ wb, w.alloc (.cells #[.int .i64 0, .int .i64 0] 31) = wb := ⟨_, rfl⟩
  have hb0 : Below w.heap.size w wb := hwb ▸ (Below.refl _ _).alloc (Nat.le_refl _) _
  have hsb : wb.heap.size = w.heap.size + 1 := by rw [← hwb]; simp
  have HH := Lib.hid (fun (t : Nat) => (show CurAt ⟨w.heap.size + 1, w.heap.size + 1, n, c, A, l⟩ 0 (wb.alloc (.cells #[.slice A n c, .int .i64 0, .int .u64 0] t)) by
    have := cur_newP (c := c) (t := t) (w := wb) ((h.below hb0).more (by omega)) hn
    rwa [hsb] at this))
  have hne : ∀ v : World, Ch (w.heap.size + 1) (w.heap.size + 1 + 1) (wb.alloc (.cells #[.slice A n c, .int .i64 0, .int .u64 0] 55)) v → v.heap[w.heap.size]? = wb.heap[w.heap.size]? := fun v hc => (hc.block _ (by simp; omega) (by omega)).trans (Below.heap_alloc _ _ _ (by omega))
  have HNE := Lib.hid hne
  clear hne
  have c0 : wb.cell? ⟨w.heap.size, 0, none⟩ = some (.int .i64 0) := by rw [← hwb]; exact World.cell?_alloc_at _ _ _ _ (by simp)
  have c1 : wb.cell? ⟨w.heap.size, 1, none⟩ = some (.int .i64 0) := by rw [← hwb]; exact World.cell?_alloc_at _ _ _ _ (by simp)
  have f0 : wb.frozen? ⟨w.heap.size, 0, none⟩ = false := by rw [← hwb]; exact World.frozen?_alloc_at _ _ _ _ rfl
  have f1 : wb.frozen? ⟨w.heap.size, 1, none⟩ = false := by rw [← hwb]; exact World.frozen?_alloc_at _ _ _ _ rfl
  have HWB := Lib.hid hwb
  clear h hwb
  go_enter Try.func10, Try.ntmps10
  go_wp2_with fail
  rw [HWB.out]
  refine (chunk_any ⟨w.heap.size + 1, w.heap.size + 1, n, c, A, l⟩ 0 _ (HH.out _) (by omega)).mono ?_
  rintro e w1 ⟨_, rfl, ⟨S, rfl, hS⟩, hcu, hch⟩
  have hs1 := hch.size
  simp at hs1
  have HC := Lib.hid hcu
  have HW := Lib.hid hch
  clear hcu hch HH
  go_wp2_with fail
  refine (among_any ⟨w.heap.size + 1, w.heap.size + 1, n, c, A, l⟩ (0 + 220) w1.heap.size 4 4 [0, 50, 2000, 50000] _ (HC.out.alloc _) (by omega) (by have := HC.out.hb; simp at this ⊢; omega) rfl (by omega) (by omega) (fun j x h => lit_cellP h) (by simp)).mono ?_
  rintro e w2 ⟨_, rfl, ⟨x, hx, rfl⟩, hcu, hch⟩
  have hx0 : 0 ≤ x ∧ x ≤ 50000 := by simp at hx; omega
  have HC2 := Lib.hid hcu
  have HW2 := Lib.hid ((HW.out.trans (Ch.alloc _ _).zero).trans hch)
  clear hcu hch HC HW hx
  go_wp2_with fail
  refine (pick_any ⟨w.heap.size + 1, w.heap.size + 1, n, c, A, l⟩ (0 + 220 + 2) 100 _ HC2.out (by omega) (by omega)).mono ?_
  rintro e w3 ⟨_, rfl, ⟨q, rfl, hq0, hq1⟩, hcu, hch⟩
  have hq2 : q ≤ 99 := by omega
  clear hq1
  have hch3 := HW2.out.trans hch
  have hb3 := HNE.out _ hch3
  have d0 : w3.cell? ⟨w.heap.size, 0, none⟩ = some (.int .i64 0) := (cell_same hb3).trans c0
  have d1 : w3.cell? ⟨w.heap.size, 1, none⟩ = some (.int .i64 0) := (cell_same hb3).trans c1
  have e0 : w3.frozen? ⟨w.heap.size, 0, none⟩ = false := (froz_same hb3).trans f0
  have e1 : w3.frozen? ⟨w.heap.size, 1, none⟩ = false := (froz_same hb3).trans f1
  have hs3 := hch3.size
  simp at hs3
  have HB := Lib.hid (show Below w.heap.size w w3 from hb0.trans ((((Below.refl _ _).alloc (by omega) _).trans (hch3.below (B := w.heap.size) (by simp; omega) (.inl (by omega))))))
  clear hcu hch hch3 hb3 HC2 HW2
  go_wp2
  have k0 : (w3.setCell ⟨w.heap.size, 0, none⟩ (.int .i64 x)).cell? ⟨w.heap.size, 0, none⟩ = some (.int .i64 x) := World.cell?_setCell_same _ _ _ d0
  have k1 : ((w3.setCell ⟨w.heap.size, 0, none⟩ (.int .i64 x)).setCell ⟨w.heap.size, 1, none⟩ (.int .i64 q)).cell? ⟨w.heap.size, 1, none⟩ = some (.int .i64 q) := World.cell?_setCell_same _ _ _ ((World.cell?_setCell_other _ _ _ _ (by simp)).trans d1)
  refine bodyPost_ret (v := .tuple #[.string S, .agg #[.int .i64 x, .int .i64 q]]) (by simp [results, Try.results10, go_sem, k0, k1]) rfl ?_
  exact ⟨_, rfl, ⟨S, x, q, rfl, hS, hx0.1, hx0.2, hq0, hq2⟩, (HB.out.setCell (by simp) _).setCell (by simp) _⟩
theorem own_setO {w : World} {base e s n : Nat} {v u : Value} {p : Addr} {xs : List Value} (h : w.ownsRow base e s v n xs) (hp : ∀ b, v.ownBlock = some b → b ≠ p.block) : (w.setCell p u).ownsRow base e s v n xs := by
  refine ⟨h.1, ?_⟩
  rcases h.2 with h2 | ⟨g, cap, cur, hv, hl, hh, r⟩
  · exact .inl h2
  · exact .inr ⟨g, cap, cur, hv, hl, (Below.heap_setCell _ _ _ _ (hp g (by rw [hv]; rfl))).trans hh, r⟩
theorem smps_set0 (l : List (Int × Int)) : ∀ (R : Nat) (x v y : Int), l[R]? = some (x, y) → (smps l).set (R * 2) (.int .i64 v) = smps (l.set R (v, y)) := by
  induction l with
  | nil => intro R x v y h; simp at h
  | cons p l ih =>
    intro R x v y h
    cases R with
    | zero => simp at h; subst h; simp [smps]
    | succ R =>
      have e := ih R x v y (by simpa using h)
      have e1 : (R + 1) * 2 = R * 2 + 1 + 1 := by omega
      rw [e1]
      show ((Value.int .i64 p.1 :: .int .i64 p.2 :: smps l).set (R * 2 + 1 + 1) _) = _
      simp only [List.set_cons_succ]
      rw [e]
      rfl
/-- Two drawn chunks. -/
def TwoV (_ : World) (v : Value) : Prop := ∃ (S T : ByteArray), v = .tuple #[.string S, .string T] ∧ S.size ≤ 488 ∧ T.size ≤ 488
set_option maxRecDepth 100000 in
set_option maxHeartbeats 4000000 in
theorem DrawJoinChunks_any (A : Option Addr) (n c : Nat) (lB : List UInt8) (w : World) (h : Rd w w.heap.size 1 A n (bys lB)) (hn : n ≤ 1048576) : Calls Try.prog 13 #[.slice A n c] w (DrawnP w TwoV) := by
  have HH := Lib.hid (fun t => cur_newP (c := c) (t := t) h hn)
  clear h
  go_enter Try.func13, Try.ntmps13
  go_wp2_with fail
  refine (samples_any ⟨w.heap.size, w.heap.size, n, c, A, lB⟩ 0 _ (HH.out _) (by omega)).mono ?_
  rintro e w1 ⟨_, rfl, ⟨A1, c1, k1, l1, rfl, hk1, ho1⟩, hcu, hch⟩
  have hs1 := hch.size
  simp at hs1
  have HO1 := Lib.hid (show w1.ownsRow (w.heap.size + 1) _ _ _ _ _ by simpa using ho1)
  have HG1 := Lib.hid (show ∀ b, (Value.slice A1 k1 c1).ownBlock = some b → b < w1.heap.size from fun b hb => (ho1.lt b hb).2)
  have HC := Lib.hid hcu
  have HW := Lib.hid hch
  clear ho1 hcu hch HH
  go_wp2_with fail
  refine (samples_any ⟨w.heap.size, w.heap.size, n, c, A, lB⟩ (0 + 200) _ HC.out (by omega)).mono ?_
  rintro e w2 ⟨_, rfl, ⟨A2, c2, k2, l2, rfl, hk2, ho2⟩, hcu, hch⟩
  have hs2 := hch.size
  have HO2 := Lib.hid ho2
  have HO12 := Lib.hid (own_chP HO1.out hch (by simp))
  have HC2 := Lib.hid hcu
  have HW2 := Lib.hid (HW.out.trans hch)
  clear ho2 hcu hch HO1 HC HW
  go_wp2_with fail
  go_loopw [21] (fun i wr => ∃ (k : Nat) (l : List (Int × Int)), k ≤ k2 ∧ i = .int .i64 k ∧ wr.ownsRow w1.heap.size 31 2 (.slice A2 k2 c2) k2 (smps l) ∧ wr.ownsRow (w.heap.size + 1) 31 2 (.slice A1 k1 c1) k1 (smps l1) ∧ CurAt ⟨w.heap.size, w.heap.size, n, c, A, lB⟩ (400 + 2 * k) wr ∧ Ch w.heap.size (w.heap.size + 1) (w.alloc (.cells #[.slice A n c, .int .i64 0, .int .u64 0] 55)) wr) (fun i _ => k2 - (intOf i).toNat)
  case atStart => exact ⟨0, l2, Nat.zero_le _, rfl, HO2.out, HO12.out, HC2.out.more (by omega), HW2.out⟩
  case round =>
    clear HO2 HO12 HC2 HW2
    obtain ⟨k, l, hk, rfl, ho, ho1, hcu, hch⟩ := hrel
    have hsz := hch.size
    simp at hsz
    have HO := Lib.hid ho
    have HO1 := Lib.hid ho1
    have HC := Lib.hid hcu
    have HW := Lib.hid hch
    clear ho ho1 hcu hch
    by_cases hlt : k < k2
    · obtain ⟨g, rfl⟩ := own_casesS HO.out (by omega)
      obtain ⟨b, off, x0, y0, he, hB, hx, hc0, hc1⟩ := (Rd.of_own HO.out).smp_at hlt
      obtain ⟨rfl, rfl⟩ : g = b ∧ 0 = off := by simpa using he
      simp only [Nat.zero_add] at hc0
      have hgw : w1.heap.size ≤ g := (HO.out.lt g rfl).1
      have hd0 : wr.drew.cell? ⟨g, k * 2, none⟩ = some (.int .i64 x0) := hc0
      have hal : ∀ o, (wr.alloc o).drew.cell? ⟨g, k * 2, none⟩ = some (.int .i64 x0) := fun o => (World.cell?_alloc_lt _ _ _ hB).trans hc0
      have CA := Lib.hid (among_any ⟨w.heap.size, w.heap.size, n, c, A, lB⟩ (400 + 2 * k) wr.heap.size 3 3 [0, 20000, 20000] (wr.alloc (.cells #[.int .i64 0, .int .i64 20000, .int .i64 20000] 3)).drew ((HC.out.alloc _).drewN 1) (by omega) (by simp; omega) rfl (by omega) (by omega) (fun j x h => lit_cellP (w := wr) h) (by simp))
      have HOD := Lib.hid (own_drewN (HO.out.alloc (.cells #[.int .i64 0, .int .i64 20000, .int .i64 20000] 3)) 1)
      have HOD1 := Lib.hid (own_drewN (HO1.out.alloc (.cells #[.int .i64 0, .int .i64 20000, .int .i64 20000] 3)) 1)
      have HX := Lib.hid hx
      clear hx hc1 he hc0
      go_wp2_with fail
      go_region_with (first | (go_at_call 36; refine CA.out.mono ?_; rintro e w3 ⟨_, rfl, ⟨x, hx, rfl⟩, hcu, hch⟩; have hc3 : w3.cell? ⟨g, k * 2, none⟩ = some (.int .i64 x0) := (cell_same (hch.block g (by simp; omega) (by simp; omega))).trans (hal _); have hf3 : w3.frozen? ⟨g, k * 2, none⟩ = false := (own_chP HOD.out hch (by simp; omega)).frozenAt _))
      all_goals go_wp2
      all_goals
        have ho3 := own_chP HOD.out hch (show w.heap.size + 1 ≤ w1.heap.size by omega)
        have hs3 := (World.ownsRow.stored ho3 (k * 2) (.int .i64 (wrap64 (x0 + x)))).1
        rw [smps_set0 l k x0 _ y0 HX.out] at hs3
        have ho31 := own_setO (p := ⟨g, k * 2, none⟩) (u := .int .i64 (wrap64 (x0 + x))) (own_chP HOD1.out hch (Nat.le_refl _)) (fun b hb => by have := HG1.out b hb; show b ≠ g; omega)
        have hcu3 := hcu.below (((Below.refl _ _).setCell (B := w.heap.size + 1) (p := ⟨g, k * 2, none⟩) (by simp; omega) (.int .i64 (wrap64 (x0 + x)))))
        have hch3 := ((HW.out.trans ((Ch.alloc wr (.cells #[.int .i64 0, .int .i64 20000, .int .i64 20000] 3)).drewN 1).zero).trans hch).growP (w.heap.size + 1) ((Below.refl _ _).setCell (p := ⟨g, k * 2, none⟩) (by simp; omega) (.int .i64 (wrap64 (x0 + x)))) (by simp)
        exact ⟨⟨k + 1, _, by omega, by go_num, hs3, ho31, hcu3.more (by omega), hch3⟩, by simp [intOf]; omega⟩
    · obtain rfl : k = k2 := by omega
      have hk1c : k1 ≤ 1048576 := by omega
      have CE1 := Lib.hid (sEncodeChunk_any wr.heap.size A1 k1 c1 l1 wr (Nat.le_refl _) (Rd.of_own HO1.out) (by omega) (encR l1) (goodSmp l1) rfl rfl)
      have hes := encR_size l1
      obtain ⟨E1, hE1⟩ : ∃ E, encR l1 = E := ⟨_, rfl⟩
      obtain ⟨G1, hG1⟩ : ∃ E, goodSmp l1 = E := ⟨_, rfl⟩
      rw [hE1, hG1] at CE1
      rw [hE1] at hes
      clear hE1 hG1
      go_wp2_with fail
      refine CE1.out.mono ?_
      rintro e w4 ⟨rfl, hb4⟩
      have CE2 := Lib.hid (sEncodeChunk_any w4.heap.size A2 k c2 l w4 (Nat.le_refl _) (Rd.of_own (own_below HO.out hb4 (Nat.le_refl _))) (by omega) (encR l) (goodSmp l) rfl rfl)
      have HB4 := Lib.hid (((new_belowP HW.out).trans (hb4.mono (by omega))))
      have hs4 := HB4.out.size
      have hes2 := encR_size l
      obtain ⟨E2, hE2⟩ : ∃ E, encR l = E := ⟨_, rfl⟩
      obtain ⟨G2, hG2⟩ : ∃ E, goodSmp l = E := ⟨_, rfl⟩
      rw [hE2, hG2] at CE2
      rw [hE2] at hes2
      clear hE2 hG2 hb4 CE1
      go_wp2_with fail
      refine CE2.out.mono ?_
      rintro e w5 ⟨rfl, hb5⟩
      have HB5 := Lib.hid (HB4.out.trans (hb5.mono hs4))
      clear hb5 CE2
      go_wp2
      go_ret2
      exact ⟨_, rfl, ⟨E1, E2, rfl, by omega, by omega⟩, HB5.out⟩
end Go.Proofs.Ytbemnhdadafnnaa
