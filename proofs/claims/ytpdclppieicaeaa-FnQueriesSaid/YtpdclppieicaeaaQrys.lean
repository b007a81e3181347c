/- The laws' helpers on slices of a query's parts: copying, comparing, marking, holding, measuring. Written by a program of mine (mkrec.py). -/
import Derived.Test.YtpdclppieicaeaaLabs
import Derived.Test.YtpdclppieicaeaaQryPlain
namespace Go.Proofs.Ytpdclppieicaeaa
set_option linter.unusedVariables false
set_option linter.unusedSimpArgs false
open Go.RowKit

theorem qrys_cells (p : Qry) : ((Qry.cells) p).length = 5 := rfl
theorem qrys_len (l : List Qry) : (qrys l).length = l.length * 5 := by
  induction l with
  | nil => rfl
  | cons p l ih => unfold qrys at ih ⊢; rw [List.flatMap_cons, List.length_append, ih, List.length_cons]; simp [Qry.cells]; omega
theorem qrys_app (a b : List Qry) : qrys (a ++ b) = qrys a ++ qrys b := by unfold qrys; rw [List.flatMap_append]
theorem qrys_get (l : List Qry) : ∀ (k : Nat) (p : Qry), l[k]? = some p → (qrys l)[k * 5]? = some (.int .i64 p.kind) ∧ (qrys l)[k * 5 + 1]? = some (.string p.name) ∧ (qrys l)[k * 5 + 2]? = some (.string p.value) ∧ (qrys l)[k * 5 + 3]? = some (.int .i64 p.a) ∧ (qrys l)[k * 5 + 4]? = some (.int .i64 p.b) := by
  induction l with
  | nil => intro k p h; simp at h
  | cons q l ih =>
    intro k p h
    cases k with
    | zero => simp at h; subst h; exact ⟨rfl, rfl, rfl, rfl, rfl⟩
    | succ k =>
      have := ih k p (by simpa using h)
      have e : ∀ j, (qrys (q :: l))[(k + 1) * 5 + j]? = (qrys l)[k * 5 + j]? := fun j => by
        unfold qrys
        rw [List.flatMap_cons, List.getElem?_append_right (by simp [Qry.cells]; omega), show (k + 1) * 5 + j - ((Qry.cells) q).length = k * 5 + j from by simp [Qry.cells]; omega]
      have e0 := e 0
      simp only [Nat.add_zero] at e0
      rw [e0, e 1, e 2, e 3, e 4]
      exact this
theorem qrys_one (l : List Qry) : ∀ u ∈ qrys l, u.oneCell' = true := by
  intro u hu
  obtain ⟨p, _, hp⟩ := List.mem_flatMap.1 hu
  simp [Qry.cells] at hp
  rcases hp with rfl | rfl | rfl | rfl | rfl <;> rfl
section
variable {w : World} {B n : Nat} {A : Option Addr}
theorem Rd.qry_len {l : List Qry} (h : Rd w B 5 A n (qrys l)) : l.length = n := by have := h.1; rw [qrys_len] at this; omega
/-- Element k of such a slice. -/
theorem Rd.qry_at {l : List Qry} {k : Nat} (h : Rd w B 5 A n (qrys l)) (hk : k < n) : ∃ b0 off kd x y a b, A = some ⟨b0, off, none⟩ ∧ b0 < B ∧ l[k]? = some (⟨kd, x, y, a, b⟩ : Qry) ∧ w.cell? ⟨b0, off + k * 5, none⟩ = some (.int .i64 kd) ∧ w.cell? ⟨b0, off + k * 5 + 1, none⟩ = some (.string x) ∧ w.cell? ⟨b0, off + k * 5 + 2, none⟩ = some (.string y) ∧ w.cell? ⟨b0, off + k * 5 + 3, none⟩ = some (.int .i64 a) ∧ w.cell? ⟨b0, off + k * 5 + 4, none⟩ = some (.int .i64 b) := by
  obtain ⟨b0, off, e, hb, hc⟩ := h.2 (by omega)
  have hl : k < l.length := by have := h.qry_len; omega
  have hg := qrys_get l k l[k] (List.getElem?_eq_getElem hl)
  exact ⟨b0, off, l[k].kind, l[k].name, l[k].value, l[k].a, l[k].b, e, hb, List.getElem?_eq_getElem hl, hc _ _ hg.1, hc _ _ hg.2.1, hc _ _ hg.2.2.1, hc _ _ hg.2.2.2.1, hc _ _ hg.2.2.2.2⟩
end

theorem infoQuery : (Try.prog.info? 59).map (fun i => (i.zero, i.size, i.bytes)) = some (some (.agg #[.int .i64 0, .string .empty, .string .empty, .int .i64 0, .int .i64 0]), 5, 56) := by kernel_rfl
set_option maxRecDepth 100000 in
set_option maxHeartbeats 1000000 in
theorem toQuery_any (kd : Int) (x : ByteArray) (y : ByteArray) (a : Int) (b : Int) (w : World) : Calls Try.prog 46 #[.agg #[.int .i64 kd, .string x, .string y, .int .i64 a, .int .i64 b]] w fun e w' => e = .returned (.agg #[.int .i64 kd, .string x, .string y, .int .i64 a, .int .i64 b]) ∧ Below w.heap.size w w' := by
  go_enter Try.func46, Try.ntmps46
  go_wp2_with fail
  refine (toLabel_any x y _).mono ?_
  rintro e w1 ⟨rfl, hb1⟩
  have hs1 := hb1.size
  simp at hs1
  have ca := (hb1.cell (p := ⟨w.heap.size, 3, none⟩) (by simp; omega)).trans (show _ = some (.int .i64 a) by rw [World.cell?_alloc_lt _ _ _ (by simp; omega), World.cell?_alloc_lt _ _ _ (by simp)]; simp)
  have cb := (hb1.cell (p := ⟨w.heap.size, 4, none⟩) (by simp; omega)).trans (show _ = some (.int .i64 b) by rw [World.cell?_alloc_lt _ _ _ (by simp; omega), World.cell?_alloc_lt _ _ _ (by simp)]; simp)
  have cn : ∀ (k : Nat) (v : Value), (#[Value.int .i64 kd, .string ⟨#[]⟩, .string ⟨#[]⟩, .int .i64 0, .int .i64 0] : Array Value)[k]? = some v → w1.cell? ⟨w.heap.size + 1 + 1, k, none⟩ = some v := fun k v h => (hb1.cell (p := ⟨w.heap.size + 1 + 1, k, none⟩) (by simp)).trans ((World.cell?_alloc_at _ _ _ _ (by simp)).trans h)
  have c0 := cn 0 _ rfl
  have c1 := cn 1 _ rfl
  have c2 := cn 2 _ rfl
  have c3 := cn 3 _ rfl
  have c4 := cn 4 _ rfl
  have cm : ∀ (k : Nat) (v : Value), (#[Value.int .i64 0, .string ⟨#[]⟩, .string ⟨#[]⟩, .int .i64 0, .int .i64 0] : Array Value)[k]? = some v → w1.cell? ⟨w.heap.size + 1, k, none⟩ = some v := fun k v h => (hb1.cell (p := ⟨w.heap.size + 1, k, none⟩) (by simp)).trans ((World.cell?_alloc_lt _ _ _ (by simp)).trans ((World.cell?_alloc_at _ _ _ _ (by simp)).trans h))
  have m0 := cm 0 _ rfl
  have m1 := cm 1 _ rfl
  have m2 := cm 2 _ rfl
  have m3 := cm 3 _ rfl
  have m4 := cm 4 _ rfl
  have fm : ∀ k, w1.frozen? ⟨w.heap.size + 1, k, none⟩ = false := fun k => (hb1.frozen (p := ⟨w.heap.size + 1, k, none⟩) (by simp)).trans ((World.frozen?_alloc_past _ _ _ (by simp)).trans (World.frozen?_alloc_at _ _ _ _ (by simp)))
  have fz : ∀ k, w1.frozen? ⟨w.heap.size + 1 + 1, k, none⟩ = false := fun k => (hb1.frozen (p := ⟨w.heap.size + 1 + 1, k, none⟩) (by simp)).trans (World.frozen?_alloc_at _ _ _ _ (by simp))
  have HB := Lib.hid (show Below w.heap.size w w1 from (((below3 _ _ _) : Below w.heap.size w _)).trans (hb1.mono (by simp; omega)))
  clear hb1 cn cm hs1
  have HP := Lib.hid (show w.heap.size ≤ w.heap.size + 1 ∧ w.heap.size ≤ w.heap.size + 1 + 1 from ⟨by omega, by omega⟩)
  have e1 : w.heap.size + 1 ≠ w.heap.size + 1 + 1 := by omega
  have e2 : w.heap.size ≠ w.heap.size + 1 + 1 := by omega
  have e3 : w.heap.size ≠ w.heap.size + 1 := by omega
  generalize w.heap.size + 1 + 1 = p at *
  generalize w.heap.size + 1 = q at *
  generalize hr : w.heap.size = r at *
  have HR := Lib.hid hr
  clear hr
  go_wp2
  exact bodyPost_ret (v := .agg #[.int .i64 kd, .string x, .string y, .int .i64 a, .int .i64 b]) (by simp only [results, Try.results46]; go_simp) rfl ⟨rfl, by
    rw [HR.out]
    exact ((((((((HB.out.setCell (p := ⟨p, 1, none⟩) HP.out.2 _).setCell (p := ⟨p, 2, none⟩) HP.out.2 _).setCell (p := ⟨p, 3, none⟩) HP.out.2 _).setCell (p := ⟨p, 4, none⟩) HP.out.2 _).setCell (p := ⟨q, 0, none⟩) HP.out.1 _).setCell (p := ⟨q, 1, none⟩) HP.out.1 _).setCell (p := ⟨q, 2, none⟩) HP.out.1 _).setCell (p := ⟨q, 3, none⟩) HP.out.1 _).setCell (p := ⟨q, 4, none⟩) HP.out.1 _⟩

set_option maxRecDepth 100000 in
set_option maxHeartbeats 1000000 in
theorem eqQuery_same (kd : Int) (x : ByteArray) (y : ByteArray) (a : Int) (b : Int) (w : World) : Calls Try.prog 49 #[.agg #[.int .i64 kd, .string x, .string y, .int .i64 a, .int .i64 b], .agg #[.int .i64 kd, .string x, .string y, .int .i64 a, .int .i64 b]] w fun e w' => e = .returned (.bool true) ∧ Below w.heap.size w w' := by
  go_enter Try.func49, Try.ntmps49
  go_wp2_with fail
  refine (eqLabel_same x y _).mono ?_
  rintro e w1 ⟨rfl, hb1⟩
  have hs1 := hb1.size
  have ca : ∀ (k : Nat) (v : Value), (#[Value.int .i64 kd, .string x, .string y, .int .i64 a, .int .i64 b] : Array Value)[k]? = some v → w1.cell? ⟨w.heap.size, k, none⟩ = some v := fun k v h => (hb1.cell (p := ⟨w.heap.size, k, none⟩) (by simp; omega)).trans ((World.cell?_alloc_lt _ _ _ (by simp)).trans ((World.cell?_alloc_at _ _ _ _ rfl).trans h))
  have cb : ∀ (k : Nat) (v : Value), (#[Value.int .i64 kd, .string x, .string y, .int .i64 a, .int .i64 b] : Array Value)[k]? = some v → w1.cell? ⟨w.heap.size + 1, k, none⟩ = some v := fun k v h => (hb1.cell (p := ⟨w.heap.size + 1, k, none⟩) (by simp)).trans ((World.cell?_alloc_at _ _ _ _ (by simp)).trans h)
  have a3 := ca 3 _ rfl
  have b3 := cb 3 _ rfl
  have a2 := ca 4 _ rfl
  have b2 := cb 4 _ rfl
  have HB := Lib.hid (show Below w.heap.size w w1 from (below2 _ _).trans (hb1.mono (by simp; omega)))
  clear hb1 ca cb
  go_wp2
  go_ret
  exact ⟨rfl, HB.out⟩

set_option maxRecDepth 100000 in
set_option maxHeartbeats 4000000 in
theorem toQueryS_any (B : Nat) (A : Option Addr) (n c : Nat) (l : List Qry) (w : World) (hBw : B ≤ w.heap.size) (h : Rd w B 5 A n (qrys l)) (hn : n ≤ 1048576) :
    Calls Try.prog 19 #[.slice A n c] w fun e w' => e = .returned (.slice (some ⟨w.heap.size, 0, none⟩) n n) ∧
      w'.ownsRow w.heap.size 59 5 (.slice (some ⟨w.heap.size, 0, none⟩) n n) n (qrys l) ∧ Below w.heap.size w w' := by
  obtain ⟨i0, hi, hz0, hz1, hz2⟩ := info_parts infoQuery
  have hlen := h.qry_len
  have HL := Lib.hid hlen
  clear hlen
  have H := Lib.hid h
  clear h
  go_enter Try.func19, Try.ntmps19
  go_wp2_with (at_make; refine wpList_make_full _ rfl (.tmp 6) (.tmp 6) 42 rfl w.heap.size 59 i0 (.agg #[.int .i64 0, .string .empty, .string .empty, .int .i64 0, .int .i64 0]) 5 Try.underlying42 hi hz0 hz1 _ _ _ _ n rfl rfl rfl rfl (by rw [hz2]; omega) (by unfold maxLen; omega) (Nat.le_refl _) ?_; intro w1 hown hgrow)
  have hb1 : Below w.heap.size w w1 := (Below.refl _ _).grown hgrow (Nat.le_refl _) (by simp)
  obtain ⟨Z, hZ⟩ : ∃ Z, Z = (madeCells (Value.cells (.agg #[.int .i64 0, .string .empty, .string .empty, .int .i64 0, .int .i64 0])) (n * 5)).toList := ⟨_, rfl⟩
  rw [← hZ] at hown
  have HZ := Lib.hid (show (qrys l).length = Z.length by have := hown.1; rw [this, qrys_len, HL.out])
  clear hZ
  have HO := Lib.hid (show w1.ownsRow w.heap.size 59 5 (.slice (some ⟨w.heap.size, 0, none⟩) n n) n (mixV (qrys l) Z 0) by rw [mixV_zero]; exact hown)
  clear hown hgrow hi hz0 hz1 hz2
  have HB := Lib.hid hb1
  clear hb1
  go_loopw [4] (fun i wr => ∃ k : Nat, k ≤ n ∧ i = .int .i64 k ∧ wr.ownsRow w.heap.size 59 5 (.slice (some ⟨w.heap.size, 0, none⟩) n n) n (mixV (qrys l) Z (k * 5)) ∧ Below w.heap.size w wr) (fun i _ => n - (intOf i).toNat)
  case atStart => exact ⟨0, Nat.zero_le _, rfl, by rw [Nat.zero_mul]; exact HO.out, HB.out⟩
  case round =>
    clear HO HB
    obtain ⟨k, hk, rfl, ho, hb⟩ := hrel
    have HO := Lib.hid ho
    have HB := Lib.hid hb
    clear ho hb
    by_cases hlt : k < n
    · obtain ⟨b0, off, kd, x, y, a, b, rfl, hbB, hx, hc0, hc1, hc2, hc3, hc4⟩ := H.out.qry_at hlt
      have hd0 : wr.cell? ⟨b0, off + k * 5, none⟩ = some (.int .i64 kd) := (bcell HB.out _ _ (by omega)).trans hc0
      have hd1 : wr.cell? ⟨b0, off + k * 5 + 1, none⟩ = some (.string x) := (bcell HB.out _ _ (by omega)).trans hc1
      have hd2 : wr.cell? ⟨b0, off + k * 5 + 2, none⟩ = some (.string y) := (bcell HB.out _ _ (by omega)).trans hc2
      have hd3 : wr.cell? ⟨b0, off + k * 5 + 3, none⟩ = some (.int .i64 a) := (bcell HB.out _ _ (by omega)).trans hc3
      have hd4 : wr.cell? ⟨b0, off + k * 5 + 4, none⟩ = some (.int .i64 b) := (bcell HB.out _ _ (by omega)).trans hc4
      have HX := Lib.hid hx
      clear hx hc0 hc1 hc2 hc3 hc4
      go_wp2_with fail
      refine (toQuery_any kd x y a b _).mono ?_
      rintro e w2 ⟨rfl, hb2⟩
      have ho2 := own_below HO.out hb2 (Nat.le_refl _)
      have HB2 := Lib.hid (HB.out.trans (hb2.mono HB.out.size))
      have hml := mixV_len (k := k * 5) HZ.out
      have hzl : Z.length = n * 5 := by rw [← HZ.out, qrys_len, HL.out]
      have hf0 := ho2.frozenAt (k * 5)
      have hf1 := ho2.frozenAt (k * 5 + 1)
      have hf2 := ho2.frozenAt (k * 5 + 2)
      have hf3 := ho2.frozenAt (k * 5 + 3)
      have hf4 := ho2.frozenAt (k * 5 + 4)
      obtain ⟨u0, hu0⟩ : ∃ u, w2.cell? ⟨w.heap.size, k * 5, none⟩ = some u := by
        rw [ho2.cellAt (k * 5) (by omega)]
        exact ⟨_, List.getElem?_eq_getElem (by omega)⟩
      obtain ⟨u1, hu1⟩ : ∃ u, w2.cell? ⟨w.heap.size, k * 5 + 1, none⟩ = some u := by
        rw [ho2.cellAt (k * 5 + 1) (by omega)]
        exact ⟨_, List.getElem?_eq_getElem (by omega)⟩
      obtain ⟨u2, hu2⟩ : ∃ u, w2.cell? ⟨w.heap.size, k * 5 + 2, none⟩ = some u := by
        rw [ho2.cellAt (k * 5 + 2) (by omega)]
        exact ⟨_, List.getElem?_eq_getElem (by omega)⟩
      obtain ⟨u3, hu3⟩ : ∃ u, w2.cell? ⟨w.heap.size, k * 5 + 3, none⟩ = some u := by
        rw [ho2.cellAt (k * 5 + 3) (by omega)]
        exact ⟨_, List.getElem?_eq_getElem (by omega)⟩
      obtain ⟨u4, hu4⟩ : ∃ u, w2.cell? ⟨w.heap.size, k * 5 + 4, none⟩ = some u := by
        rw [ho2.cellAt (k * 5 + 4) (by omega)]
        exact ⟨_, List.getElem?_eq_getElem (by omega)⟩
      have HO2 := Lib.hid ho2
      clear hb2 ho2 hml hzl
      go_wp2
      go_roundw
      case rel =>
        obtain ⟨hg0, hg1, hg2, hg3, hg4⟩ := qrys_get l k ⟨kd, x, y, a, b⟩ HX.out
        have s0 := (World.ownsRow.stored HO2.out (k * 5) (.int .i64 kd)).1
        rw [mixV_set HZ.out hg0] at s0
        have s1 := (World.ownsRow.stored s0 (k * 5 + 1) (.string x)).1
        rw [mixV_set HZ.out hg1] at s1
        have s2 := (World.ownsRow.stored s1 (k * 5 + 2) (.string y)).1
        rw [mixV_set HZ.out hg2] at s2
        have s3 := (World.ownsRow.stored s2 (k * 5 + 3) (.int .i64 a)).1
        rw [mixV_set HZ.out hg3] at s3
        have s4 := (World.ownsRow.stored s3 (k * 5 + 4) (.int .i64 b)).1
        rw [mixV_set HZ.out hg4] at s4
        exact ⟨k + 1, by omega, by go_num, by rw [show (k + 1) * 5 = k * 5 + 4 + 1 from by omega]; exact s4, (((((HB2.out.setCell (Nat.le_refl _) _).setCell (Nat.le_refl _) _).setCell (Nat.le_refl _) _).setCell (Nat.le_refl _) _).setCell (Nat.le_refl _) _)⟩
      case measure => simp [intOf]; omega
    · have hk' : k = n := by omega
      subst hk'
      go_wp2
      go_ret
      refine ⟨rfl, ?_, HB.out⟩
      have := HO.out
      rwa [mixV_all HZ.out (by rw [qrys_len]; have := HL.out; omega)] at this

set_option maxRecDepth 100000 in
set_option maxHeartbeats 4000000 in
theorem eqQueryS_same (B : Nat) (A A' : Option Addr) (n c c' : Nat) (l : List Qry) (w : World) (hBw : B ≤ w.heap.size) (h : Rd w B 5 A n (qrys l)) (h' : Rd w B 5 A' n (qrys l)) (hn : n ≤ 1048576) :
    Calls Try.prog 21 #[.slice A n c, .slice A' n c'] w fun e w' => e = .returned (.bool true) ∧ Below w.heap.size w w' := by
  have H := Lib.hid h
  have H' := Lib.hid h'
  clear h h'
  go_enter Try.func21, Try.ntmps21
  go_wp2
  go_loopw [5] (fun i wr => ∃ k : Nat, k ≤ n ∧ i = .int .i64 k ∧ Below w.heap.size w wr) (fun i _ => n - (intOf i).toNat)
  case atStart => exact ⟨0, Nat.zero_le _, rfl, Below.refl _ _⟩
  case round =>
    obtain ⟨k, hk, rfl, hb⟩ := hrel
    have HB := Lib.hid hb
    have hsz := hb.size
    clear hb
    by_cases hlt : k < n
    · obtain ⟨b0, off, kd, x, y, a, b, rfl, hbB, hx, hc0, hc1, hc2, hc3, hc4⟩ := H.out.qry_at hlt
      obtain ⟨b0', off', kd', x', y', a', b', rfl, hbB', hx', hc0', hc1', hc2', hc3', hc4'⟩ := H'.out.qry_at hlt
      obtain ⟨rfl, rfl, rfl, rfl, rfl⟩ : kd = kd' ∧ x = x' ∧ y = y' ∧ a = a' ∧ b = b' := by rw [hx] at hx'; simpa using hx'
      have d0 := beyond_cell (B := wr.heap.size) (W := wr) ((bcell HB.out _ _ (by omega)).trans hc0) (by omega)
      have d1 := beyond_cell (B := wr.heap.size) (W := wr) ((bcell HB.out _ _ (by omega)).trans hc1) (by omega)
      have d2 := beyond_cell (B := wr.heap.size) (W := wr) ((bcell HB.out _ _ (by omega)).trans hc2) (by omega)
      have d3 := beyond_cell (B := wr.heap.size) (W := wr) ((bcell HB.out _ _ (by omega)).trans hc3) (by omega)
      have d4 := beyond_cell (B := wr.heap.size) (W := wr) ((bcell HB.out _ _ (by omega)).trans hc4) (by omega)
      have d0' := beyond_cell (B := wr.heap.size) (W := wr) ((bcell HB.out _ _ (by omega)).trans hc0') (by omega)
      have d1' := beyond_cell (B := wr.heap.size) (W := wr) ((bcell HB.out _ _ (by omega)).trans hc1') (by omega)
      have d2' := beyond_cell (B := wr.heap.size) (W := wr) ((bcell HB.out _ _ (by omega)).trans hc2') (by omega)
      have d3' := beyond_cell (B := wr.heap.size) (W := wr) ((bcell HB.out _ _ (by omega)).trans hc3') (by omega)
      have d4' := beyond_cell (B := wr.heap.size) (W := wr) ((bcell HB.out _ _ (by omega)).trans hc4') (by omega)
      clear hx hx' hc0 hc0' hc1 hc1' hc2 hc2' hc3 hc3' hc4 hc4'
      go_wp2_with fail
      refine wp_region_beyond (B := wr.heap.size) (W := wr) (Below.refl _ _) (by kernel_rfl) (by kernel_rfl) ?_
      repeat (go_big_quiet_step ((go_at_call 49; exact calls_beyond (Nat.le_refl _) (eqQuery_same _ _ _ _ _ _))))
      refine wpQuiet_nil ?_
      intro _ hw'
      obtain ⟨z, rfl⟩ := hw'
      have HBz := Lib.hid (HB.out.trans (z.2.mono hsz))
      generalize z.1 = wz at HBz ⊢
      clear d0 d0' d1 d1' d2 d2' d3 d3' d4 d4'
      go_wp2
      go_roundw
      case rel => exact ⟨k + 1, by omega, by go_num, HBz.out⟩
      case measure => simp [intOf]; omega
    · go_wp2
      go_ret
      exact ⟨rfl, HB.out⟩

theorem to_Query (B : Nat) (A : Option Addr) (n c : Nat) (l : List Qry) (w : World) (hB : B ≤ w.heap.size) (h : Rd w B 5 A n (qrys l)) (hn : n ≤ 1048576) :
    Calls Try.prog 19 #[.slice A n c] w fun e w' => ∃ A' c', e = .returned (.slice A' n c') ∧ Row 59 5 w.heap.size w'.heap.size A' n c' (qrys l) w' ∧ Ch 0 0 w w' :=
  (toQueryS_any B A n c l w hB h hn).mono fun _ _ ⟨he, ho, hb⟩ => ⟨_, _, he, Row.of_own ho, Ch.of_below hb⟩
theorem eq_Query (B B' : Nat) (A A' : Option Addr) (n c c' : Nat) (l : List Qry) (w : World) (hB : B ≤ w.heap.size) (hB' : B' ≤ w.heap.size) (h : Rd w B 5 A n (qrys l)) (h' : Rd w B' 5 A' n (qrys l)) (hn : n ≤ 1048576) :
    Calls Try.prog 21 #[.slice A n c, .slice A' n c'] w fun e w' => e = .returned (.bool true) ∧ Ch 0 0 w w' :=
  (eqQueryS_same (max B B') A A' n c c' l w (Nat.max_le.2 ⟨hB, hB'⟩) (h.more (Nat.le_max_left ..)) (h'.more (Nat.le_max_right ..)) hn).mono fun _ _ ⟨he, hq⟩ => ⟨he, Ch.of_below hq⟩
/-- What marking writes. -/
def marksQuery (k : Int) (n : Nat) : List Qry := (List.range n).map fun (i : Nat) => (⟨k + 5 * (i : Int), markS (k + 5 * (i : Int) + 1), markS (k + 5 * (i : Int) + 2), k + 5 * (i : Int) + 3, k + 5 * (i : Int) + 4⟩ : Qry)
theorem marksQuery_len (k : Int) (n : Nat) : (marksQuery k n).length = n := by simp [marksQuery]
theorem marksQuery_get (k : Int) (n i : Nat) (h : i < n) : (marksQuery k n)[i]? = some (⟨k + 5 * (i : Int), markS (k + 5 * (i : Int) + 1), markS (k + 5 * (i : Int) + 2), k + 5 * (i : Int) + 3, k + 5 * (i : Int) + 4⟩ : Qry) := by simp [marksQuery, h]
set_option maxRecDepth 100000 in
set_option maxHeartbeats 4000000 in
theorem markQueryS_any (base : Nat) (A : Option Addr) (n c : Nat) (l : List Qry) (k : Int) (w : World) (h : w.ownsRow base 59 5 (.slice A n c) n (qrys l)) (hn : n ≤ 1048576) (hk0 : 0 ≤ k) (hk1 : k ≤ 1099511627776) :
    Calls Try.prog 22 #[.slice A n c, .int .i64 k] w fun e w' => e = .returned (.int .i64 (k + 5 * n)) ∧
      w'.ownsRow base 59 5 (.slice A n c) n (qrys (marksQuery k n)) ∧ w.grownBy w' (Value.slice A n c).ownBlock := by
  have hlen : (qrys l).length = n * 5 := h.1
  have HL := Lib.hid (show (qrys (marksQuery k n)).length = (qrys l).length by rw [hlen, qrys_len, marksQuery_len])
  have HN := Lib.hid hlen
  have H := Lib.hid h
  clear h hlen
  go_enter Try.func22, Try.ntmps22
  go_wp2
  go_loopw [1, 5] (fun m i wr => ∃ j : Nat, j ≤ n ∧ i = .int .i64 j ∧ m = .int .i64 (k + 5 * j) ∧ wr.ownsRow base 59 5 (.slice A n c) n (mixV (qrys (marksQuery k n)) (qrys l) (j * 5)) ∧ w.grownBy wr (Value.slice A n c).ownBlock) (fun _ i _ => n - (intOf i).toNat)
  case atStart => exact ⟨0, Nat.zero_le _, rfl, by simp, by rw [Nat.zero_mul, mixV_zero]; exact H.out, World.grownBy.refl _ _⟩
  case round =>
    obtain ⟨j, hj, rfl, rfl, ho, hb⟩ := hrel
    by_cases hlt : j < n
    · obtain ⟨g, cap, hv, hbg, hgl, _, _⟩ := own_form ho (by omega)
      obtain ⟨rfl, rfl⟩ : A = some ⟨g, 0, none⟩ ∧ c = cap := by simpa using hv
      clear hv
      have hzl := HN.out
      have hml := mixV_len (k := j * 5) HL.out
      have HG := Lib.hid hbg
      obtain ⟨hg0, hg1, hg2, hg3, hg4⟩ := qrys_get (marksQuery k n) j _ (marksQuery_get k n j hlt)
      have hgw : g < wr.heap.size := hgl
      have t1 : k + 5 * (j : Int) + 1 + 1 = k + 5 * j + 2 := by omega
      have t2 : k + 5 * (j : Int) + 2 + 1 = k + 5 * j + 3 := by omega
      have t3 : k + 5 * (j : Int) + 3 + 1 = k + 5 * j + 4 := by omega
      have t4 : j * 5 + 1 + 1 = j * 5 + 2 := by omega
      have hf0 := ho.frozenAt (j * 5)
      obtain ⟨u0, hu0⟩ : ∃ u, wr.cell? ⟨g, j * 5, none⟩ = some u := by
        rw [World.ownsRow.cellAt ho (j * 5) (by omega)]
        exact ⟨_, List.getElem?_eq_getElem (by omega)⟩
      have ob0 := (World.ownsRow.stored ho (j * 5) (.int .i64 (k + 5 * j))).1
      have qb0 := (hb).trans (World.ownsRow.stored ho (j * 5) (.int .i64 (k + 5 * j))).2
      rw [mixV_set HL.out hg0] at ob0
      have hml0 := mixV_len (k := j * 5 + 1) HL.out
      clear ho hb
      have HO1 := Lib.hid ob0
      have HQ1 := Lib.hid qb0
      clear ob0 qb0
      go_wp2_with fail
      refine (markText_any _ _ (by omega) (by omega)).mono ?_
      rintro e v1 ⟨rfl, hbt1⟩
      have oa1 := grown_text HO1.out hbt1
      have qa1 := text_grown HQ1.out hbt1
      have hsv1 := hbt1.size
      clear hbt1
      have hf1 := oa1.frozenAt (j * 5 + 1)
      obtain ⟨u1, hu1⟩ : ∃ u, v1.cell? ⟨g, j * 5 + 1, none⟩ = some u := by
        rw [World.ownsRow.cellAt oa1 (j * 5 + 1) (by omega)]
        exact ⟨_, List.getElem?_eq_getElem (by omega)⟩
      have ob1 := (World.ownsRow.stored oa1 (j * 5 + 1) (.string (markS (k + 5 * j + 1)))).1
      have qb1 := (qa1).trans (World.ownsRow.stored oa1 (j * 5 + 1) (.string (markS (k + 5 * j + 1)))).2
      rw [mixV_set HL.out hg1] at ob1
      have hml1 := mixV_len (k := j * 5 + 1 + 1) HL.out
      clear oa1 qa1
      have HO2 := Lib.hid ob1
      have HQ2 := Lib.hid qb1
      clear ob1 qb1
      go_wp2_with fail
      refine (markText_any _ _ (by omega) (by omega)).mono ?_
      rintro e v2 ⟨rfl, hbt2⟩
      have oa2 := grown_text HO2.out hbt2
      have qa2 := text_grown HQ2.out hbt2
      have hsv2 := hbt2.size
      clear hbt2
      have hf2 := oa2.frozenAt (j * 5 + 2)
      obtain ⟨u2, hu2⟩ : ∃ u, v2.cell? ⟨g, j * 5 + 2, none⟩ = some u := by
        rw [World.ownsRow.cellAt oa2 (j * 5 + 2) (by omega)]
        exact ⟨_, List.getElem?_eq_getElem (by omega)⟩
      have ob2 := (World.ownsRow.stored oa2 (j * 5 + 2) (.string (markS (k + 5 * j + 2)))).1
      have qb2 := (qa2).trans (World.ownsRow.stored oa2 (j * 5 + 2) (.string (markS (k + 5 * j + 2)))).2
      rw [mixV_set HL.out hg2] at ob2
      have hml2 := mixV_len (k := j * 5 + 2 + 1) HL.out
      clear oa2 qa2
      have hf3 := ob2.frozenAt (j * 5 + 3)
      obtain ⟨u3, hu3⟩ : ∃ u, (v2.setCell ⟨g, j * 5 + 2, none⟩ (.string (markS (k + 5 * j + 2)))).cell? ⟨g, j * 5 + 3, none⟩ = some u := by
        rw [World.ownsRow.cellAt ob2 (j * 5 + 3) (by omega)]
        exact ⟨_, List.getElem?_eq_getElem (by omega)⟩
      have ob3 := (World.ownsRow.stored ob2 (j * 5 + 3) (.int .i64 (k + 5 * j + 3))).1
      have qb3 := (qb2).trans (World.ownsRow.stored ob2 (j * 5 + 3) (.int .i64 (k + 5 * j + 3))).2
      rw [mixV_set HL.out hg3] at ob3
      have hml3 := mixV_len (k := j * 5 + 3 + 1) HL.out
      clear ob2 qb2
      have hf4 := ob3.frozenAt (j * 5 + 4)
      obtain ⟨u4, hu4⟩ : ∃ u, ((v2.setCell ⟨g, j * 5 + 2, none⟩ (.string (markS (k + 5 * j + 2)))).setCell ⟨g, j * 5 + 3, none⟩ (.int .i64 (k + 5 * j + 3))).cell? ⟨g, j * 5 + 4, none⟩ = some u := by
        rw [World.ownsRow.cellAt ob3 (j * 5 + 4) (by omega)]
        exact ⟨_, List.getElem?_eq_getElem (by omega)⟩
      have ob4 := (World.ownsRow.stored ob3 (j * 5 + 4) (.int .i64 (k + 5 * j + 4))).1
      have qb4 := (qb3).trans (World.ownsRow.stored ob3 (j * 5 + 4) (.int .i64 (k + 5 * j + 4))).2
      rw [mixV_set HL.out hg4] at ob4
      have hml4 := mixV_len (k := j * 5 + 4 + 1) HL.out
      clear ob3 qb3
      have HOz := Lib.hid ob4
      have HQz := Lib.hid qb4
      clear ob4 qb4 hml hml0 hml1 hml2 hml3 hml4 hzl
      clear hg0 hg1 hg2 hg3 hg4
      go_wp2
      go_roundw
      case rel => exact ⟨j + 1, by omega, by go_num, by go_num, by rw [show (j + 1) * 5 = j * 5 + 4 + 1 from by omega]; exact HOz.out, HQz.out⟩
      case measure => simp [intOf]; omega
    · have hk' : j = n := by omega
      subst hk'
      go_wp2
      go_ret
      refine ⟨rfl, ?_, hb⟩
      rwa [mixV_all HL.out (by rw [HL.out, HN.out]; exact Nat.le_refl _)] at ho
def qrySz1 (p : Qry) : Nat := p.name.size + p.value.size
/-- What such a slice holds: elements and letters. -/
def qrySz (l : List Qry) : Nat := l.length + (l.map qrySz1).sum
theorem qrySz_le {l : List Qry} : l.length ≤ qrySz l := Nat.le_add_right _ _
theorem qrySz_take {l : List Qry} {k : Nat} {p : Qry} (h : l[k]? = some p) : ((l.take (k + 1)).map qrySz1).sum = ((l.take k).map qrySz1).sum + qrySz1 p := by rw [take_snoc' l k p h, List.map_append, List.sum_append]; simp
theorem qrySz_pre (l : List Qry) (k : Nat) : ((l.take k).map qrySz1).sum ≤ (l.map qrySz1).sum := by
  have h : l = l.take k ++ l.drop k := (List.take_append_drop k l).symm
  have e : (l.map qrySz1).sum = ((l.take k).map qrySz1).sum + ((l.drop k).map qrySz1).sum := by rw [← List.sum_append, ← List.map_append, ← h]
  omega
def qrySzOk (l : List Qry) : Prop := ∀ p ∈ l, p.name.size ≤ 9223372036854775807 ∧ p.value.size ≤ 9223372036854775807
set_option maxRecDepth 100000 in
set_option maxHeartbeats 1000000 in
theorem szQuery_ok (kd : Int) (x : ByteArray) (y : ByteArray) (a : Int) (b : Int) (m : Int) (w : World) (h0 : (x.size + y.size : Nat) ≤ m) (h1 : m ≤ 1048576) :
    Calls Try.prog 44 #[.agg #[.int .i64 kd, .string x, .string y, .int .i64 a, .int .i64 b], .int .i64 m] w fun e w' => e = .returned (.int .i64 (m - (x.size + y.size : Nat))) ∧ Below w.heap.size w w' := by
  go_enter Try.func44, Try.ntmps44
  go_wp2_with fail
  refine (szLabel_ok x y m _ h0 h1).mono ?_
  rintro e w1 ⟨rfl, hb1⟩
  have HB := Lib.hid (show Below w.heap.size w w1 from (((Below.refl _ _).alloc (Nat.le_refl _) _) : Below w.heap.size w _).trans (hb1.mono (by simp)))
  clear hb1
  go_wp2
  go_ret
  exact ⟨rfl, HB.out⟩
set_option maxRecDepth 100000 in
set_option maxHeartbeats 1000000 in
theorem szQuery_no (kd : Int) (x : ByteArray) (y : ByteArray) (a : Int) (b : Int) (m : Int) (w : World) (h0 : m < (x.size + y.size : Nat)) (h1 : 0 ≤ m) (h2 : m ≤ 1048576) (hb0 : x.size ≤ 9223372036854775807) (hb1 : y.size ≤ 9223372036854775807) :
    Calls Try.prog 44 #[.agg #[.int .i64 kd, .string x, .string y, .int .i64 a, .int .i64 b], .int .i64 m] w fun e w' => e = .returned (.int .i64 (-1)) ∧ Below w.heap.size w w' := by
  go_enter Try.func44, Try.ntmps44
  go_wp2_with fail
  refine (szLabel_no x y m _ h0 h1 h2 hb0 hb1).mono ?_
  rintro e w1 ⟨rfl, hb2⟩
  have HB := Lib.hid (show Below w.heap.size w w1 from (((Below.refl _ _).alloc (Nat.le_refl _) _) : Below w.heap.size w _).trans (hb2.mono (by simp)))
  clear hb2
  go_wp2
  go_ret
  exact ⟨rfl, HB.out⟩
set_option maxRecDepth 100000 in
set_option maxHeartbeats 4000000 in
theorem sz_Query_ok (B : Nat) (A : Option Addr) (n c : Nat) (l : List Qry) (z : Nat) (hz : z = qrySz l) (m : Int) (w : World) (hBw : B ≤ w.heap.size) (h : Rd w B 5 A n (qrys l)) (h0 : (z : Int) ≤ m) (h1 : m ≤ 1048576) :
    Calls Try.prog 17 #[.slice A n c, .int .i64 m] w fun e w' => e = .returned (.int .i64 (m - z)) ∧ Ch 0 0 w w' := by
  have hlen := h.qry_len
  have hzl : z = n + (l.map qrySz1).sum := by rw [hz]; unfold qrySz; rw [hlen]
  have HL := Lib.hid hlen
  have H := Lib.hid h
  have HZ := Lib.hid hzl
  have hnz : n ≤ z := by omega
  clear h hlen hz hzl
  go_enter Try.func17, Try.ntmps17
  go_wp2
  go_loopw [1, 5] (fun q i wr => ∃ (k s : Nat), k ≤ n ∧ i = .int .i64 k ∧ q = .int .i64 (m - n - s) ∧ s = ((l.take k).map qrySz1).sum ∧ n + s ≤ z ∧ Below w.heap.size w wr) (fun _ i _ => n - (intOf i).toNat)
  case atStart => exact ⟨0, 0, Nat.zero_le _, rfl, by simp, by simp, by omega, Below.refl _ _⟩
  case round =>
    obtain ⟨k, s, hk, rfl, rfl, hs, hsz, hb⟩ := hrel
    have HS := Lib.hid hs
    have HB := Lib.hid hb
    have hsw := hb.size
    clear hs hb
    by_cases hlt : k < n
    · obtain ⟨b0, off, kd, x, y, a, b, rfl, hbB, hx, hc0, hc1, hc2, hc3, hc4⟩ := H.out.qry_at hlt
      have hd0 : wr.cell? ⟨b0, off + k * 5, none⟩ = some (.int .i64 kd) := (bcell HB.out _ _ (by omega)).trans hc0
      have hd1 : wr.cell? ⟨b0, off + k * 5 + 1, none⟩ = some (.string x) := (bcell HB.out _ _ (by omega)).trans hc1
      have hd2 : wr.cell? ⟨b0, off + k * 5 + 2, none⟩ = some (.string y) := (bcell HB.out _ _ (by omega)).trans hc2
      have hd3 : wr.cell? ⟨b0, off + k * 5 + 3, none⟩ = some (.int .i64 a) := (bcell HB.out _ _ (by omega)).trans hc3
      have hd4 : wr.cell? ⟨b0, off + k * 5 + 4, none⟩ = some (.int .i64 b) := (bcell HB.out _ _ (by omega)).trans hc4
      have ht := qrySz_take hx
      have hp := qrySz_pre l (k + 1)
      simp only [qrySz1] at ht
      have hbd : n + (s + (x.size + y.size)) ≤ z := by have := HZ.out; have := HS.out; omega
      have HT := Lib.hid (show s + (x.size + y.size) = ((l.take (k + 1)).map qrySz1).sum by rw [HS.out]; exact ht.symm)
      clear ht hp hx hc0 hc1 hc2 hc3 hc4
      go_wp2_with fail
      refine (szQuery_ok kd x y a b _ _ (by omega) (by omega)).mono ?_
      rintro e w2 ⟨rfl, hb2⟩
      have HB2 := Lib.hid (HB.out.trans (hb2.mono hsw))
      clear hb2
      go_wp2
      go_roundw
      case rel => exact ⟨k + 1, s + (x.size + y.size), by omega, by go_num, by go_num, HT.out, by omega, HB2.out⟩
      case measure => simp [intOf]; omega
    · have hk' : k = n := by omega
      have e := HS.out
      rw [List.take_of_length_le (by rw [HL.out]; omega)] at e
      have HE := Lib.hid (show z = n + s by rw [e]; exact HZ.out)
      clear e
      go_wp2
      go_ret
      exact ⟨retI (by have := HE.out; omega), Ch.of_below HB.out⟩
set_option maxRecDepth 100000 in
set_option maxHeartbeats 4000000 in
theorem sz_Query_no (B : Nat) (A : Option Addr) (n c : Nat) (l : List Qry) (z : Nat) (hz : z = qrySz l) (m : Int) (w : World) (hBw : B ≤ w.heap.size) (h : Rd w B 5 A n (qrys l)) (h0 : m < z) (h1 : 0 ≤ m) (h2 : n ≤ 9223372036854775807) (h3 : m ≤ 1048576) (hok : qrySzOk l) :
    Calls Try.prog 17 #[.slice A n c, .int .i64 m] w fun e w' => e = .returned (.int .i64 (-1)) ∧ Ch 0 0 w w' := by
  have hlen := h.qry_len
  have hzl : z = n + (l.map qrySz1).sum := by rw [hz]; unfold qrySz; rw [hlen]
  have HL := Lib.hid hlen
  have H := Lib.hid h
  have HZ := Lib.hid hzl
  have HO := Lib.hid hok
  clear h hlen hz hzl hok
  by_cases hmn : m < n
  · go_enter Try.func17, Try.ntmps17
    go_wp2
    go_ret
    exact ⟨rfl, Ch.refl _ _ _⟩
  go_enter Try.func17, Try.ntmps17
  go_wp2
  go_loopw [1, 5] (fun q i wr => ∃ (k s : Nat), k ≤ n ∧ i = .int .i64 k ∧ q = .int .i64 (m - n - s) ∧ s = ((l.take k).map qrySz1).sum ∧ (n + s : Nat) ≤ m ∧ Below w.heap.size w wr) (fun _ i _ => n - (intOf i).toNat)
  case atStart => exact ⟨0, 0, Nat.zero_le _, rfl, by simp, by simp, by omega, Below.refl _ _⟩
  case round =>
    obtain ⟨k, s, hk, rfl, rfl, hs, hsz, hb⟩ := hrel
    have HS := Lib.hid hs
    have HB := Lib.hid hb
    have hsw := hb.size
    clear hs hb
    by_cases hlt : k < n
    · obtain ⟨b0, off, kd, x, y, a, b, rfl, hbB, hx, hc0, hc1, hc2, hc3, hc4⟩ := H.out.qry_at hlt
      have hd0 : wr.cell? ⟨b0, off + k * 5, none⟩ = some (.int .i64 kd) := (bcell HB.out _ _ (by omega)).trans hc0
      have hd1 : wr.cell? ⟨b0, off + k * 5 + 1, none⟩ = some (.string x) := (bcell HB.out _ _ (by omega)).trans hc1
      have hd2 : wr.cell? ⟨b0, off + k * 5 + 2, none⟩ = some (.string y) := (bcell HB.out _ _ (by omega)).trans hc2
      have hd3 : wr.cell? ⟨b0, off + k * 5 + 3, none⟩ = some (.int .i64 a) := (bcell HB.out _ _ (by omega)).trans hc3
      have hd4 : wr.cell? ⟨b0, off + k * 5 + 4, none⟩ = some (.int .i64 b) := (bcell HB.out _ _ (by omega)).trans hc4
      have ht := qrySz_take hx
      simp only [qrySz1] at ht
      have hob := HO.out _ (List.mem_of_getElem? hx)
      simp only at hob
      have HT := Lib.hid (show s + (x.size + y.size) = ((l.take (k + 1)).map qrySz1).sum by rw [HS.out]; exact ht.symm)
      clear ht hx hc0 hc1 hc2 hc3 hc4
      by_cases hov : m < (n + (s + (x.size + y.size)) : Nat)
      · go_wp2_with fail
        refine (szQuery_no kd x y a b _ _ (by omega) (by omega) (by omega) (by omega) (by omega)).mono ?_
        rintro e w2 ⟨rfl, hb2⟩
        have HB2 := Lib.hid (HB.out.trans (hb2.mono hsw))
        clear hb2
        go_wp2
        go_ret
        exact ⟨rfl, Ch.of_below HB2.out⟩
      · go_wp2_with fail
        refine (szQuery_ok kd x y a b _ _ (by omega) (by omega)).mono ?_
        rintro e w2 ⟨rfl, hb2⟩
        have HB2 := Lib.hid (HB.out.trans (hb2.mono hsw))
        clear hb2
        go_wp2
        go_roundw
        case rel => exact ⟨k + 1, s + (x.size + y.size), by omega, by go_num, by go_num, HT.out, by omega, HB2.out⟩
        case measure => simp [intOf]; omega
    · exfalso
      have e := HS.out
      rw [List.take_of_length_le (by rw [HL.out]; omega)] at e
      have := HZ.out
      omega
theorem sz_Query_ge {w : World} {B n : Nat} {A : Option Addr} {l : List Qry} (h : Rd w B 5 A n (qrys l)) : n ≤ qrySz l := by have := h.qry_len; have := @qrySz_le l; omega
end Go.Proofs.Ytpdclppieicaeaa
