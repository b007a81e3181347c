/- The laws' helpers on slices of a pattern's parts: copying, comparing, marking, holding, measuring. Written by a program of mine (mkrec.py). -/
import Derived.Test.YtbpeceejboojoaaRowInts
import Derived.Test.YtbpeceejboojoaaBeyond
import Derived.Test.YtbpeceejboojoaaMark
import Derived.Test.YtbpeceejboojoaaPrt
namespace Go.Proofs.Ytbpeceejboojoaa
set_option linter.unusedVariables false
set_option linter.unusedSimpArgs false
open Go.RowKit

theorem prts_cells (p : Prt) : ((Prt.cells) p).length = 4 := rfl
theorem prts_len (l : List Prt) : (prts l).length = l.length * 4 := by
  induction l with
  | nil => rfl
  | cons p l ih => unfold prts at ih ⊢; rw [List.flatMap_cons, List.length_append, ih, List.length_cons]; simp [Prt.cells]; omega
theorem prts_app (a b : List Prt) : prts (a ++ b) = prts a ++ prts b := by unfold prts; rw [List.flatMap_append]
theorem prts_get (l : List Prt) : ∀ (k : Nat) (p : Prt), l[k]? = some p → (prts l)[k * 4]? = some (.int .i64 p.kind) ∧ (prts l)[k * 4 + 1]? = some (.string p.text) ∧ (prts l)[k * 4 + 2]? = some (.int .i64 p.a) ∧ (prts l)[k * 4 + 3]? = some (.int .i64 p.b) := by
  induction l with
  | nil => intro k p h; simp at h
  | cons q l ih =>
    intro k p h
    cases k with
    | zero => simp at h; subst h; exact ⟨rfl, rfl, rfl, rfl⟩
    | succ k =>
      have := ih k p (by simpa using h)
      have e : ∀ j, (prts (q :: l))[(k + 1) * 4 + j]? = (prts l)[k * 4 + j]? := fun j => by
        unfold prts
        rw [List.flatMap_cons, List.getElem?_append_right (by simp [Prt.cells]; omega), show (k + 1) * 4 + j - ((Prt.cells) q).length = k * 4 + j from by simp [Prt.cells]; omega]
      have e0 := e 0
      simp only [Nat.add_zero] at e0
      rw [e0, e 1, e 2, e 3]
      exact this
theorem prts_one (l : List Prt) : ∀ u ∈ prts l, u.oneCell' = true := by
  intro u hu
  obtain ⟨p, _, hp⟩ := List.mem_flatMap.1 hu
  simp [Prt.cells] at hp
  rcases hp with rfl | rfl | rfl | rfl <;> rfl
section
variable {w : World} {B n : Nat} {A : Option Addr}
theorem Rd.prt_len {l : List Prt} (h : Rd w B 4 A n (prts l)) : l.length = n := by have := h.1; rw [prts_len] at this; omega
/-- Element k of such a slice. -/
theorem Rd.prt_at {l : List Prt} {k : Nat} (h : Rd w B 4 A n (prts l)) (hk : k < n) : ∃ b0 off kd x a b, A = some ⟨b0, off, none⟩ ∧ b0 < B ∧ l[k]? = some (⟨kd, x, a, b⟩ : Prt) ∧ w.cell? ⟨b0, off + k * 4, none⟩ = some (.int .i64 kd) ∧ w.cell? ⟨b0, off + k * 4 + 1, none⟩ = some (.string x) ∧ w.cell? ⟨b0, off + k * 4 + 2, none⟩ = some (.int .i64 a) ∧ w.cell? ⟨b0, off + k * 4 + 3, none⟩ = some (.int .i64 b) := by
  obtain ⟨b0, off, e, hb, hc⟩ := h.2 (by omega)
  have hl : k < l.length := by have := h.prt_len; omega
  have hg := prts_get l k l[k] (List.getElem?_eq_getElem hl)
  exact ⟨b0, off, l[k].kind, l[k].text, l[k].a, l[k].b, e, hb, List.getElem?_eq_getElem hl, hc _ _ hg.1, hc _ _ hg.2.1, hc _ _ hg.2.2.1, hc _ _ hg.2.2.2⟩
end

theorem infoPart : (Try.prog.info? 50).map (fun i => (i.zero, i.size, i.bytes)) = some (some (.agg #[.int .i64 0, .string .empty, .int .i64 0, .int .i64 0]), 4, 40) := by kernel_rfl
set_option maxRecDepth 100000 in
set_option maxHeartbeats 1000000 in
theorem toPart_any (kd : Int) (x : ByteArray) (a : Int) (b : Int) (w : World) : Calls Try.prog 24 #[.agg #[.int .i64 kd, .string x, .int .i64 a, .int .i64 b]] w fun e w' => e = .returned (.agg #[.int .i64 kd, .string x, .int .i64 a, .int .i64 b]) ∧ Below w.heap.size w w' := by
  go_enter Try.func24, Try.ntmps24
  go_wp2
  exact bodyPost_ret (v := .agg #[.int .i64 kd, .string x, .int .i64 a, .int .i64 b]) (by simp [results, Try.results24, go_sem]) rfl ⟨rfl, below3 _ _ _⟩

set_option maxRecDepth 100000 in
set_option maxHeartbeats 1000000 in
theorem eqPart_same (kd : Int) (x : ByteArray) (a : Int) (b : Int) (w : World) : Calls Try.prog 28 #[.agg #[.int .i64 kd, .string x, .int .i64 a, .int .i64 b], .agg #[.int .i64 kd, .string x, .int .i64 a, .int .i64 b]] w fun e w' => e = .returned (.bool true) ∧ Below w.heap.size w w' := by
  go_enter Try.func28, Try.ntmps28
  go_wp2
  go_ret
  exact ⟨rfl, below2 _ _⟩

set_option maxRecDepth 100000 in
set_option maxHeartbeats 4000000 in
theorem toPartS_any (B : Nat) (A : Option Addr) (n c : Nat) (l : List Prt) (w : World) (hBw : B ≤ w.heap.size) (h : Rd w B 4 A n (prts l)) (hn : n ≤ 1048576) :
    Calls Try.prog 7 #[.slice A n c] w fun e w' => e = .returned (.slice (some ⟨w.heap.size, 0, none⟩) n n) ∧
      w'.ownsRow w.heap.size 50 4 (.slice (some ⟨w.heap.size, 0, none⟩) n n) n (prts l) ∧ Below w.heap.size w w' := by
  obtain ⟨i0, hi, hz0, hz1, hz2⟩ := info_parts infoPart
  have hlen := h.prt_len
  have HL := Lib.hid hlen
  clear hlen
  have H := Lib.hid h
  clear h
  go_enter Try.func7, Try.ntmps7
  go_wp2_with (at_make; refine wpList_make_full _ rfl (.tmp 6) (.tmp 6) 27 rfl w.heap.size 50 i0 (.agg #[.int .i64 0, .string .empty, .int .i64 0, .int .i64 0]) 4 Try.underlying27 hi hz0 hz1 _ _ _ _ n rfl rfl rfl rfl (by rw [hz2]; omega) (by unfold maxLen; omega) (Nat.le_refl _) ?_; intro w1 hown hgrow)
  have hb1 : Below w.heap.size w w1 := (Below.refl _ _).grown hgrow (Nat.le_refl _) (by simp)
  obtain ⟨Z, hZ⟩ : ∃ Z, Z = (madeCells (Value.cells (.agg #[.int .i64 0, .string .empty, .int .i64 0, .int .i64 0])) (n * 4)).toList := ⟨_, rfl⟩
  rw [← hZ] at hown
  have HZ := Lib.hid (show (prts l).length = Z.length by have := hown.1; rw [this, prts_len, HL.out])
  clear hZ
  have HO := Lib.hid (show w1.ownsRow w.heap.size 50 4 (.slice (some ⟨w.heap.size, 0, none⟩) n n) n (mixV (prts l) Z 0) by rw [mixV_zero]; exact hown)
  clear hown hgrow hi hz0 hz1 hz2
  have HB := Lib.hid hb1
  clear hb1
  go_loopw [4] (fun i wr => ∃ k : Nat, k ≤ n ∧ i = .int .i64 k ∧ wr.ownsRow w.heap.size 50 4 (.slice (some ⟨w.heap.size, 0, none⟩) n n) n (mixV (prts l) Z (k * 4)) ∧ Below w.heap.size w wr) (fun i _ => n - (intOf i).toNat)
  case atStart => exact ⟨0, Nat.zero_le _, rfl, by rw [Nat.zero_mul]; exact HO.out, HB.out⟩
  case round =>
    clear HO HB
    obtain ⟨k, hk, rfl, ho, hb⟩ := hrel
    have HO := Lib.hid ho
    have HB := Lib.hid hb
    clear ho hb
    by_cases hlt : k < n
    · obtain ⟨b0, off, kd, x, a, b, rfl, hbB, hx, hc0, hc1, hc2, hc3⟩ := H.out.prt_at hlt
      have hd0 : wr.cell? ⟨b0, off + k * 4, none⟩ = some (.int .i64 kd) := (bcell HB.out _ _ (by omega)).trans hc0
      have hd1 : wr.cell? ⟨b0, off + k * 4 + 1, none⟩ = some (.string x) := (bcell HB.out _ _ (by omega)).trans hc1
      have hd2 : wr.cell? ⟨b0, off + k * 4 + 2, none⟩ = some (.int .i64 a) := (bcell HB.out _ _ (by omega)).trans hc2
      have hd3 : wr.cell? ⟨b0, off + k * 4 + 3, none⟩ = some (.int .i64 b) := (bcell HB.out _ _ (by omega)).trans hc3
      have HX := Lib.hid hx
      clear hx hc0 hc1 hc2 hc3
      go_wp2_with fail
      refine (toPart_any kd x a b _).mono ?_
      rintro e w2 ⟨rfl, hb2⟩
      have ho2 := own_below HO.out hb2 (Nat.le_refl _)
      have HB2 := Lib.hid (HB.out.trans (hb2.mono HB.out.size))
      have hml := mixV_len (k := k * 4) HZ.out
      have hzl : Z.length = n * 4 := by rw [← HZ.out, prts_len, HL.out]
      have hf0 := ho2.frozenAt (k * 4)
      have hf1 := ho2.frozenAt (k * 4 + 1)
      have hf2 := ho2.frozenAt (k * 4 + 2)
      have hf3 := ho2.frozenAt (k * 4 + 3)
      obtain ⟨u0, hu0⟩ : ∃ u, w2.cell? ⟨w.heap.size, k * 4, none⟩ = some u := by
        rw [ho2.cellAt (k * 4) (by omega)]
        exact ⟨_, List.getElem?_eq_getElem (by omega)⟩
      obtain ⟨u1, hu1⟩ : ∃ u, w2.cell? ⟨w.heap.size, k * 4 + 1, none⟩ = some u := by
        rw [ho2.cellAt (k * 4 + 1) (by omega)]
        exact ⟨_, List.getElem?_eq_getElem (by omega)⟩
      obtain ⟨u2, hu2⟩ : ∃ u, w2.cell? ⟨w.heap.size, k * 4 + 2, none⟩ = some u := by
        rw [ho2.cellAt (k * 4 + 2) (by omega)]
        exact ⟨_, List.getElem?_eq_getElem (by omega)⟩
      obtain ⟨u3, hu3⟩ : ∃ u, w2.cell? ⟨w.heap.size, k * 4 + 3, none⟩ = some u := by
        rw [ho2.cellAt (k * 4 + 3) (by omega)]
        exact ⟨_, List.getElem?_eq_getElem (by omega)⟩
      have HO2 := Lib.hid ho2
      clear hb2 ho2 hml hzl
      go_wp2
      go_roundw
      case rel =>
        obtain ⟨hg0, hg1, hg2, hg3⟩ := prts_get l k ⟨kd, x, a, b⟩ HX.out
        have s0 := (World.ownsRow.stored HO2.out (k * 4) (.int .i64 kd)).1
        rw [mixV_set HZ.out hg0] at s0
        have s1 := (World.ownsRow.stored s0 (k * 4 + 1) (.string x)).1
        rw [mixV_set HZ.out hg1] at s1
        have s2 := (World.ownsRow.stored s1 (k * 4 + 2) (.int .i64 a)).1
        rw [mixV_set HZ.out hg2] at s2
        have s3 := (World.ownsRow.stored s2 (k * 4 + 3) (.int .i64 b)).1
        rw [mixV_set HZ.out hg3] at s3
        exact ⟨k + 1, by omega, by go_num, by rw [show (k + 1) * 4 = k * 4 + 3 + 1 from by omega]; exact s3, ((((HB2.out.setCell (Nat.le_refl _) _).setCell (Nat.le_refl _) _).setCell (Nat.le_refl _) _).setCell (Nat.le_refl _) _)⟩
      case measure => simp [intOf]; omega
    · have hk' : k = n := by omega
      subst hk'
      go_wp2
      go_ret
      refine ⟨rfl, ?_, HB.out⟩
      have := HO.out
      rwa [mixV_all HZ.out (by rw [prts_len]; have := HL.out; omega)] at this

set_option maxRecDepth 100000 in
set_option maxHeartbeats 4000000 in
theorem eqPartS_same (B : Nat) (A A' : Option Addr) (n c c' : Nat) (l : List Prt) (w : World) (hBw : B ≤ w.heap.size) (h : Rd w B 4 A n (prts l)) (h' : Rd w B 4 A' n (prts l)) (hn : n ≤ 1048576) :
    Calls Try.prog 10 #[.slice A n c, .slice A' n c'] w fun e w' => e = .returned (.bool true) ∧ Below w.heap.size w w' := by
  have H := Lib.hid h
  have H' := Lib.hid h'
  clear h h'
  go_enter Try.func10, Try.ntmps10
  go_wp2
  go_loopw [5] (fun i wr => ∃ k : Nat, k ≤ n ∧ i = .int .i64 k ∧ Below w.heap.size w wr) (fun i _ => n - (intOf i).toNat)
  case atStart => exact ⟨0, Nat.zero_le _, rfl, Below.refl _ _⟩
  case round =>
    obtain ⟨k, hk, rfl, hb⟩ := hrel
    have HB := Lib.hid hb
    have hsz := hb.size
    clear hb
    by_cases hlt : k < n
    · obtain ⟨b0, off, kd, x, a, b, rfl, hbB, hx, hc0, hc1, hc2, hc3⟩ := H.out.prt_at hlt
      obtain ⟨b0', off', kd', x', a', b', rfl, hbB', hx', hc0', hc1', hc2', hc3'⟩ := H'.out.prt_at hlt
      obtain ⟨rfl, rfl, rfl, rfl⟩ : kd = kd' ∧ x = x' ∧ a = a' ∧ b = b' := by rw [hx] at hx'; simpa using hx'
      have d0 := beyond_cell (B := wr.heap.size) (W := wr) ((bcell HB.out _ _ (by omega)).trans hc0) (by omega)
      have d1 := beyond_cell (B := wr.heap.size) (W := wr) ((bcell HB.out _ _ (by omega)).trans hc1) (by omega)
      have d2 := beyond_cell (B := wr.heap.size) (W := wr) ((bcell HB.out _ _ (by omega)).trans hc2) (by omega)
      have d3 := beyond_cell (B := wr.heap.size) (W := wr) ((bcell HB.out _ _ (by omega)).trans hc3) (by omega)
      have d0' := beyond_cell (B := wr.heap.size) (W := wr) ((bcell HB.out _ _ (by omega)).trans hc0') (by omega)
      have d1' := beyond_cell (B := wr.heap.size) (W := wr) ((bcell HB.out _ _ (by omega)).trans hc1') (by omega)
      have d2' := beyond_cell (B := wr.heap.size) (W := wr) ((bcell HB.out _ _ (by omega)).trans hc2') (by omega)
      have d3' := beyond_cell (B := wr.heap.size) (W := wr) ((bcell HB.out _ _ (by omega)).trans hc3') (by omega)
      clear hx hx' hc0 hc0' hc1 hc1' hc2 hc2' hc3 hc3'
      go_wp2_with fail
      refine wp_region_beyond (B := wr.heap.size) (W := wr) (Below.refl _ _) (by kernel_rfl) (by kernel_rfl) ?_
      repeat (go_big_quiet_step ((go_at_call 28; exact calls_beyond (Nat.le_refl _) (eqPart_same _ _ _ _ _))))
      refine wpQuiet_nil ?_
      intro _ hw'
      obtain ⟨z, rfl⟩ := hw'
      have HBz := Lib.hid (HB.out.trans (z.2.mono hsz))
      generalize z.1 = wz at HBz ⊢
      clear d0 d0' d1 d1' d2 d2' d3 d3'
      go_wp2
      go_roundw
      case rel => exact ⟨k + 1, by omega, by go_num, HBz.out⟩
      case measure => simp [intOf]; omega
    · go_wp2
      go_ret
      exact ⟨rfl, HB.out⟩

theorem to_Part (B : Nat) (A : Option Addr) (n c : Nat) (l : List Prt) (w : World) (hB : B ≤ w.heap.size) (h : Rd w B 4 A n (prts l)) (hn : n ≤ 1048576) :
    Calls Try.prog 7 #[.slice A n c] w fun e w' => ∃ A' c', e = .returned (.slice A' n c') ∧ Row 50 4 w.heap.size w'.heap.size A' n c' (prts l) w' ∧ Ch 0 0 w w' :=
  (toPartS_any B A n c l w hB h hn).mono fun _ _ ⟨he, ho, hb⟩ => ⟨_, _, he, Row.of_own ho, Ch.of_below hb⟩
theorem eq_Part (B B' : Nat) (A A' : Option Addr) (n c c' : Nat) (l : List Prt) (w : World) (hB : B ≤ w.heap.size) (hB' : B' ≤ w.heap.size) (h : Rd w B 4 A n (prts l)) (h' : Rd w B' 4 A' n (prts l)) (hn : n ≤ 1048576) :
    Calls Try.prog 10 #[.slice A n c, .slice A' n c'] w fun e w' => e = .returned (.bool true) ∧ Ch 0 0 w w' :=
  (eqPartS_same (max B B') A A' n c c' l w (Nat.max_le.2 ⟨hB, hB'⟩) (h.more (Nat.le_max_left ..)) (h'.more (Nat.le_max_right ..)) hn).mono fun _ _ ⟨he, hq⟩ => ⟨he, Ch.of_below hq⟩
/-- What marking writes. -/
def marksPart (k : Int) (n : Nat) : List Prt := (List.range n).map fun (i : Nat) => (⟨k + 4 * (i : Int), markS (k + 4 * (i : Int) + 1), k + 4 * (i : Int) + 2, k + 4 * (i : Int) + 3⟩ : Prt)
theorem marksPart_len (k : Int) (n : Nat) : (marksPart k n).length = n := by simp [marksPart]
theorem marksPart_get (k : Int) (n i : Nat) (h : i < n) : (marksPart k n)[i]? = some (⟨k + 4 * (i : Int), markS (k + 4 * (i : Int) + 1), k + 4 * (i : Int) + 2, k + 4 * (i : Int) + 3⟩ : Prt) := by simp [marksPart, h]
set_option maxRecDepth 100000 in
set_option maxHeartbeats 4000000 in
theorem markPartS_any (base : Nat) (A : Option Addr) (n c : Nat) (l : List Prt) (k : Int) (w : World) (h : w.ownsRow base 50 4 (.slice A n c) n (prts l)) (hn : n ≤ 1048576) (hk0 : 0 ≤ k) (hk1 : k ≤ 1099511627776) :
    Calls Try.prog 11 #[.slice A n c, .int .i64 k] w fun e w' => e = .returned (.int .i64 (k + 4 * n)) ∧
      w'.ownsRow base 50 4 (.slice A n c) n (prts (marksPart k n)) ∧ w.grownBy w' (Value.slice A n c).ownBlock := by
  have hlen : (prts l).length = n * 4 := h.1
  have HL := Lib.hid (show (prts (marksPart k n)).length = (prts l).length by rw [hlen, prts_len, marksPart_len])
  have HN := Lib.hid hlen
  have H := Lib.hid h
  clear h hlen
  go_enter Try.func11, Try.ntmps11
  go_wp2
  go_loopw [1, 5] (fun m i wr => ∃ j : Nat, j ≤ n ∧ i = .int .i64 j ∧ m = .int .i64 (k + 4 * j) ∧ wr.ownsRow base 50 4 (.slice A n c) n (mixV (prts (marksPart k n)) (prts l) (j * 4)) ∧ w.grownBy wr (Value.slice A n c).ownBlock) (fun _ i _ => n - (intOf i).toNat)
  case atStart => exact ⟨0, Nat.zero_le _, rfl, by simp, by rw [Nat.zero_mul, mixV_zero]; exact H.out, World.grownBy.refl _ _⟩
  case round =>
    obtain ⟨j, hj, rfl, rfl, ho, hb⟩ := hrel
    by_cases hlt : j < n
    · obtain ⟨g, cap, hv, hbg, hgl, _, _⟩ := own_form ho (by omega)
      obtain ⟨rfl, rfl⟩ : A = some ⟨g, 0, none⟩ ∧ c = cap := by simpa using hv
      clear hv
      have hzl := HN.out
      have hml := mixV_len (k := j * 4) HL.out
      have HG := Lib.hid hbg
      obtain ⟨hg0, hg1, hg2, hg3⟩ := prts_get (marksPart k n) j _ (marksPart_get k n j hlt)
      have hgw : g < wr.heap.size := hgl
      have hf0 := ho.frozenAt (j * 4)
      obtain ⟨u0, hu0⟩ : ∃ u, wr.cell? ⟨g, j * 4, none⟩ = some u := by
        rw [World.ownsRow.cellAt ho (j * 4) (by omega)]
        exact ⟨_, List.getElem?_eq_getElem (by omega)⟩
      have ob0 := (World.ownsRow.stored ho (j * 4) (.int .i64 (k + 4 * j))).1
      have qb0 := (hb).trans (World.ownsRow.stored ho (j * 4) (.int .i64 (k + 4 * j))).2
      rw [mixV_set HL.out hg0] at ob0
      have hml0 := mixV_len (k := j * 4 + 1) HL.out
      clear ho hb
      have HO1 := Lib.hid ob0
      have HQ1 := Lib.hid qb0
      clear ob0 qb0
      go_wp2_with fail
      refine (markText_any _ _ (by omega) (by omega)).mono ?_
      rintro e v1 ⟨rfl, hbt1⟩
      have oa1 := grown_text HO1.out hbt1
      have qa1 := text_grown HQ1.out hbt1
      have hsv1 := hbt1.size
      clear hbt1
      have hf1 := oa1.frozenAt (j * 4 + 1)
      obtain ⟨u1, hu1⟩ : ∃ u, v1.cell? ⟨g, j * 4 + 1, none⟩ = some u := by
        rw [World.ownsRow.cellAt oa1 (j * 4 + 1) (by omega)]
        exact ⟨_, List.getElem?_eq_getElem (by omega)⟩
      have ob1 := (World.ownsRow.stored oa1 (j * 4 + 1) (.string (markS (k + 4 * j + 1)))).1
      have qb1 := (qa1).trans (World.ownsRow.stored oa1 (j * 4 + 1) (.string (markS (k + 4 * j + 1)))).2
      rw [mixV_set HL.out hg1] at ob1
      have hml1 := mixV_len (k := j * 4 + 1 + 1) HL.out
      clear oa1 qa1
      have hf2 := ob1.frozenAt (j * 4 + 2)
      obtain ⟨u2, hu2⟩ : ∃ u, (v1.setCell ⟨g, j * 4 + 1, none⟩ (.string (markS (k + 4 * j + 1)))).cell? ⟨g, j * 4 + 2, none⟩ = some u := by
        rw [World.ownsRow.cellAt ob1 (j * 4 + 2) (by omega)]
        exact ⟨_, List.getElem?_eq_getElem (by omega)⟩
      have ob2 := (World.ownsRow.stored ob1 (j * 4 + 2) (.int .i64 (k + 4 * j + 2))).1
      have qb2 := (qb1).trans (World.ownsRow.stored ob1 (j * 4 + 2) (.int .i64 (k + 4 * j + 2))).2
      rw [mixV_set HL.out hg2] at ob2
      have hml2 := mixV_len (k := j * 4 + 2 + 1) HL.out
      clear ob1 qb1
      have hf3 := ob2.frozenAt (j * 4 + 3)
      obtain ⟨u3, hu3⟩ : ∃ u, ((v1.setCell ⟨g, j * 4 + 1, none⟩ (.string (markS (k + 4 * j + 1)))).setCell ⟨g, j * 4 + 2, none⟩ (.int .i64 (k + 4 * j + 2))).cell? ⟨g, j * 4 + 3, none⟩ = some u := by
        rw [World.ownsRow.cellAt ob2 (j * 4 + 3) (by omega)]
        exact ⟨_, List.getElem?_eq_getElem (by omega)⟩
      have ob3 := (World.ownsRow.stored ob2 (j * 4 + 3) (.int .i64 (k + 4 * j + 3))).1
      have qb3 := (qb2).trans (World.ownsRow.stored ob2 (j * 4 + 3) (.int .i64 (k + 4 * j + 3))).2
      rw [mixV_set HL.out hg3] at ob3
      have hml3 := mixV_len (k := j * 4 + 3 + 1) HL.out
      clear ob2 qb2
      have HOz := Lib.hid ob3
      have HQz := Lib.hid qb3
      clear ob3 qb3 hml hml0 hml1 hml2 hml3 hzl
      clear hg0 hg1 hg2 hg3
      have t1 : k + 4 * (j : Int) + 1 + 1 = k + 4 * j + 2 := by omega
      have t2 : k + 4 * (j : Int) + 2 + 1 = k + 4 * j + 3 := by omega
      go_wp2
      go_roundw
      case rel => exact ⟨j + 1, by omega, by go_num, by go_num, by rw [show (j + 1) * 4 = j * 4 + 3 + 1 from by omega]; exact HOz.out, HQz.out⟩
      case measure => simp [intOf]; omega
    · have hk' : j = n := by omega
      subst hk'
      go_wp2
      go_ret
      refine ⟨rfl, ?_, hb⟩
      rwa [mixV_all HL.out (by rw [HL.out, HN.out]; exact Nat.le_refl _)] at ho
def prtSz1 (p : Prt) : Nat := p.text.size
/-- What such a slice holds: elements and letters. -/
def prtSz (l : List Prt) : Nat := l.length + (l.map prtSz1).sum
theorem prtSz_le {l : List Prt} : l.length ≤ prtSz l := Nat.le_add_right _ _
theorem prtSz_take {l : List Prt} {k : Nat} {p : Prt} (h : l[k]? = some p) : ((l.take (k + 1)).map prtSz1).sum = ((l.take k).map prtSz1).sum + prtSz1 p := by rw [take_snoc' l k p h, List.map_append, List.sum_append]; simp
theorem prtSz_pre (l : List Prt) (k : Nat) : ((l.take k).map prtSz1).sum ≤ (l.map prtSz1).sum := by
  have h : l = l.take k ++ l.drop k := (List.take_append_drop k l).symm
  have e : (l.map prtSz1).sum = ((l.take k).map prtSz1).sum + ((l.drop k).map prtSz1).sum := by rw [← List.sum_append, ← List.map_append, ← h]
  omega
def prtSzOk (l : List Prt) : Prop := ∀ p ∈ l, p.text.size ≤ 9223372036854775807
set_option maxRecDepth 100000 in
set_option maxHeartbeats 1000000 in
theorem szPart_ok (kd : Int) (x : ByteArray) (a : Int) (b : Int) (m : Int) (w : World) (h0 : (x.size : Nat) ≤ m) (h1 : m ≤ 1048576) :
    Calls Try.prog 19 #[.agg #[.int .i64 kd, .string x, .int .i64 a, .int .i64 b], .int .i64 m] w fun e w' => e = .returned (.int .i64 (m - (x.size : Nat))) ∧ Below w.heap.size w w' := by
  go_enter Try.func19, Try.ntmps19
  go_wp2
  go_ret
  exact ⟨retI (by omega), (Below.refl _ _).alloc (Nat.le_refl _) _⟩
set_option maxRecDepth 100000 in
set_option maxHeartbeats 1000000 in
theorem szPart_no (kd : Int) (x : ByteArray) (a : Int) (b : Int) (m : Int) (w : World) (h0 : m < (x.size : Nat)) (h1 : 0 ≤ m) (h2 : m ≤ 1048576) (hb0 : x.size ≤ 9223372036854775807) :
    Calls Try.prog 19 #[.agg #[.int .i64 kd, .string x, .int .i64 a, .int .i64 b], .int .i64 m] w fun e w' => e = .returned (.int .i64 (-1)) ∧ Below w.heap.size w w' := by
  go_enter Try.func19, Try.ntmps19
  go_wp2
  go_ret
  exact ⟨rfl, (Below.refl _ _).alloc (Nat.le_refl _) _⟩
set_option maxRecDepth 100000 in
set_option maxHeartbeats 4000000 in
theorem sz_Part_ok (B : Nat) (A : Option Addr) (n c : Nat) (l : List Prt) (z : Nat) (hz : z = prtSz l) (m : Int) (w : World) (hBw : B ≤ w.heap.size) (h : Rd w B 4 A n (prts l)) (h0 : (z : Int) ≤ m) (h1 : m ≤ 1048576) :
    Calls Try.prog 5 #[.slice A n c, .int .i64 m] w fun e w' => e = .returned (.int .i64 (m - z)) ∧ Ch 0 0 w w' := by
  have hlen := h.prt_len
  have hzl : z = n + (l.map prtSz1).sum := by rw [hz]; unfold prtSz; rw [hlen]
  have HL := Lib.hid hlen
  have H := Lib.hid h
  have HZ := Lib.hid hzl
  have hnz : n ≤ z := by omega
  clear h hlen hz hzl
  go_enter Try.func5, Try.ntmps5
  go_wp2
  go_loopw [1, 5] (fun q i wr => ∃ (k s : Nat), k ≤ n ∧ i = .int .i64 k ∧ q = .int .i64 (m - n - s) ∧ s = ((l.take k).map prtSz1).sum ∧ n + s ≤ z ∧ Below w.heap.size w wr) (fun _ i _ => n - (intOf i).toNat)
  case atStart => exact ⟨0, 0, Nat.zero_le _, rfl, by simp, by simp, by omega, Below.refl _ _⟩
  case round =>
    obtain ⟨k, s, hk, rfl, rfl, hs, hsz, hb⟩ := hrel
    have HS := Lib.hid hs
    have HB := Lib.hid hb
    have hsw := hb.size
    clear hs hb
    by_cases hlt : k < n
    · obtain ⟨b0, off, kd, x, a, b, rfl, hbB, hx, hc0, hc1, hc2, hc3⟩ := H.out.prt_at hlt
      have hd0 : wr.cell? ⟨b0, off + k * 4, none⟩ = some (.int .i64 kd) := (bcell HB.out _ _ (by omega)).trans hc0
      have hd1 : wr.cell? ⟨b0, off + k * 4 + 1, none⟩ = some (.string x) := (bcell HB.out _ _ (by omega)).trans hc1
      have hd2 : wr.cell? ⟨b0, off + k * 4 + 2, none⟩ = some (.int .i64 a) := (bcell HB.out _ _ (by omega)).trans hc2
      have hd3 : wr.cell? ⟨b0, off + k * 4 + 3, none⟩ = some (.int .i64 b) := (bcell HB.out _ _ (by omega)).trans hc3
      have ht := prtSz_take hx
      have hp := prtSz_pre l (k + 1)
      simp only [prtSz1] at ht
      have hbd : n + (s + (x.size)) ≤ z := by have := HZ.out; have := HS.out; omega
      have HT := Lib.hid (show s + (x.size) = ((l.take (k + 1)).map prtSz1).sum by rw [HS.out]; exact ht.symm)
      clear ht hp hx hc0 hc1 hc2 hc3
      go_wp2_with fail
      refine (szPart_ok kd x a b _ _ (by omega) (by omega)).mono ?_
      rintro e w2 ⟨rfl, hb2⟩
      have HB2 := Lib.hid (HB.out.trans (hb2.mono hsw))
      clear hb2
      go_wp2
      go_roundw
      case rel => exact ⟨k + 1, s + (x.size), by omega, by go_num, by go_num, HT.out, by omega, HB2.out⟩
      case measure => simp [intOf]; omega
    · have hk' : k = n := by omega
      have e := HS.out
      rw [List.take_of_length_le (by rw [HL.out]; omega)] at e
      have HE := Lib.hid (show z = n + s by rw [e]; exact HZ.out)
      clear e
      go_wp2
      go_ret
      exact ⟨retI (by have := HE.out; omega), Ch.of_below HB.out⟩
set_option maxRecDepth 100000 in
set_option maxHeartbeats 4000000 in
theorem sz_Part_no (B : Nat) (A : Option Addr) (n c : Nat) (l : List Prt) (z : Nat) (hz : z = prtSz l) (m : Int) (w : World) (hBw : B ≤ w.heap.size) (h : Rd w B 4 A n (prts l)) (h0 : m < z) (h1 : 0 ≤ m) (h2 : n ≤ 9223372036854775807) (h3 : m ≤ 1048576) (hok : prtSzOk l) :
    Calls Try.prog 5 #[.slice A n c, .int .i64 m] w fun e w' => e = .returned (.int .i64 (-1)) ∧ Ch 0 0 w w' := by
  have hlen := h.prt_len
  have hzl : z = n + (l.map prtSz1).sum := by rw [hz]; unfold prtSz; rw [hlen]
  have HL := Lib.hid hlen
  have H := Lib.hid h
  have HZ := Lib.hid hzl
  have HO := Lib.hid hok
  clear h hlen hz hzl hok
  by_cases hmn : m < n
  · go_enter Try.func5, Try.ntmps5
    go_wp2
    go_ret
    exact ⟨rfl, Ch.refl _ _ _⟩
  go_enter Try.func5, Try.ntmps5
  go_wp2
  go_loopw [1, 5] (fun q i wr => ∃ (k s : Nat), k ≤ n ∧ i = .int .i64 k ∧ q = .int .i64 (m - n - s) ∧ s = ((l.take k).map prtSz1).sum ∧ (n + s : Nat) ≤ m ∧ Below w.heap.size w wr) (fun _ i _ => n - (intOf i).toNat)
  case atStart => exact ⟨0, 0, Nat.zero_le _, rfl, by simp, by simp, by omega, Below.refl _ _⟩
  case round =>
    obtain ⟨k, s, hk, rfl, rfl, hs, hsz, hb⟩ := hrel
    have HS := Lib.hid hs
    have HB := Lib.hid hb
    have hsw := hb.size
    clear hs hb
    by_cases hlt : k < n
    · obtain ⟨b0, off, kd, x, a, b, rfl, hbB, hx, hc0, hc1, hc2, hc3⟩ := H.out.prt_at hlt
      have hd0 : wr.cell? ⟨b0, off + k * 4, none⟩ = some (.int .i64 kd) := (bcell HB.out _ _ (by omega)).trans hc0
      have hd1 : wr.cell? ⟨b0, off + k * 4 + 1, none⟩ = some (.string x) := (bcell HB.out _ _ (by omega)).trans hc1
      have hd2 : wr.cell? ⟨b0, off + k * 4 + 2, none⟩ = some (.int .i64 a) := (bcell HB.out _ _ (by omega)).trans hc2
      have hd3 : wr.cell? ⟨b0, off + k * 4 + 3, none⟩ = some (.int .i64 b) := (bcell HB.out _ _ (by omega)).trans hc3
      have ht := prtSz_take hx
      simp only [prtSz1] at ht
      have hob := HO.out _ (List.mem_of_getElem? hx)
      simp only at hob
      have HT := Lib.hid (show s + (x.size) = ((l.take (k + 1)).map prtSz1).sum by rw [HS.out]; exact ht.symm)
      clear ht hx hc0 hc1 hc2 hc3
      by_cases hov : m < (n + (s + (x.size)) : Nat)
      · go_wp2_with fail
        refine (szPart_no kd x a b _ _ (by omega) (by omega) (by omega) (by omega)).mono ?_
        rintro e w2 ⟨rfl, hb2⟩
        have HB2 := Lib.hid (HB.out.trans (hb2.mono hsw))
        clear hb2
        go_wp2
        go_ret
        exact ⟨rfl, Ch.of_below HB2.out⟩
      · go_wp2_with fail
        refine (szPart_ok kd x a b _ _ (by omega) (by omega)).mono ?_
        rintro e w2 ⟨rfl, hb2⟩
        have HB2 := Lib.hid (HB.out.trans (hb2.mono hsw))
        clear hb2
        go_wp2
        go_roundw
        case rel => exact ⟨k + 1, s + (x.size), by omega, by go_num, by go_num, HT.out, by omega, HB2.out⟩
        case measure => simp [intOf]; omega
    · exfalso
      have e := HS.out
      rw [List.take_of_length_le (by rw [HL.out]; omega)] at e
      have := HZ.out
      omega
theorem sz_Part_ge {w : World} {B n : Nat} {A : Option Addr} {l : List Prt} (h : Rd w B 4 A n (prts l)) : n ≤ prtSz l := by have := h.prt_len; have := @prtSz_le l; omega
end Go.Proofs.Ytbpeceejboojoaa
