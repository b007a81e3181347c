/- The laws' helpers on slices of labels: copying, comparing, marking, holding, measuring. Written by a program of mine (mkrec.py). -/
import Derived.Test.YtjokpbopceolcaaDoorRowInts
import Derived.Test.YtjokpbopceolcaaDoorBeyond
import Derived.Test.YtjokpbopceolcaaDoorMark
import Derived.Test.YtjokpbopceolcaaDoorLabPlain
namespace Go.Proofs.YtjokpbopceolcaaDoor
set_option linter.unusedVariables false
set_option linter.unusedSimpArgs false
open Go.RowKit

theorem lbls_cells (p : Lab) : ((fun p : Lab => [Value.string p.1, Value.string p.2]) p).length = 2 := rfl
theorem lbls_len (l : List Lab) : (lbls l).length = l.length * 2 := by
  induction l with
  | nil => rfl
  | cons p l ih => unfold lbls at ih ⊢; rw [List.flatMap_cons, List.length_append, ih, List.length_cons]; simp; omega
theorem lbls_app (a b : List Lab) : lbls (a ++ b) = lbls a ++ lbls b := by unfold lbls; rw [List.flatMap_append]
theorem lbls_get (l : List Lab) : ∀ (k : Nat) (p : Lab), l[k]? = some p → (lbls l)[k * 2]? = some (.string p.1) ∧ (lbls l)[k * 2 + 1]? = some (.string p.2) := by
  induction l with
  | nil => intro k p h; simp at h
  | cons q l ih =>
    intro k p h
    cases k with
    | zero => simp at h; subst h; exact ⟨rfl, rfl⟩
    | succ k =>
      have := ih k p (by simpa using h)
      have e : ∀ j, (lbls (q :: l))[(k + 1) * 2 + j]? = (lbls l)[k * 2 + j]? := fun j => by
        unfold lbls
        rw [List.flatMap_cons, List.getElem?_append_right (by simp; omega), show (k + 1) * 2 + j - ((fun p : Lab => [Value.string p.1, Value.string p.2]) q).length = k * 2 + j from by simp; omega]
      have e0 := e 0
      simp only [Nat.add_zero] at e0
      rw [e0, e 1]
      exact this
theorem lbls_one (l : List Lab) : ∀ u ∈ lbls l, u.oneCell' = true := by
  intro u hu
  obtain ⟨p, _, hp⟩ := List.mem_flatMap.1 hu
  simp at hp
  rcases hp with rfl | rfl <;> rfl
section
variable {w : World} {B n : Nat} {A : Option Addr}
theorem Rd.lab_len {l : List Lab} (h : Rd w B 2 A n (lbls l)) : l.length = n := by have := h.1; rw [lbls_len] at this; omega
/-- Element k of such a slice. -/
theorem Rd.lab_at {l : List Lab} {k : Nat} (h : Rd w B 2 A n (lbls l)) (hk : k < n) : ∃ b0 off x y, A = some ⟨b0, off, none⟩ ∧ b0 < B ∧ l[k]? = some ((x, y) : Lab) ∧ w.cell? ⟨b0, off + k * 2, none⟩ = some (.string x) ∧ w.cell? ⟨b0, off + k * 2 + 1, none⟩ = some (.string y) := by
  obtain ⟨b0, off, e, hb, hc⟩ := h.2 (by omega)
  have hl : k < l.length := by have := h.lab_len; omega
  have hg := lbls_get l k l[k] (List.getElem?_eq_getElem hl)
  exact ⟨b0, off, l[k].1, l[k].2, e, hb, List.getElem?_eq_getElem hl, hc _ _ hg.1, hc _ _ hg.2⟩
end

theorem infoLabel : (Tryd.prog.info? 48).map (fun i => (i.zero, i.size, i.bytes)) = some (some (.agg #[.string .empty, .string .empty]), 2, 32) := by kernel_rfl
set_option maxRecDepth 100000 in
set_option maxHeartbeats 1000000 in
theorem eqLabel_same (x : ByteArray) (y : ByteArray) (w : World) : Calls Tryd.prog 32 #[.agg #[.string x, .string y], .agg #[.string x, .string y]] w fun e w' => e = .returned (.bool true) ∧ Below w.heap.size w w' := by
  go_enter Tryd.func32, Tryd.ntmps32
  go_wp2
  go_ret
  exact ⟨rfl, below2 _ _⟩

set_option maxRecDepth 100000 in
set_option maxHeartbeats 4000000 in
theorem eqLabelS_same (B : Nat) (A A' : Option Addr) (n c c' : Nat) (l : List Lab) (w : World) (hBw : B ≤ w.heap.size) (h : Rd w B 2 A n (lbls l)) (h' : Rd w B 2 A' n (lbls l)) (hn : n ≤ 1048576) :
    Calls Tryd.prog 9 #[.slice A n c, .slice A' n c'] w fun e w' => e = .returned (.bool true) ∧ Below w.heap.size w w' := by
  have H := Lib.hid h
  have H' := Lib.hid h'
  clear h h'
  go_enter Tryd.func9, Tryd.ntmps9
  go_wp2
  go_loopw [5] (fun i wr => ∃ k : Nat, k ≤ n ∧ i = .int .i64 k ∧ Below w.heap.size w wr) (fun i _ => n - (intOf i).toNat)
  case atStart => exact ⟨0, Nat.zero_le _, rfl, Below.refl _ _⟩
  case round =>
    obtain ⟨k, hk, rfl, hb⟩ := hrel
    have HB := Lib.hid hb
    have hsz := hb.size
    clear hb
    by_cases hlt : k < n
    · obtain ⟨b0, off, x, y, rfl, hbB, hx, hc0, hc1⟩ := H.out.lab_at hlt
      obtain ⟨b0', off', x', y', rfl, hbB', hx', hc0', hc1'⟩ := H'.out.lab_at hlt
      obtain ⟨rfl, rfl⟩ : x = x' ∧ y = y' := by rw [hx] at hx'; simpa using hx'
      have d0 := beyond_cell (B := wr.heap.size) (W := wr) ((bcell HB.out _ _ (by omega)).trans hc0) (by omega)
      have d1 := beyond_cell (B := wr.heap.size) (W := wr) ((bcell HB.out _ _ (by omega)).trans hc1) (by omega)
      have d0' := beyond_cell (B := wr.heap.size) (W := wr) ((bcell HB.out _ _ (by omega)).trans hc0') (by omega)
      have d1' := beyond_cell (B := wr.heap.size) (W := wr) ((bcell HB.out _ _ (by omega)).trans hc1') (by omega)
      clear hx hx' hc0 hc0' hc1 hc1'
      go_wp2_with fail
      refine wp_region_beyond (B := wr.heap.size) (W := wr) (Below.refl _ _) (by kernel_rfl) (by kernel_rfl) ?_
      repeat (go_big_quiet_step ((go_at_call 32; exact calls_beyond (Nat.le_refl _) (eqLabel_same _ _ _))))
      refine wpQuiet_nil ?_
      intro _ hw'
      obtain ⟨z, rfl⟩ := hw'
      have HBz := Lib.hid (HB.out.trans (z.2.mono hsz))
      generalize z.1 = wz at HBz ⊢
      clear d0 d0' d1 d1'
      go_wp2
      go_roundw
      case rel => exact ⟨k + 1, by omega, by go_num, HBz.out⟩
      case measure => simp [intOf]; omega
    · go_wp2
      go_ret
      exact ⟨rfl, HB.out⟩

theorem eq_Label (B B' : Nat) (A A' : Option Addr) (n c c' : Nat) (l : List Lab) (w : World) (hB : B ≤ w.heap.size) (hB' : B' ≤ w.heap.size) (h : Rd w B 2 A n (lbls l)) (h' : Rd w B' 2 A' n (lbls l)) (hn : n ≤ 1048576) :
    Calls Tryd.prog 9 #[.slice A n c, .slice A' n c'] w fun e w' => e = .returned (.bool true) ∧ Ch 0 0 w w' :=
  (eqLabelS_same (max B B') A A' n c c' l w (Nat.max_le.2 ⟨hB, hB'⟩) (h.more (Nat.le_max_left ..)) (h'.more (Nat.le_max_right ..)) hn).mono fun _ _ ⟨he, hq⟩ => ⟨he, Ch.of_below hq⟩
/-- What marking writes. -/
def marksLabel (k : Int) (n : Nat) : List Lab := (List.range n).map fun (i : Nat) => ((markS (k + 2 * (i : Int)), markS (k + 2 * (i : Int) + 1)) : Lab)
theorem marksLabel_len (k : Int) (n : Nat) : (marksLabel k n).length = n := by simp [marksLabel]
theorem marksLabel_get (k : Int) (n i : Nat) (h : i < n) : (marksLabel k n)[i]? = some ((markS (k + 2 * (i : Int)), markS (k + 2 * (i : Int) + 1)) : Lab) := by simp [marksLabel, h]
set_option maxRecDepth 100000 in
set_option maxHeartbeats 4000000 in
theorem markLabelS_any (base : Nat) (A : Option Addr) (n c : Nat) (l : List Lab) (k : Int) (w : World) (h : w.ownsRow base 48 2 (.slice A n c) n (lbls l)) (hn : n ≤ 1048576) (hk0 : 0 ≤ k) (hk1 : k ≤ 1099511627776) :
    Calls Tryd.prog 10 #[.slice A n c, .int .i64 k] w fun e w' => e = .returned (.int .i64 (k + 2 * n)) ∧
      w'.ownsRow base 48 2 (.slice A n c) n (lbls (marksLabel k n)) ∧ w.grownBy w' (Value.slice A n c).ownBlock := by
  have hlen : (lbls l).length = n * 2 := h.1
  have HL := Lib.hid (show (lbls (marksLabel k n)).length = (lbls l).length by rw [hlen, lbls_len, marksLabel_len])
  have HN := Lib.hid hlen
  have H := Lib.hid h
  clear h hlen
  go_enter Tryd.func10, Tryd.ntmps10
  go_wp2
  go_loopw [1, 5] (fun m i wr => ∃ j : Nat, j ≤ n ∧ i = .int .i64 j ∧ m = .int .i64 (k + 2 * j) ∧ wr.ownsRow base 48 2 (.slice A n c) n (mixV (lbls (marksLabel k n)) (lbls l) (j * 2)) ∧ w.grownBy wr (Value.slice A n c).ownBlock) (fun _ i _ => n - (intOf i).toNat)
  case atStart => exact ⟨0, Nat.zero_le _, rfl, by simp, by rw [Nat.zero_mul, mixV_zero]; exact H.out, World.grownBy.refl _ _⟩
  case round =>
    obtain ⟨j, hj, rfl, rfl, ho, hb⟩ := hrel
    by_cases hlt : j < n
    · obtain ⟨g, cap, hv, hbg, hgl, _, _⟩ := own_form ho (by omega)
      obtain ⟨rfl, rfl⟩ : A = some ⟨g, 0, none⟩ ∧ c = cap := by simpa using hv
      clear hv
      have hzl := HN.out
      have hml := mixV_len (k := j * 2) HL.out
      have HG := Lib.hid hbg
      obtain ⟨hg0, hg1⟩ := lbls_get (marksLabel k n) j _ (marksLabel_get k n j hlt)
      have hgw : g < wr.heap.size := hgl
      have HO0 := Lib.hid ho
      have HQ0 := Lib.hid hb
      clear ho hb
      go_wp2_with fail
      refine (markText_any _ _ (by omega) (by omega)).mono ?_
      rintro e v0 ⟨rfl, hbt0⟩
      have oa0 := grown_text HO0.out hbt0
      have qa0 := text_grown HQ0.out hbt0
      have hsv0 := hbt0.size
      clear hbt0
      have hf0 := oa0.frozenAt (j * 2)
      obtain ⟨u0, hu0⟩ : ∃ u, v0.cell? ⟨g, j * 2, none⟩ = some u := by
        rw [World.ownsRow.cellAt oa0 (j * 2) (by omega)]
        exact ⟨_, List.getElem?_eq_getElem (by omega)⟩
      have ob0 := (World.ownsRow.stored oa0 (j * 2) (.string (markS (k + 2 * j)))).1
      have qb0 := (qa0).trans (World.ownsRow.stored oa0 (j * 2) (.string (markS (k + 2 * j)))).2
      rw [mixV_set HL.out hg0] at ob0
      have hml0 := mixV_len (k := j * 2 + 1) HL.out
      clear oa0 qa0
      have HO1 := Lib.hid ob0
      have HQ1 := Lib.hid qb0
      clear ob0 qb0
      go_wp2_with fail
      refine (markText_any _ _ (by omega) (by omega)).mono ?_
      rintro e v1 ⟨rfl, hbt1⟩
      have oa1 := grown_text HO1.out hbt1
      have qa1 := text_grown HQ1.out hbt1
      have hsv1 := hbt1.size
      clear hbt1
      have hf1 := oa1.frozenAt (j * 2 + 1)
      obtain ⟨u1, hu1⟩ : ∃ u, v1.cell? ⟨g, j * 2 + 1, none⟩ = some u := by
        rw [World.ownsRow.cellAt oa1 (j * 2 + 1) (by omega)]
        exact ⟨_, List.getElem?_eq_getElem (by omega)⟩
      have ob1 := (World.ownsRow.stored oa1 (j * 2 + 1) (.string (markS (k + 2 * j + 1)))).1
      have qb1 := (qa1).trans (World.ownsRow.stored oa1 (j * 2 + 1) (.string (markS (k + 2 * j + 1)))).2
      rw [mixV_set HL.out hg1] at ob1
      have hml1 := mixV_len (k := j * 2 + 1 + 1) HL.out
      clear oa1 qa1
      have HOz := Lib.hid ob1
      have HQz := Lib.hid qb1
      clear ob1 qb1 hml hml0 hml1 hzl
      clear hg0 hg1
      go_wp2
      go_roundw
      case rel => exact ⟨j + 1, by omega, by go_num, by go_num, by rw [show (j + 1) * 2 = j * 2 + 1 + 1 from by omega]; exact HOz.out, HQz.out⟩
      case measure => simp [intOf]; omega
    · have hk' : j = n := by omega
      subst hk'
      go_wp2
      go_ret
      refine ⟨rfl, ?_, hb⟩
      rwa [mixV_all HL.out (by rw [HL.out, HN.out]; exact Nat.le_refl _)] at ho
set_option maxRecDepth 100000 in
set_option maxHeartbeats 4000000 in
theorem heldLabelS_any (B : Nat) (A : Option Addr) (n c : Nat) (k : Int) (w : World) (hBw : B ≤ w.heap.size) (h : Rd w B 2 A n (lbls (marksLabel k n))) (hn : n ≤ 1048576) (hk0 : 0 ≤ k) (hk1 : k ≤ 1099511627776) :
    Calls Tryd.prog 11 #[.slice A n c, .int .i64 k] w fun e w' => e = .returned (.int .i64 (k + 2 * n)) ∧ Below w.heap.size w w' := by
  have H := Lib.hid h
  clear h
  go_enter Tryd.func11, Tryd.ntmps11
  go_wp2
  go_loopw [1, 5] (fun m i wr => ∃ j : Nat, j ≤ n ∧ i = .int .i64 j ∧ m = .int .i64 (k + 2 * j) ∧ Below w.heap.size w wr) (fun _ i _ => n - (intOf i).toNat)
  case atStart => exact ⟨0, Nat.zero_le _, rfl, by simp, Below.refl _ _⟩
  case round =>
    obtain ⟨j, hj, rfl, rfl, hb⟩ := hrel
    have HB := Lib.hid hb
    have hsz := hb.size
    clear hb
    by_cases hlt : j < n
    · obtain ⟨b0, off, x, y, rfl, hbB, hx, hc0, hc1⟩ := H.out.lab_at hlt
      obtain ⟨rfl, rfl⟩ : x = markS (k + 2 * j) ∧ y = markS (k + 2 * j + 1) := by rw [marksLabel_get k n j hlt] at hx; simp at hx; exact ⟨hx.1.symm, hx.2.symm⟩
      clear hx
      have he0 := (bcell HB.out _ _ (by omega)).trans hc0
      have he1 := (bcell HB.out _ _ (by omega)).trans hc1
      clear hc0 hc1
      go_wp2_with fail
      have d0 := beyond_cell (B := wr.heap.size) (W := wr) he0 (by omega)
      refine wp_region_beyond (B := wr.heap.size) (W := wr) (Below.refl _ _) (by kernel_rfl) (by kernel_rfl) ?_
      repeat (go_big_quiet_step ((go_at_call 33; exact calls_beyond (Nat.le_refl _) (markText_any _ _ (by omega) (by omega)))))
      refine wpQuiet_nil ?_
      intro _ hw'
      obtain ⟨z, rfl⟩ := hw'
      have HZ0 := Lib.hid z.2
      generalize z.1 = wz0 at HZ0 ⊢
      have hzswz0 := HZ0.out.size
      clear d0
      go_wp2_with fail
      have d1 := beyond_cell (B := wr.heap.size) (W := wz0) ((bcell HZ0.out _ _ (by omega)).trans he1) (by omega)
      refine wp_region_beyond (B := wr.heap.size) (W := wz0) (Below.refl _ _) (by kernel_rfl) (by kernel_rfl) ?_
      repeat (go_big_quiet_step ((go_at_call 33; exact calls_beyond hzswz0 (markText_any _ _ (by omega) (by omega)))))
      refine wpQuiet_nil ?_
      intro _ hw'
      obtain ⟨z, rfl⟩ := hw'
      have HZ1 := Lib.hid (HZ0.out.trans z.2)
      generalize z.1 = wz1 at HZ1 ⊢
      have hzswz1 := HZ1.out.size
      clear d1
      go_wp2
      go_roundw
      case rel => exact ⟨j + 1, by omega, by go_num, by go_num, HB.out.trans (HZ1.out.mono hsz)⟩
      case measure => simp [intOf]; omega
    · have hk' : j = n := by omega
      subst hk'
      go_wp2
      go_ret
      exact ⟨rfl, HB.out⟩
theorem mh_Label (n : Nat) (k : Int) (hn : n ≤ 1048576) (hk0 : 0 ≤ k) (hk1 : k ≤ 1099511627776) : ∃ (m : Int) (ms : List Value), k ≤ m ∧ m ≤ k + 8388608 ∧
    (∀ lo hi A c l w, Row 48 2 lo hi A n c (lbls l) w → Calls Tryd.prog 10 #[.slice A n c, .int .i64 k] w fun e w' => e = .returned (.int .i64 m) ∧ Row 48 2 lo hi A n c ms w' ∧ Ch lo hi w w') ∧
    (∀ B A c w, B ≤ w.heap.size → Rd w B 2 A n ms → Calls Tryd.prog 11 #[.slice A n c, .int .i64 k] w fun e w' => e = .returned (.int .i64 m) ∧ Ch 0 0 w w') := by
  refine ⟨k + 2 * n, lbls (marksLabel k n), by omega, by omega, fun lo hi A c l w h => ?_, fun B A c w hB h => ?_⟩
  · refine (markLabelS_any lo A n c l k w h.1 hn hk0 hk1).mono fun e w' ⟨he, ho, hg⟩ => ⟨he, ⟨ho, Nat.le_trans h.2.1 hg.size, h.2.2⟩, Ch.of_grown hg fun g hg' => ⟨(h.1.lt g hg').1, h.2.2 g hg'⟩⟩
  · exact (heldLabelS_any B A n c k w hB h hn hk0 hk1).mono fun e w' ⟨he, hw⟩ => ⟨he, Ch.of_below hw⟩
def lblSz1 (p : Lab) : Nat := p.1.size + p.2.size
/-- What such a slice holds: elements and letters. -/
def lblSz (l : List Lab) : Nat := l.length + (l.map lblSz1).sum
theorem lblSz_le {l : List Lab} : l.length ≤ lblSz l := Nat.le_add_right _ _
theorem lblSz_take {l : List Lab} {k : Nat} {p : Lab} (h : l[k]? = some p) : ((l.take (k + 1)).map lblSz1).sum = ((l.take k).map lblSz1).sum + lblSz1 p := by rw [take_snoc' l k p h, List.map_append, List.sum_append]; simp
theorem lblSz_pre (l : List Lab) (k : Nat) : ((l.take k).map lblSz1).sum ≤ (l.map lblSz1).sum := by
  have h : l = l.take k ++ l.drop k := (List.take_append_drop k l).symm
  have e : (l.map lblSz1).sum = ((l.take k).map lblSz1).sum + ((l.drop k).map lblSz1).sum := by rw [← List.sum_append, ← List.map_append, ← h]
  omega
def lblSzOk (l : List Lab) : Prop := ∀ p ∈ l, p.1.size ≤ 9223372036854775807 ∧ p.2.size ≤ 9223372036854775807
theorem sz_Label_ge {w : World} {B n : Nat} {A : Option Addr} {l : List Lab} (h : Rd w B 2 A n (lbls l)) : n ≤ lblSz l := by have := h.lab_len; have := @lblSz_le l; omega
end Go.Proofs.YtjokpbopceolcaaDoor
