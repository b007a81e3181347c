/- The laws' helpers on slices of labels: copying, comparing, marking, holding, measuring. Written by a program of mine (mkrec.py). -/
import Derived.Test.YtpdclppieicaeaaRowInts
import Derived.Test.YtpdclppieicaeaaBeyond
import Derived.Test.YtpdclppieicaeaaMark
import Derived.Test.YtpdclppieicaeaaLabPlain
namespace Go.Proofs.Ytpdclppieicaeaa
set_option linter.unusedVariables false
set_option linter.unusedSimpArgs false
open Go.RowKit

theorem lbls_cells (p : Lab) : ((fun p : Lab => [Value.string p.1, Value.string p.2]) p).length = 2 := rfl
theorem lbls_len (l : List Lab) : (lbls l).length = l.length * 2 := by
  induction l with
  | nil => rfl
  | cons p l ih => unfold lbls at ih ⊢; rw [List.flatMap_cons, List.length_append, ih, List.length_cons]; simp; omega
theorem lbls_app (a b : List Lab) : lbls (a ++ b) = lbls a ++ lbls b := by unfold lbls; rw [List.flatMap_append]
theorem lbls_get (l : List Lab) : ∀ (k : Nat) (p : Lab), l[k]? = some p → (lbls l)[k * 2]? = some (.string p.1) ∧ (lbls l)[k * 2 + 1]? = some (.string p.2) := by
  induction l with
  | nil => intro k p h; simp at h
  | cons q l ih =>
    intro k p h
    cases k with
    | zero => simp at h; subst h; exact ⟨rfl, rfl⟩
    | succ k =>
      have := ih k p (by simpa using h)
      have e : ∀ j, (lbls (q :: l))[(k + 1) * 2 + j]? = (lbls l)[k * 2 + j]? := fun j => by
        unfold lbls
        rw [List.flatMap_cons, List.getElem?_append_right (by simp; omega), show (k + 1) * 2 + j - ((fun p : Lab => [Value.string p.1, Value.string p.2]) q).length = k * 2 + j from by simp; omega]
      have e0 := e 0
      simp only [Nat.add_zero] at e0
      rw [e0, e 1]
      exact this
theorem lbls_one (l : List Lab) : ∀ u ∈ lbls l, u.oneCell' = true := by
  intro u hu
  obtain ⟨p, _, hp⟩ := List.mem_flatMap.1 hu
  simp at hp
  rcases hp with rfl | rfl <;> rfl
section
variable {w : World} {B n : Nat} {A : Option Addr}
theorem Rd.lab_len {l : List Lab} (h : Rd w B 2 A n (lbls l)) : l.length = n := by have := h.1; rw [lbls_len] at this; omega
/-- Element k of such a slice. -/
theorem Rd.lab_at {l : List Lab} {k : Nat} (h : Rd w B 2 A n (lbls l)) (hk : k < n) : ∃ b0 off x y, A = some ⟨b0, off, none⟩ ∧ b0 < B ∧ l[k]? = some ((x, y) : Lab) ∧ w.cell? ⟨b0, off + k * 2, none⟩ = some (.string x) ∧ w.cell? ⟨b0, off + k * 2 + 1, none⟩ = some (.string y) := by
  obtain ⟨b0, off, e, hb, hc⟩ := h.2 (by omega)
  have hl : k < l.length := by have := h.lab_len; omega
  have hg := lbls_get l k l[k] (List.getElem?_eq_getElem hl)
  exact ⟨b0, off, l[k].1, l[k].2, e, hb, List.getElem?_eq_getElem hl, hc _ _ hg.1, hc _ _ hg.2⟩
end

theorem infoLabel : (Try.prog.info? 32).map (fun i => (i.zero, i.size, i.bytes)) = some (some (.agg #[.string .empty, .string .empty]), 2, 32) := by kernel_rfl
set_option maxRecDepth 100000 in
set_option maxHeartbeats 1000000 in
theorem toLabel_any (x : ByteArray) (y : ByteArray) (w : World) : Calls Try.prog 10 #[.agg #[.string x, .string y]] w fun e w' => e = .returned (.agg #[.string x, .string y]) ∧ Below w.heap.size w w' := by
  go_enter Try.func10, Try.ntmps10
  go_wp2
  exact bodyPost_ret (v := .agg #[.string x, .string y]) (by simp [results, Try.results10, go_sem]) rfl ⟨rfl, below3 _ _ _⟩

set_option maxRecDepth 100000 in
set_option maxHeartbeats 1000000 in
theorem eqLabel_same (x : ByteArray) (y : ByteArray) (w : World) : Calls Try.prog 66 #[.agg #[.string x, .string y], .agg #[.string x, .string y]] w fun e w' => e = .returned (.bool true) ∧ Below w.heap.size w w' := by
  go_enter Try.func66, Try.ntmps66
  go_wp2
  go_ret
  exact ⟨rfl, below2 _ _⟩

set_option maxRecDepth 100000 in
set_option maxHeartbeats 4000000 in
theorem toLabelS_any (B : Nat) (A : Option Addr) (n c : Nat) (l : List Lab) (w : World) (hBw : B ≤ w.heap.size) (h : Rd w B 2 A n (lbls l)) (hn : n ≤ 1048576) :
    Calls Try.prog 38 #[.slice A n c] w fun e w' => e = .returned (.slice (some ⟨w.heap.size, 0, none⟩) n n) ∧
      w'.ownsRow w.heap.size 32 2 (.slice (some ⟨w.heap.size, 0, none⟩) n n) n (lbls l) ∧ Below w.heap.size w w' := by
  obtain ⟨i0, hi, hz0, hz1, hz2⟩ := info_parts infoLabel
  have hlen := h.lab_len
  have HL := Lib.hid hlen
  clear hlen
  have H := Lib.hid h
  clear h
  go_enter Try.func38, Try.ntmps38
  go_wp2_with (at_make; refine wpList_make_full _ rfl (.tmp 6) (.tmp 6) 66 rfl w.heap.size 32 i0 (.agg #[.string .empty, .string .empty]) 2 Try.underlying66 hi hz0 hz1 _ _ _ _ n rfl rfl rfl rfl (by rw [hz2]; omega) (by unfold maxLen; omega) (Nat.le_refl _) ?_; intro w1 hown hgrow)
  have hb1 : Below w.heap.size w w1 := (Below.refl _ _).grown hgrow (Nat.le_refl _) (by simp)
  obtain ⟨Z, hZ⟩ : ∃ Z, Z = (madeCells (Value.cells (.agg #[.string .empty, .string .empty])) (n * 2)).toList := ⟨_, rfl⟩
  rw [← hZ] at hown
  have HZ := Lib.hid (show (lbls l).length = Z.length by have := hown.1; rw [this, lbls_len, HL.out])
  clear hZ
  have HO := Lib.hid (show w1.ownsRow w.heap.size 32 2 (.slice (some ⟨w.heap.size, 0, none⟩) n n) n (mixV (lbls l) Z 0) by rw [mixV_zero]; exact hown)
  clear hown hgrow hi hz0 hz1 hz2
  have HB := Lib.hid hb1
  clear hb1
  go_loopw [4] (fun i wr => ∃ k : Nat, k ≤ n ∧ i = .int .i64 k ∧ wr.ownsRow w.heap.size 32 2 (.slice (some ⟨w.heap.size, 0, none⟩) n n) n (mixV (lbls l) Z (k * 2)) ∧ Below w.heap.size w wr) (fun i _ => n - (intOf i).toNat)
  case atStart => exact ⟨0, Nat.zero_le _, rfl, by rw [Nat.zero_mul]; exact HO.out, HB.out⟩
  case round =>
    clear HO HB
    obtain ⟨k, hk, rfl, ho, hb⟩ := hrel
    have HO := Lib.hid ho
    have HB := Lib.hid hb
    clear ho hb
    by_cases hlt : k < n
    · obtain ⟨b0, off, x, y, rfl, hbB, hx, hc0, hc1⟩ := H.out.lab_at hlt
      have hd0 : wr.cell? ⟨b0, off + k * 2, none⟩ = some (.string x) := (bcell HB.out _ _ (by omega)).trans hc0
      have hd1 : wr.cell? ⟨b0, off + k * 2 + 1, none⟩ = some (.string y) := (bcell HB.out _ _ (by omega)).trans hc1
      have HX := Lib.hid hx
      clear hx hc0 hc1
      go_wp2_with fail
      refine (toLabel_any x y _).mono ?_
      rintro e w2 ⟨rfl, hb2⟩
      have ho2 := own_below HO.out hb2 (Nat.le_refl _)
      have HB2 := Lib.hid (HB.out.trans (hb2.mono HB.out.size))
      have hml := mixV_len (k := k * 2) HZ.out
      have hzl : Z.length = n * 2 := by rw [← HZ.out, lbls_len, HL.out]
      have hf0 := ho2.frozenAt (k * 2)
      have hf1 := ho2.frozenAt (k * 2 + 1)
      obtain ⟨u0, hu0⟩ : ∃ u, w2.cell? ⟨w.heap.size, k * 2, none⟩ = some u := by
        rw [ho2.cellAt (k * 2) (by omega)]
        exact ⟨_, List.getElem?_eq_getElem (by omega)⟩
      obtain ⟨u1, hu1⟩ : ∃ u, w2.cell? ⟨w.heap.size, k * 2 + 1, none⟩ = some u := by
        rw [ho2.cellAt (k * 2 + 1) (by omega)]
        exact ⟨_, List.getElem?_eq_getElem (by omega)⟩
      have HO2 := Lib.hid ho2
      clear hb2 ho2 hml hzl
      go_wp2
      go_roundw
      case rel =>
        obtain ⟨hg0, hg1⟩ := lbls_get l k (x, y) HX.out
        have s0 := (World.ownsRow.stored HO2.out (k * 2) (.string x)).1
        rw [mixV_set HZ.out hg0] at s0
        have s1 := (World.ownsRow.stored s0 (k * 2 + 1) (.string y)).1
        rw [mixV_set HZ.out hg1] at s1
        exact ⟨k + 1, by omega, by go_num, by rw [show (k + 1) * 2 = k * 2 + 1 + 1 from by omega]; exact s1, ((HB2.out.setCell (Nat.le_refl _) _).setCell (Nat.le_refl _) _)⟩
      case measure => simp [intOf]; omega
    · have hk' : k = n := by omega
      subst hk'
      go_wp2
      go_ret
      refine ⟨rfl, ?_, HB.out⟩
      have := HO.out
      rwa [mixV_all HZ.out (by rw [lbls_len]; have := HL.out; omega)] at this

set_option maxRecDepth 100000 in
set_option maxHeartbeats 4000000 in
theorem eqLabelS_same (B : Nat) (A A' : Option Addr) (n c c' : Nat) (l : List Lab) (w : World) (hBw : B ≤ w.heap.size) (h : Rd w B 2 A n (lbls l)) (h' : Rd w B 2 A' n (lbls l)) (hn : n ≤ 1048576) :
    Calls Try.prog 42 #[.slice A n c, .slice A' n c'] w fun e w' => e = .returned (.bool true) ∧ Below w.heap.size w w' := by
  have H := Lib.hid h
  have H' := Lib.hid h'
  clear h h'
  go_enter Try.func42, Try.ntmps42
  go_wp2
  go_loopw [5] (fun i wr => ∃ k : Nat, k ≤ n ∧ i = .int .i64 k ∧ Below w.heap.size w wr) (fun i _ => n - (intOf i).toNat)
  case atStart => exact ⟨0, Nat.zero_le _, rfl, Below.refl _ _⟩
  case round =>
    obtain ⟨k, hk, rfl, hb⟩ := hrel
    have HB := Lib.hid hb
    have hsz := hb.size
    clear hb
    by_cases hlt : k < n
    · obtain ⟨b0, off, x, y, rfl, hbB, hx, hc0, hc1⟩ := H.out.lab_at hlt
      obtain ⟨b0', off', x', y', rfl, hbB', hx', hc0', hc1'⟩ := H'.out.lab_at hlt
      obtain ⟨rfl, rfl⟩ : x = x' ∧ y = y' := by rw [hx] at hx'; simpa using hx'
      have d0 := beyond_cell (B := wr.heap.size) (W := wr) ((bcell HB.out _ _ (by omega)).trans hc0) (by omega)
      have d1 := beyond_cell (B := wr.heap.size) (W := wr) ((bcell HB.out _ _ (by omega)).trans hc1) (by omega)
      have d0' := beyond_cell (B := wr.heap.size) (W := wr) ((bcell HB.out _ _ (by omega)).trans hc0') (by omega)
      have d1' := beyond_cell (B := wr.heap.size) (W := wr) ((bcell HB.out _ _ (by omega)).trans hc1') (by omega)
      clear hx hx' hc0 hc0' hc1 hc1'
      go_wp2_with fail
      refine wp_region_beyond (B := wr.heap.size) (W := wr) (Below.refl _ _) (by kernel_rfl) (by kernel_rfl) ?_
      repeat (go_big_quiet_step ((go_at_call 66; exact calls_beyond (Nat.le_refl _) (eqLabel_same _ _ _))))
      refine wpQuiet_nil ?_
      intro _ hw'
      obtain ⟨z, rfl⟩ := hw'
      have HBz := Lib.hid (HB.out.trans (z.2.mono hsz))
      generalize z.1 = wz at HBz ⊢
      clear d0 d0' d1 d1'
      go_wp2
      go_roundw
      case rel => exact ⟨k + 1, by omega, by go_num, HBz.out⟩
      case measure => simp [intOf]; omega
    · go_wp2
      go_ret
      exact ⟨rfl, HB.out⟩

theorem to_Label (B : Nat) (A : Option Addr) (n c : Nat) (l : List Lab) (w : World) (hB : B ≤ w.heap.size) (h : Rd w B 2 A n (lbls l)) (hn : n ≤ 1048576) :
    Calls Try.prog 38 #[.slice A n c] w fun e w' => ∃ A' c', e = .returned (.slice A' n c') ∧ Row 32 2 w.heap.size w'.heap.size A' n c' (lbls l) w' ∧ Ch 0 0 w w' :=
  (toLabelS_any B A n c l w hB h hn).mono fun _ _ ⟨he, ho, hb⟩ => ⟨_, _, he, Row.of_own ho, Ch.of_below hb⟩
theorem eq_Label (B B' : Nat) (A A' : Option Addr) (n c c' : Nat) (l : List Lab) (w : World) (hB : B ≤ w.heap.size) (hB' : B' ≤ w.heap.size) (h : Rd w B 2 A n (lbls l)) (h' : Rd w B' 2 A' n (lbls l)) (hn : n ≤ 1048576) :
    Calls Try.prog 42 #[.slice A n c, .slice A' n c'] w fun e w' => e = .returned (.bool true) ∧ Ch 0 0 w w' :=
  (eqLabelS_same (max B B') A A' n c c' l w (Nat.max_le.2 ⟨hB, hB'⟩) (h.more (Nat.le_max_left ..)) (h'.more (Nat.le_max_right ..)) hn).mono fun _ _ ⟨he, hq⟩ => ⟨he, Ch.of_below hq⟩
/-- What marking writes. -/
def marksLabel (k : Int) (n : Nat) : List Lab := (List.range n).map fun (i : Nat) => ((markS (k + 2 * (i : Int)), markS (k + 2 * (i : Int) + 1)) : Lab)
theorem marksLabel_len (k : Int) (n : Nat) : (marksLabel k n).length = n := by simp [marksLabel]
theorem marksLabel_get (k : Int) (n i : Nat) (h : i < n) : (marksLabel k n)[i]? = some ((markS (k + 2 * (i : Int)), markS (k + 2 * (i : Int) + 1)) : Lab) := by simp [marksLabel, h]
set_option maxRecDepth 100000 in
set_option maxHeartbeats 4000000 in
theorem markLabelS_any (base : Nat) (A : Option Addr) (n c : Nat) (l : List Lab) (k : Int) (w : World) (h : w.ownsRow base 32 2 (.slice A n c) n (lbls l)) (hn : n ≤ 1048576) (hk0 : 0 ≤ k) (hk1 : k ≤ 1099511627776) :
    Calls Try.prog 43 #[.slice A n c, .int .i64 k] w fun e w' => e = .returned (.int .i64 (k + 2 * n)) ∧
      w'.ownsRow base 32 2 (.slice A n c) n (lbls (marksLabel k n)) ∧ w.grownBy w' (Value.slice A n c).ownBlock := by
  have hlen : (lbls l).length = n * 2 := h.1
  have HL := Lib.hid (show (lbls (marksLabel k n)).length = (lbls l).length by rw [hlen, lbls_len, marksLabel_len])
  have HN := Lib.hid hlen
  have H := Lib.hid h
  clear h hlen
  go_enter Try.func43, Try.ntmps43
  go_wp2
  go_loopw [1, 5] (fun m i wr => ∃ j : Nat, j ≤ n ∧ i = .int .i64 j ∧ m = .int .i64 (k + 2 * j) ∧ wr.ownsRow base 32 2 (.slice A n c) n (mixV (lbls (marksLabel k n)) (lbls l) (j * 2)) ∧ w.grownBy wr (Value.slice A n c).ownBlock) (fun _ i _ => n - (intOf i).toNat)
  case atStart => exact ⟨0, Nat.zero_le _, rfl, by simp, by rw [Nat.zero_mul, mixV_zero]; exact H.out, World.grownBy.refl _ _⟩
  case round =>
    obtain ⟨j, hj, rfl, rfl, ho, hb⟩ := hrel
    by_cases hlt : j < n
    · obtain ⟨g, cap, hv, hbg, hgl, _, _⟩ := own_form ho (by omega)
      obtain ⟨rfl, rfl⟩ : A = some ⟨g, 0, none⟩ ∧ c = cap := by simpa using hv
      clear hv
      have hzl := HN.out
      have hml := mixV_len (k := j * 2) HL.out
      have HG := Lib.hid hbg
      obtain ⟨hg0, hg1⟩ := lbls_get (marksLabel k n) j _ (marksLabel_get k n j hlt)
      have hgw : g < wr.heap.size := hgl
      have HO0 := Lib.hid ho
      have HQ0 := Lib.hid hb
      clear ho hb
      go_wp2_with fail
      refine (markText_any _ _ (by omega) (by omega)).mono ?_
      rintro e v0 ⟨rfl, hbt0⟩
      have oa0 := grown_text HO0.out hbt0
      have qa0 := text_grown HQ0.out hbt0
      have hsv0 := hbt0.size
      clear hbt0
      have hf0 := oa0.frozenAt (j * 2)
      obtain ⟨u0, hu0⟩ : ∃ u, v0.cell? ⟨g, j * 2, none⟩ = some u := by
        rw [World.ownsRow.cellAt oa0 (j * 2) (by omega)]
        exact ⟨_, List.getElem?_eq_getElem (by omega)⟩
      have ob0 := (World.ownsRow.stored oa0 (j * 2) (.string (markS (k + 2 * j)))).1
      have qb0 := (qa0).trans (World.ownsRow.stored oa0 (j * 2) (.string (markS (k + 2 * j)))).2
      rw [mixV_set HL.out hg0] at ob0
      have hml0 := mixV_len (k := j * 2 + 1) HL.out
      clear oa0 qa0
      have HO1 := Lib.hid ob0
      have HQ1 := Lib.hid qb0
      clear ob0 qb0
      go_wp2_with fail
      refine (markText_any _ _ (by omega) (by omega)).mono ?_
      rintro e v1 ⟨rfl, hbt1⟩
      have oa1 := grown_text HO1.out hbt1
      have qa1 := text_grown HQ1.out hbt1
      have hsv1 := hbt1.size
      clear hbt1
      have hf1 := oa1.frozenAt (j * 2 + 1)
      obtain ⟨u1, hu1⟩ : ∃ u, v1.cell? ⟨g, j * 2 + 1, none⟩ = some u := by
        rw [World.ownsRow.cellAt oa1 (j * 2 + 1) (by omega)]
        exact ⟨_, List.getElem?_eq_getElem (by omega)⟩
      have ob1 := (World.ownsRow.stored oa1 (j * 2 + 1) (.string (markS (k + 2 * j + 1)))).1
      have qb1 := (qa1).trans (World.ownsRow.stored oa1 (j * 2 + 1) (.string (markS (k + 2 * j + 1)))).2
      rw [mixV_set HL.out hg1] at ob1
      have hml1 := mixV_len (k := j * 2 + 1 + 1) HL.out
      clear oa1 qa1
      have HOz := Lib.hid ob1
      have HQz := Lib.hid qb1
      clear ob1 qb1 hml hml0 hml1 hzl
      clear hg0 hg1
      go_wp2
      go_roundw
      case rel => exact ⟨j + 1, by omega, by go_num, by go_num, by rw [show (j + 1) * 2 = j * 2 + 1 + 1 from by omega]; exact HOz.out, HQz.out⟩
      case measure => simp [intOf]; omega
    · have hk' : j = n := by omega
      subst hk'
      go_wp2
      go_ret
      refine ⟨rfl, ?_, hb⟩
      rwa [mixV_all HL.out (by rw [HL.out, HN.out]; exact Nat.le_refl _)] at ho
def lblSz1 (p : Lab) : Nat := p.1.size + p.2.size
/-- What such a slice holds: elements and letters. -/
def lblSz (l : List Lab) : Nat := l.length + (l.map lblSz1).sum
theorem lblSz_le {l : List Lab} : l.length ≤ lblSz l := Nat.le_add_right _ _
theorem lblSz_take {l : List Lab} {k : Nat} {p : Lab} (h : l[k]? = some p) : ((l.take (k + 1)).map lblSz1).sum = ((l.take k).map lblSz1).sum + lblSz1 p := by rw [take_snoc' l k p h, List.map_append, List.sum_append]; simp
theorem lblSz_pre (l : List Lab) (k : Nat) : ((l.take k).map lblSz1).sum ≤ (l.map lblSz1).sum := by
  have h : l = l.take k ++ l.drop k := (List.take_append_drop k l).symm
  have e : (l.map lblSz1).sum = ((l.take k).map lblSz1).sum + ((l.drop k).map lblSz1).sum := by rw [← List.sum_append, ← List.map_append, ← h]
  omega
def lblSzOk (l : List Lab) : Prop := ∀ p ∈ l, p.1.size ≤ 9223372036854775807 ∧ p.2.size ≤ 9223372036854775807
set_option maxRecDepth 100000 in
set_option maxHeartbeats 1000000 in
theorem szLabel_ok (x : ByteArray) (y : ByteArray) (m : Int) (w : World) (h0 : (x.size + y.size : Nat) ≤ m) (h1 : m ≤ 1048576) :
    Calls Try.prog 7 #[.agg #[.string x, .string y], .int .i64 m] w fun e w' => e = .returned (.int .i64 (m - (x.size + y.size : Nat))) ∧ Below w.heap.size w w' := by
  go_enter Try.func7, Try.ntmps7
  go_wp2
  go_ret
  exact ⟨retI (by omega), (Below.refl _ _).alloc (Nat.le_refl _) _⟩
set_option maxRecDepth 100000 in
set_option maxHeartbeats 1000000 in
theorem szLabel_no (x : ByteArray) (y : ByteArray) (m : Int) (w : World) (h0 : m < (x.size + y.size : Nat)) (h1 : 0 ≤ m) (h2 : m ≤ 1048576) (hb0 : x.size ≤ 9223372036854775807) (hb1 : y.size ≤ 9223372036854775807) :
    Calls Try.prog 7 #[.agg #[.string x, .string y], .int .i64 m] w fun e w' => e = .returned (.int .i64 (-1)) ∧ Below w.heap.size w w' := by
  by_cases hx : m < x.size
  all_goals
    go_enter Try.func7, Try.ntmps7
    go_wp2
    go_ret
    exact ⟨rfl, (Below.refl _ _).alloc (Nat.le_refl _) _⟩
set_option maxRecDepth 100000 in
set_option maxHeartbeats 4000000 in
theorem sz_Label_ok (B : Nat) (A : Option Addr) (n c : Nat) (l : List Lab) (z : Nat) (hz : z = lblSz l) (m : Int) (w : World) (hBw : B ≤ w.heap.size) (h : Rd w B 2 A n (lbls l)) (h0 : (z : Int) ≤ m) (h1 : m ≤ 1048576) :
    Calls Try.prog 34 #[.slice A n c, .int .i64 m] w fun e w' => e = .returned (.int .i64 (m - z)) ∧ Ch 0 0 w w' := by
  have hlen := h.lab_len
  have hzl : z = n + (l.map lblSz1).sum := by rw [hz]; unfold lblSz; rw [hlen]
  have HL := Lib.hid hlen
  have H := Lib.hid h
  have HZ := Lib.hid hzl
  have hnz : n ≤ z := by omega
  clear h hlen hz hzl
  go_enter Try.func34, Try.ntmps34
  go_wp2
  go_loopw [1, 5] (fun q i wr => ∃ (k s : Nat), k ≤ n ∧ i = .int .i64 k ∧ q = .int .i64 (m - n - s) ∧ s = ((l.take k).map lblSz1).sum ∧ n + s ≤ z ∧ Below w.heap.size w wr) (fun _ i _ => n - (intOf i).toNat)
  case atStart => exact ⟨0, 0, Nat.zero_le _, rfl, by simp, by simp, by omega, Below.refl _ _⟩
  case round =>
    obtain ⟨k, s, hk, rfl, rfl, hs, hsz, hb⟩ := hrel
    have HS := Lib.hid hs
    have HB := Lib.hid hb
    have hsw := hb.size
    clear hs hb
    by_cases hlt : k < n
    · obtain ⟨b0, off, x, y, rfl, hbB, hx, hc0, hc1⟩ := H.out.lab_at hlt
      have hd0 : wr.cell? ⟨b0, off + k * 2, none⟩ = some (.string x) := (bcell HB.out _ _ (by omega)).trans hc0
      have hd1 : wr.cell? ⟨b0, off + k * 2 + 1, none⟩ = some (.string y) := (bcell HB.out _ _ (by omega)).trans hc1
      have ht := lblSz_take hx
      have hp := lblSz_pre l (k + 1)
      simp only [lblSz1] at ht
      have hbd : n + (s + (x.size + y.size)) ≤ z := by have := HZ.out; have := HS.out; omega
      have HT := Lib.hid (show s + (x.size + y.size) = ((l.take (k + 1)).map lblSz1).sum by rw [HS.out]; exact ht.symm)
      clear ht hp hx hc0 hc1
      go_wp2_with fail
      refine (szLabel_ok x y _ _ (by omega) (by omega)).mono ?_
      rintro e w2 ⟨rfl, hb2⟩
      have HB2 := Lib.hid (HB.out.trans (hb2.mono hsw))
      clear hb2
      go_wp2
      go_roundw
      case rel => exact ⟨k + 1, s + (x.size + y.size), by omega, by go_num, by go_num, HT.out, by omega, HB2.out⟩
      case measure => simp [intOf]; omega
    · have hk' : k = n := by omega
      have e := HS.out
      rw [List.take_of_length_le (by rw [HL.out]; omega)] at e
      have HE := Lib.hid (show z = n + s by rw [e]; exact HZ.out)
      clear e
      go_wp2
      go_ret
      exact ⟨retI (by have := HE.out; omega), Ch.of_below HB.out⟩
set_option maxRecDepth 100000 in
set_option maxHeartbeats 4000000 in
theorem sz_Label_no (B : Nat) (A : Option Addr) (n c : Nat) (l : List Lab) (z : Nat) (hz : z = lblSz l) (m : Int) (w : World) (hBw : B ≤ w.heap.size) (h : Rd w B 2 A n (lbls l)) (h0 : m < z) (h1 : 0 ≤ m) (h2 : n ≤ 9223372036854775807) (h3 : m ≤ 1048576) (hok : lblSzOk l) :
    Calls Try.prog 34 #[.slice A n c, .int .i64 m] w fun e w' => e = .returned (.int .i64 (-1)) ∧ Ch 0 0 w w' := by
  have hlen := h.lab_len
  have hzl : z = n + (l.map lblSz1).sum := by rw [hz]; unfold lblSz; rw [hlen]
  have HL := Lib.hid hlen
  have H := Lib.hid h
  have HZ := Lib.hid hzl
  have HO := Lib.hid hok
  clear h hlen hz hzl hok
  by_cases hmn : m < n
  · go_enter Try.func34, Try.ntmps34
    go_wp2
    go_ret
    exact ⟨rfl, Ch.refl _ _ _⟩
  go_enter Try.func34, Try.ntmps34
  go_wp2
  go_loopw [1, 5] (fun q i wr => ∃ (k s : Nat), k ≤ n ∧ i = .int .i64 k ∧ q = .int .i64 (m - n - s) ∧ s = ((l.take k).map lblSz1).sum ∧ (n + s : Nat) ≤ m ∧ Below w.heap.size w wr) (fun _ i _ => n - (intOf i).toNat)
  case atStart => exact ⟨0, 0, Nat.zero_le _, rfl, by simp, by simp, by omega, Below.refl _ _⟩
  case round =>
    obtain ⟨k, s, hk, rfl, rfl, hs, hsz, hb⟩ := hrel
    have HS := Lib.hid hs
    have HB := Lib.hid hb
    have hsw := hb.size
    clear hs hb
    by_cases hlt : k < n
    · obtain ⟨b0, off, x, y, rfl, hbB, hx, hc0, hc1⟩ := H.out.lab_at hlt
      have hd0 : wr.cell? ⟨b0, off + k * 2, none⟩ = some (.string x) := (bcell HB.out _ _ (by omega)).trans hc0
      have hd1 : wr.cell? ⟨b0, off + k * 2 + 1, none⟩ = some (.string y) := (bcell HB.out _ _ (by omega)).trans hc1
      have ht := lblSz_take hx
      simp only [lblSz1] at ht
      have hob := HO.out _ (List.mem_of_getElem? hx)
      simp only at hob
      have HT := Lib.hid (show s + (x.size + y.size) = ((l.take (k + 1)).map lblSz1).sum by rw [HS.out]; exact ht.symm)
      clear ht hx hc0 hc1
      by_cases hov : m < (n + (s + (x.size + y.size)) : Nat)
      · go_wp2_with fail
        refine (szLabel_no x y _ _ (by omega) (by omega) (by omega) (by omega) (by omega)).mono ?_
        rintro e w2 ⟨rfl, hb2⟩
        have HB2 := Lib.hid (HB.out.trans (hb2.mono hsw))
        clear hb2
        go_wp2
        go_ret
        exact ⟨rfl, Ch.of_below HB2.out⟩
      · go_wp2_with fail
        refine (szLabel_ok x y _ _ (by omega) (by omega)).mono ?_
        rintro e w2 ⟨rfl, hb2⟩
        have HB2 := Lib.hid (HB.out.trans (hb2.mono hsw))
        clear hb2
        go_wp2
        go_roundw
        case rel => exact ⟨k + 1, s + (x.size + y.size), by omega, by go_num, by go_num, HT.out, by omega, HB2.out⟩
        case measure => simp [intOf]; omega
    · exfalso
      have e := HS.out
      rw [List.take_of_length_le (by rw [HL.out]; omega)] at e
      have := HZ.out
      omega
theorem sz_Label_ge {w : World} {B n : Nat} {A : Option Addr} {l : List Lab} (h : Rd w B 2 A n (lbls l)) : n ≤ lblSz l := by have := h.lab_len; have := @lblSz_le l; omega
theorem to_Label1 (x y : ByteArray) (w : World) : Calls Try.prog 10 #[.agg #[.string x, .string y]] w fun e w' => e = .returned (.agg #[.string x, .string y]) ∧ Ch 0 0 w w' := (toLabel_any x y w).mono fun _ _ ⟨he, hb⟩ => ⟨he, Ch.of_below hb⟩
theorem sz_Lab1_ok (x y : ByteArray) (z : Nat) (hz : z = x.size + y.size) (m : Int) (w : World) (h0 : (z : Int) ≤ m) (h1 : m ≤ 1048576) : Calls Try.prog 7 #[.agg #[.string x, .string y], .int .i64 m] w fun e w' => e = .returned (.int .i64 (m - z)) ∧ Ch 0 0 w w' := by
  subst hz
  exact (szLabel_ok x y m w h0 h1).mono fun _ _ ⟨he, hb⟩ => ⟨he, Ch.of_below hb⟩
theorem sz_Lab1_no (x y : ByteArray) (z : Nat) (hz : z = x.size + y.size) (m : Int) (w : World) (h0 : m < z) (h1 : 0 ≤ m) (h2 : m ≤ 1048576) (hx : x.size ≤ 9223372036854775807) (hy : y.size ≤ 9223372036854775807) : Calls Try.prog 7 #[.agg #[.string x, .string y], .int .i64 m] w fun e w' => e = .returned (.int .i64 (-1)) ∧ Ch 0 0 w w' := by
  subst hz
  exact (szLabel_no x y m w h0 h1 h2 hx hy).mono fun _ _ ⟨he, hb⟩ => ⟨he, Ch.of_below hb⟩
end Go.Proofs.Ytpdclppieicaeaa
