/- The laws' helpers on slices of pairs of numbers (samples, tokens): copying, comparing, measuring. -/
import Derived.Test.YtkpofdfikmcjgaaRowInts
import Derived.Test.YtkpofdfikmcjgaaBeyond
namespace Go.Proofs.Ytkpofdfikmcjgaa
set_option linter.unusedVariables false
set_option linter.unusedSimpArgs false
open Go.RowKit

/-- Pairs of numbers, cell by cell. -/
def smps (l : List (Int × Int)) : List Value := l.flatMap fun p => [.int .i64 p.1, .int .i64 p.2]
theorem smps_cons (p : Int × Int) (l : List (Int × Int)) : smps (p :: l) = .int .i64 p.1 :: .int .i64 p.2 :: smps l := rfl
theorem smps_len (l : List (Int × Int)) : (smps l).length = l.length * 2 := by
  induction l with
  | nil => rfl
  | cons p l ih => rw [smps_cons]; simp only [List.length_cons, ih]; omega
theorem smps_app (a b : List (Int × Int)) : smps (a ++ b) = smps a ++ smps b := by unfold smps; rw [List.flatMap_append]
theorem smps_get (l : List (Int × Int)) : ∀ (k : Nat) (p : Int × Int), l[k]? = some p → (smps l)[k * 2]? = some (.int .i64 p.1) ∧ (smps l)[k * 2 + 1]? = some (.int .i64 p.2) := by
  induction l with
  | nil => intro k p h; simp at h
  | cons q l ih =>
    intro k p h
    cases k with
    | zero => simp at h; subst h; exact ⟨rfl, rfl⟩
    | succ k =>
      have := ih k p (by simpa using h)
      rw [smps_cons, show (k + 1) * 2 = k * 2 + 1 + 1 from by omega]
      exact this
theorem smps_one (l : List (Int × Int)) : ∀ u ∈ smps l, u.oneCell' = true := by
  intro u hu
  obtain ⟨p, _, hp⟩ := List.mem_flatMap.1 hu
  simp at hp
  rcases hp with rfl | rfl <;> rfl
section
variable {w : World} {B n : Nat} {A : Option Addr}
theorem Rd.smp_len {l : List (Int × Int)} (h : Rd w B 2 A n (smps l)) : l.length = n := by have := h.1; rw [smps_len] at this; omega
/-- Element k of a slice of pairs. -/
theorem Rd.smp_at {l : List (Int × Int)} {k : Nat} (h : Rd w B 2 A n (smps l)) (hk : k < n) :
    ∃ b off x y, A = some ⟨b, off, none⟩ ∧ b < B ∧ l[k]? = some (x, y) ∧ w.cell? ⟨b, off + k * 2, none⟩ = some (.int .i64 x) ∧ w.cell? ⟨b, off + k * 2 + 1, none⟩ = some (.int .i64 y) := by
  obtain ⟨b, off, e, hb, hc⟩ := h.2 (by omega)
  have hl : k < l.length := by have := h.smp_len; omega
  have hg := smps_get l k l[k] (List.getElem?_eq_getElem hl)
  exact ⟨b, off, l[k].1, l[k].2, e, hb, List.getElem?_eq_getElem hl, hc _ _ hg.1, hc _ _ hg.2⟩
end

/-- The pairs k, k + 1; k + 2, k + 3; .. that marking writes. -/
def marksP (k : Int) (n : Nat) : List (Int × Int) := (List.range n).map fun (i : Nat) => (k + 2 * (i : Int), k + 2 * (i : Int) + 1)
theorem marksP_len (k : Int) (n : Nat) : (marksP k n).length = n := by simp [marksP]
theorem marksP_get (k : Int) (n i : Nat) (h : i < n) : (marksP k n)[i]? = some (k + 2 * (i : Int), k + 2 * (i : Int) + 1) := by simp [marksP, h]

theorem infoToken : (Try.prog.info? 75).map (fun i => (i.zero, i.size, i.bytes)) = some (some (.agg #[.int .i64 0, .int .i64 0]), 2, 16) := by kernel_rfl
set_option maxRecDepth 100000 in
set_option maxHeartbeats 1000000 in
theorem toToken_any (a b : Int) (w : World) : Calls Try.prog 56 #[.agg #[.int .i64 a, .int .i64 b]] w fun e w' => e = .returned (.agg #[.int .i64 a, .int .i64 b]) ∧ Below w.heap.size w w' := by
  go_enter Try.func56, Try.ntmps56
  go_wp2
  exact bodyPost_ret (v := .agg #[.int .i64 a, .int .i64 b]) (by simp [results, Try.results56, go_sem]) rfl ⟨rfl, below3 _ _ _⟩

theorem to_Token1 (a b : Int) (w : World) : Calls Try.prog 56 #[.agg #[.int .i64 a, .int .i64 b]] w fun e w' => e = .returned (.agg #[.int .i64 a, .int .i64 b]) ∧ Ch 0 0 w w' :=
  (toToken_any a b w).mono fun _ _ ⟨he, hb⟩ => ⟨he, Ch.of_below hb⟩

set_option maxRecDepth 100000 in
set_option maxHeartbeats 1000000 in
theorem eqToken_same (a b : Int) (w : World) : Calls Try.prog 60 #[.agg #[.int .i64 a, .int .i64 b], .agg #[.int .i64 a, .int .i64 b]] w fun e w' => e = .returned (.bool true) ∧ Below w.heap.size w w' := by
  go_enter Try.func60, Try.ntmps60
  go_wp2
  go_ret
  exact ⟨rfl, below2 _ _⟩

set_option maxRecDepth 100000 in
set_option maxHeartbeats 1000000 in
theorem toTokenS_any (B : Nat) (A : Option Addr) (n c : Nat) (l : List (Int × Int)) (w : World) (hBw : B ≤ w.heap.size) (h : Rd w B 2 A n (smps l)) (hn : n ≤ 1048576) :
    Calls Try.prog 18 #[.slice A n c] w fun e w' => e = .returned (.slice (some ⟨w.heap.size, 0, none⟩) n n) ∧
      w'.ownsRow w.heap.size 75 2 (.slice (some ⟨w.heap.size, 0, none⟩) n n) n (smps l) ∧ Below w.heap.size w w' := by
  obtain ⟨i0, hi, hz0, hz1, hz2⟩ := info_parts infoToken
  have hlen := h.smp_len
  have HL := Lib.hid hlen
  clear hlen
  have H := Lib.hid h
  clear h
  go_enter Try.func18, Try.ntmps18
  go_wp2_with (at_make; refine wpList_make_full _ rfl (.tmp 6) (.tmp 6) 33 rfl w.heap.size 75 i0 (.agg #[.int .i64 0, .int .i64 0]) 2 Try.underlying33 hi hz0 hz1 _ _ _ _ n rfl rfl rfl rfl (by rw [hz2]; omega) (by unfold maxLen; omega) (Nat.le_refl _) ?_; intro w1 hown hgrow)
  have hb1 : Below w.heap.size w w1 := (Below.refl _ _).grown hgrow (Nat.le_refl _) (by simp)
  obtain ⟨Z, hZ⟩ : ∃ Z, Z = (madeCells (Value.agg #[.int .i64 0, .int .i64 0]).cells (n * 2)).toList := ⟨_, rfl⟩
  rw [← hZ] at hown
  have HZ := Lib.hid (show (smps l).length = Z.length by have := hown.1; rw [this, smps_len, HL.out])
  clear hZ
  have HO := Lib.hid (show w1.ownsRow w.heap.size 75 2 (.slice (some ⟨w.heap.size, 0, none⟩) n n) n (mixV (smps l) Z 0) by rw [mixV_zero]; exact hown)
  clear hown hgrow hi hz0 hz1 hz2
  have HB := Lib.hid hb1
  clear hb1
  go_loopw [4] (fun i wr => ∃ k : Nat, k ≤ n ∧ i = .int .i64 k ∧ wr.ownsRow w.heap.size 75 2 (.slice (some ⟨w.heap.size, 0, none⟩) n n) n (mixV (smps l) Z (k * 2)) ∧ Below w.heap.size w wr) (fun i _ => n - (intOf i).toNat)
  case atStart => exact ⟨0, Nat.zero_le _, rfl, by rw [Nat.zero_mul]; exact HO.out, HB.out⟩
  case round =>
    clear HO HB
    obtain ⟨k, hk, rfl, ho, hb⟩ := hrel
    have HO := Lib.hid ho
    have HB := Lib.hid hb
    clear ho hb
    by_cases hlt : k < n
    · obtain ⟨b, off, x, y, rfl, hbB, hx, hc0, hc1⟩ := H.out.smp_at hlt
      have hc0' : wr.cell? ⟨b, off + k * 2, none⟩ = some (.int .i64 x) := (bcell HB.out _ _ (by omega)).trans hc0
      have hc1' : wr.cell? ⟨b, off + k * 2 + 1, none⟩ = some (.int .i64 y) := (bcell HB.out _ _ (by omega)).trans hc1
      have HX := Lib.hid hx
      clear hx hc0 hc1
      go_wp2_with fail
      refine (toToken_any x y _).mono ?_
      rintro e w2 ⟨rfl, hb2⟩
      have ho2 := own_below HO.out hb2 (Nat.le_refl _)
      have HB2 := Lib.hid (HB.out.trans (hb2.mono HB.out.size))
      have hml := mixV_len (k := k * 2) HZ.out
      have hzl : Z.length = n * 2 := by rw [← HZ.out, smps_len, HL.out]
      have hf0 := ho2.frozenAt (k * 2)
      have hf1 := ho2.frozenAt (k * 2 + 1)
      obtain ⟨u0, hu0⟩ : ∃ u, w2.cell? ⟨w.heap.size, k * 2, none⟩ = some u := by
        rw [ho2.cellAt (k * 2) (by omega)]
        exact ⟨_, List.getElem?_eq_getElem (by omega)⟩
      obtain ⟨u1, hu1⟩ : ∃ u, w2.cell? ⟨w.heap.size, k * 2 + 1, none⟩ = some u := by
        rw [ho2.cellAt (k * 2 + 1) (by omega)]
        exact ⟨_, List.getElem?_eq_getElem (by omega)⟩
      have HO2 := Lib.hid ho2
      clear hb2 ho2 hml hzl
      go_wp2
      go_roundw
      case rel =>
        obtain ⟨hg0, hg1⟩ := smps_get l k (x, y) HX.out
        have s1 := (HO2.out.stored (k * 2) (.int .i64 x)).1
        rw [mixV_set HZ.out hg0] at s1
        have s2 := (s1.stored (k * 2 + 1) (.int .i64 y)).1
        rw [mixV_set HZ.out hg1] at s2
        exact ⟨k + 1, by omega, by go_num, by rw [show (k + 1) * 2 = k * 2 + 1 + 1 from by omega]; exact s2, ((HB2.out.setCell (Nat.le_refl _) _).setCell (Nat.le_refl _) _)⟩
      case measure => simp [intOf]; omega
    · have hk' : k = n := by omega
      subst hk'
      go_wp2
      go_ret
      refine ⟨rfl, ?_, HB.out⟩
      have := HO.out
      rwa [mixV_all HZ.out (by rw [smps_len]; have := HL.out; omega)] at this

set_option maxRecDepth 100000 in
set_option maxHeartbeats 2000000 in
theorem eqTokenS_same (B : Nat) (A A' : Option Addr) (n c c' : Nat) (l : List (Int × Int)) (w : World) (hBw : B ≤ w.heap.size) (h : Rd w B 2 A n (smps l)) (h' : Rd w B 2 A' n (smps l)) (hn : n ≤ 1048576) :
    Calls Try.prog 20 #[.slice A n c, .slice A' n c'] w fun e w' => e = .returned (.bool true) ∧ Below w.heap.size w w' := by
  have H := Lib.hid h
  have H' := Lib.hid h'
  clear h h'
  go_enter Try.func20, Try.ntmps20
  go_wp2
  go_loopw [5] (fun i wr => ∃ k : Nat, k ≤ n ∧ i = .int .i64 k ∧ Below w.heap.size w wr) (fun i _ => n - (intOf i).toNat)
  case atStart => exact ⟨0, Nat.zero_le _, rfl, Below.refl _ _⟩
  case round =>
    obtain ⟨k, hk, rfl, hb⟩ := hrel
    have HB := Lib.hid hb
    have hsz := hb.size
    clear hb
    by_cases hlt : k < n
    · obtain ⟨b, off, x, y, rfl, hbB, hx, hc0, hc1⟩ := H.out.smp_at hlt
      obtain ⟨b', off', x', y', rfl, hbB', hx', hc0', hc1'⟩ := H'.out.smp_at hlt
      obtain ⟨rfl, rfl⟩ : x = x' ∧ y = y' := by rw [hx] at hx'; simpa using hx'
      have d0 := beyond_cell (B := wr.heap.size) (W := wr) ((bcell HB.out _ _ (by omega)).trans hc0) (by omega)
      have d1 := beyond_cell (B := wr.heap.size) (W := wr) ((bcell HB.out _ _ (by omega)).trans hc1) (by omega)
      have d0' := beyond_cell (B := wr.heap.size) (W := wr) ((bcell HB.out _ _ (by omega)).trans hc0') (by omega)
      have d1' := beyond_cell (B := wr.heap.size) (W := wr) ((bcell HB.out _ _ (by omega)).trans hc1') (by omega)
      clear hx hx' hc0 hc1 hc0' hc1'
      go_wp2_with fail
      refine wp_region_beyond (B := wr.heap.size) (W := wr) (Below.refl _ _) (by kernel_rfl) (by kernel_rfl) ?_
      repeat (go_big_quiet_step ((go_at_call 60; exact calls_beyond (Nat.le_refl _) (eqToken_same _ _ _))))
      refine wpQuiet_nil ?_
      intro _ hw'
      obtain ⟨z, rfl⟩ := hw'
      have HBz := Lib.hid (HB.out.trans (z.2.mono hsz))
      generalize z.1 = wz at HBz ⊢
      clear d0 d1 d0' d1'
      go_wp2
      go_roundw
      case rel => exact ⟨k + 1, by omega, by go_num, HBz.out⟩
      case measure => simp [intOf]; omega
    · go_wp2
      go_ret
      exact ⟨rfl, HB.out⟩

theorem to_Token (B : Nat) (A : Option Addr) (n c : Nat) (l : List (Int × Int)) (w : World) (hB : B ≤ w.heap.size) (h : Rd w B 2 A n (smps l)) (hn : n ≤ 1048576) :
    Calls Try.prog 18 #[.slice A n c] w fun e w' => ∃ A' c', e = .returned (.slice A' n c') ∧ Row 75 2 w.heap.size w'.heap.size A' n c' (smps l) w' ∧ Ch 0 0 w w' :=
  (toTokenS_any B A n c l w hB h hn).mono fun _ _ ⟨he, ho, hb⟩ => ⟨_, _, he, Row.of_own ho, Ch.of_below hb⟩
theorem eq_Token (B B' : Nat) (A A' : Option Addr) (n c c' : Nat) (l : List (Int × Int)) (w : World) (hB : B ≤ w.heap.size) (hB' : B' ≤ w.heap.size) (h : Rd w B 2 A n (smps l)) (h' : Rd w B' 2 A' n (smps l)) (hn : n ≤ 1048576) :
    Calls Try.prog 20 #[.slice A n c, .slice A' n c'] w fun e w' => e = .returned (.bool true) ∧ Ch 0 0 w w' :=
  (eqTokenS_same (max B B') A A' n c c' l w (Nat.max_le.2 ⟨hB, hB'⟩) (h.more (Nat.le_max_left ..)) (h'.more (Nat.le_max_right ..)) hn).mono fun _ _ ⟨he, hq⟩ => ⟨he, Ch.of_below hq⟩
set_option maxRecDepth 100000 in
set_option maxHeartbeats 1000000 in
theorem markTokenS_any (base : Nat) (A : Option Addr) (n c : Nat) (l : List (Int × Int)) (k : Int) (w : World) (h : w.ownsRow base 75 2 (.slice A n c) n (smps l)) (hn : n ≤ 1048576) (hk0 : 0 ≤ k) (hk1 : k ≤ 1099511627776) :
    Calls Try.prog 23 #[.slice A n c, .int .i64 k] w fun e w' => e = .returned (.int .i64 (k + 2 * n)) ∧
      w'.ownsRow base 75 2 (.slice A n c) n (smps (marksP k n)) ∧ w.grownBy w' (Value.slice A n c).ownBlock := by
  have hlen : (smps l).length = n * 2 := h.1
  have HL := Lib.hid (show (smps (marksP k n)).length = (smps l).length by rw [hlen, smps_len, marksP_len])
  have HN := Lib.hid hlen
  have H := Lib.hid h
  clear h hlen
  go_enter Try.func23, Try.ntmps23
  go_wp2
  go_loopw [1, 5] (fun m i wr => ∃ j : Nat, j ≤ n ∧ i = .int .i64 j ∧ m = .int .i64 (k + 2 * j) ∧ wr.ownsRow base 75 2 (.slice A n c) n (mixV (smps (marksP k n)) (smps l) (j * 2)) ∧ w.grownBy wr (Value.slice A n c).ownBlock) (fun _ i _ => n - (intOf i).toNat)
  case atStart => exact ⟨0, Nat.zero_le _, rfl, by simp, by rw [Nat.zero_mul, mixV_zero]; exact H.out, World.grownBy.refl _ _⟩
  case round =>
    obtain ⟨j, hj, rfl, rfl, ho, hb⟩ := hrel
    by_cases hlt : j < n
    · obtain ⟨g, cap, hv, hbg, hgl, _, _⟩ := own_form ho (by omega)
      obtain ⟨rfl, rfl⟩ : A = some ⟨g, 0, none⟩ ∧ c = cap := by simpa using hv
      clear hv
      have hml := mixV_len (k := j * 2) HL.out
      have hzl := HN.out
      have hf0 := ho.frozenAt (j * 2)
      have hf1 := ho.frozenAt (j * 2 + 1)
      obtain ⟨u0, hu0⟩ : ∃ u, wr.cell? ⟨g, j * 2, none⟩ = some u := by
        rw [ho.cellAt (j * 2) (by omega)]
        exact ⟨_, List.getElem?_eq_getElem (by omega)⟩
      obtain ⟨u1, hu1⟩ : ∃ u, wr.cell? ⟨g, j * 2 + 1, none⟩ = some u := by
        rw [ho.cellAt (j * 2 + 1) (by omega)]
        exact ⟨_, List.getElem?_eq_getElem (by omega)⟩
      have HO := Lib.hid ho
      have HBB := Lib.hid hb
      clear ho hb hml hzl
      go_wp2
      go_roundw
      case rel =>
        obtain ⟨hg0, hg1⟩ := smps_get (marksP k n) j (k + 2 * j, k + 2 * j + 1) (marksP_get k n j hlt)
        have s1 := HO.out.stored (j * 2) (.int .i64 (k + 2 * j))
        have o1 := s1.1
        rw [mixV_set HL.out hg0] at o1
        have s2 := o1.stored (j * 2 + 1) (.int .i64 (k + 2 * j + 1))
        have o2 := s2.1
        rw [mixV_set HL.out hg1] at o2
        exact ⟨j + 1, by omega, by go_num, by go_num, by rw [show (j + 1) * 2 = j * 2 + 1 + 1 from by omega]; exact o2, (HBB.out.trans s1.2).trans s2.2⟩
      case measure => simp [intOf]; omega
    · have hk' : j = n := by omega
      subst hk'
      go_wp2
      go_ret
      refine ⟨rfl, ?_, hb⟩
      rwa [mixV_all HL.out (by rw [HL.out, HN.out]; exact Nat.le_refl _)] at ho
set_option maxRecDepth 100000 in
set_option maxHeartbeats 1000000 in
theorem heldTokenS_any (B : Nat) (A : Option Addr) (n c : Nat) (k : Int) (w : World) (h : Rd w B 2 A n (smps (marksP k n))) (hn : n ≤ 1048576) (hk0 : 0 ≤ k) (hk1 : k ≤ 1099511627776) :
    Calls Try.prog 24 #[.slice A n c, .int .i64 k] w fun e w' => e = .returned (.int .i64 (k + 2 * n)) ∧ w = w' := by
  have H := Lib.hid h
  clear h
  go_enter Try.func24, Try.ntmps24
  go_wp2
  go_loop [1, 5] (fun m i => ∃ j : Nat, j ≤ n ∧ i = .int .i64 j ∧ m = .int .i64 (k + 2 * j)) (fun _ i => n - (intOf i).toNat)
  case atStart => exact ⟨0, Nat.zero_le _, rfl, by simp⟩
  case round =>
    obtain ⟨j, hj, rfl, rfl⟩ := hrel
    by_cases hlt : j < n
    · obtain ⟨b, off, x, y, rfl, hB, hx, hc0, hc1⟩ := H.out.smp_at hlt
      obtain ⟨rfl, rfl⟩ : x = k + 2 * j ∧ y = k + 2 * j + 1 := by rw [marksP_get k n j hlt] at hx; simp at hx; exact ⟨hx.1.symm, hx.2.symm⟩
      clear hx
      go_wp2
      go_round
      case rel => exact ⟨j + 1, by omega, by go_num, by go_num⟩
      case measure => simp [intOf]; omega
    · have hk' : j = n := by omega
      subst hk'
      go_wp2
      go_ret
      exact ⟨rfl, rfl⟩
theorem mh_Token (n : Nat) (k : Int) (hn : n ≤ 1048576) (hk0 : 0 ≤ k) (hk1 : k ≤ 1099511627776) : ∃ (m : Int) (ms : List Value), k ≤ m ∧ m ≤ k + 8388608 ∧
    (∀ lo hi A c l w, Row 75 2 lo hi A n c (smps l) w → Calls Try.prog 23 #[.slice A n c, .int .i64 k] w fun e w' => e = .returned (.int .i64 m) ∧ Row 75 2 lo hi A n c ms w' ∧ Ch lo hi w w') ∧
    (∀ B A c w, Rd w B 2 A n ms → Calls Try.prog 24 #[.slice A n c, .int .i64 k] w fun e w' => e = .returned (.int .i64 m) ∧ Ch 0 0 w w') := by
  refine ⟨k + 2 * n, smps (marksP k n), by omega, by omega, fun lo hi A c l w h => ?_, fun B A c w h => ?_⟩
  · refine (markTokenS_any lo A n c l k w h.1 hn hk0 hk1).mono fun e w' ⟨he, ho, hg⟩ => ⟨he, ⟨ho, Nat.le_trans h.2.1 hg.size, h.2.2⟩, Ch.of_grown hg fun g hg' => ⟨(h.1.lt g hg').1, h.2.2 g hg'⟩⟩
  · exact (heldTokenS_any B A n c k w h hn hk0 hk1).mono fun e w' ⟨he, hw⟩ => ⟨he, Ch.of_same hw⟩
set_option maxHeartbeats 1000000 in
theorem sz_Token_ok (A : Option Addr) (n c : Nat) (k : Int) (w : World) (h0 : (n : Int) ≤ k) (h1 : k ≤ 1048576) :
    Calls Try.prog 16 #[.slice A n c, .int .i64 k] w fun e w' => e = .returned (.int .i64 (k - n)) ∧ Ch 0 0 w w' := by
  go_enter Try.func16, Try.ntmps16
  go_wp2
  go_ret
  exact ⟨rfl, Ch.refl _ _ _⟩
set_option maxHeartbeats 1000000 in
theorem sz_Token_no (A : Option Addr) (n c : Nat) (k : Int) (w : World) (h0 : k < n) (h1 : 0 ≤ k) (h2 : n ≤ 9223372036854775807) :
    Calls Try.prog 16 #[.slice A n c, .int .i64 k] w fun e w' => e = .returned (.int .i64 (-1)) ∧ Ch 0 0 w w' := by
  go_enter Try.func16, Try.ntmps16
  go_wp2
  go_ret
  exact ⟨rfl, Ch.refl _ _ _⟩
end Go.Proofs.Ytkpofdfikmcjgaa
