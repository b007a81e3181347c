/- The program's union of two posting lists: the library's Concat (walked), Sort and Compact (off the shelf). -/
import Derived.Test.YtpdclppieicaeaaShJoin
import Derived.Test.YtpdclppieicaeaaJoinP
import Derived.Test.YtpdclppieicaeaaPutI
import Derived.Shelf.Spec.SlicesGrow
import Derived.Shelf.SortM.Plain
import Derived.Shelf.SortM.SortNone
namespace Go.Proofs.Ytpdclppieicaeaa
set_option linter.unusedVariables false
set_option linter.unusedSimpArgs false
open Go.RowKit Go.Sort Go.Lib Go.Shelf

theorem compact_le' (zs : List Int) : (compact zs).length ≤ zs.length := by
  unfold compact compactUpTo
  rw [List.length_map]
  exact Nat.le_trans (List.length_filter_le ..) (by simp)
set_option maxHeartbeats 1000000 in
theorem growI_any (n : Nat) (w : World) (hn : n ≤ 1000000) :
    Calls Try.prog 91 #[.slice none 0 0, .int .i64 n] w fun e w' => ∃ A c, e = .returned (.slice A 0 c) ∧ w'.ownsRow w.heap.size 3 1 (.slice A 0 c) 0 [] ∧ Below w.heap.size w w' := by
  obtain ⟨i0, hi, hi0, hi1, hi2⟩ := info_parts infoInt
  by_cases h0 : n = 0
  · subst h0
    refine (Any8.slices_Grow_room Try.growI none 0 0 0 w (by omega) (by omega) (by omega) (by omega)).mono ?_
    rintro e w' ⟨rfl, rfl⟩
    exact ⟨_, _, rfl, World.ownsRow_nil _ _ _ _, Below.refl _ _⟩
  · refine (Any8.slices_Grow_grow Try.growI i0 (.int .i64 0) hi hi0 (by omega) none 0 0 n [] w (by omega) (by omega) (by rw [hi2]; omega) (by omega) (by simp) (fun _ => rfl) (fun a h => by cases h)).mono ?_
    rintro e w' ⟨rfl, rfl⟩
    have hty : Try.growI_ren.t 25 = 3 := rfl
    simp only [hty, Nat.zero_add]
    have hge := grownCap_ge w n 0 3
    have hle := grownCap_le_maxLen w n 0 3 (by unfold maxLen; omega)
    generalize grownCap w n 0 3 = G at hge hle ⊢
    have hz : ∀ m, (Builtin.zeroCells (Value.int .i64 0).cells m).size = m := by intro m; simp [Builtin.zeroCells, Value.cells]
    refine ⟨_, _, rfl, ⟨rfl, .inr ⟨w.heap.size, _, _, rfl, Nat.le_refl _, heap_alloc_new _ _, Nat.zero_le _, hle, ?_, by simp⟩⟩, ((Below.drew (Below.refl _ _)).alloc (Nat.le_refl _) _)⟩
    simp [hz]
    omega
set_option maxRecDepth 100000 in
set_option maxHeartbeats 8000000 in
theorem concat_any (B h0 : Nat) (A A' : Option Addr) (n c n' c' : Nat) (za zb : List Int) (w : World) (hBw : B ≤ w.heap.size) (hg0 : w.cell? ⟨h0, 0, none⟩ = some (.slice A n c)) (hg1 : w.cell? ⟨h0, 1, none⟩ = some (.slice A' n' c'))
    (h : Rd w B 1 A n (ints za)) (hn : n ≤ 100) (h' : Rd w B 1 A' n' (ints zb)) (hn' : n' ≤ 100) :
    Calls Try.prog 84 #[.slice (some ⟨h0, 0, none⟩) 2 2] w fun e w' => ∃ A1 c1, e = .returned (.slice A1 (n + n') c1) ∧ w'.ownsRow w.heap.size 3 1 (.slice A1 (n + n') c1) (n + n') (ints (za ++ zb)) ∧ Below w.heap.size w w' := by
  obtain ⟨i0, hi, hi0, hi1, hi2⟩ := info_parts infoInt
  have HI := Lib.hid (And.intro hi (And.intro hi0 (And.intro hi1 hi2)))
  clear hi hi0 hi1 hi2
  have hlt0 : h0 < w.heap.size := World.block_lt_of_cell? w _ hg0
  have H := Lib.hid h
  have H' := Lib.hid h'
  clear h h'
  go_enter Try.func84, Try.ntmps84
  go_wp2
  go_loop [3, 11] (fun s i => (i = .int .i64 0 ∧ s = .int .i64 0) ∨ (i = .int .i64 1 ∧ s = .int .i64 n) ∨ (i = .int .i64 2 ∧ s = .int .i64 ((n + n' : Nat) : Int))) (fun _ i => 2 - (intOf i).toNat)
  case atStart => exact .inl ⟨rfl, rfl⟩
  case round =>
    rcases hrel with ⟨rfl, rfl⟩ | ⟨rfl, rfl⟩ | ⟨rfl, rfl⟩
    · go_wp2
      go_round
      case rel => exact .inr (.inl ⟨rfl, by go_num⟩)
      case measure => simp [intOf]
    · go_wp2
      go_round
      case rel => exact .inr (.inr ⟨rfl, by go_num⟩)
      case measure => simp [intOf]
    · go_wp2_with fail
      refine (growI_any (n + n') _ (by omega)).mono ?_
      rintro e w1 ⟨A1, c1, rfl, ho1, hb1⟩
      have HO1 := Lib.hid ho1
      have HB1 := Lib.hid hb1
      have hd0 : w1.cell? ⟨h0, 0, none⟩ = some (.slice A n c) := (bcell hb1 _ _ (by omega)).trans hg0
      have hd1 : w1.cell? ⟨h0, 1, none⟩ = some (.slice A' n' c') := (bcell hb1 _ _ (by omega)).trans hg1
      clear ho1 hb1
      go_wp2_with fail
      go_loopw [6, 27] (fun v i wr => ∃ (A2 : Option Addr) (m c2 : Nat) (zs : List Int), v = .slice A2 m c2 ∧ ((i = .int .i64 0 ∧ m = 0 ∧ zs = []) ∨ (i = .int .i64 1 ∧ m = n ∧ zs = za) ∨ (i = .int .i64 2 ∧ m = n + n' ∧ zs = za ++ zb)) ∧ wr.ownsRow w.heap.size 3 1 (.slice A2 m c2) m (ints zs) ∧ Below w.heap.size w wr) (fun _ i _ => 2 - (intOf i).toNat)
      case atStart => exact ⟨A1, 0, c1, [], rfl, .inl ⟨rfl, rfl, rfl⟩, HO1.out, HB1.out⟩
      case round =>
        clear HO1 HB1
        obtain ⟨A2, m, c2, zs, rfl, hc, ho, hb⟩ := hrel
        have HO := Lib.hid ho
        have HB := Lib.hid hb
        have hsz := hb.size
        have he0 : wr.cell? ⟨h0, 0, none⟩ = some (.slice A n c) := (bcell hb _ _ (by omega)).trans hg0
        have he1 : wr.cell? ⟨h0, 1, none⟩ = some (.slice A' n' c') := (bcell hb _ _ (by omega)).trans hg1
        clear ho hb
        rcases hc with ⟨rfl, rfl, rfl⟩ | ⟨rfl, rfl, rfl⟩ | ⟨rfl, rfl, rfl⟩
        · go_wp2_with (at_builtin; refine wpList_append_rd rfl (.tmp 31) (.tmp 32) 27 rfl w.heap.size 3 i0 (.int .i64 0) 1 8 Try.underlying27 HI.out.1 HI.out.2.1 HI.out.2.2.1 HI.out.2.2.2 rfl (by decide) _ 0 [] rfl HO.out A n c B (ints za) rfl (H.out.below (HB.out.mono hBw)) (ints_one za) (by unfold maxLen; omega) (by omega) hsz ?_)
          intro v' w3 ho3 hg3
          obtain ⟨A3, c3, rfl⟩ := own_slice ho3
          have HB3 := Lib.hid (HB.out.grown hg3 hsz (fun k hk => (HO.out.lt k hk).1))
          have HO3 := Lib.hid (show w3.ownsRow w.heap.size 3 1 (.slice A3 n c3) n (ints za) by simpa using ho3)
          clear ho3 hg3
          go_wp2
          go_roundw
          case rel => exact ⟨A3, n, c3, za, by simp, .inr (.inl ⟨rfl, rfl, rfl⟩), HO3.out, HB3.out⟩
          case measure => simp [intOf]
        · go_wp2_with (at_builtin; refine wpList_append_rd rfl (.tmp 31) (.tmp 32) 27 rfl w.heap.size 3 i0 (.int .i64 0) 1 8 Try.underlying27 HI.out.1 HI.out.2.1 HI.out.2.2.1 HI.out.2.2.2 rfl (by decide) _ m _ rfl HO.out A' n' c' B (ints zb) rfl (H'.out.below (HB.out.mono hBw)) (ints_one zb) (by unfold maxLen; omega) (by omega) hsz ?_)
          intro v' w3 ho3 hg3
          obtain ⟨A3, c3, rfl⟩ := own_slice ho3
          have HB3 := Lib.hid (HB.out.grown hg3 hsz (fun k hk => (HO.out.lt k hk).1))
          have HO3 := Lib.hid (show w3.ownsRow w.heap.size 3 1 (.slice A3 (m + n') c3) (m + n') (ints (zs ++ zb)) by rw [ints_app]; exact ho3)
          clear ho3 hg3
          go_wp2
          go_roundw
          case rel => exact ⟨A3, _, c3, _, rfl, .inr (.inr ⟨rfl, rfl, rfl⟩), HO3.out, HB3.out⟩
          case measure => simp [intOf]
        · go_wp2
          go_ret
          exact ⟨A2, c2, rfl, HO.out, HB.out⟩
set_option maxRecDepth 100000 in
set_option maxHeartbeats 8000000 in
theorem join_any (B : Nat) (A A' : Option Addr) (n c n' c' : Nat) (za zb : List Int) (w : World) (hBw : B ≤ w.heap.size) (h : Rd w B 1 A n (ints za)) (hn : n ≤ 100) (h' : Rd w B 1 A' n' (ints zb)) (hn' : n' ≤ 100) (hs : Srt za) :
    Calls Try.prog 70 #[.slice A n c, .slice A' n' c'] w (OwnV w.heap.size w (joinP za zb)) := by
  obtain ⟨wb, hwb⟩ : ∃ wb, wb = w.alloc (.cells #[.slice A n c, .slice A' n' c'] 27) := ⟨_, rfl⟩
  have hb0 : Below w.heap.size w wb := hwb ▸ (Below.refl _ _).alloc (Nat.le_refl _) _
  have hsz : w.heap.size + 1 ≤ wb.heap.size := by rw [hwb]; simp
  have hc0 : wb.cell? ⟨w.heap.size, 0, none⟩ = some (.slice A n c) := by rw [hwb]; simp
  have hc1 : wb.cell? ⟨w.heap.size, 1, none⟩ = some (.slice A' n' c') := by rw [hwb]; simp
  have CC := Lib.hid (concat_any B w.heap.size A A' n c n' c' za zb wb (by omega) hc0 hc1 (h.below (hb0.mono hBw)) hn (h'.below (hb0.mono hBw)) hn')
  have HW := Lib.hid hwb
  have H0 := Lib.hid hb0
  have HLA := Lib.hid h.int_len
  have HLB := Lib.hid h'.int_len
  have HSJ := Lib.hid (sc_join (b := zb) hs)
  clear h h' hwb hb0 hc0 hc1 hs
  go_enter Try.func70, Try.ntmps70
  go_wp2_with fail
  rw [← HW.out]
  refine CC.out.mono ?_
  rintro e w1 ⟨A1, c1, rfl, ho1, hb1⟩
  have HB1 := Lib.hid (H0.out.trans (hb1.mono H0.out.size))
  have hs1 := hb1.size
  rcases own_casesI ho1 with ⟨rfl, hN0, rfl⟩ | ⟨g, rfl⟩
  · have ea : za = [] := List.eq_nil_of_length_eq_zero (by have := HLA.out; omega)
    have eb : zb = [] := List.eq_nil_of_length_eq_zero (by have := HLB.out; omega)
    rw [hN0]
    have hj : joinP za zb = [] := by rw [ea, eb]; rfl
    have HJ := Lib.hid hj
    clear ho1 hb1 hj
    go_wp2_with fail
    refine (AnyM.slices_Sort_int_none Try.sortI none 0 w1).mono ?_
    rintro e w2 ⟨rfl, rfl⟩
    go_wp2_with fail
    refine (AnyG.slices_Compact_int_empty Try.compactI none 0 w2).mono ?_
    rintro e w3 ⟨rfl, rfl⟩
    go_wp2
    go_ret
    rw [HJ.out]
    exact ⟨none, 0, rfl, World.ownsRow_nil _ _ _ _, HB1.out⟩
  · obtain ⟨hH, hlt, hbg, hlen, hcap⟩ := holds_of_own ho1
    have hsort := AnyM.slices_Sort_int Try.sortI g 0 c1 (za ++ zb) w1 hH hlt (by omega)
    rw [hlen] at hsort
    have HSO := Lib.hid hsort
    have HO1 := Lib.hid ho1
    have hml : ((za ++ zb).mergeSort fun x y => decide (x ≤ y)).length = n + n' := by rw [List.length_mergeSort, hlen]
    have HML := Lib.hid hml
    clear hsort ho1 hb1 hH hlen hml
    go_wp2_with fail
    refine HSO.out.mono ?_
    rintro e w2 ⟨rfl, q, os, rfl⟩
    have ho2 := own_put HO1.out q _ HML.out (n + n') (Nat.le_refl _) os
    rw [List.take_of_length_le (by rw [HML.out]; exact Nat.le_refl _)] at ho2
    have hb2 := below_put HB1.out (show w.heap.size ≤ g by omega) hlt q ((za ++ zb).mergeSort fun x y => decide (x ≤ y)).toArray os
    obtain ⟨w2, hw2⟩ : ∃ w2, w2 = grow (putRow (Value.int .i64) (Sort.ahead w1 q) g 0 ((za ++ zb).mergeSort fun x y => decide (x ≤ y)).toArray) os := ⟨_, rfl⟩
    rw [← hw2] at ho2 hb2 ⊢
    obtain ⟨hH2, hlt2, _, hlen2, _⟩ := holds_of_own ho2
    have hcom := AnyG.slices_Compact_int Try.compactI g 0 c1 _ w2 hH2 (by omega) (by omega)
    rw [HML.out, HSJ.out] at hcom
    have hle := compact_le' ((za ++ zb).mergeSort fun x y => decide (x ≤ y))
    rw [HSJ.out, HML.out] at hle
    have HCO := Lib.hid hcom
    have HO2 := Lib.hid ho2
    have HB2 := Lib.hid hb2
    clear hw2 hcom ho2 hb2 HSO HO1 HB1 hH2 hlen2
    go_wp2_with fail
    refine HCO.out.mono ?_
    rintro e w3 ⟨rfl, q3, rfl⟩
    have ho3 := own_put HO2.out q3 (joinP za zb ++ List.replicate (n + n' - (joinP za zb).length) 0) (by simp; omega) (joinP za zb).length hle #[]
    rw [List.take_left, grow_empty] at ho3
    have hb3 := below_put HB2.out (show w.heap.size ≤ g by omega) hlt2 q3 (joinP za zb ++ List.replicate (n + n' - (joinP za zb).length) 0).toArray #[]
    rw [grow_empty] at hb3
    have HO3 := Lib.hid ho3
    have HB3 := Lib.hid hb3
    clear ho3 hb3
    go_wp2
    go_ret
    exact ⟨_, c1, rfl, own_mono HO3.out (by omega), HB3.out⟩
end Go.Proofs.Ytpdclppieicaeaa
