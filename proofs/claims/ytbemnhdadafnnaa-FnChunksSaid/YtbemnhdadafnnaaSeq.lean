/- The contracts of the functions on differences and prefix sums. -/
import Derived.Test.YtbemnhdadafnnaaClone
import Derived.Test.YtbemnhdadafnnaaSeqPlain
import Derived.RegionTactic
import Derived.ChangeAlike
import Derived.BigRegion
namespace Go.Proofs.Ytbemnhdadafnnaa
set_option linter.unusedVariables false
set_option linter.unusedSimpArgs false
open Go.RowKit

/-- A row's cell, one stored: what is owned behind it. -/
theorem Own.set_ {B g n c k : Nat} {zs : List Int} {w : World} (h : Own B (some ⟨g, 0, none⟩) n c zs w) (x : Int) : Own B (some ⟨g, 0, none⟩) n c (zs.set k x) (w.setCell ⟨g, k, none⟩ (.int .i64 x)) := by
  have := (World.ownsRow.stored h k (.int .i64 x)).1
  rwa [ints_set] at this
theorem Own.cell_ {B g n c k : Nat} {zs : List Int} {w : World} {x : Int} (h : Own B (some ⟨g, 0, none⟩) n c zs w) (hx : zs[k]? = some x) : w.cell? ⟨g, k, none⟩ = some (.int .i64 x) := by
  have hl := h.rd.int_len
  have hk := (List.getElem?_eq_some_iff.1 hx).1
  have e := World.ownsRow.cellAt h k (by omega)
  rw [e, ints, List.getElem?_map, hx]
  rfl
theorem drop_cons {α : Type} {l : List α} {k : Nat} {x : α} (h : l[k]? = some x) : l.drop k = x :: l.drop (k + 1) := by
  obtain ⟨hk, rfl⟩ := List.getElem?_eq_some_iff.1 h
  exact List.drop_eq_getElem_cons hk

set_option maxRecDepth 100000 in
set_option maxHeartbeats 2000000 in
theorem l2Deltas_any (B : Nat) (A : Option Addr) (n c : Nat) (zs : List Int) (w : World) (hBw : B ≤ w.heap.size) (h : Rd w B 1 A n (ints zs)) (hn : n ≤ 1000) (hb : within_ 1000000000000000 zs) :
    Calls Try.prog 49 #[.slice A n c] w fun e w' => ∃ A' c', e = .returned (.slice A' n c') ∧ Own w.heap.size A' n c' (deltas 0 zs) w' ∧ Below w.heap.size w w' := by
  obtain ⟨i0, hi, hi0, hi1, hi2⟩ := info_parts infoInt
  have HI := Lib.hid (And.intro hi (And.intro hi0 (And.intro hi1 hi2)))
  clear hi hi0 hi1 hi2
  have hlen := h.int_len
  have HL := Lib.hid hlen
  have H := Lib.hid h
  have HW := Lib.hid hb
  clear h hlen hb
  go_enter Try.func49, Try.ntmps49
  go_wp2
  go_loopw [3, 4, 9] (fun v l i wr => ∃ (k : Nat) (a : Int) (acc : List Int), k ≤ n ∧ i = .int .i64 k ∧ l = .int .i64 a ∧ -(1000000000000000 + 1000000000000000) ≤ a ∧ a ≤ 1000000000000000 + 1000000000000000 ∧ acc.length = k ∧ deltas 0 zs = acc ++ deltas a (zs.drop k) ∧ wr.ownsRow w.heap.size 3 1 v acc.length (ints acc) ∧ Below w.heap.size w wr) (fun _ _ i _ => n - (intOf i).toNat)
  case atStart => exact ⟨0, 0, [], Nat.zero_le _, rfl, rfl, by omega, by omega, rfl, rfl, World.ownsRow_nil _ _ _ _, Below.refl _ _⟩
  case round =>
    obtain ⟨k, a, acc, hk, rfl, rfl, ha0, ha1, hal, hr, ho, hb⟩ := hrel
    have HR := Lib.hid hr
    have HO := Lib.hid ho
    have HB := Lib.hid hb
    have hsz := hb.size
    have HA := Lib.hid hal
    have hal' : acc.length ≤ k := by omega
    clear hr ho hb hal
    by_cases hlt : k < n
    · obtain ⟨b, off, x, rfl, hbB, hx, hc⟩ := H.out.int_at hlt
      have hc' : wr.cell? ⟨b, off + k, none⟩ = some (.int .i64 x) := (bcell HB.out _ _ (by omega)).trans hc
      obtain ⟨hx0, hx1⟩ := within_at HW.out hx
      have HX := Lib.hid hx
      clear hx hc
      go_wp2_with (at_builtin; refine wpList_append_own _ rfl (.tmp 13) (.tmp 17) 47 rfl w.heap.size 3 i0 (.int .i64 0) 1 8 Try.underlying47 HI.out.1 HI.out.2.1 HI.out.2.2.1 HI.out.2.2.2 rfl (by decide) _ _ _ rfl (HO.out.alloc _) ⟨wr.heap.size, 0, none⟩ 1 1 [.int .i64 (x - a)] rfl rfl ?c1 ?c2 ?c3 ?c4 ?c5 ?_)
      case c1 =>
        intro j u hj
        match j, hj with
        | 0, hj => simp at hj; subst hj; simp [Addr.add]
      case c2 => intro u hu; simp at hu; subst hu; rfl
      case c3 => unfold maxLen; omega
      case c4 => omega
      case c5 => simp; omega
      intro v' w2 hown' hgrow _
      have hb3 := (HB.out.alloc hsz _).grown hgrow (by simp; omega) (fun k hk => (HO.out.lt k hk).1)
      have HB3 := Lib.hid hb3
      have HW2 := Lib.hid (show w2.ownsRow w.heap.size 3 1 v' (acc ++ [x - a]).length (ints (acc ++ [x - a])) by rw [List.length_append, ints_app]; exact hown')
      clear hb3 hown' hgrow
      go_wp2
      go_roundw
      case rel => exact ⟨k + 1, x, acc ++ [x - a], by omega, by go_num, rfl, by omega, by omega, by rw [List.length_append, HA.out]; rfl, by rw [HR.out, drop_cons HX.out, deltas, List.append_assoc]; rfl, HW2.out, HB3.out⟩
      case measure => simp [intOf]; omega
    · have hkn : k = n := by omega
      subst hkn
      obtain ⟨A', c', rfl⟩ := own_slice HO.out
      have e : deltas 0 zs = acc := by rw [HR.out, List.drop_of_length_le (by have := HL.out; omega)]; simp [deltas]
      go_wp2
      go_ret
      have hal2 := HA.out
      subst hal2
      exact ⟨A', c', rfl, by rw [e]; exact HO.out, HB.out⟩
set_option maxRecDepth 100000 in
set_option maxHeartbeats 2000000 in
theorem l2Sums_any (B : Nat) (A : Option Addr) (n c : Nat) (zs : List Int) (w : World) (hBw : B ≤ w.heap.size) (h : Rd w B 1 A n (ints zs)) (hn : n ≤ 1000) (hb : within_ 1000000000000000 zs) :
    Calls Try.prog 51 #[.slice A n c] w fun e w' => ∃ A' c', e = .returned (.slice A' n c') ∧ Own w.heap.size A' n c' (sums 0 zs) w' ∧ Below w.heap.size w w' := by
  obtain ⟨i0, hi, hi0, hi1, hi2⟩ := info_parts infoInt
  have HI := Lib.hid (And.intro hi (And.intro hi0 (And.intro hi1 hi2)))
  clear hi hi0 hi1 hi2
  have hlen := h.int_len
  have HL := Lib.hid hlen
  have H := Lib.hid h
  have HW := Lib.hid hb
  clear h hlen hb
  go_enter Try.func51, Try.ntmps51
  go_wp2
  go_loopw [3, 4, 9] (fun v l i wr => ∃ (k : Nat) (a : Int) (acc : List Int), k ≤ n ∧ i = .int .i64 k ∧ l = .int .i64 a ∧ -(1000000000000000 * k + 1000000000000000) ≤ a ∧ a ≤ 1000000000000000 * k + 1000000000000000 ∧ acc.length = k ∧ sums 0 zs = acc ++ sums a (zs.drop k) ∧ wr.ownsRow w.heap.size 3 1 v acc.length (ints acc) ∧ Below w.heap.size w wr) (fun _ _ i _ => n - (intOf i).toNat)
  case atStart => exact ⟨0, 0, [], Nat.zero_le _, rfl, rfl, by omega, by omega, rfl, rfl, World.ownsRow_nil _ _ _ _, Below.refl _ _⟩
  case round =>
    obtain ⟨k, a, acc, hk, rfl, rfl, ha0, ha1, hal, hr, ho, hb⟩ := hrel
    have HR := Lib.hid hr
    have HO := Lib.hid ho
    have HB := Lib.hid hb
    have hsz := hb.size
    have HA := Lib.hid hal
    have hal' : acc.length ≤ k := by omega
    clear hr ho hb hal
    by_cases hlt : k < n
    · obtain ⟨b, off, x, rfl, hbB, hx, hc⟩ := H.out.int_at hlt
      have hc' : wr.cell? ⟨b, off + k, none⟩ = some (.int .i64 x) := (bcell HB.out _ _ (by omega)).trans hc
      obtain ⟨hx0, hx1⟩ := within_at HW.out hx
      have HX := Lib.hid hx
      clear hx hc
      go_wp2_with (at_builtin; refine wpList_append_own _ rfl (.tmp 16) (.tmp 18) 47 rfl w.heap.size 3 i0 (.int .i64 0) 1 8 Try.underlying47 HI.out.1 HI.out.2.1 HI.out.2.2.1 HI.out.2.2.2 rfl (by decide) _ _ _ rfl (HO.out.alloc _) ⟨wr.heap.size, 0, none⟩ 1 1 [.int .i64 (a + x)] rfl rfl ?c1 ?c2 ?c3 ?c4 ?c5 ?_)
      case c1 =>
        intro j u hj
        match j, hj with
        | 0, hj => simp at hj; subst hj; simp [Addr.add]
      case c2 => intro u hu; simp at hu; subst hu; rfl
      case c3 => unfold maxLen; omega
      case c4 => omega
      case c5 => simp; omega
      intro v' w2 hown' hgrow _
      have hb3 := (HB.out.alloc hsz _).grown hgrow (by simp; omega) (fun k hk => (HO.out.lt k hk).1)
      have HB3 := Lib.hid hb3
      have HW2 := Lib.hid (show w2.ownsRow w.heap.size 3 1 v' (acc ++ [a + x]).length (ints (acc ++ [a + x])) by rw [List.length_append, ints_app]; exact hown')
      clear hb3 hown' hgrow
      go_wp2
      go_roundw
      case rel => exact ⟨k + 1, a + x, acc ++ [a + x], by omega, by go_num, rfl, by omega, by omega, by rw [List.length_append, HA.out]; rfl, by rw [HR.out, drop_cons HX.out, sums, List.append_assoc]; rfl, HW2.out, HB3.out⟩
      case measure => simp [intOf]; omega
    · have hkn : k = n := by omega
      subst hkn
      obtain ⟨A', c', rfl⟩ := own_slice HO.out
      have e : sums 0 zs = acc := by rw [HR.out, List.drop_of_length_le (by have := HL.out; omega)]; simp [sums]
      go_wp2
      go_ret
      have hal2 := HA.out
      subst hal2
      exact ⟨A', c', rfl, by rw [e]; exact HO.out, HB.out⟩

set_option maxRecDepth 100000 in
set_option maxHeartbeats 2000000 in
theorem deltasOf_any (B : Nat) (A : Option Addr) (n c : Nat) (zs : List Int) (w : World) (hBw : B ≤ w.heap.size) (h : Rd w B 1 A n (ints zs)) (hn : n ≤ 1000) (hb : within_ 1000000000000000 zs) :
    Calls Try.prog 47 #[.slice A n c] w fun e w' => ∃ A' c', e = .returned (.slice A' n c') ∧ Own w.heap.size A' n c' (deltas 0 zs) w' ∧ Below w.heap.size w w' := by
  have hlen := h.int_len
  have HL := Lib.hid hlen
  have H := Lib.hid h
  have HW := Lib.hid hb
  clear h hlen hb
  have HWS := Lib.hid (within_sums (M := 1000000000000000) (l := zs) (a := 0) (j := 0) (by omega) (by omega) (by omega) HW.out)
  go_enter Try.func47, Try.ntmps47
  go_wp2_with fail
  refine (clone_any B A n c zs w hBw H.out (by omega)).mono ?_
  rintro e w1 ⟨A1, c1, rfl, ho1, hb1⟩
  have HO1 := Lib.hid ho1
  have HB1 := Lib.hid hb1
  clear ho1 hb1
  go_wp2_with fail
  go_loopw [4] (fun i wr => ∃ k : Nat, 1 ≤ k ∧ (k = 1 ∨ k ≤ n) ∧ i = .int .i64 k ∧ Own w.heap.size A1 n c1 (mixed (deltas 0 zs) zs k) wr ∧ Below w.heap.size w wr) (fun i _ => n - (intOf i).toNat)
  case atStart =>
    refine ⟨1, Nat.le_refl _, .inl rfl, rfl, ?_, HB1.out⟩
    rw [mixed_one]
    · exact HO1.out
    · cases zs with
      | nil => rfl
      | cons z zs => simp [deltas]
  case round =>
    clear HO1 HB1
    obtain ⟨k, hk1, hkn, rfl, ho, hb⟩ := hrel
    by_cases hlt : k < n
    · obtain ⟨j, rfl⟩ : ∃ j, k = j + 1 := ⟨k - 1, by omega⟩
      have hml := deltas_len zs 0
      have hzl := HL.out
      obtain ⟨b', off', x, he, hB', hx, hcx⟩ := H.out.int_at (k := j + 1) (by omega)
      obtain ⟨g, cap, hv, hbg, hgl, _, _⟩ := own_form ho (by omega)
      obtain ⟨rfl, rfl⟩ : A1 = some ⟨g, 0, none⟩ ∧ c1 = cap := by simpa using hv
      have hcx' : wr.cell? ⟨g, j + 1, none⟩ = some (.int .i64 x) := ho.cell_ (by rw [mixed_get_hi (by omega)]; exact hx)
      have hf := World.ownsRow.frozenAt ho (j + 1)
      have hxb := within_at HW.out hx
      obtain ⟨b, off, p, rfl, hB, hp, hcp⟩ := H.out.int_at (k := j) (by omega)
      have hcp' : wr.cell? ⟨b, off + j, none⟩ = some (.int .i64 p) := (bcell hb _ _ (by omega)).trans hcp
      have hpb := within_at HW.out hp
      have HG := Lib.hid hbg
      have hstep : (deltas 0 zs)[j + 1]? = some (x - p) := deltas_succ hp hx
      clear hcp hp hB
      clear hv he hB' hcx hbg hgl
      have HO := Lib.hid ho
      have HB := Lib.hid hb
      have HST := Lib.hid hstep
      clear ho hb hx hml hzl hstep
      go_wp2
      go_region
      all_goals go_wp2
      all_goals go_roundw
      case rel =>
        refine ⟨j + 1 + 1, by omega, by omega, by go_num, ?_, Below.drew (HB.out.setCell (by have := HG.out; exact this) _)⟩
        rw [← mixed_set (deltas_len zs 0) HST.out]
        exact HO.out.set_ _
      case measure => simp [intOf]; omega
    · have e : mixed (deltas 0 zs) zs k = deltas 0 zs := mixed_all (deltas_len zs 0) (by rw [deltas_len]; have := HL.out; omega)
      rw [e] at ho
      go_wp2
      go_ret
      exact ⟨A1, c1, rfl, ho, hb⟩
set_option maxRecDepth 100000 in
set_option maxHeartbeats 2000000 in
theorem sumsOf_any (B : Nat) (A : Option Addr) (n c : Nat) (zs : List Int) (w : World) (hBw : B ≤ w.heap.size) (h : Rd w B 1 A n (ints zs)) (hn : n ≤ 1000) (hb : within_ 1000000000000000 zs) :
    Calls Try.prog 50 #[.slice A n c] w fun e w' => ∃ A' c', e = .returned (.slice A' n c') ∧ Own w.heap.size A' n c' (sums 0 zs) w' ∧ Below w.heap.size w w' := by
  have hlen := h.int_len
  have HL := Lib.hid hlen
  have H := Lib.hid h
  have HW := Lib.hid hb
  clear h hlen hb
  have HWS := Lib.hid (within_sums (M := 1000000000000000) (l := zs) (a := 0) (j := 0) (by omega) (by omega) (by omega) HW.out)
  go_enter Try.func50, Try.ntmps50
  go_wp2_with fail
  refine (clone_any B A n c zs w hBw H.out (by omega)).mono ?_
  rintro e w1 ⟨A1, c1, rfl, ho1, hb1⟩
  have HO1 := Lib.hid ho1
  have HB1 := Lib.hid hb1
  clear ho1 hb1
  go_wp2_with fail
  go_loopw [4] (fun i wr => ∃ k : Nat, 1 ≤ k ∧ (k = 1 ∨ k ≤ n) ∧ i = .int .i64 k ∧ Own w.heap.size A1 n c1 (mixed (sums 0 zs) zs k) wr ∧ Below w.heap.size w wr) (fun i _ => n - (intOf i).toNat)
  case atStart =>
    refine ⟨1, Nat.le_refl _, .inl rfl, rfl, ?_, HB1.out⟩
    rw [mixed_one]
    · exact HO1.out
    · cases zs with
      | nil => rfl
      | cons z zs => simp [sums]
  case round =>
    clear HO1 HB1
    obtain ⟨k, hk1, hkn, rfl, ho, hb⟩ := hrel
    by_cases hlt : k < n
    · obtain ⟨j, rfl⟩ : ∃ j, k = j + 1 := ⟨k - 1, by omega⟩
      have hml := sums_len zs 0
      have hzl := HL.out
      obtain ⟨b', off', x, he, hB', hx, hcx⟩ := H.out.int_at (k := j + 1) (by omega)
      obtain ⟨g, cap, hv, hbg, hgl, _, _⟩ := own_form ho (by omega)
      obtain ⟨rfl, rfl⟩ : A1 = some ⟨g, 0, none⟩ ∧ c1 = cap := by simpa using hv
      have hcx' : wr.cell? ⟨g, j + 1, none⟩ = some (.int .i64 x) := ho.cell_ (by rw [mixed_get_hi (by omega)]; exact hx)
      have hf := World.ownsRow.frozenAt ho (j + 1)
      have hxb := within_at HW.out hx
      have HG := Lib.hid hbg
      obtain ⟨p, hp⟩ : ∃ p, (sums 0 zs)[j]? = some p := ⟨_, List.getElem?_eq_getElem (by omega)⟩
      have hcp' : wr.cell? ⟨g, j, none⟩ = some (.int .i64 p) := ho.cell_ (by rw [mixed_get_lo (by omega) (by omega)]; exact hp)
      have hpb : -1000000000000000000 ≤ p ∧ p ≤ 1000000000000000000 := by
        have := within_at HWS.out hp
        rw [Nat.zero_add, hzl] at this
        omega
      have hstep : (sums 0 zs)[j + 1]? = some (x + p) := by rw [Int.add_comm]; exact sums_succ hp hx
      clear hp
      clear hv he hB' hcx hbg hgl
      have HO := Lib.hid ho
      have HB := Lib.hid hb
      have HST := Lib.hid hstep
      clear ho hb hx hml hzl hstep
      go_wp2
      go_region
      all_goals go_wp2
      all_goals go_roundw
      case rel =>
        refine ⟨j + 1 + 1, by omega, by omega, by go_num, ?_, Below.drew (HB.out.setCell (by have := HG.out; exact this) _)⟩
        rw [← mixed_set (sums_len zs 0) HST.out]
        exact HO.out.set_ _
      case measure => simp [intOf]; omega
    · have e : mixed (sums 0 zs) zs k = sums 0 zs := mixed_all (sums_len zs 0) (by rw [sums_len]; have := HL.out; omega)
      rw [e] at ho
      go_wp2
      go_ret
      exact ⟨A1, c1, rfl, ho, hb⟩
end Go.Proofs.Ytbemnhdadafnnaa
