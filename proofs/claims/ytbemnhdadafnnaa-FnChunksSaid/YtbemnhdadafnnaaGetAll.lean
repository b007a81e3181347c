/- The contracts of the functions that read all numbers of a string (spec.l1GetAll, impl.getAll). -/
import Derived.Test.YtbemnhdadafnnaaGetLaw
import Derived.Test.YtbemnhdadafnnaaInts
namespace Go.Proofs.Ytbemnhdadafnnaa
set_option linter.unusedVariables false
set_option linter.unusedSimpArgs false
open Go.RowKit

def rdF : Nat → List UInt8 → Option (List Int)
  | 0, _ => some []
  | f + 1, l => if l = [] then some [] else match gv l with
    | none => none
    | some (n, k) => (rdF f (l.drop k)).map (n :: ·)
/-- The numbers whose encodings some bytes are. -/
def rd (l : List UInt8) : Option (List Int) := rdF l.length l
theorem rdF_eq : ∀ (f : Nat) (l : List UInt8), l.length ≤ f → ∀ g, l.length ≤ g → rdF f l = rdF g l
  | 0, l, h, 0, h' => rfl
  | 0, l, h, g + 1, h' => by
    obtain rfl : l = [] := List.eq_nil_of_length_eq_zero (by omega)
    rfl
  | f + 1, l, h, 0, h' => by
    obtain rfl : l = [] := List.eq_nil_of_length_eq_zero (by omega)
    rfl
  | f + 1, l, h, g + 1, h' => by
    rw [rdF, rdF]
    by_cases hl : l = []
    · rw [if_pos hl, if_pos hl]
    · rw [if_neg hl, if_neg hl]
      cases e : gv l with
      | none => rfl
      | some p =>
        obtain ⟨n, k⟩ := p
        have hb := gv_bd e
        have hd : (l.drop k).length = l.length - k := List.length_drop ..
        simp only
        rw [rdF_eq f (l.drop k) (by omega) g (by omega)]
theorem rd_nil : rd [] = some [] := rfl
theorem rd_none {l : List UInt8} (hl : l ≠ []) (h : gv l = none) : rd l = none := by
  unfold rd
  cases e : l.length with
  | zero => exact absurd (List.eq_nil_of_length_eq_zero e) hl
  | succ f => rw [rdF, if_neg hl, h]
theorem rd_some {l : List UInt8} {n : Int} {k : Nat} (hl : l ≠ []) (h : gv l = some (n, k)) : rd l = (rd (l.drop k)).map (n :: ·) := by
  have hb := gv_bd h
  have hd : (l.drop k).length = l.length - k := List.length_drop ..
  unfold rd
  cases e : l.length with
  | zero => exact absurd (List.eq_nil_of_length_eq_zero e) hl
  | succ f =>
    rw [rdF, if_neg hl, h]
    simp only
    rw [rdF_eq f (l.drop k) (by omega) _ (Nat.le_refl _)]
theorem from_nil {s : ByteArray} {pos : Nat} (h : s.size ≤ pos) : from_ s pos = [] := List.eq_nil_of_length_eq_zero (by rw [from_len]; omega)
theorem from_cons {s : ByteArray} {pos : Nat} (h : pos < s.size) : from_ s pos ≠ [] := fun e => by have := congrArg List.length e; rw [from_len] at this; simp at this; omega
theorem from_drop (s : ByteArray) (pos k : Nat) : (from_ s pos).drop k = from_ s (pos + k) := by unfold from_; rw [List.drop_drop]
theorem from_zero (s : ByteArray) : from_ s 0 = s.data.toList := rfl

/-- What is left to read, behind what has been read. -/
def AllInv (s : ByteArray) (T : Option (List Int)) (pos : Nat) (acc : List Int) : Prop := T = (rd (from_ s pos)).map (acc ++ ·)
theorem AllInv.start (s : ByteArray) : AllInv s (rd s.data.toList) 0 [] := by
  unfold AllInv; rw [from_zero]; cases rd s.data.toList <;> simp
theorem AllInv.fail {s : ByteArray} {T : Option (List Int)} {pos : Nat} {acc : List Int} (h : AllInv s T pos acc) (hp : pos < s.size) (hg : gv (from_ s pos) = none) : T = none := by
  rw [h, rd_none (from_cons hp) hg]; rfl
theorem AllInv.next {s : ByteArray} {T : Option (List Int)} {pos : Nat} {acc : List Int} {n : Int} {k : Nat} (h : AllInv s T pos acc) (hp : pos < s.size) (hg : gv (from_ s pos) = some (n, k)) : AllInv s T (pos + k) (acc ++ [n]) := by
  unfold AllInv at h ⊢
  rw [h, rd_some (from_cons hp) hg, from_drop]
  cases rd (from_ s (pos + k)) <;> simp
theorem AllInv.done {s : ByteArray} {T : Option (List Int)} {pos : Nat} {acc : List Int} (h : AllInv s T pos acc) (hp : s.size ≤ pos) : T = some acc := by
  rw [h, from_nil hp, rd_nil]; simp

/-- What reading all numbers hands back: nil and false, or the numbers in new memory. -/
def Got (w : World) (T : Option (List Int)) (e : Ending) (w' : World) : Prop :=
  (T = none → e = .returned (.tuple #[.slice none 0 0, .bool false])) ∧
  (∀ l, T = some l → ∃ A c, e = .returned (.tuple #[.slice A l.length c, .bool true]) ∧ w'.ownsRow w.heap.size 3 1 (.slice A l.length c) l.length (ints l)) ∧ Below w.heap.size w w'

set_option maxRecDepth 100000 in
set_option maxHeartbeats 1000000 in
theorem l1GetAll_any (s : ByteArray) (w : World) (hs : s.size ≤ 1048576) :
    Calls Try.prog 61 #[.string s] w (Got w (rd s.data.toList)) := by
  obtain ⟨i0, hi, hi0, hi1, hi2⟩ := info_parts infoInt
  have HI := Lib.hid (And.intro hi (And.intro hi0 (And.intro hi1 hi2)))
  clear hi hi0 hi1 hi2
  have hA0 := AllInv.start s
  generalize rd s.data.toList = T at hA0 ⊢
  have HA0 := Lib.hid hA0
  clear hA0
  obtain ⟨B, hB⟩ : ∃ B, B = w.heap.size := ⟨_, rfl⟩
  have HB := Lib.hid hB
  have hBw : B ≤ w.heap.size := by omega
  clear hB
  go_enter Try.func61, Try.ntmps61
  go_wp2
  go_loopw [4, 5] (fun v i wr => ∃ (pos : Nat) (acc : List Int), pos ≤ s.size ∧ acc.length ≤ pos ∧ i = .int .i64 pos ∧ wr.ownsRow B 3 1 v acc.length (ints acc) ∧ AllInv s T pos acc ∧ Below B w wr ∧ B ≤ wr.heap.size) (fun _ i _ => s.size - (intOf i).toNat)
  case atStart => exact ⟨0, [], by omega, by simp, rfl, World.ownsRow_nil _ _ _ _, HA0.out, Below.refl _ _, hBw⟩
  case round =>
    obtain ⟨pos, acc, hpl, hal, rfl, ho, hA, hb, hBr⟩ := hrel
    have HO := Lib.hid ho
    have HA := Lib.hid hA
    have HBB := Lib.hid hb
    clear HA0 ho hA hb
    by_cases hlt : pos < s.size
    · have hx := l1Get_any s pos wr hs (by omega)
      cases hg : gv (from_ s pos) with
      | none =>
        have e : T = none := HA.out.fail hlt hg
        subst e
        rw [hg] at hx
        have HX := Lib.hid hx
        clear hx hg
        go_wp2_with fail
        refine HX.out.mono ?_
        rintro e w1 ⟨rfl, hb1⟩
        have HB1 := Lib.hid (show Below wr.heap.size wr w1 by first | exact hb1 | exact hb1 ▸ Below.refl _ _)
        clear hb1
        simp only [gvS]
        go_wp2
        go_ret2
        exact ⟨fun _ => rfl, fun l h => (by cases h), HB.out ▸ HBB.out.trans (HB1.out.mono hBr)⟩
      | some p =>
        obtain ⟨n, k⟩ := p
        obtain ⟨_, _, hk0, hk1⟩ := gv_bd hg
        rw [from_len] at hk1
        have HN := Lib.hid (HA.out.next hlt hg)
        rw [hg] at hx
        have HX := Lib.hid hx
        clear hx hg
        go_wp2_with fail
        refine HX.out.mono ?_
        rintro e w1 ⟨rfl, hb1⟩
        have hb1' : Below wr.heap.size wr w1 := by first | exact hb1 | exact hb1 ▸ Below.refl _ _
        have hb2 := HBB.out.trans (hb1'.mono hBr)
        have ho1 := own_below HO.out hb1' (Nat.le_refl _)
        have hs1 : B ≤ w1.heap.size := by have := hb1'.size; omega
        clear hb1 hb1' HBB HO
        have HBB := Lib.hid hb2
        have HO := Lib.hid ho1
        clear hb2 ho1
        simp only [gvS]
        go_wp2_with (at_builtin; refine wpList_append_own _ rfl (.tmp 20) (.tmp 22) 47 rfl B 3 i0 (.int .i64 0) 1 8 Try.underlying47 HI.out.1 HI.out.2.1 HI.out.2.2.1 HI.out.2.2.2 rfl (by decide) _ _ _ rfl (HO.out.alloc _) ⟨w1.heap.size, 0, none⟩ 1 1 [.int .i64 n] rfl rfl ?c1 ?c2 ?c3 ?c4 ?c5 ?_)
        case c1 =>
          intro j u hj
          match j, hj with
          | 0, hj => simp at hj; subst hj; simp [Addr.add]
        case c2 => intro u hu; simp at hu; subst hu; rfl
        case c3 => unfold maxLen; omega
        case c4 => omega
        case c5 => simp; omega
        intro v' w2 hown' hgrow _
        have hb3 := (HBB.out.alloc hs1 _).grown hgrow (by simp; omega) (fun k hk => (HO.out.lt k hk).1)
        have hsz := hgrow.size
        have HB3 := Lib.hid hb3
        have HW := Lib.hid (show w2.ownsRow B 3 1 v' (acc ++ [n]).length (ints (acc ++ [n])) by rw [List.length_append, ints_app]; exact hown')
        clear hb3 hown' hgrow
        go_wp2
        go_roundw
        case rel => exact ⟨pos + k, acc ++ [n], by omega, by rw [List.length_append]; simp; omega, by go_num, HW.out, HN.out, HB3.out, by simp at hsz; omega⟩
        case measure => simp [intOf]; omega
    · have e : T = some acc := HA.out.done (by omega)
      subst e
      have h := HO.out
      obtain ⟨A, c, rfl⟩ := own_slice h
      clear h
      go_wp2
      go_ret2
      refine ⟨fun h => (by cases h), fun l h => ?_, HB.out ▸ HBB.out⟩
      injection h with h
      subst h
      exact ⟨A, c, rfl, HB.out ▸ HO.out⟩
set_option maxRecDepth 100000 in
set_option maxHeartbeats 1000000 in
theorem getAll_any (s : ByteArray) (w : World) (hs : s.size ≤ 1048576) :
    Calls Try.prog 54 #[.string s] w (Got w (rd s.data.toList)) := by
  obtain ⟨i0, hi, hi0, hi1, hi2⟩ := info_parts infoInt
  have HI := Lib.hid (And.intro hi (And.intro hi0 (And.intro hi1 hi2)))
  clear hi hi0 hi1 hi2
  have hA0 := AllInv.start s
  generalize rd s.data.toList = T at hA0 ⊢
  have HA0 := Lib.hid hA0
  clear hA0
  obtain ⟨B, hB⟩ : ∃ B, B = w.heap.size := ⟨_, rfl⟩
  have HB := Lib.hid hB
  have hBw : B ≤ w.heap.size := by omega
  clear hB
  go_enter Try.func54, Try.ntmps54
  go_wp2
  go_loopw [4, 5] (fun v i wr => ∃ (pos : Nat) (acc : List Int), pos ≤ s.size ∧ acc.length ≤ pos ∧ i = .int .i64 pos ∧ wr.ownsRow B 3 1 v acc.length (ints acc) ∧ AllInv s T pos acc ∧ Below B w wr ∧ B ≤ wr.heap.size) (fun _ i _ => s.size - (intOf i).toNat)
  case atStart => exact ⟨0, [], by omega, by simp, rfl, World.ownsRow_nil _ _ _ _, HA0.out, Below.refl _ _, hBw⟩
  case round =>
    obtain ⟨pos, acc, hpl, hal, rfl, ho, hA, hb, hBr⟩ := hrel
    have HO := Lib.hid ho
    have HA := Lib.hid hA
    have HBB := Lib.hid hb
    clear HA0 ho hA hb
    by_cases hlt : pos < s.size
    · have hx := getVarint_any s pos wr hs (by omega)
      cases hg : gv (from_ s pos) with
      | none =>
        have e : T = none := HA.out.fail hlt hg
        subst e
        rw [hg] at hx
        have HX := Lib.hid hx
        clear hx hg
        go_wp2_with fail
        refine HX.out.mono ?_
        rintro e w1 ⟨rfl, hb1⟩
        have HB1 := Lib.hid (show Below wr.heap.size wr w1 by first | exact hb1 | exact hb1 ▸ Below.refl _ _)
        clear hb1
        simp only [gvI]
        go_wp2
        go_ret2
        exact ⟨fun _ => rfl, fun l h => (by cases h), HB.out ▸ HBB.out.trans (HB1.out.mono hBr)⟩
      | some p =>
        obtain ⟨n, k⟩ := p
        obtain ⟨_, _, hk0, hk1⟩ := gv_bd hg
        rw [from_len] at hk1
        have HN := Lib.hid (HA.out.next hlt hg)
        rw [hg] at hx
        have HX := Lib.hid hx
        clear hx hg
        go_wp2_with fail
        refine HX.out.mono ?_
        rintro e w1 ⟨rfl, hb1⟩
        have hb1' : Below wr.heap.size wr w1 := by first | exact hb1 | exact hb1 ▸ Below.refl _ _
        have hb2 := HBB.out.trans (hb1'.mono hBr)
        have ho1 := own_below HO.out hb1' (Nat.le_refl _)
        have hs1 : B ≤ w1.heap.size := by have := hb1'.size; omega
        clear hb1 hb1' HBB HO
        have HBB := Lib.hid hb2
        have HO := Lib.hid ho1
        clear hb2 ho1
        simp only [gvI]
        go_wp2_with (at_builtin; refine wpList_append_own _ rfl (.tmp 22) (.tmp 24) 47 rfl B 3 i0 (.int .i64 0) 1 8 Try.underlying47 HI.out.1 HI.out.2.1 HI.out.2.2.1 HI.out.2.2.2 rfl (by decide) _ _ _ rfl (HO.out.alloc _) ⟨w1.heap.size, 0, none⟩ 1 1 [.int .i64 n] rfl rfl ?c1 ?c2 ?c3 ?c4 ?c5 ?_)
        case c1 =>
          intro j u hj
          match j, hj with
          | 0, hj => simp at hj; subst hj; simp [Addr.add]
        case c2 => intro u hu; simp at hu; subst hu; rfl
        case c3 => unfold maxLen; omega
        case c4 => omega
        case c5 => simp; omega
        intro v' w2 hown' hgrow _
        have hb3 := (HBB.out.alloc hs1 _).grown hgrow (by simp; omega) (fun k hk => (HO.out.lt k hk).1)
        have hsz := hgrow.size
        have HB3 := Lib.hid hb3
        have HW := Lib.hid (show w2.ownsRow B 3 1 v' (acc ++ [n]).length (ints (acc ++ [n])) by rw [List.length_append, ints_app]; exact hown')
        clear hb3 hown' hgrow
        go_wp2
        go_roundw
        case rel => exact ⟨pos + k, acc ++ [n], by omega, by rw [List.length_append]; simp; omega, by go_num, HW.out, HN.out, HB3.out, by simp at hsz; omega⟩
        case measure => simp [intOf]; omega
    · have e : T = some acc := HA.out.done (by omega)
      subst e
      have h := HO.out
      obtain ⟨A, c, rfl⟩ := own_slice h
      clear h
      go_wp2
      go_ret2
      refine ⟨fun h => (by cases h), fun l h => ?_, HB.out ▸ HBB.out⟩
      injection h with h
      subst h
      exact ⟨A, c, rfl, HB.out ▸ HO.out⟩
end Go.Proofs.Ytbemnhdadafnnaa
