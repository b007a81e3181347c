/- The contracts of the functions that write a number in base 128 (spec.l1Varint, impl.putVarint). -/
import Derived.Test.YtbpeceejboojoaaNum
import Derived.Test.YtbpeceejboojoaaVarPlain
namespace Go.Proofs.Ytbpeceejboojoaa
set_option linter.unusedVariables false
set_option linter.unusedSimpArgs false
open Go.RowKit

theorem infoByte : (Try.prog.info? 5).map (fun i => (i.zero, i.size, i.bytes)) = some (some (.int .u8 0), 1, 1) := by kernel_rfl

/-- What the loop holds: the digits so far, and those of what is left, are the number's. -/
def VarInv (B z0 k : Nat) (v : Value) (w : World) : Prop := ∃ pre : List UInt8, w.ownsRow B 5 1 v pre.length (bys pre) ∧ pre ++ vb k = vb z0

set_option maxRecDepth 100000 in
set_option maxHeartbeats 1000000 in
theorem l1Varint_any (n : Int) (w : World) (h : isV n = true) :
    Calls Try.prog 53 #[.int .i64 n] w fun e w' => e = .returned (.string ⟨(vb (zig n).toNat).toArray⟩) ∧ Below w.heap.size w w' := by
  obtain ⟨hz0, hz1⟩ := zig_bd (isV_bd h).1 (isV_bd h).2
  obtain ⟨i0, hi, hi0, hi1, hi2⟩ := info_parts infoByte
  obtain ⟨z, hz⟩ : ∃ z : Nat, z = (zig n).toNat := ⟨_, rfl⟩
  have HZ := Lib.hid (show zig n = (z : Int) by omega)
  have hzb : z ≤ 2000000000000 := by omega
  rw [← hz]
  clear hz hz0 hz1
  have HV := Lib.hid h
  clear h
  have HI := Lib.hid (And.intro hi (And.intro hi0 (And.intro hi1 hi2)))
  clear hi hi0 hi1 hi2
  obtain ⟨B, hB⟩ : ∃ B, B = w.heap.size := ⟨_, rfl⟩
  rw [← hB]
  have HB := Lib.hid hB
  clear hB
  go_enter Try.func53, Try.ntmps53
  go_wp2_with (go_at_call 56; refine (l1Zig_any _ _ HV.out).mono ?_; rintro e w' ⟨rfl, rfl⟩)
  rw [HZ.out]
  go_loopw [3, 4] (fun zv v wr => ∃ k : Nat, k ≤ 2000000000000 ∧ zv = .int .i64 k ∧ VarInv B z k v wr ∧ Below B w wr ∧ B ≤ wr.heap.size) (fun zv v _ => (intOf zv).toNat)
  case atStart => exact ⟨z, hzb, rfl, ⟨[], World.ownsRow_nil _ _ _ _, rfl⟩, Below.refl _ _, by have := HB.out; omega⟩
  case round =>
    obtain ⟨k, hk, rfl, ⟨pre, ho, hp⟩, hb, hBs⟩ := hrel
    have hpl : pre.length + (vb k).length ≤ 6 := by have := vb_len6 hzb; rw [← hp, List.length_append] at this; exact this
    have hp1 := vb_pos k
    have HP := Lib.hid hp
    have HO := Lib.hid ho
    have HBB := Lib.hid hb
    clear hp ho hb
    by_cases hlt : k < 128
    · go_wp2_with (at_builtin; refine wpList_append_own _ rfl (.tmp 18) (.tmp 21) 73 rfl B 5 i0 (.int .u8 0) 1 1 Try.underlying73 HI.out.1 HI.out.2.1 HI.out.2.2.1 HI.out.2.2.2 rfl (by decide) _ _ _ rfl (HO.out.alloc _) ⟨wr.heap.size, 0, none⟩ 1 1 [.int .u8 (k : Int)] rfl rfl ?c1 ?c2 ?c3 ?c4 ?c5 ?_)
      case c1 =>
        intro j u hj
        match j, hj with
        | 0, hj => simp at hj; subst hj; simp [Addr.add]
      case c2 => intro u hu; simp at hu; subst hu; rfl
      case c3 => unfold maxLen; omega
      case c4 => omega
      case c5 => simp; omega
      intro v' w1 hown' hgrow _
      rw [byte_cell (by omega) (by omega), ← bys_app] at hown'
      obtain ⟨A, c, rfl⟩ := own_slice hown'
      have hcv := conv_own (P := Try.prog) Try.underlying73 Try.underlying5 Try.underlying9 hown' (by omega)
      have hb1 := (HBB.out.alloc hBs _).grown hgrow (by simp; omega) (fun k hk => (HO.out.lt k hk).1)
      have HB1 := Lib.hid hb1
      have HE := Lib.hid (vb_last HP.out hlt)
      clear hb1 hown' hgrow
      go_wp2
      go_ret
      rw [HE.out]
      exact ⟨rfl, HB1.out⟩
    · go_wp2_with (at_builtin; refine wpList_append_own _ rfl (.tmp 9) (.tmp 14) 73 rfl B 5 i0 (.int .u8 0) 1 1 Try.underlying73 HI.out.1 HI.out.2.1 HI.out.2.2.1 HI.out.2.2.2 rfl (by decide) _ _ _ rfl (HO.out.alloc _) ⟨wr.heap.size, 0, none⟩ 1 1 [.int .u8 (128 + (k : Int) % 128)] rfl rfl ?d1 ?d2 ?d3 ?d4 ?d5 ?_)
      case d1 =>
        intro j u hj
        match j, hj with
        | 0, hj => simp at hj; subst hj; simp [Addr.add]
      case d2 => intro u hu; simp at hu; subst hu; rfl
      case d3 => unfold maxLen; omega
      case d4 => omega
      case d5 => simp; omega
      intro v' w1 hown' hgrow _
      rw [byte_cell (by omega) (by omega), ← bys_app] at hown'
      have hb1 := (HBB.out.alloc hBs _).grown hgrow (by simp; omega) (fun k hk => (HO.out.lt k hk).1)
      have hsz := hgrow.size
      have HB1 := Lib.hid hb1
      have HW := Lib.hid hown'
      have HE := Lib.hid (vb_more HP.out (by omega))
      clear hb1 hown' hgrow
      go_wp2
      go_roundw
      case rel => exact ⟨k / 128, by omega, by go_num, ⟨_, by rw [List.length_append]; exact HW.out, HE.out⟩, HB1.out, by simp at hsz; omega⟩
      case measure => simp [intOf]; omega
set_option maxRecDepth 100000 in
set_option maxHeartbeats 1000000 in
theorem putVarint_any (n : Int) (w : World) (h : isV n = true) :
    Calls Try.prog 58 #[.int .i64 n] w fun e w' => e = .returned (.string ⟨(vb (zig n).toNat).toArray⟩) ∧ Below w.heap.size w w' := by
  obtain ⟨hz0, hz1⟩ := zig_bd (isV_bd h).1 (isV_bd h).2
  obtain ⟨i0, hi, hi0, hi1, hi2⟩ := info_parts infoByte
  obtain ⟨z, hz⟩ : ∃ z : Nat, z = (zig n).toNat := ⟨_, rfl⟩
  have HZ := Lib.hid (show zig n = (z : Int) by omega)
  have hzb : z ≤ 2000000000000 := by omega
  rw [← hz]
  clear hz hz0 hz1
  have HV := Lib.hid h
  clear h
  have HI := Lib.hid (And.intro hi (And.intro hi0 (And.intro hi1 hi2)))
  clear hi hi0 hi1 hi2
  obtain ⟨B, hB⟩ : ∃ B, B = w.heap.size := ⟨_, rfl⟩
  rw [← hB]
  have HB := Lib.hid hB
  clear hB
  go_enter Try.func58, Try.ntmps58
  go_wp2_with (go_at_call 59; refine (zigZag_any _ _ HV.out).mono ?_; rintro e w' ⟨rfl, rfl⟩)
  rw [HZ.out]
  go_loopw [4, 3] (fun zv v wr => ∃ k : Nat, k ≤ 2000000000000 ∧ zv = .int .i64 k ∧ VarInv B z k v wr ∧ Below B w wr ∧ B ≤ wr.heap.size) (fun zv v _ => (intOf zv).toNat)
  case atStart => exact ⟨z, hzb, rfl, ⟨[], World.ownsRow_nil _ _ _ _, rfl⟩, Below.refl _ _, by have := HB.out; omega⟩
  case round =>
    obtain ⟨k, hk, rfl, ⟨pre, ho, hp⟩, hb, hBs⟩ := hrel
    have hpl : pre.length + (vb k).length ≤ 6 := by have := vb_len6 hzb; rw [← hp, List.length_append] at this; exact this
    have hp1 := vb_pos k
    have HP := Lib.hid hp
    have HO := Lib.hid ho
    have HBB := Lib.hid hb
    clear hp ho hb
    by_cases hlt : k < 128
    · go_wp2_with (at_builtin; refine wpList_append_own _ rfl (.tmp 17) (.tmp 20) 73 rfl B 5 i0 (.int .u8 0) 1 1 Try.underlying73 HI.out.1 HI.out.2.1 HI.out.2.2.1 HI.out.2.2.2 rfl (by decide) _ _ _ rfl (HO.out.alloc _) ⟨wr.heap.size, 0, none⟩ 1 1 [.int .u8 (k : Int)] rfl rfl ?c1 ?c2 ?c3 ?c4 ?c5 ?_)
      case c1 =>
        intro j u hj
        match j, hj with
        | 0, hj => simp at hj; subst hj; simp [Addr.add]
      case c2 => intro u hu; simp at hu; subst hu; rfl
      case c3 => unfold maxLen; omega
      case c4 => omega
      case c5 => simp; omega
      intro v' w1 hown' hgrow _
      rw [byte_cell (by omega) (by omega), ← bys_app] at hown'
      obtain ⟨A, c, rfl⟩ := own_slice hown'
      have hcv := conv_own (P := Try.prog) Try.underlying73 Try.underlying5 Try.underlying9 hown' (by omega)
      have hb1 := (HBB.out.alloc hBs _).grown hgrow (by simp; omega) (fun k hk => (HO.out.lt k hk).1)
      have HB1 := Lib.hid hb1
      have HE := Lib.hid (vb_last HP.out hlt)
      clear hb1 hown' hgrow
      go_wp2
      go_ret
      rw [HE.out]
      exact ⟨rfl, HB1.out⟩
    · go_wp2_with (at_builtin; refine wpList_append_own _ rfl (.tmp 11) (.tmp 15) 73 rfl B 5 i0 (.int .u8 0) 1 1 Try.underlying73 HI.out.1 HI.out.2.1 HI.out.2.2.1 HI.out.2.2.2 rfl (by decide) _ _ _ rfl (HO.out.alloc _) ⟨wr.heap.size, 0, none⟩ 1 1 [.int .u8 (bits .or .u8 ((k : Int) % 256) 128)] rfl rfl ?d1 ?d2 ?d3 ?d4 ?d5 ?_)
      case d1 =>
        intro j u hj
        match j, hj with
        | 0, hj => simp at hj; subst hj; simp [Addr.add]
      case d2 => intro u hu; simp at hu; subst hu; rfl
      case d3 => unfold maxLen; omega
      case d4 => omega
      case d5 => simp; omega
      intro v' w1 hown' hgrow _
      rw [or_128 k,byte_cell (by omega) (by omega), ← bys_app] at hown'
      have hb1 := (HBB.out.alloc hBs _).grown hgrow (by simp; omega) (fun k hk => (HO.out.lt k hk).1)
      have hsz := hgrow.size
      have HB1 := Lib.hid hb1
      have HW := Lib.hid hown'
      have HE := Lib.hid (vb_more HP.out (by omega))
      clear hb1 hown' hgrow
      go_wp2
      go_roundw
      case rel => exact ⟨k / 128, by omega, by go_num, ⟨_, by rw [List.length_append]; exact HW.out, HE.out⟩, HB1.out, by simp at hsz; omega⟩
      case measure => simp [intOf]; omega
end Go.Proofs.Ytbpeceejboojoaa
