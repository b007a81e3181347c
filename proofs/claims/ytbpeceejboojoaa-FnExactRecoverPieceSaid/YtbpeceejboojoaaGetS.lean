/- The contracts of the functions that read a number in base 128: the reference's side (spec.l1Get). -/
import Derived.Test.YtbpeceejboojoaaGetV
import Derived.Lib.Strings
namespace Go.Proofs.Ytbpeceejboojoaa
set_option linter.unusedVariables false
set_option linter.unusedSimpArgs false
open Go.RowKit

def gvS (pos : Nat) : Option (Int × Nat) → Value
  | none => .tuple #[.int .i64 0, .int .i64 (-1)]
  | some (n, k) => .tuple #[.int .i64 n, .int .i64 ((pos + k : Nat) : Int)]

theorem GetInv.cmp {L : List UInt8} {j : Nat} {z : Int} {c : UInt8} (h : GetInv L j z) (hj : L[j]? = some c) (hc : c.toNat < 128) {d m : Int} (hd : d = ((c.toNat % 128 : Nat) : Int)) (hm : m = ((128 ^ j : Nat) : Int)) :
    vb (zig (zag (z + d * m))).toNat = L.take (j + 1) ↔ (j = 0 ∨ c.toNat ≠ 0) := by
  have hl := (List.getElem?_eq_some_iff.1 hj).1
  have e : z + d * m = (val (L.take (j + 1)) : Nat) := by rw [val_step hj, h.2, hd, hm]; simp
  rw [e, zig_zag (by omega), Int.toNat_natCast, take_snoc' L j c hj, canon c hc _ h.1]
  have e1 : L.take j = [] ↔ j = 0 := by
    constructor
    · intro h'
      have := congrArg List.length h'
      rw [List.length_take] at this
      simp at this
      rcases this with h0 | h0
      · exact h0
      · subst h0; simp at hl
    · rintro rfl; rfl
  have e2 : c ≠ 0 ↔ c.toNat ≠ 0 := not_congr ⟨fun h => by rw [h]; rfl, fun h => UInt8.toNat_inj.1 (by simpa using h)⟩
  rw [e1, e2]
theorem cut_from (s : ByteArray) (pos j : Nat) : (s.extract pos (pos + j + 1)).toList = (from_ s pos).take (j + 1) := by
  rw [Lib.extract_toList, from_, show pos + j + 1 - pos = j + 1 from by omega]

set_option maxRecDepth 100000 in
set_option maxHeartbeats 8000000 in
theorem l1Get_any (s : ByteArray) (pos : Nat) (w : World) (hs : s.size ≤ 1048576) (hp : pos ≤ 1048576) :
    Calls Try.prog 44 #[.string s, .int .i64 pos] w fun e w' => e = .returned (gvS pos (gv (from_ s pos))) ∧ Below w.heap.size w w' := by
  obtain ⟨R, hR⟩ : ∃ R, R = gv (from_ s pos) := ⟨_, rfl⟩
  have HR := Lib.hid hR
  rw [← hR]
  clear hR
  go_enter Try.func44, Try.ntmps44
  go_wp2
  go_loop [6, 7, 8] (fun z y i => ∃ (k j : Nat) (zz : Int), k = pos + j ∧ j ≤ 7 ∧ (j = 0 ∨ k ≤ s.size) ∧ i = .int .i64 k ∧ y = .int .i64 ((128 ^ j : Nat) : Int) ∧ z = .int .i64 zz ∧ GetInv (from_ s pos) j zz) (fun _ _ i => s.size - (intOf i).toNat)
  case atStart => exact ⟨pos, 0, 0, rfl, by omega, .inl rfl, rfl, rfl, rfl, GetInv.zero _⟩
  case round =>
    obtain ⟨k, j, zz, hkj, hj6, hk1, rfl, rfl, rfl, hG⟩ := hrel
    have HG := Lib.hid hG
    obtain ⟨hz0, hz1⟩ := hG.bd
    clear hG
    by_cases hlt : k < s.size
    · by_cases h6 : j = 7
      · subst h6
        subst hkj
        have e : R = none := HR.out.trans (gv_far (by rw [from_len]; omega) (fun x hx => HG.out.1 x (by
          rw [show (from_ s pos).take 6 = ((from_ s pos).take 7).take 6 from by rw [List.take_take]; rfl] at hx
          exact List.mem_of_mem_take hx)))
        subst e
        go_wp2
        go_ret2
        exact ⟨rfl, Below.refl _ _⟩
      · rcases (show j = 0 ∨ j = 1 ∨ j = 2 ∨ j = 3 ∨ j = 4 ∨ j = 5 ∨ j = 6 by omega) with rfl | rfl | rfl | rfl | rfl | rfl | rfl
        · obtain rfl : pos = k := by omega
          clear hkj
          have hz2 : zz < 1 := hz1
          clear hz1
          have hm : (1 : Int) = ((128 ^ 0 : Nat) : Int) := by decide
          rw [← hm]
          have hget : (from_ s pos)[0]? = some s[pos] := from_get s pos 0 (by omega)
          have hE1 := and_127 s[pos]
          obtain ⟨d, hd⟩ : ∃ d : Int, d = ((s[pos].toNat % 128 : Nat) : Int) := ⟨_, rfl⟩
          rw [← hd] at hE1
          have hd0 : 0 ≤ d := by omega
          have hd1 : d < 128 := by omega
          obtain ⟨zn, hzn⟩ : ∃ zn : Int, zn = zz + d * 1 := ⟨_, rfl⟩
          have hn0 : 0 ≤ zn := by omega
          have hn1 : zn ≤ 562949953421312 := by omega
          have HST := Lib.hid (fun hc => HG.out.step hget hc hd hm)
          have HHI := Lib.hid (fun hc => HG.out.hit hget hc hd hm)
          have HCM := Lib.hid (fun hc => HG.out.cmp hget hc hd hm)
          have HC := Lib.hid (show s[pos].toNat < 128 → (s[pos].toNat : Int) = d from fun h => by omega)
          have HZ := Lib.hid hzn
          clear hzn hget hd hm
          obtain rfl : zz = 0 := by omega
          have hzr : d = zn := by have := HZ.out; omega
          by_cases hb : s[pos].toNat < 128
          · have hb' : (s[pos].toNat : Int) < 128 := by omega
            by_cases hzl : zn ≤ 2000000000000
            · have hzb := zag_bd hn0 hzl
              have hisv : isV (zag zn) = true := inB_t hzb.1 hzb.2
              have HV := Lib.hid hisv
              clear hisv hzb
              have hdec : decide ((2000000000000 : Int) < zn) = false := by simp; omega
              go_wp2_with (go_at_call 52; refine (l1Zag_any _ _ hn0 (by omega)).mono ?_; rintro e w' ⟨rfl, rfl⟩)
              refine wp_region_beyond (B := w.heap.size) (W := w) (Below.refl _ _) (by kernel_rfl) (by kernel_rfl) ?_
              repeat (go_big_quiet_step ((go_at_call 53; exact calls_beyond (Nat.le_refl _) (l1Varint_any _ _ HV.out))))
              refine wpQuiet_nil ?_
              intro _ hw'
              obtain ⟨y, rfl⟩ := hw'
              go_wp2
              · have ht : (!vb (zig (zag zn)).toNat == (s.extract pos (pos + 1)).toList) = true := by assumption
                have hne : ¬ vb (zig (zag zn)).toNat = (from_ s pos).take (0 + 1) := by
                  rw [← cut_from]
                  simpa using ht
                have e : R = none := by
                  rw [HR.out, HHI.out hb, ← HZ.out]
                  refine if_neg (fun h => hne ?_)
                  have := (HCM.out hb).2 h.2.1
                  rwa [← HZ.out] at this
                subst e
                go_ret2
                exact ⟨rfl, y.2⟩
              · have ht : (!vb (zig (zag zn)).toNat == (s.extract pos (pos + 1)).toList) = false := by assumption
                have heq : vb (zig (zag zn)).toNat = (from_ s pos).take (0 + 1) := by
                  rw [← cut_from]
                  simpa using ht
                have hcond : 0 = 0 ∨ s[pos].toNat ≠ 0 := by first | exact .inl rfl | exact (HCM.out hb).1 (by rw [← HZ.out]; exact heq)
                have e : R = some (zag zn, 0 + 1) := by
                  rw [HR.out, HHI.out hb, ← HZ.out]
                  exact if_pos ⟨by have := HC.out hb; omega, by first | exact hcond | simp, hzl⟩
                subst e
                go_ret2
                exact ⟨rfl, y.2⟩
            · first
                | (exfalso; omega)
                | (have e : R = none := by rw [HR.out, HHI.out hb, ← HZ.out]; exact if_neg (fun h => hzl h.2.2)
                   have hdec : decide ((2000000000000 : Int) < zn) = true := by simp; omega
                   subst e
                   go_wp2_with (go_at_call 52; refine (l1Zag_any _ _ hn0 (by omega)).mono ?_; rintro e w' ⟨rfl, rfl⟩)
                   go_quiet (fail)
                   go_wp2
                   go_ret2
                   exact ⟨rfl, Below.drewN (Below.refl _ _) nq⟩)
          · have hb' : (128 : Int) ≤ (s[pos].toNat : Int) := by omega
            go_wp2
            go_round
            case rel => exact ⟨pos + 1, 0 + 1, zn, by omega, by omega, by omega, by go_num, rfl, rfl, by rw [HZ.out]; exact HST.out (by omega)⟩
            case measure => simp [intOf]; omega
        · obtain rfl : pos + 1 = k := by omega
          clear hkj
          have hz2 : zz < 128 := hz1
          clear hz1
          have hm : (128 : Int) = ((128 ^ 1 : Nat) : Int) := by decide
          rw [← hm]
          have hget : (from_ s pos)[1]? = some s[pos + 1] := from_get s pos 1 (by omega)
          have hE1 := and_127 s[pos + 1]
          obtain ⟨d, hd⟩ : ∃ d : Int, d = ((s[pos + 1].toNat % 128 : Nat) : Int) := ⟨_, rfl⟩
          rw [← hd] at hE1
          have hd0 : 0 ≤ d := by omega
          have hd1 : d < 128 := by omega
          obtain ⟨zn, hzn⟩ : ∃ zn : Int, zn = zz + d * 128 := ⟨_, rfl⟩
          have hn0 : 0 ≤ zn := by omega
          have hn1 : zn ≤ 562949953421312 := by omega
          have HST := Lib.hid (fun hc => HG.out.step hget hc hd hm)
          have HHI := Lib.hid (fun hc => HG.out.hit hget hc hd hm)
          have HCM := Lib.hid (fun hc => HG.out.cmp hget hc hd hm)
          have HC := Lib.hid (show s[pos + 1].toNat < 128 → (s[pos + 1].toNat : Int) = d from fun h => by omega)
          have HZ := Lib.hid hzn
          clear hzn hget hd hm
          skip
          have hzr : zz + d * 128 = zn := by have := HZ.out; omega
          by_cases hb : s[pos + 1].toNat < 128
          · have hb' : (s[pos + 1].toNat : Int) < 128 := by omega
            by_cases hzl : zn ≤ 2000000000000
            · have hzb := zag_bd hn0 hzl
              have hisv : isV (zag zn) = true := inB_t hzb.1 hzb.2
              have HV := Lib.hid hisv
              clear hisv hzb
              have hdec : decide ((2000000000000 : Int) < zn) = false := by simp; omega
              go_wp2_with (go_at_call 52; refine (l1Zag_any _ _ hn0 (by omega)).mono ?_; rintro e w' ⟨rfl, rfl⟩)
              refine wp_region_beyond (B := w.heap.size) (W := w) (Below.refl _ _) (by kernel_rfl) (by kernel_rfl) ?_
              repeat (go_big_quiet_step ((go_at_call 53; exact calls_beyond (Nat.le_refl _) (l1Varint_any _ _ HV.out))))
              refine wpQuiet_nil ?_
              intro _ hw'
              obtain ⟨y, rfl⟩ := hw'
              go_wp2
              · have ht : (!vb (zig (zag zn)).toNat == (s.extract pos (pos + 1 + 1)).toList) = true := by assumption
                have hne : ¬ vb (zig (zag zn)).toNat = (from_ s pos).take (1 + 1) := by
                  rw [← cut_from]
                  simpa using ht
                have e : R = none := by
                  rw [HR.out, HHI.out hb, ← HZ.out]
                  refine if_neg (fun h => hne ?_)
                  have := (HCM.out hb).2 h.2.1
                  rwa [← HZ.out] at this
                subst e
                go_ret2
                exact ⟨rfl, y.2⟩
              · have ht : (!vb (zig (zag zn)).toNat == (s.extract pos (pos + 1 + 1)).toList) = false := by assumption
                have heq : vb (zig (zag zn)).toNat = (from_ s pos).take (1 + 1) := by
                  rw [← cut_from]
                  simpa using ht
                have hcond : 1 = 0 ∨ s[pos + 1].toNat ≠ 0 := by first | exact .inl rfl | exact (HCM.out hb).1 (by rw [← HZ.out]; exact heq)
                have e : R = some (zag zn, 1 + 1) := by
                  rw [HR.out, HHI.out hb, ← HZ.out]
                  exact if_pos ⟨by have := HC.out hb; omega, by first | exact hcond | simp, hzl⟩
                subst e
                go_ret2
                exact ⟨rfl, y.2⟩
            · first
                | (exfalso; omega)
                | (have e : R = none := by rw [HR.out, HHI.out hb, ← HZ.out]; exact if_neg (fun h => hzl h.2.2)
                   have hdec : decide ((2000000000000 : Int) < zn) = true := by simp; omega
                   subst e
                   go_wp2_with (go_at_call 52; refine (l1Zag_any _ _ hn0 (by omega)).mono ?_; rintro e w' ⟨rfl, rfl⟩)
                   go_quiet (fail)
                   go_wp2
                   go_ret2
                   exact ⟨rfl, Below.drewN (Below.refl _ _) nq⟩)
          · have hb' : (128 : Int) ≤ (s[pos + 1].toNat : Int) := by omega
            go_wp2
            go_round
            case rel => exact ⟨pos + 1 + 1, 1 + 1, zn, by omega, by omega, by omega, by go_num, rfl, rfl, by rw [HZ.out]; exact HST.out (by omega)⟩
            case measure => simp [intOf]; omega
        · obtain rfl : pos + 2 = k := by omega
          clear hkj
          have hz2 : zz < 16384 := hz1
          clear hz1
          have hm : (16384 : Int) = ((128 ^ 2 : Nat) : Int) := by decide
          rw [← hm]
          have hget : (from_ s pos)[2]? = some s[pos + 2] := from_get s pos 2 (by omega)
          have hE1 := and_127 s[pos + 2]
          obtain ⟨d, hd⟩ : ∃ d : Int, d = ((s[pos + 2].toNat % 128 : Nat) : Int) := ⟨_, rfl⟩
          rw [← hd] at hE1
          have hd0 : 0 ≤ d := by omega
          have hd1 : d < 128 := by omega
          obtain ⟨zn, hzn⟩ : ∃ zn : Int, zn = zz + d * 16384 := ⟨_, rfl⟩
          have hn0 : 0 ≤ zn := by omega
          have hn1 : zn ≤ 562949953421312 := by omega
          have HST := Lib.hid (fun hc => HG.out.step hget hc hd hm)
          have HHI := Lib.hid (fun hc => HG.out.hit hget hc hd hm)
          have HCM := Lib.hid (fun hc => HG.out.cmp hget hc hd hm)
          have HC := Lib.hid (show s[pos + 2].toNat < 128 → (s[pos + 2].toNat : Int) = d from fun h => by omega)
          have HZ := Lib.hid hzn
          clear hzn hget hd hm
          skip
          have hzr : zz + d * 16384 = zn := by have := HZ.out; omega
          by_cases hb : s[pos + 2].toNat < 128
          · have hb' : (s[pos + 2].toNat : Int) < 128 := by omega
            by_cases hzl : zn ≤ 2000000000000
            · have hzb := zag_bd hn0 hzl
              have hisv : isV (zag zn) = true := inB_t hzb.1 hzb.2
              have HV := Lib.hid hisv
              clear hisv hzb
              have hdec : decide ((2000000000000 : Int) < zn) = false := by simp; omega
              go_wp2_with (go_at_call 52; refine (l1Zag_any _ _ hn0 (by omega)).mono ?_; rintro e w' ⟨rfl, rfl⟩)
              refine wp_region_beyond (B := w.heap.size) (W := w) (Below.refl _ _) (by kernel_rfl) (by kernel_rfl) ?_
              repeat (go_big_quiet_step ((go_at_call 53; exact calls_beyond (Nat.le_refl _) (l1Varint_any _ _ HV.out))))
              refine wpQuiet_nil ?_
              intro _ hw'
              obtain ⟨y, rfl⟩ := hw'
              go_wp2
              · have ht : (!vb (zig (zag zn)).toNat == (s.extract pos (pos + 2 + 1)).toList) = true := by assumption
                have hne : ¬ vb (zig (zag zn)).toNat = (from_ s pos).take (2 + 1) := by
                  rw [← cut_from]
                  simpa using ht
                have e : R = none := by
                  rw [HR.out, HHI.out hb, ← HZ.out]
                  refine if_neg (fun h => hne ?_)
                  have := (HCM.out hb).2 h.2.1
                  rwa [← HZ.out] at this
                subst e
                go_ret2
                exact ⟨rfl, y.2⟩
              · have ht : (!vb (zig (zag zn)).toNat == (s.extract pos (pos + 2 + 1)).toList) = false := by assumption
                have heq : vb (zig (zag zn)).toNat = (from_ s pos).take (2 + 1) := by
                  rw [← cut_from]
                  simpa using ht
                have hcond : 2 = 0 ∨ s[pos + 2].toNat ≠ 0 := by first | exact .inl rfl | exact (HCM.out hb).1 (by rw [← HZ.out]; exact heq)
                have e : R = some (zag zn, 2 + 1) := by
                  rw [HR.out, HHI.out hb, ← HZ.out]
                  exact if_pos ⟨by have := HC.out hb; omega, by first | exact hcond | simp, hzl⟩
                subst e
                go_ret2
                exact ⟨rfl, y.2⟩
            · first
                | (exfalso; omega)
                | (have e : R = none := by rw [HR.out, HHI.out hb, ← HZ.out]; exact if_neg (fun h => hzl h.2.2)
                   have hdec : decide ((2000000000000 : Int) < zn) = true := by simp; omega
                   subst e
                   go_wp2_with (go_at_call 52; refine (l1Zag_any _ _ hn0 (by omega)).mono ?_; rintro e w' ⟨rfl, rfl⟩)
                   go_quiet (fail)
                   go_wp2
                   go_ret2
                   exact ⟨rfl, Below.drewN (Below.refl _ _) nq⟩)
          · have hb' : (128 : Int) ≤ (s[pos + 2].toNat : Int) := by omega
            go_wp2
            go_round
            case rel => exact ⟨pos + 2 + 1, 2 + 1, zn, by omega, by omega, by omega, by go_num, rfl, rfl, by rw [HZ.out]; exact HST.out (by omega)⟩
            case measure => simp [intOf]; omega
        · obtain rfl : pos + 3 = k := by omega
          clear hkj
          have hz2 : zz < 2097152 := hz1
          clear hz1
          have hm : (2097152 : Int) = ((128 ^ 3 : Nat) : Int) := by decide
          rw [← hm]
          have hget : (from_ s pos)[3]? = some s[pos + 3] := from_get s pos 3 (by omega)
          have hE1 := and_127 s[pos + 3]
          obtain ⟨d, hd⟩ : ∃ d : Int, d = ((s[pos + 3].toNat % 128 : Nat) : Int) := ⟨_, rfl⟩
          rw [← hd] at hE1
          have hd0 : 0 ≤ d := by omega
          have hd1 : d < 128 := by omega
          obtain ⟨zn, hzn⟩ : ∃ zn : Int, zn = zz + d * 2097152 := ⟨_, rfl⟩
          have hn0 : 0 ≤ zn := by omega
          have hn1 : zn ≤ 562949953421312 := by omega
          have HST := Lib.hid (fun hc => HG.out.step hget hc hd hm)
          have HHI := Lib.hid (fun hc => HG.out.hit hget hc hd hm)
          have HCM := Lib.hid (fun hc => HG.out.cmp hget hc hd hm)
          have HC := Lib.hid (show s[pos + 3].toNat < 128 → (s[pos + 3].toNat : Int) = d from fun h => by omega)
          have HZ := Lib.hid hzn
          clear hzn hget hd hm
          skip
          have hzr : zz + d * 2097152 = zn := by have := HZ.out; omega
          by_cases hb : s[pos + 3].toNat < 128
          · have hb' : (s[pos + 3].toNat : Int) < 128 := by omega
            by_cases hzl : zn ≤ 2000000000000
            · have hzb := zag_bd hn0 hzl
              have hisv : isV (zag zn) = true := inB_t hzb.1 hzb.2
              have HV := Lib.hid hisv
              clear hisv hzb
              have hdec : decide ((2000000000000 : Int) < zn) = false := by simp; omega
              go_wp2_with (go_at_call 52; refine (l1Zag_any _ _ hn0 (by omega)).mono ?_; rintro e w' ⟨rfl, rfl⟩)
              refine wp_region_beyond (B := w.heap.size) (W := w) (Below.refl _ _) (by kernel_rfl) (by kernel_rfl) ?_
              repeat (go_big_quiet_step ((go_at_call 53; exact calls_beyond (Nat.le_refl _) (l1Varint_any _ _ HV.out))))
              refine wpQuiet_nil ?_
              intro _ hw'
              obtain ⟨y, rfl⟩ := hw'
              go_wp2
              · have ht : (!vb (zig (zag zn)).toNat == (s.extract pos (pos + 3 + 1)).toList) = true := by assumption
                have hne : ¬ vb (zig (zag zn)).toNat = (from_ s pos).take (3 + 1) := by
                  rw [← cut_from]
                  simpa using ht
                have e : R = none := by
                  rw [HR.out, HHI.out hb, ← HZ.out]
                  refine if_neg (fun h => hne ?_)
                  have := (HCM.out hb).2 h.2.1
                  rwa [← HZ.out] at this
                subst e
                go_ret2
                exact ⟨rfl, y.2⟩
              · have ht : (!vb (zig (zag zn)).toNat == (s.extract pos (pos + 3 + 1)).toList) = false := by assumption
                have heq : vb (zig (zag zn)).toNat = (from_ s pos).take (3 + 1) := by
                  rw [← cut_from]
                  simpa using ht
                have hcond : 3 = 0 ∨ s[pos + 3].toNat ≠ 0 := by first | exact .inl rfl | exact (HCM.out hb).1 (by rw [← HZ.out]; exact heq)
                have e : R = some (zag zn, 3 + 1) := by
                  rw [HR.out, HHI.out hb, ← HZ.out]
                  exact if_pos ⟨by have := HC.out hb; omega, by first | exact hcond | simp, hzl⟩
                subst e
                go_ret2
                exact ⟨rfl, y.2⟩
            · first
                | (exfalso; omega)
                | (have e : R = none := by rw [HR.out, HHI.out hb, ← HZ.out]; exact if_neg (fun h => hzl h.2.2)
                   have hdec : decide ((2000000000000 : Int) < zn) = true := by simp; omega
                   subst e
                   go_wp2_with (go_at_call 52; refine (l1Zag_any _ _ hn0 (by omega)).mono ?_; rintro e w' ⟨rfl, rfl⟩)
                   go_quiet (fail)
                   go_wp2
                   go_ret2
                   exact ⟨rfl, Below.drewN (Below.refl _ _) nq⟩)
          · have hb' : (128 : Int) ≤ (s[pos + 3].toNat : Int) := by omega
            go_wp2
            go_round
            case rel => exact ⟨pos + 3 + 1, 3 + 1, zn, by omega, by omega, by omega, by go_num, rfl, rfl, by rw [HZ.out]; exact HST.out (by omega)⟩
            case measure => simp [intOf]; omega
        · obtain rfl : pos + 4 = k := by omega
          clear hkj
          have hz2 : zz < 268435456 := hz1
          clear hz1
          have hm : (268435456 : Int) = ((128 ^ 4 : Nat) : Int) := by decide
          rw [← hm]
          have hget : (from_ s pos)[4]? = some s[pos + 4] := from_get s pos 4 (by omega)
          have hE1 := and_127 s[pos + 4]
          obtain ⟨d, hd⟩ : ∃ d : Int, d = ((s[pos + 4].toNat % 128 : Nat) : Int) := ⟨_, rfl⟩
          rw [← hd] at hE1
          have hd0 : 0 ≤ d := by omega
          have hd1 : d < 128 := by omega
          obtain ⟨zn, hzn⟩ : ∃ zn : Int, zn = zz + d * 268435456 := ⟨_, rfl⟩
          have hn0 : 0 ≤ zn := by omega
          have hn1 : zn ≤ 562949953421312 := by omega
          have HST := Lib.hid (fun hc => HG.out.step hget hc hd hm)
          have HHI := Lib.hid (fun hc => HG.out.hit hget hc hd hm)
          have HCM := Lib.hid (fun hc => HG.out.cmp hget hc hd hm)
          have HC := Lib.hid (show s[pos + 4].toNat < 128 → (s[pos + 4].toNat : Int) = d from fun h => by omega)
          have HZ := Lib.hid hzn
          clear hzn hget hd hm
          skip
          have hzr : zz + d * 268435456 = zn := by have := HZ.out; omega
          by_cases hb : s[pos + 4].toNat < 128
          · have hb' : (s[pos + 4].toNat : Int) < 128 := by omega
            by_cases hzl : zn ≤ 2000000000000
            · have hzb := zag_bd hn0 hzl
              have hisv : isV (zag zn) = true := inB_t hzb.1 hzb.2
              have HV := Lib.hid hisv
              clear hisv hzb
              have hdec : decide ((2000000000000 : Int) < zn) = false := by simp; omega
              go_wp2_with (go_at_call 52; refine (l1Zag_any _ _ hn0 (by omega)).mono ?_; rintro e w' ⟨rfl, rfl⟩)
              refine wp_region_beyond (B := w.heap.size) (W := w) (Below.refl _ _) (by kernel_rfl) (by kernel_rfl) ?_
              repeat (go_big_quiet_step ((go_at_call 53; exact calls_beyond (Nat.le_refl _) (l1Varint_any _ _ HV.out))))
              refine wpQuiet_nil ?_
              intro _ hw'
              obtain ⟨y, rfl⟩ := hw'
              go_wp2
              · have ht : (!vb (zig (zag zn)).toNat == (s.extract pos (pos + 4 + 1)).toList) = true := by assumption
                have hne : ¬ vb (zig (zag zn)).toNat = (from_ s pos).take (4 + 1) := by
                  rw [← cut_from]
                  simpa using ht
                have e : R = none := by
                  rw [HR.out, HHI.out hb, ← HZ.out]
                  refine if_neg (fun h => hne ?_)
                  have := (HCM.out hb).2 h.2.1
                  rwa [← HZ.out] at this
                subst e
                go_ret2
                exact ⟨rfl, y.2⟩
              · have ht : (!vb (zig (zag zn)).toNat == (s.extract pos (pos + 4 + 1)).toList) = false := by assumption
                have heq : vb (zig (zag zn)).toNat = (from_ s pos).take (4 + 1) := by
                  rw [← cut_from]
                  simpa using ht
                have hcond : 4 = 0 ∨ s[pos + 4].toNat ≠ 0 := by first | exact .inl rfl | exact (HCM.out hb).1 (by rw [← HZ.out]; exact heq)
                have e : R = some (zag zn, 4 + 1) := by
                  rw [HR.out, HHI.out hb, ← HZ.out]
                  exact if_pos ⟨by have := HC.out hb; omega, by first | exact hcond | simp, hzl⟩
                subst e
                go_ret2
                exact ⟨rfl, y.2⟩
            · first
                | (exfalso; omega)
                | (have e : R = none := by rw [HR.out, HHI.out hb, ← HZ.out]; exact if_neg (fun h => hzl h.2.2)
                   have hdec : decide ((2000000000000 : Int) < zn) = true := by simp; omega
                   subst e
                   go_wp2_with (go_at_call 52; refine (l1Zag_any _ _ hn0 (by omega)).mono ?_; rintro e w' ⟨rfl, rfl⟩)
                   go_quiet (fail)
                   go_wp2
                   go_ret2
                   exact ⟨rfl, Below.drewN (Below.refl _ _) nq⟩)
          · have hb' : (128 : Int) ≤ (s[pos + 4].toNat : Int) := by omega
            go_wp2
            go_round
            case rel => exact ⟨pos + 4 + 1, 4 + 1, zn, by omega, by omega, by omega, by go_num, rfl, rfl, by rw [HZ.out]; exact HST.out (by omega)⟩
            case measure => simp [intOf]; omega
        · obtain rfl : pos + 5 = k := by omega
          clear hkj
          have hz2 : zz < 34359738368 := hz1
          clear hz1
          have hm : (34359738368 : Int) = ((128 ^ 5 : Nat) : Int) := by decide
          rw [← hm]
          have hget : (from_ s pos)[5]? = some s[pos + 5] := from_get s pos 5 (by omega)
          have hE1 := and_127 s[pos + 5]
          obtain ⟨d, hd⟩ : ∃ d : Int, d = ((s[pos + 5].toNat % 128 : Nat) : Int) := ⟨_, rfl⟩
          rw [← hd] at hE1
          have hd0 : 0 ≤ d := by omega
          have hd1 : d < 128 := by omega
          obtain ⟨zn, hzn⟩ : ∃ zn : Int, zn = zz + d * 34359738368 := ⟨_, rfl⟩
          have hn0 : 0 ≤ zn := by omega
          have hn1 : zn ≤ 562949953421312 := by omega
          have HST := Lib.hid (fun hc => HG.out.step hget hc hd hm)
          have HHI := Lib.hid (fun hc => HG.out.hit hget hc hd hm)
          have HCM := Lib.hid (fun hc => HG.out.cmp hget hc hd hm)
          have HC := Lib.hid (show s[pos + 5].toNat < 128 → (s[pos + 5].toNat : Int) = d from fun h => by omega)
          have HZ := Lib.hid hzn
          clear hzn hget hd hm
          skip
          have hzr : zz + d * 34359738368 = zn := by have := HZ.out; omega
          by_cases hb : s[pos + 5].toNat < 128
          · have hb' : (s[pos + 5].toNat : Int) < 128 := by omega
            by_cases hzl : zn ≤ 2000000000000
            · have hzb := zag_bd hn0 hzl
              have hisv : isV (zag zn) = true := inB_t hzb.1 hzb.2
              have HV := Lib.hid hisv
              clear hisv hzb
              have hdec : decide ((2000000000000 : Int) < zn) = false := by simp; omega
              go_wp2_with (go_at_call 52; refine (l1Zag_any _ _ hn0 (by omega)).mono ?_; rintro e w' ⟨rfl, rfl⟩)
              refine wp_region_beyond (B := w.heap.size) (W := w) (Below.refl _ _) (by kernel_rfl) (by kernel_rfl) ?_
              repeat (go_big_quiet_step ((go_at_call 53; exact calls_beyond (Nat.le_refl _) (l1Varint_any _ _ HV.out))))
              refine wpQuiet_nil ?_
              intro _ hw'
              obtain ⟨y, rfl⟩ := hw'
              go_wp2
              · have ht : (!vb (zig (zag zn)).toNat == (s.extract pos (pos + 5 + 1)).toList) = true := by assumption
                have hne : ¬ vb (zig (zag zn)).toNat = (from_ s pos).take (5 + 1) := by
                  rw [← cut_from]
                  simpa using ht
                have e : R = none := by
                  rw [HR.out, HHI.out hb, ← HZ.out]
                  refine if_neg (fun h => hne ?_)
                  have := (HCM.out hb).2 h.2.1
                  rwa [← HZ.out] at this
                subst e
                go_ret2
                exact ⟨rfl, y.2⟩
              · have ht : (!vb (zig (zag zn)).toNat == (s.extract pos (pos + 5 + 1)).toList) = false := by assumption
                have heq : vb (zig (zag zn)).toNat = (from_ s pos).take (5 + 1) := by
                  rw [← cut_from]
                  simpa using ht
                have hcond : 5 = 0 ∨ s[pos + 5].toNat ≠ 0 := by first | exact .inl rfl | exact (HCM.out hb).1 (by rw [← HZ.out]; exact heq)
                have e : R = some (zag zn, 5 + 1) := by
                  rw [HR.out, HHI.out hb, ← HZ.out]
                  exact if_pos ⟨by have := HC.out hb; omega, by first | exact hcond | simp, hzl⟩
                subst e
                go_ret2
                exact ⟨rfl, y.2⟩
            · first
                | (exfalso; omega)
                | (have e : R = none := by rw [HR.out, HHI.out hb, ← HZ.out]; exact if_neg (fun h => hzl h.2.2)
                   have hdec : decide ((2000000000000 : Int) < zn) = true := by simp; omega
                   subst e
                   go_wp2_with (go_at_call 52; refine (l1Zag_any _ _ hn0 (by omega)).mono ?_; rintro e w' ⟨rfl, rfl⟩)
                   go_quiet (fail)
                   go_wp2
                   go_ret2
                   exact ⟨rfl, Below.drewN (Below.refl _ _) nq⟩)
          · have hb' : (128 : Int) ≤ (s[pos + 5].toNat : Int) := by omega
            go_wp2
            go_round
            case rel => exact ⟨pos + 5 + 1, 5 + 1, zn, by omega, by omega, by omega, by go_num, rfl, rfl, by rw [HZ.out]; exact HST.out (by omega)⟩
            case measure => simp [intOf]; omega
        · obtain rfl : pos + 6 = k := by omega
          clear hkj
          have hz2 : zz < 4398046511104 := hz1
          clear hz1
          have hm : (4398046511104 : Int) = ((128 ^ 6 : Nat) : Int) := by decide
          rw [← hm]
          have hget : (from_ s pos)[6]? = some s[pos + 6] := from_get s pos 6 (by omega)
          have hE1 := and_127 s[pos + 6]
          obtain ⟨d, hd⟩ : ∃ d : Int, d = ((s[pos + 6].toNat % 128 : Nat) : Int) := ⟨_, rfl⟩
          rw [← hd] at hE1
          have hd0 : 0 ≤ d := by omega
          have hd1 : d < 128 := by omega
          obtain ⟨zn, hzn⟩ : ∃ zn : Int, zn = zz + d * 4398046511104 := ⟨_, rfl⟩
          have hn0 : 0 ≤ zn := by omega
          have hn1 : zn ≤ 562949953421312 := by omega
          have HST := Lib.hid (fun hc => HG.out.step hget hc hd hm)
          have HHI := Lib.hid (fun hc => HG.out.hit hget hc hd hm)
          have HCM := Lib.hid (fun hc => HG.out.cmp hget hc hd hm)
          have HC := Lib.hid (show s[pos + 6].toNat < 128 → (s[pos + 6].toNat : Int) = d from fun h => by omega)
          have HZ := Lib.hid hzn
          clear hzn hget hd hm
          skip
          have hzr : zz + d * 4398046511104 = zn := by have := HZ.out; omega
          by_cases hb : s[pos + 6].toNat < 128
          · have hb' : (s[pos + 6].toNat : Int) < 128 := by omega
            by_cases hzl : zn ≤ 2000000000000
            · have hzb := zag_bd hn0 hzl
              have hisv : isV (zag zn) = true := inB_t hzb.1 hzb.2
              have HV := Lib.hid hisv
              clear hisv hzb
              have hdec : decide ((2000000000000 : Int) < zn) = false := by simp; omega
              go_wp2_with (go_at_call 52; refine (l1Zag_any _ _ hn0 (by omega)).mono ?_; rintro e w' ⟨rfl, rfl⟩)
              refine wp_region_beyond (B := w.heap.size) (W := w) (Below.refl _ _) (by kernel_rfl) (by kernel_rfl) ?_
              repeat (go_big_quiet_step ((go_at_call 53; exact calls_beyond (Nat.le_refl _) (l1Varint_any _ _ HV.out))))
              refine wpQuiet_nil ?_
              intro _ hw'
              obtain ⟨y, rfl⟩ := hw'
              go_wp2
              · have ht : (!vb (zig (zag zn)).toNat == (s.extract pos (pos + 6 + 1)).toList) = true := by assumption
                have hne : ¬ vb (zig (zag zn)).toNat = (from_ s pos).take (6 + 1) := by
                  rw [← cut_from]
                  simpa using ht
                have e : R = none := by
                  rw [HR.out, HHI.out hb, ← HZ.out]
                  refine if_neg (fun h => hne ?_)
                  have := (HCM.out hb).2 h.2.1
                  rwa [← HZ.out] at this
                subst e
                go_ret2
                exact ⟨rfl, y.2⟩
              · have ht : (!vb (zig (zag zn)).toNat == (s.extract pos (pos + 6 + 1)).toList) = false := by assumption
                have heq : vb (zig (zag zn)).toNat = (from_ s pos).take (6 + 1) := by
                  rw [← cut_from]
                  simpa using ht
                have hcond : 6 = 0 ∨ s[pos + 6].toNat ≠ 0 := by first | exact .inl rfl | exact (HCM.out hb).1 (by rw [← HZ.out]; exact heq)
                have e : R = some (zag zn, 6 + 1) := by
                  rw [HR.out, HHI.out hb, ← HZ.out]
                  exact if_pos ⟨by have := HC.out hb; omega, by first | exact hcond | simp, hzl⟩
                subst e
                go_ret2
                exact ⟨rfl, y.2⟩
            · first
                | (exfalso; omega)
                | (have e : R = none := by rw [HR.out, HHI.out hb, ← HZ.out]; exact if_neg (fun h => hzl h.2.2)
                   have hdec : decide ((2000000000000 : Int) < zn) = true := by simp; omega
                   subst e
                   go_wp2_with (go_at_call 52; refine (l1Zag_any _ _ hn0 (by omega)).mono ?_; rintro e w' ⟨rfl, rfl⟩)
                   go_quiet (fail)
                   go_wp2
                   go_ret2
                   exact ⟨rfl, Below.drewN (Below.refl _ _) nq⟩)
          · have hb' : (128 : Int) ≤ (s[pos + 6].toNat : Int) := by omega
            go_wp2
            go_round
            case rel => exact ⟨pos + 6 + 1, 6 + 1, zn, by omega, by omega, by omega, by go_num, rfl, rfl, by rw [HZ.out]; exact HST.out (by omega)⟩
            case measure => simp [intOf]; omega
    · have e : R = none := HR.out.trans (HG.out.out (by rw [from_len]; omega))
      subst e
      go_wp2
      go_ret2
      exact ⟨rfl, Below.refl _ _⟩
end Go.Proofs.Ytbpeceejboojoaa
