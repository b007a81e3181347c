/- The contracts of the functions that read a number in base 128 (impl.getVarint, spec.l1Get, spec.GetVarint, impl.GetVarint), and the law GetVarint. -/
import Derived.Test.YtbpeceejboojoaaNum
import Derived.Test.YtbpeceejboojoaaGetPlain
import Derived.Test.YtbpeceejboojoaaVar
import Derived.Test.YtbpeceejboojoaaBeyond
namespace Go.Proofs.Ytbpeceejboojoaa
set_option linter.unusedVariables false
set_option linter.unusedSimpArgs false
open Go.RowKit

theorem and127 : ∀ a, a < 256 → a &&& 127 = a % 128 := by decide +kernel
theorem and_127 (c : UInt8) : bits .and .u8 (c.toNat : Int) 127 = ((c.toNat % 128 : Nat) : Int) := by
  have h := u8_and_nat c.toNat 127 c.toNat_lt (by omega)
  rw [and127 _ c.toNat_lt] at h
  exact h
theorem wraps_i64 (n : Int) (h₀ : 0 ≤ n) (h₁ : n < 2 ^ 63) : IntKind.i64.wrap n = n := by rw [IntKind.wrap_i64]; omega
theorem bits_or_comm (k : IntKind) (x y : Int) : bits .or k x y = bits .or k y x := by simp only [bits, BitVec.or_comm]
theorem or_low (i : Nat) (hi : i ≤ 40) (z d : Int) (hz0 : 0 ≤ z) (hz1 : z < 2 ^ i) (hd0 : 0 ≤ d) (hd1 : d < 128) : bits .or .i64 z (d * 2 ^ i) = z + d * 2 ^ i := by
  have hp : (2 : Int) ^ i ≤ 2 ^ 40 := by exact_mod_cast Nat.pow_le_pow_right (by decide) hi
  have hp0 : (0 : Int) < 2 ^ i := by exact_mod_cast Nat.two_pow_pos i
  have hm : d * 2 ^ i < 2 ^ 63 := by
    have h1 : d * 2 ^ i ≤ 128 * 2 ^ i := Int.mul_le_mul_of_nonneg_right (by omega) (by omega)
    have h2 : (128 : Int) * 2 ^ i ≤ 128 * 2 ^ 40 := Int.mul_le_mul_of_nonneg_left hp (by omega)
    have h3 : (128 : Int) * 2 ^ 40 < 2 ^ 63 := by decide
    omega
  have h4 : (2 : Int) ^ 40 < 2 ^ 63 := by decide
  rw [bits_or_comm, bits_join .i64 63 (by decide) wraps_i64 i (d * 2 ^ i) z (Int.mul_nonneg hd0 (by omega)) (Int.mul_emod_left d _) hm hz0 hz1 (by omega), Int.add_comm]

def gvI (pos : Nat) : Option (Int × Nat) → Value
  | none => .tuple #[.int .i64 0, .int .i64 0, .bool false]
  | some (n, k) => .tuple #[.int .i64 n, .int .i64 ((pos + k : Nat) : Int), .bool true]
/-- The bytes from a place on. -/
def from_ (s : ByteArray) (pos : Nat) : List UInt8 := s.data.toList.drop pos
theorem from_get (s : ByteArray) (pos j : Nat) (h : pos + j < s.size) : (from_ s pos)[j]? = some s[pos + j] := by
  unfold from_
  rw [List.getElem?_drop, List.getElem?_eq_getElem (by simpa using h)]
  rfl
theorem from_len (s : ByteArray) (pos : Nat) : (from_ s pos).length = s.size - pos := by unfold from_; rw [List.length_drop]; rfl
theorem val_step {L : List UInt8} {j : Nat} {c : UInt8} (h : L[j]? = some c) : val (L.take (j + 1)) = val (L.take j) + c.toNat % 128 * 128 ^ j := by
  have hl := (List.getElem?_eq_some_iff.1 h).1
  rw [take_snoc' L j c h, val_snoc, List.length_take, Nat.min_eq_left (by omega)]
theorem big_step {L : List UInt8} {j : Nat} {c : UInt8} (h : L[j]? = some c) (hc : 128 ≤ c.toNat) (ha : ∀ x ∈ L.take j, big x) : ∀ x ∈ L.take (j + 1), big x := by
  rw [take_snoc' L j c h]
  intro x hx
  rcases List.mem_append.1 hx with hx | hx
  · exact ha x hx
  · rw [List.mem_singleton.1 hx]; exact hc
/-- What the loops hold behind j bytes: each of them goes on, and z is their value. -/
def GetInv (L : List UInt8) (j : Nat) (z : Int) : Prop := (∀ x ∈ L.take j, big x) ∧ z = (val (L.take j) : Nat)
theorem GetInv.zero (L : List UInt8) : GetInv L 0 0 := ⟨by simp, by simp [val]⟩
theorem GetInv.step {L : List UInt8} {j : Nat} {z : Int} {c : UInt8} (h : GetInv L j z) (hj : L[j]? = some c) (hc : 128 ≤ c.toNat) {d m : Int} (hd : d = ((c.toNat % 128 : Nat) : Int)) (hm : m = ((128 ^ j : Nat) : Int)) : GetInv L (j + 1) (z + d * m) :=
  ⟨big_step hj hc h.1, by rw [val_step hj, h.2, hd, hm]; simp⟩
theorem GetInv.bd {L : List UInt8} {j : Nat} {z : Int} (h : GetInv L j z) : 0 ≤ z ∧ z < ((128 ^ j : Nat) : Int) := by
  have := val_lt (L.take j)
  have h2 : 128 ^ (L.take j).length ≤ 128 ^ j := Nat.pow_le_pow_right (by omega) (List.length_take_le _ _)
  rw [h.2]
  omega
theorem GetInv.out {L : List UInt8} {j : Nat} {z : Int} (h : GetInv L j z) (hl : L.length ≤ j) : gv L = none := gv_end (by have := h.1; rwa [List.take_of_length_le hl] at this)
theorem GetInv.far {L : List UInt8} {z : Int} (h : GetInv L 6 z) (hl : 6 ≤ L.length) : gv L = none := gv_far hl h.1
theorem GetInv.hit {L : List UInt8} {j : Nat} {z : Int} {c : UInt8} (h : GetInv L j z) (hj : L[j]? = some c) (hc : c.toNat < 128) {d m : Int} (hd : d = ((c.toNat % 128 : Nat) : Int)) (hm : m = ((128 ^ j : Nat) : Int)) :
    gv L = if j ≤ 5 ∧ (j = 0 ∨ c.toNat ≠ 0) ∧ z + d * m ≤ 2000000000000 then some (zag (z + d * m), j + 1) else none := by
  have e : z + d * m = (val (L.take (j + 1)) : Nat) := by rw [val_step hj, h.2, hd, hm]; simp
  have hcz : c ≠ 0 ↔ c.toNat ≠ 0 := not_congr ⟨fun h => by rw [h]; rfl, fun h => UInt8.toNat_inj.1 (by simpa using h)⟩
  have e1 : (((val (L.take (j + 1)) : Nat) : Int) ≤ 2000000000000) ↔ val (L.take (j + 1)) ≤ 2000000000000 := by omega
  rw [gv_hit hj hc h.1, e]
  simp only [hcz, e1]

set_option maxRecDepth 100000 in
set_option maxHeartbeats 4000000 in
theorem getVarint_any (s : ByteArray) (pos : Nat) (w : World) (hs : s.size ≤ 1048576) (hp : pos ≤ 1048576) :
    Calls Try.prog 54 #[.string s, .int .i64 pos] w fun e w' => e = .returned (gvI pos (gv (from_ s pos))) ∧ w = w' := by
  obtain ⟨R, hR⟩ : ∃ R, R = gv (from_ s pos) := ⟨_, rfl⟩
  have HR := Lib.hid hR
  rw [← hR]
  clear hR
  go_enter Try.func54, Try.ntmps54
  go_wp2
  go_loop [7, 8] (fun z i => ∃ (k j : Nat) (zz : Int), k = pos + j ∧ j ≤ 6 ∧ (j = 0 ∨ k ≤ s.size) ∧ i = .int .i64 k ∧ z = .int .i64 zz ∧ GetInv (from_ s pos) j zz) (fun _ i => s.size - (intOf i).toNat)
  case atStart => exact ⟨pos, 0, 0, rfl, by omega, .inl rfl, rfl, rfl, GetInv.zero _⟩
  case round =>
    obtain ⟨k, j, zz, hkj, hj6, hk1, rfl, rfl, hG⟩ := hrel
    have HG := Lib.hid hG
    obtain ⟨hz0, hz1⟩ := hG.bd
    clear hG
    by_cases hlt : k < s.size
    · by_cases h6 : j = 6
      · subst h6
        subst hkj
        have e : R = none := HR.out.trans (HG.out.far (by rw [from_len]; omega))
        subst e
        go_wp2
        go_ret3
        exact ⟨rfl, rfl⟩
      · rcases (show j = 0 ∨ j = 1 ∨ j = 2 ∨ j = 3 ∨ j = 4 ∨ j = 5 by omega) with rfl | rfl | rfl | rfl | rfl | rfl
        · obtain rfl : pos = k := by omega
          clear hkj
          have hz2 : zz < 1 := hz1
          clear hz1
          have hget : (from_ s pos)[0]? = some s[pos] := from_get s pos 0 (by omega)
          have hE1 := and_127 s[pos]
          obtain ⟨d, hd⟩ : ∃ d : Int, d = ((s[pos].toNat % 128 : Nat) : Int) := ⟨_, rfl⟩
          rw [← hd] at hE1
          have hd0 : 0 ≤ d := by omega
          have hd1 : d < 128 := by omega
          obtain ⟨zn, hzn⟩ : ∃ zn : Int, zn = zz + d * 1 := ⟨_, rfl⟩
          have hn0 : 0 ≤ zn := by omega
          have hn1 : zn ≤ 4398046511104 := by omega
          have hE2 : bits .or .i64 zz (d * 1) = zn := hzn ▸ or_low 0 (by omega) zz d hz0 hz2 hd0 hd1
          have hm : (1 : Int) = ((128 ^ 0 : Nat) : Int) := by decide
          have HST := Lib.hid (fun hc => HG.out.step hget hc hd hm)
          have HHI := Lib.hid (fun hc => HG.out.hit hget hc hd hm)
          have HZ := Lib.hid hzn
          clear hzn hget hd hm
          obtain rfl : zz = 0 := by omega
          have hE3 : bits .or .i64 (0 : Int) (d) = zn := by simpa using hE2
          have hE4 : bits .or .i64 (0 : Int) (wrap64 (d)) = zn := by rw [IntWalk.wrap64_in _ (by omega)]; exact hE3
          clear hE2
          by_cases hb : s[pos].toNat < 128
          · have hb' : (s[pos].toNat : Int) ≤ 127 := by omega
            by_cases hzl : zn ≤ 2000000000000
            · by_cases hc0 : s[pos].toNat = 0 ∧ 0 < 0
              · first
                  | exact absurd hc0.2 (by decide)
                  | (have e : R = none := by rw [HR.out, HHI.out hb, ← HZ.out]; exact if_neg (by omega)
                     have hq : ((s[pos].toNat : Int) == 0) = true := by simp [hc0.1]
                     subst e
                     clear hc0
                     go_wp2
                     go_ret3
                     exact ⟨rfl, rfl⟩)
              · have e : R = some (zag zn, 0 + 1) := by rw [HR.out, HHI.out hb, ← HZ.out]; exact if_pos (by omega)
                have hq : 0 < 0 → ((s[pos].toNat : Int) == 0) = false := fun h => by simp; omega
                subst e
                clear hc0
                try (have hq' := hq (by decide))
                clear hq
                go_wp2_with (go_at_call 57; refine (unZigZag_any _ _ hn0 (by omega)).mono ?_; rintro e w' ⟨rfl, rfl⟩)
                go_ret3
                exact ⟨rfl, rfl⟩
            · have e : R = none := by rw [HR.out, HHI.out hb, ← HZ.out]; exact if_neg (by omega)
              have hzl' : 2000000000000 < zn := by omega
              subst e
              by_cases hc0 : s[pos].toNat = 0
              · have hq : ((s[pos].toNat : Int) == 0) = true := by simp [hc0]
                clear hc0
                go_wp2
                go_ret3
                exact ⟨rfl, rfl⟩
              · have hq : ((s[pos].toNat : Int) == 0) = false := by simp; omega
                clear hc0
                go_wp2
                go_ret3
                exact ⟨rfl, rfl⟩
          · have hb' : (127 : Int) < (s[pos].toNat : Int) := by omega
            go_wp2
            go_round
            case rel => exact ⟨pos + 1, 0 + 1, zn, by omega, by omega, by omega, by go_num, rfl, by rw [HZ.out]; exact HST.out (by omega)⟩
            case measure => simp [intOf]; omega
        · obtain rfl : pos + 1 = k := by omega
          clear hkj
          have hz2 : zz < 128 := hz1
          clear hz1
          have hget : (from_ s pos)[1]? = some s[pos + 1] := from_get s pos 1 (by omega)
          have hE1 := and_127 s[pos + 1]
          obtain ⟨d, hd⟩ : ∃ d : Int, d = ((s[pos + 1].toNat % 128 : Nat) : Int) := ⟨_, rfl⟩
          rw [← hd] at hE1
          have hd0 : 0 ≤ d := by omega
          have hd1 : d < 128 := by omega
          obtain ⟨zn, hzn⟩ : ∃ zn : Int, zn = zz + d * 128 := ⟨_, rfl⟩
          have hn0 : 0 ≤ zn := by omega
          have hn1 : zn ≤ 4398046511104 := by omega
          have hE2 : bits .or .i64 zz (d * 128) = zn := hzn ▸ or_low 7 (by omega) zz d hz0 hz2 hd0 hd1
          have hm : (128 : Int) = ((128 ^ 1 : Nat) : Int) := by decide
          have HST := Lib.hid (fun hc => HG.out.step hget hc hd hm)
          have HHI := Lib.hid (fun hc => HG.out.hit hget hc hd hm)
          have HZ := Lib.hid hzn
          clear hzn hget hd hm
          skip
          have hE3 : bits .or .i64 zz (d * 128) = zn := by simpa using hE2
          have hE4 : bits .or .i64 zz (wrap64 (d * 128)) = zn := by rw [IntWalk.wrap64_in _ (by omega)]; exact hE3
          clear hE2
          by_cases hb : s[pos + 1].toNat < 128
          · have hb' : (s[pos + 1].toNat : Int) ≤ 127 := by omega
            by_cases hzl : zn ≤ 2000000000000
            · by_cases hc0 : s[pos + 1].toNat = 0 ∧ 0 < 1
              · first
                  | exact absurd hc0.2 (by decide)
                  | (have e : R = none := by rw [HR.out, HHI.out hb, ← HZ.out]; exact if_neg (by omega)
                     have hq : ((s[pos + 1].toNat : Int) == 0) = true := by simp [hc0.1]
                     subst e
                     clear hc0
                     go_wp2
                     go_ret3
                     exact ⟨rfl, rfl⟩)
              · have e : R = some (zag zn, 1 + 1) := by rw [HR.out, HHI.out hb, ← HZ.out]; exact if_pos (by omega)
                have hq : 0 < 1 → ((s[pos + 1].toNat : Int) == 0) = false := fun h => by simp; omega
                subst e
                clear hc0
                try (have hq' := hq (by decide))
                clear hq
                go_wp2_with (go_at_call 57; refine (unZigZag_any _ _ hn0 (by omega)).mono ?_; rintro e w' ⟨rfl, rfl⟩)
                go_ret3
                exact ⟨rfl, rfl⟩
            · have e : R = none := by rw [HR.out, HHI.out hb, ← HZ.out]; exact if_neg (by omega)
              have hzl' : 2000000000000 < zn := by omega
              subst e
              by_cases hc0 : s[pos + 1].toNat = 0
              · have hq : ((s[pos + 1].toNat : Int) == 0) = true := by simp [hc0]
                clear hc0
                go_wp2
                go_ret3
                exact ⟨rfl, rfl⟩
              · have hq : ((s[pos + 1].toNat : Int) == 0) = false := by simp; omega
                clear hc0
                go_wp2
                go_ret3
                exact ⟨rfl, rfl⟩
          · have hb' : (127 : Int) < (s[pos + 1].toNat : Int) := by omega
            go_wp2
            go_round
            case rel => exact ⟨pos + 1 + 1, 1 + 1, zn, by omega, by omega, by omega, by go_num, rfl, by rw [HZ.out]; exact HST.out (by omega)⟩
            case measure => simp [intOf]; omega
        · obtain rfl : pos + 2 = k := by omega
          clear hkj
          have hz2 : zz < 16384 := hz1
          clear hz1
          have hget : (from_ s pos)[2]? = some s[pos + 2] := from_get s pos 2 (by omega)
          have hE1 := and_127 s[pos + 2]
          obtain ⟨d, hd⟩ : ∃ d : Int, d = ((s[pos + 2].toNat % 128 : Nat) : Int) := ⟨_, rfl⟩
          rw [← hd] at hE1
          have hd0 : 0 ≤ d := by omega
          have hd1 : d < 128 := by omega
          obtain ⟨zn, hzn⟩ : ∃ zn : Int, zn = zz + d * 16384 := ⟨_, rfl⟩
          have hn0 : 0 ≤ zn := by omega
          have hn1 : zn ≤ 4398046511104 := by omega
          have hE2 : bits .or .i64 zz (d * 16384) = zn := hzn ▸ or_low 14 (by omega) zz d hz0 hz2 hd0 hd1
          have hm : (16384 : Int) = ((128 ^ 2 : Nat) : Int) := by decide
          have HST := Lib.hid (fun hc => HG.out.step hget hc hd hm)
          have HHI := Lib.hid (fun hc => HG.out.hit hget hc hd hm)
          have HZ := Lib.hid hzn
          clear hzn hget hd hm
          skip
          have hE3 : bits .or .i64 zz (d * 16384) = zn := by simpa using hE2
          have hE4 : bits .or .i64 zz (wrap64 (d * 16384)) = zn := by rw [IntWalk.wrap64_in _ (by omega)]; exact hE3
          clear hE2
          by_cases hb : s[pos + 2].toNat < 128
          · have hb' : (s[pos + 2].toNat : Int) ≤ 127 := by omega
            by_cases hzl : zn ≤ 2000000000000
            · by_cases hc0 : s[pos + 2].toNat = 0 ∧ 0 < 2
              · first
                  | exact absurd hc0.2 (by decide)
                  | (have e : R = none := by rw [HR.out, HHI.out hb, ← HZ.out]; exact if_neg (by omega)
                     have hq : ((s[pos + 2].toNat : Int) == 0) = true := by simp [hc0.1]
                     subst e
                     clear hc0
                     go_wp2
                     go_ret3
                     exact ⟨rfl, rfl⟩)
              · have e : R = some (zag zn, 2 + 1) := by rw [HR.out, HHI.out hb, ← HZ.out]; exact if_pos (by omega)
                have hq : 0 < 2 → ((s[pos + 2].toNat : Int) == 0) = false := fun h => by simp; omega
                subst e
                clear hc0
                try (have hq' := hq (by decide))
                clear hq
                go_wp2_with (go_at_call 57; refine (unZigZag_any _ _ hn0 (by omega)).mono ?_; rintro e w' ⟨rfl, rfl⟩)
                go_ret3
                exact ⟨rfl, rfl⟩
            · have e : R = none := by rw [HR.out, HHI.out hb, ← HZ.out]; exact if_neg (by omega)
              have hzl' : 2000000000000 < zn := by omega
              subst e
              by_cases hc0 : s[pos + 2].toNat = 0
              · have hq : ((s[pos + 2].toNat : Int) == 0) = true := by simp [hc0]
                clear hc0
                go_wp2
                go_ret3
                exact ⟨rfl, rfl⟩
              · have hq : ((s[pos + 2].toNat : Int) == 0) = false := by simp; omega
                clear hc0
                go_wp2
                go_ret3
                exact ⟨rfl, rfl⟩
          · have hb' : (127 : Int) < (s[pos + 2].toNat : Int) := by omega
            go_wp2
            go_round
            case rel => exact ⟨pos + 2 + 1, 2 + 1, zn, by omega, by omega, by omega, by go_num, rfl, by rw [HZ.out]; exact HST.out (by omega)⟩
            case measure => simp [intOf]; omega
        · obtain rfl : pos + 3 = k := by omega
          clear hkj
          have hz2 : zz < 2097152 := hz1
          clear hz1
          have hget : (from_ s pos)[3]? = some s[pos + 3] := from_get s pos 3 (by omega)
          have hE1 := and_127 s[pos + 3]
          obtain ⟨d, hd⟩ : ∃ d : Int, d = ((s[pos + 3].toNat % 128 : Nat) : Int) := ⟨_, rfl⟩
          rw [← hd] at hE1
          have hd0 : 0 ≤ d := by omega
          have hd1 : d < 128 := by omega
          obtain ⟨zn, hzn⟩ : ∃ zn : Int, zn = zz + d * 2097152 := ⟨_, rfl⟩
          have hn0 : 0 ≤ zn := by omega
          have hn1 : zn ≤ 4398046511104 := by omega
          have hE2 : bits .or .i64 zz (d * 2097152) = zn := hzn ▸ or_low 21 (by omega) zz d hz0 hz2 hd0 hd1
          have hm : (2097152 : Int) = ((128 ^ 3 : Nat) : Int) := by decide
          have HST := Lib.hid (fun hc => HG.out.step hget hc hd hm)
          have HHI := Lib.hid (fun hc => HG.out.hit hget hc hd hm)
          have HZ := Lib.hid hzn
          clear hzn hget hd hm
          skip
          have hE3 : bits .or .i64 zz (d * 2097152) = zn := by simpa using hE2
          have hE4 : bits .or .i64 zz (wrap64 (d * 2097152)) = zn := by rw [IntWalk.wrap64_in _ (by omega)]; exact hE3
          clear hE2
          by_cases hb : s[pos + 3].toNat < 128
          · have hb' : (s[pos + 3].toNat : Int) ≤ 127 := by omega
            by_cases hzl : zn ≤ 2000000000000
            · by_cases hc0 : s[pos + 3].toNat = 0 ∧ 0 < 3
              · first
                  | exact absurd hc0.2 (by decide)
                  | (have e : R = none := by rw [HR.out, HHI.out hb, ← HZ.out]; exact if_neg (by omega)
                     have hq : ((s[pos + 3].toNat : Int) == 0) = true := by simp [hc0.1]
                     subst e
                     clear hc0
                     go_wp2
                     go_ret3
                     exact ⟨rfl, rfl⟩)
              · have e : R = some (zag zn, 3 + 1) := by rw [HR.out, HHI.out hb, ← HZ.out]; exact if_pos (by omega)
                have hq : 0 < 3 → ((s[pos + 3].toNat : Int) == 0) = false := fun h => by simp; omega
                subst e
                clear hc0
                try (have hq' := hq (by decide))
                clear hq
                go_wp2_with (go_at_call 57; refine (unZigZag_any _ _ hn0 (by omega)).mono ?_; rintro e w' ⟨rfl, rfl⟩)
                go_ret3
                exact ⟨rfl, rfl⟩
            · have e : R = none := by rw [HR.out, HHI.out hb, ← HZ.out]; exact if_neg (by omega)
              have hzl' : 2000000000000 < zn := by omega
              subst e
              by_cases hc0 : s[pos + 3].toNat = 0
              · have hq : ((s[pos + 3].toNat : Int) == 0) = true := by simp [hc0]
                clear hc0
                go_wp2
                go_ret3
                exact ⟨rfl, rfl⟩
              · have hq : ((s[pos + 3].toNat : Int) == 0) = false := by simp; omega
                clear hc0
                go_wp2
                go_ret3
                exact ⟨rfl, rfl⟩
          · have hb' : (127 : Int) < (s[pos + 3].toNat : Int) := by omega
            go_wp2
            go_round
            case rel => exact ⟨pos + 3 + 1, 3 + 1, zn, by omega, by omega, by omega, by go_num, rfl, by rw [HZ.out]; exact HST.out (by omega)⟩
            case measure => simp [intOf]; omega
        · obtain rfl : pos + 4 = k := by omega
          clear hkj
          have hz2 : zz < 268435456 := hz1
          clear hz1
          have hget : (from_ s pos)[4]? = some s[pos + 4] := from_get s pos 4 (by omega)
          have hE1 := and_127 s[pos + 4]
          obtain ⟨d, hd⟩ : ∃ d : Int, d = ((s[pos + 4].toNat % 128 : Nat) : Int) := ⟨_, rfl⟩
          rw [← hd] at hE1
          have hd0 : 0 ≤ d := by omega
          have hd1 : d < 128 := by omega
          obtain ⟨zn, hzn⟩ : ∃ zn : Int, zn = zz + d * 268435456 := ⟨_, rfl⟩
          have hn0 : 0 ≤ zn := by omega
          have hn1 : zn ≤ 4398046511104 := by omega
          have hE2 : bits .or .i64 zz (d * 268435456) = zn := hzn ▸ or_low 28 (by omega) zz d hz0 hz2 hd0 hd1
          have hm : (268435456 : Int) = ((128 ^ 4 : Nat) : Int) := by decide
          have HST := Lib.hid (fun hc => HG.out.step hget hc hd hm)
          have HHI := Lib.hid (fun hc => HG.out.hit hget hc hd hm)
          have HZ := Lib.hid hzn
          clear hzn hget hd hm
          skip
          have hE3 : bits .or .i64 zz (d * 268435456) = zn := by simpa using hE2
          have hE4 : bits .or .i64 zz (wrap64 (d * 268435456)) = zn := by rw [IntWalk.wrap64_in _ (by omega)]; exact hE3
          clear hE2
          by_cases hb : s[pos + 4].toNat < 128
          · have hb' : (s[pos + 4].toNat : Int) ≤ 127 := by omega
            by_cases hzl : zn ≤ 2000000000000
            · by_cases hc0 : s[pos + 4].toNat = 0 ∧ 0 < 4
              · first
                  | exact absurd hc0.2 (by decide)
                  | (have e : R = none := by rw [HR.out, HHI.out hb, ← HZ.out]; exact if_neg (by omega)
                     have hq : ((s[pos + 4].toNat : Int) == 0) = true := by simp [hc0.1]
                     subst e
                     clear hc0
                     go_wp2
                     go_ret3
                     exact ⟨rfl, rfl⟩)
              · have e : R = some (zag zn, 4 + 1) := by rw [HR.out, HHI.out hb, ← HZ.out]; exact if_pos (by omega)
                have hq : 0 < 4 → ((s[pos + 4].toNat : Int) == 0) = false := fun h => by simp; omega
                subst e
                clear hc0
                try (have hq' := hq (by decide))
                clear hq
                go_wp2_with (go_at_call 57; refine (unZigZag_any _ _ hn0 (by omega)).mono ?_; rintro e w' ⟨rfl, rfl⟩)
                go_ret3
                exact ⟨rfl, rfl⟩
            · have e : R = none := by rw [HR.out, HHI.out hb, ← HZ.out]; exact if_neg (by omega)
              have hzl' : 2000000000000 < zn := by omega
              subst e
              by_cases hc0 : s[pos + 4].toNat = 0
              · have hq : ((s[pos + 4].toNat : Int) == 0) = true := by simp [hc0]
                clear hc0
                go_wp2
                go_ret3
                exact ⟨rfl, rfl⟩
              · have hq : ((s[pos + 4].toNat : Int) == 0) = false := by simp; omega
                clear hc0
                go_wp2
                go_ret3
                exact ⟨rfl, rfl⟩
          · have hb' : (127 : Int) < (s[pos + 4].toNat : Int) := by omega
            go_wp2
            go_round
            case rel => exact ⟨pos + 4 + 1, 4 + 1, zn, by omega, by omega, by omega, by go_num, rfl, by rw [HZ.out]; exact HST.out (by omega)⟩
            case measure => simp [intOf]; omega
        · obtain rfl : pos + 5 = k := by omega
          clear hkj
          have hz2 : zz < 34359738368 := hz1
          clear hz1
          have hget : (from_ s pos)[5]? = some s[pos + 5] := from_get s pos 5 (by omega)
          have hE1 := and_127 s[pos + 5]
          obtain ⟨d, hd⟩ : ∃ d : Int, d = ((s[pos + 5].toNat % 128 : Nat) : Int) := ⟨_, rfl⟩
          rw [← hd] at hE1
          have hd0 : 0 ≤ d := by omega
          have hd1 : d < 128 := by omega
          obtain ⟨zn, hzn⟩ : ∃ zn : Int, zn = zz + d * 34359738368 := ⟨_, rfl⟩
          have hn0 : 0 ≤ zn := by omega
          have hn1 : zn ≤ 4398046511104 := by omega
          have hE2 : bits .or .i64 zz (d * 34359738368) = zn := hzn ▸ or_low 35 (by omega) zz d hz0 hz2 hd0 hd1
          have hm : (34359738368 : Int) = ((128 ^ 5 : Nat) : Int) := by decide
          have HST := Lib.hid (fun hc => HG.out.step hget hc hd hm)
          have HHI := Lib.hid (fun hc => HG.out.hit hget hc hd hm)
          have HZ := Lib.hid hzn
          clear hzn hget hd hm
          skip
          have hE3 : bits .or .i64 zz (d * 34359738368) = zn := by simpa using hE2
          have hE4 : bits .or .i64 zz (wrap64 (d * 34359738368)) = zn := by rw [IntWalk.wrap64_in _ (by omega)]; exact hE3
          clear hE2
          by_cases hb : s[pos + 5].toNat < 128
          · have hb' : (s[pos + 5].toNat : Int) ≤ 127 := by omega
            by_cases hzl : zn ≤ 2000000000000
            · by_cases hc0 : s[pos + 5].toNat = 0 ∧ 0 < 5
              · first
                  | exact absurd hc0.2 (by decide)
                  | (have e : R = none := by rw [HR.out, HHI.out hb, ← HZ.out]; exact if_neg (by omega)
                     have hq : ((s[pos + 5].toNat : Int) == 0) = true := by simp [hc0.1]
                     subst e
                     clear hc0
                     go_wp2
                     go_ret3
                     exact ⟨rfl, rfl⟩)
              · have e : R = some (zag zn, 5 + 1) := by rw [HR.out, HHI.out hb, ← HZ.out]; exact if_pos (by omega)
                have hq : 0 < 5 → ((s[pos + 5].toNat : Int) == 0) = false := fun h => by simp; omega
                subst e
                clear hc0
                try (have hq' := hq (by decide))
                clear hq
                go_wp2_with (go_at_call 57; refine (unZigZag_any _ _ hn0 (by omega)).mono ?_; rintro e w' ⟨rfl, rfl⟩)
                go_ret3
                exact ⟨rfl, rfl⟩
            · have e : R = none := by rw [HR.out, HHI.out hb, ← HZ.out]; exact if_neg (by omega)
              have hzl' : 2000000000000 < zn := by omega
              subst e
              by_cases hc0 : s[pos + 5].toNat = 0
              · have hq : ((s[pos + 5].toNat : Int) == 0) = true := by simp [hc0]
                clear hc0
                go_wp2
                go_ret3
                exact ⟨rfl, rfl⟩
              · have hq : ((s[pos + 5].toNat : Int) == 0) = false := by simp; omega
                clear hc0
                go_wp2
                go_ret3
                exact ⟨rfl, rfl⟩
          · have hb' : (127 : Int) < (s[pos + 5].toNat : Int) := by omega
            go_wp2
            go_round
            case rel => exact ⟨pos + 5 + 1, 5 + 1, zn, by omega, by omega, by omega, by go_num, rfl, by rw [HZ.out]; exact HST.out (by omega)⟩
            case measure => simp [intOf]; omega
    · have e : R = none := HR.out.trans (HG.out.out (by rw [from_len]; omega))
      subst e
      go_wp2
      go_ret3
      exact ⟨rfl, rfl⟩
end Go.Proofs.Ytbpeceejboojoaa
