/- ReadGamma: the reference's walk. -/
import Derived.Test.YtpdclppieicaeaaDoorGamS
namespace Go.Proofs.YtpdclppieicaeaaDoor
set_option linter.unusedVariables false
set_option linter.unusedSimpArgs false
open Go.RowKit

/-- What ReadGamma hands back. -/
def rgT (o : Option (Nat × Nat)) : Value := match o with
  | some (n, k) => .tuple #[.int .i64 n, .int .i64 k, .bool true]
  | none => .tuple #[.int .i64 0, .int .i64 0, .bool false]
def RG (s : ByteArray) (w : World) (e : Ending) (w' : World) : Prop := e = .returned (rgT (readG s.data.toList)) ∧ Below w.heap.size w w'
theorem RG.no_ {s : ByteArray} {w w' : World} (h : readG s.data.toList = none) (hb : Below w.heap.size w w') : RG s w (.returned (.tuple #[.int .i64 0, .int .i64 0, .bool false])) w' := ⟨by rw [h]; rfl, hb⟩
theorem RG.yes {s : ByteArray} {w w' : World} {n k : Int} {n' k' : Nat} (h : readG s.data.toList = some (n', k')) (hn : n = n') (hk : k = k') (hb : Below w.heap.size w w') : RG s w (.returned (.tuple #[.int .i64 n, .int .i64 k, .bool true])) w' := ⟨by rw [h, hn, hk]; rfl, hb⟩
theorem bv_lt (l : List UInt8) : ∀ (k a n : Nat), bv a l = some n → a + 1 ≤ 2 ^ k → n + 1 ≤ 2 ^ (k + l.length) := by
  induction l with
  | nil => intro k a n h ha; simp [bv] at h; simp; omega
  | cons c l ih =>
    intro k a n h ha
    rw [List.length_cons, show k + (l.length + 1) = k + 1 + l.length by omega]
    have hp : 2 ^ (k + 1) = 2 * 2 ^ k := by rw [Nat.pow_succ]; omega
    simp only [bv] at h
    by_cases h0 : c = 48
    · rw [if_pos h0] at h
      exact ih _ _ _ h (by omega)
    · by_cases h1 : c = 49
      · rw [if_neg h0, if_pos h1] at h
        exact ih _ _ _ h (by omega)
      · rw [if_neg h0, if_neg h1] at h; cases h
theorem pow_small {k : Nat} (h : k ≤ 20) : 2 ^ k ≤ 1048576 := by
  have := Nat.pow_le_pow_right (n := 2) (by omega) h
  simpa using this
theorem readG_of {s tl : List UInt8} {z : Nat} (hz : nz s = z) (h : s.length ≤ 600 ∧ z ≤ 19 ∧ 2 * z + 1 ≤ s.length) (ht : tl = (s.drop z).take (z + 1)) :
    (bv 0 tl = none → readG s = none) ∧ ∀ n, bv 0 tl = some n → readG s = if n ≤ 1000000 then some (n, 2 * z + 1) else none := by
  subst hz; subst ht
  constructor
  · intro e; unfold readG; rw [if_pos h, e]
  · intro n e; unfold readG; rw [if_pos h, e]
theorem cutG (s : ByteArray) (a b : Nat) : (s.extract a b).data.toList = (s.data.toList.drop a).take (b - a) := by
  rw [ByteArray.data_extract, Array.toList_extract]
set_option maxRecDepth 100000 in
set_option maxHeartbeats 4000000 in
theorem sReadGamma_any (s : ByteArray) (w : World) (hs : s.size ≤ 1048576) : Calls Tryd.prog 9 #[.string s] w (RG s w) := by
  have hsz : s.data.toList.length = s.size := by simp
  have HA := Lib.hid (fun (k : Nat) (h : k < s.size) => byte_atG s k h)
  obtain ⟨l, hl⟩ : ∃ l, s.data.toList = l := ⟨_, rfl⟩
  rw [hl] at HA hsz
  have HL := Lib.hid hl
  have HSZ := Lib.hid hsz
  have hzl := nz_le l
  obtain ⟨z, hz⟩ : ∃ z, nz l = z := ⟨_, rfl⟩
  rw [hz, hsz] at hzl
  have HZ := Lib.hid hz
  clear hl hsz hz
  go_enter Tryd.func9, Tryd.ntmps9
  go_wp2
  go_loop [5] (fun v => ∃ k : Nat, k ≤ z ∧ v = .int .i64 k) (fun v => s.size - (intOf v).toNat)
  case atStart => exact ⟨0, Nat.zero_le _, rfl⟩
  case round =>
    obtain ⟨k, hk, rfl⟩ := hrel
    by_cases hlt : k < z
    · have hks : k < s.size := by omega
      have hc : s[k] = 48 := nz_lt l k s[k] (by rw [HZ.out]; exact hlt) (HA.out k hks)
      have hc2 : s[k].toNat = 48 := by rw [hc]; rfl
      have hc3 : ((s[k].toNat : Int) == 48) = true := by rw [hc]; rfl
      clear hc
      go_wp2
      go_round
      case rel => exact ⟨k + 1, by omega, by go_num⟩
      case measure => simp [intOf]; omega
    · obtain rfl : k = z := by omega
      have HNO := Lib.hid (show ¬ (l.length ≤ 600 ∧ nz l ≤ 19 ∧ 2 * nz l + 1 ≤ l.length) → readG s.data.toList = none from fun h => by rw [HL.out]; unfold readG; rw [if_neg h])
      by_cases hks : k < s.size
      · have hne : s[k] ≠ 48 := nz_at l s[k] (by rw [HZ.out]; exact HA.out k hks)
        have hn1 : ¬ s[k].toNat = 48 := fun e => hne (UInt8.toNat_inj.1 (by rw [e]; rfl))
        have hn3 : ((s[k].toNat : Int) == 48) = false := by simp; omega
        have HNE := Lib.hid hne
        clear hne
        by_cases h6 : s.size ≤ 600
        · by_cases h19 : k ≤ 19
          · by_cases h2 : 2 * k + 1 ≤ s.size
            · obtain ⟨T, hTd⟩ : ∃ T, s.extract k (2 * k + 1) = T := ⟨_, rfl⟩
              have hTs : T.size = k + 1 := by rw [← hTd]; simp; omega
              have hTl : T.data.toList = (l.drop k).take (k + 1) := by rw [← hTd, cutG, HL.out]; rw [show 2 * k + 1 - k = k + 1 by omega]
              have HTL := Lib.hid hTl
              have hconv := fun w => Lib.run_convert_string_bytes (P := Tryd.prog) w 9 22 5 T Tryd.underlying9 Tryd.underlying22 Tryd.underlying5
              clear hTl
              go_wp2
              have HOK := Lib.hid (readG_of (s := l) (z := k) (tl := T.data.toList) HZ.out (by rw [HSZ.out]; omega) HTL.out)
              clear HNO HNE hconv
              have hc0 : ∀ j, j < T.size → (Lib.bytesWorld w 5 T).cell? ⟨w.heap.size, j, none⟩ = some (.int .u8 (T.data.toList.getD j 0).toNat) := fun j hj => Lib.bytesWorld_cell w _ T j hj
              have hb0 : Below w.heap.size w (Lib.bytesWorld w 5 T) := ⟨rfl, rfl, rfl, by rw [Lib.bytesWorld_size]; omega, fun k hk => Lib.bytesWorld_at_old w _ T k hk⟩
              obtain ⟨wc, hwc⟩ : ∃ wc, Lib.bytesWorld w 5 T = wc := ⟨_, rfl⟩
              rw [hwc] at hc0 hb0 ⊢
              obtain ⟨cap, hcap⟩ : ∃ cap, grownCap w T.size 0 5 = cap := ⟨_, rfl⟩
              try rw [hcap]
              obtain ⟨X, hX⟩ : ∃ X, w.heap.size = X := ⟨_, rfl⟩
              have HB0 := Lib.hid hb0
              rw [hX] at hc0 ⊢
              have HC0 := Lib.hid hc0
              clear hwc hcap hc0 hb0 hX
              go_loopw [6, 44] (fun n i wr => ∃ (j a : Nat), j ≤ T.size ∧ i = .int .i64 j ∧ n = .int .i64 a ∧ bv 0 (T.data.toList.take j) = some a ∧ wr = wc) (fun _ i _ => T.size - (intOf i).toNat)
              case atStart => exact ⟨0, 0, Nat.zero_le _, rfl, rfl, rfl, rfl⟩
              case round =>
                obtain ⟨j, a, hj, rfl, rfl, hbv, rfl⟩ := hrel
                have hlen : T.data.toList.length = T.size := by simp
                have ha2 : a ≤ 1048576 := by
                  have h1 := bv_lt (T.data.toList.take j) 0 0 a hbv (by omega)
                  have h2 := pow_small (k := 0 + (T.data.toList.take j).length) (by rw [List.length_take]; omega)
                  omega
                have HBV := Lib.hid hbv
                clear hbv
                by_cases hlt2 : j < T.size
                · have hcj := HC0.out j hlt2
                  obtain ⟨c, hcx⟩ : ∃ c, T.data.toList[j]? = some c := ⟨_, List.getElem?_eq_getElem (by omega)⟩
                  have hg : T.data.toList.getD j 0 = c := by rw [List.getD, hcx]; rfl
                  rw [hg] at hcj
                  have HSN := Lib.hid (take_snoc' T.data.toList j c hcx)
                  have HDR := Lib.hid (List.take_append_drop (j + 1) T.data.toList)
                  clear hcx hg hlen
                  by_cases h48 : c = 48
                  · have HB2 := Lib.hid (show bv 0 (T.data.toList.take (j + 1)) = some (2 * a) by rw [HSN.out, bv_app, HBV.out, h48]; exact bv_dig (d := 0) (by omega))
                    subst h48
                    go_wp2
                    go_roundw
                    case rel => exact ⟨j + 1, 2 * a, by omega, by go_num, by go_num, HB2.out, trivial⟩
                    case measure => simp [intOf]; omega
                  · by_cases h49 : c = 49
                    · have HB2 := Lib.hid (show bv 0 (T.data.toList.take (j + 1)) = some (2 * a + 1) by rw [HSN.out, bv_app, HBV.out, h49]; exact bv_dig (d := 1) (by omega))
                      subst h49
                      go_wp2
                      go_roundw
                      case rel => exact ⟨j + 1, 2 * a + 1, by omega, by go_num, by go_num, HB2.out, trivial⟩
                      case measure => simp [intOf]; omega
                    · have n48 : ((c.toNat : Int) == 48) = false := by
                        rw [beq_eq_false_iff_ne]; intro e
                        exact h48 (UInt8.toNat_inj.1 (by rw [show (48 : UInt8).toNat = 48 from rfl]; omega))
                      have n49 : ((c.toNat : Int) == 49) = false := by
                        rw [beq_eq_false_iff_ne]; intro e
                        exact h49 (UInt8.toNat_inj.1 (by rw [show (49 : UInt8).toNat = 49 from rfl]; omega))
                      have p48 : ¬ c.toNat = 48 := fun e => h48 (UInt8.toNat_inj.1 (by rw [e]; rfl))
                      have p49 : ¬ c.toNat = 49 := fun e => h49 (UInt8.toNat_inj.1 (by rw [e]; rfl))
                      have q48 : ¬ (c.toNat : Int) = 48 := by omega
                      have q49 : ¬ (c.toNat : Int) = 49 := by omega
                      have m48 : ((c.toNat : Int) != 48) = true := by rw [bne, n48]; rfl
                      have m49 : ((c.toNat : Int) != 49) = true := by rw [bne, n49]; rfl
                      have HF := Lib.hid (HOK.out.1 (by rw [← HDR.out, HSN.out, List.append_assoc, bv_app, HBV.out]; exact bv_bad h48 h49))
                      clear h48 h49
                      go_wp2
                      go_ret3
                      exact RG.no_ (by rw [HL.out]; exact HF.out) HB0.out
                · obtain rfl : j = T.size := by omega
                  have HB2 := Lib.hid (show bv 0 T.data.toList = some a by have := HBV.out; rwa [List.take_of_length_le (by omega)] at this)
                  have HF := Lib.hid (HOK.out.2 a HB2.out)
                  by_cases hm : a ≤ 1000000
                  · go_wp2
                    go_ret3
                    exact RG.yes (n' := a) (k' := 2 * k + 1) (by rw [HL.out, HF.out, if_pos hm]) rfl (by omega) HB0.out
                  · go_wp2
                    go_ret3
                    exact RG.no_ (by rw [HL.out, HF.out, if_neg hm]) HB0.out
            · have HF := Lib.hid (HNO.out (by rw [HZ.out, HSZ.out]; omega))
              go_wp2
              go_ret3
              exact RG.no_ HF.out (Below.refl _ _)
          · have HF := Lib.hid (HNO.out (by rw [HZ.out, HSZ.out]; omega))
            go_wp2
            go_ret3
            exact RG.no_ HF.out (Below.refl _ _)
        · have HF := Lib.hid (HNO.out (by rw [HZ.out, HSZ.out]; omega))
          go_wp2
          go_ret3
          exact RG.no_ HF.out (Below.refl _ _)
      · have HF := Lib.hid (HNO.out (by rw [HZ.out, HSZ.out]; omega))
        by_cases h6 : s.size ≤ 600
        · by_cases h19 : k ≤ 19
          · have h2 : s.size < 2 * k + 1 := by omega
            go_wp2
            go_ret3
            exact RG.no_ HF.out (Below.refl _ _)
          · go_wp2
            go_ret3
            exact RG.no_ HF.out (Below.refl _ _)
        · go_wp2
          go_ret3
          exact RG.no_ HF.out (Below.refl _ _)
end Go.Proofs.YtpdclppieicaeaaDoor
