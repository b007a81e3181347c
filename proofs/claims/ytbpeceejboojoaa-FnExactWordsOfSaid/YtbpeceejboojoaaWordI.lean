/- WordsOf: the program's walk. -/
import Derived.Test.YtbpeceejboojoaaWordS
import Derived.Test.YtbpeceejboojoaaFits
import Derived.Test.YtbpeceejboojoaaFormI
namespace Go.Proofs.Ytbpeceejboojoaa
set_option linter.unusedVariables false
set_option linter.unusedSimpArgs false
open Go.RowKit

theorem enc97 : Utf8.encode (wrap32 (wrap64 (97 + ((0 : Nat) : Int)))) = ⟨#[97]⟩ := by decide +kernel
theorem enc98 : Utf8.encode (wrap32 (wrap64 (97 + ((1 : Nat) : Int)))) = ⟨#[98]⟩ := by decide +kernel
/-- The letter of a number's bit. -/
def bitB (x : Nat) : ByteArray := if x % 2 = 0 then ⟨#[97]⟩ else ⟨#[98]⟩
theorem bitB_size (x : Nat) : (bitB x).size = 1 := by unfold bitB; split <;> rfl
theorem and_bit : ∀ y : Fin 9, bits .and .i64 ((y.val : Nat) : Int) 1 = ((y.val % 2 : Nat) : Int) := by decide +kernel
theorem enc_bit (x : Nat) (hx : x ≤ 8) : Utf8.encode (wrap32 (wrap64 (97 + bits .and .i64 (x : Int) 1))) = bitB x := by
  have h1 : bits .and .i64 (x : Int) 1 = ((x % 2 : Nat) : Int) := and_bit ⟨x, by omega⟩
  rw [h1]
  unfold bitB
  have h2 : x % 2 < 2 := Nat.mod_lt _ (by omega)
  generalize x % 2 = y at h2 ⊢
  match y, h2 with
  | 0, _ => rw [if_pos rfl]; exact enc97
  | 1, _ => rw [if_neg (by decide)]; exact enc98
theorem word_step {k v j : Nat} (h : v + 1 ≤ k) : wrd (bitsW (k - v) (j / 2 ^ v)) = wrd (bitsW (k - (v + 1)) (j / 2 ^ (v + 1))) ++ bitB (j / 2 ^ v) := by
  rw [show k - v = (k - (v + 1)) + 1 from by omega, bitsW_step, Nat.div_div_eq_div_mul, Nat.pow_succ]
  rfl
set_option maxRecDepth 100000 in
set_option maxHeartbeats 8000000 in
theorem iWordsOf_any (B : Nat) (A : Option Addr) (n c : Nat) (l : List Prt) (z : Int) (w : World) (hBw : B ≤ w.heap.size) (h : Rd w B 4 A n (prts l)) (hn : n ≤ 1048576) (hok : ∀ p ∈ l, p.text.size ≤ 1048576) :
    Calls Try.prog 8 #[.slice A n c, .int .i64 z] w (GotR 9 1 w (woR l z).length (strs (woR l z)) (okWo l z)) := by
  have C1 := Lib.hid (isForm_any B A n c l w hBw h hn hok)
  have C2 := Lib.hid (fun w => within_any z 0 3 w)
  have hlen := h.prt_len
  cases hg : goodPrt l with
  | false =>
    have hk : okWo l z = false := by unfold okWo; rw [hg]; rfl
    rw [woR_no hk, hk]
    rw [hg] at C1
    clear hg h hok hk
    go_enter Try.func8, Try.ntmps8
    go_wp2_with fail
    refine C1.out.mono ?_
    rintro e w1 ⟨rfl, hb⟩
    have HB := Lib.hid hb
    clear hb
    go_wp2
    go_ret2
    exact GotR.no_ HB.out
  | true =>
    rw [hg] at C1
    cases hw : inB z 0 3 with
    | false =>
      have hk : okWo l z = false := by unfold okWo; rw [hw, Bool.and_false]
      rw [woR_no hk, hk]
      rw [hw] at C2
      clear hg hw h hok hk
      go_enter Try.func8, Try.ntmps8
      go_wp2_with fail
      refine C1.out.mono ?_
      rintro e w1 ⟨rfl, hb⟩
      have HB := Lib.hid hb
      clear hb
      go_wp2_with fail
      refine (C2.out _).mono ?_
      rintro e w' ⟨rfl, rfl⟩
      go_wp2
      go_ret2
      exact GotR.no_ HB.out
    | true =>
      have hk : okWo l z = true := by unfold okWo; rw [hg, hw]; rfl
      rw [hw] at C2
      obtain ⟨hz0, hz3⟩ := inB_iff.1 hw
      obtain ⟨L, rfl⟩ : ∃ L : Nat, z = L := ⟨z.toNat, by omega⟩
      have hL3 : L ≤ 3 := by omega
      have hn24 := good_len hg
      rw [hlen] at hn24
      obtain ⟨t, ht⟩ : ∃ t, tr l (n - 1) = t := ⟨_, rfl⟩
      have hR := woR_yes hk
      rw [hlen, ht, Int.toNat_natCast] at hR
      obtain ⟨R, hRR⟩ : ∃ R, woR l (L : Int) = R := ⟨_, rfl⟩
      rw [hk, hRR]
      rw [hRR] at hR
      have HR := Lib.hid hR
      have CF := Lib.hid (fun (s : ByteArray) (hs : s.size ≤ 1000) w1 (hb : Below w.heap.size w w1) => ht ▸ fits_any B A n c l s w1 (Nat.le_trans hBw hb.size) (h.below (hb.mono hBw)) hn24.2 hg hs)
      obtain ⟨i0, hi, hi0, hi1, hi2⟩ := info_parts infoStr
      have HI := Lib.hid (And.intro hi (And.intro hi0 (And.intro hi1 hi2)))
      clear hi hi0 hi1 hi2 hg hw h hok hlen hk hRR hR ht hz0 hz3
      go_enter Try.func8, Try.ntmps8
      go_wp2_with fail
      refine C1.out.mono ?_
      rintro e w1 ⟨rfl, hb⟩
      have HB1 := Lib.hid hb
      clear hb
      go_wp2_with fail
      refine (C2.out _).mono ?_
      rintro e w' ⟨rfl, rfl⟩
      clear C1 C2
      go_wp2_with fail
      go_loopw [6, 21] (fun o i wr => ∃ (k m : Nat) (A2 : Option Addr) (c2 : Nat), k ≤ L + 1 ∧ i = .int .i64 k ∧ o = .slice A2 m c2 ∧ Hid (m = (accW t k 0).length) ∧
        wr.ownsRow w.heap.size 9 1 (.slice A2 m c2) m (strs (accW t k 0)) ∧ Below w.heap.size w wr) (fun _ i _ => L + 1 - (intOf i).toNat)
      case atStart => exact ⟨0, 0, none, 0, Nat.zero_le _, rfl, rfl, Lib.hid (by rw [accW_zero]; rfl), by rw [accW_zero]; exact World.ownsRow_nil _ _ _ _, HB1.out⟩
      case round =>
        clear HB1
        obtain ⟨k, m, A2, c2, hk, rfl, rfl, HM, hoo, hb⟩ := hrel
        have HOO := Lib.hid hoo
        have HB := Lib.hid hb
        have hsw := hb.size
        clear hoo hb
        by_cases hlt : k ≤ L
        · have hlt' : (k : Int) < (L : Int) + 1 := by omega
          obtain ⟨N, hN⟩ : ∃ N, 2 ^ k = N := ⟨_, rfl⟩
          have HN := Lib.hid hN
          have hN8 : N ≤ 8 := by rw [← hN]; exact pow_le8 (by omega)
          have hp1 : (2 : Int) ^ k = (N : Int) := by rw [← hN]; simp
          clear hN
          go_wp2_with fail
          go_loopw [6, 26] (fun o i wr => ∃ (j m : Nat) (A2 : Option Addr) (c2 : Nat), j ≤ N ∧ i = .int .i64 j ∧ o = .slice A2 m c2 ∧ Hid (m = (accW t k j).length) ∧
            wr.ownsRow w.heap.size 9 1 (.slice A2 m c2) m (strs (accW t k j)) ∧ Below w.heap.size w wr) (fun _ i _ => N - (intOf i).toNat)
          case atStart => exact ⟨0, m, A2, c2, Nat.zero_le _, rfl, rfl, HM, HOO.out, HB.out⟩
          case round =>
            clear HOO HB hsw HM hp1
            obtain ⟨j, m, A2, c2, hj, rfl, rfl, HM, hoo, hb⟩ := hrel
            have hm24 : m ≤ 24 := by
              have h1 := accW_len t k j
              have h2 := HN.out
              rw [HM.out]
              omega
            have HOO := Lib.hid hoo
            have HB := Lib.hid hb
            have hsw := hb.size
            clear hoo hb
            by_cases hlt2 : j < N
            · go_wp2_with fail
              go_loop [9, 10] (fun s i => ∃ (u : Nat) (a : Int) (S : ByteArray), u ≤ k ∧ i = .int .i64 a ∧ a = (u : Int) - 1 ∧ s = .string S ∧ S.size ≤ 3 ∧ Hid (S.size + u = k) ∧ Hid (S = wrd (bitsW (k - u) (j / 2 ^ u)))) (fun _ i => (intOf i + 1).toNat)
              case atStart => exact ⟨k, (k : Int) - 1, ⟨#[]⟩, Nat.le_refl _, rfl, rfl, rfl, Nat.zero_le _, Lib.hid (Nat.zero_add _), Lib.hid (by rw [Nat.sub_self]; rfl)⟩
              case round =>
                obtain ⟨u, a, S, hu, rfl, ha, rfl, hS3, HSZ, HS⟩ := hrel
                rcases u with _ | v
                · obtain rfl : a = -1 := by omega
                  have HW := Lib.hid (show S = wrd (bitsW k j) by have e := HS.out; rwa [Nat.sub_zero, Nat.pow_zero, Nat.div_one] at e)
                  have hx := rowW_get (k := k) (j := j) (by have := HN.out; omega)
                  rw [← HW.out] at hx
                  obtain ⟨v, hv⟩ : ∃ v, mt t S.data.toList = v := ⟨_, rfl⟩
                  have C := Lib.hid (CF.out S (by omega) wr HB.out)
                  have HAY := Lib.hid (fun e => accW_yes (t := t) hx e)
                  have HAN := Lib.hid (fun e => accW_no (t := t) hx e)
                  rw [hv] at HAY HAN C
                  clear HS HSZ ha hu HW hv hx
                  go_wp2_with fail
                  refine C.out.mono ?_
                  rintro e w4 ⟨rfl, hb4⟩
                  have HOO4 := Lib.hid (own_below HOO.out hb4 (Nat.le_refl _))
                  have HB4 := Lib.hid (HB.out.trans (hb4.mono hsw))
                  have hs4 : w.heap.size ≤ w4.heap.size := HB4.out.size
                  clear hb4 HOO HB C
                  cases v with
                  | false =>
                    have HMv := Lib.hid (show m = (accW t k (j + 1)).length by rw [HAN.out rfl]; exact HM.out)
                    have HOOv := Lib.hid (show w4.ownsRow w.heap.size 9 1 (.slice A2 m c2) m (strs (accW t k (j + 1))) by rw [HAN.out rfl]; exact HOO4.out)
                    clear HOO4 HAN HAY HM
                    go_wp2
                    go_roundw
                    case rel => exact ⟨j + 1, m, A2, c2, by omega, by go_num, rfl, HMv, HOOv.out, HB4.out⟩
                    case measure => simp [intOf]; omega
                  | true =>
                    have HAZ := Lib.hid (show accW t k (j + 1) = accW t k j ++ [S] from HAY.out rfl)
                    go_wp2_with (at_builtin; refine wpList_append_own _ rfl (.tmp 47) (.tmp 49) 24 rfl w.heap.size 9 i0 (.string .empty) 1 16 Try.underlying24 HI.out.1 HI.out.2.1 HI.out.2.2.1 HI.out.2.2.2 rfl (by decide) _ m _ rfl (HOO4.out.alloc _) ⟨w4.heap.size, 0, none⟩ 1 1 [.string S] rfl rfl ?c1 ?c2 ?c3 ?c4 ?c5 ?_)
                    case c1 =>
                      intro i u hj
                      match i, hj with
                      | 0, hj => simp at hj; subst hj; simp [Addr.add]
                      | i + 1, hj => simp at hj
                    case c2 => intro u hu; simp at hu; subst hu; rfl
                    case c3 => unfold maxLen; omega
                    case c4 => omega
                    case c5 => simp; omega
                    intro v' w8 ho8 hg8 _
                    obtain ⟨A8, c8, rfl⟩ := own_slice ho8
                    have HB8 := Lib.hid ((HB4.out.alloc hs4 (.cells #[.string S] 9)).grown hg8 (by simp; omega) (fun k hk => (HOO4.out.lt k hk).1))
                    have HMv := Lib.hid (show m + 1 = (accW t k (j + 1)).length by rw [HAZ.out, List.length_append, ← HM.out]; rfl)
                    have HOOv := Lib.hid (show w8.ownsRow w.heap.size 9 1 (.slice A8 (m + 1) c8) (m + 1) (strs (accW t k (j + 1))) by rw [HAZ.out, strs_app]; exact ho8)
                    clear HOO4 HB4 HAN HAY HAZ HM ho8 hg8 hs4
                    go_wp2
                    go_roundw
                    case rel => exact ⟨j + 1, m + 1, A8, c8, by omega, by go_num, rfl, HMv, HOOv.out, HB8.out⟩
                    case measure => simp [intOf]; omega
                · obtain rfl : a = (v : Int) := by omega
                  obtain ⟨X, hX⟩ : ∃ X, j / 2 ^ v = X := ⟨_, rfl⟩
                  have hsh : (j : Int) / 2 ^ v = (X : Int) := by rw [← hX]; simp
                  have hX8 : X ≤ 8 := by have := Nat.div_le_self j (2 ^ v); omega
                  have hen := enc_bit X (by omega)
                  have hws := word_step (k := k) (v := v) (j := j) (by omega)
                  rw [hX, ← HS.out] at hws
                  obtain ⟨D, hD⟩ : ∃ D, bitB X = D := ⟨_, rfl⟩
                  have hDs : D.size = 1 := by rw [← hD]; exact bitB_size X
                  rw [hD] at hen hws
                  obtain ⟨SD, hSD⟩ : ∃ D', S ++ D = D' := ⟨_, rfl⟩
                  have hSDs : SD.size = S.size + 1 := by rw [← hSD, ByteArray.size_append, hDs]
                  have hcat : ∀ w, (Op.stringOp .add S D).run Try.prog w = .ok (.string SD) w := fun w => hSD ▸ run_string_add_sum w S D (by omega)
                  rw [hSD] at hws
                  have HSD := Lib.hid (show SD.size ≤ 3 ∧ SD.size + v = k from by have := HSZ.out; omega)
                  have HWS := Lib.hid (show SD = wrd (bitsW (k - v) (j / 2 ^ v)) by rw [hX]; exact hws.symm)
                  clear hX ha hD hDs hSD hSDs hws HS HSZ
                  go_wp2
                  go_round
                  case rel => exact ⟨v, (v : Int) - 1, SD, by omega, rfl, rfl, rfl, HSD.out.1, Lib.hid HSD.out.2, HWS⟩
                  case measure => simp [intOf]
            · have hjN : j = N := by omega
              have HM2 := Lib.hid (show m = (accW t (k + 1) 0).length by rw [← accW_next t (Nat.le_of_eq (show 2 ^ k = j by rw [hjN, HN.out]))]; exact HM.out)
              have HOO2 := Lib.hid (show wr.ownsRow w.heap.size 9 1 (.slice A2 m c2) m (strs (accW t (k + 1) 0)) by rw [← accW_next t (Nat.le_of_eq (show 2 ^ k = j by rw [hjN, HN.out]))]; exact HOO.out)
              clear hjN HM HN
              go_wp2
              go_roundw
              case rel => exact ⟨k + 1, m, A2, c2, by omega, by go_num, rfl, HM2, HOO2.out, HB.out⟩
              case measure => simp [intOf]; omega
        · have hkL : k = L + 1 := by omega
          have HE := Lib.hid (show R = accW t k 0 by rw [hkL]; exact HR.out)
          clear hkL
          go_wp2
          go_ret2
          rw [HE.out, ← HM.out]
          exact GotR.own_ HOO.out HB.out
end Go.Proofs.Ytbpeceejboojoaa
