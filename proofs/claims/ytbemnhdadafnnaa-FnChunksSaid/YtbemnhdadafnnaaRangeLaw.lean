/- The law RangeOf. -/
import Derived.Test.YtbemnhdadafnnaaDecLaw
import Derived.Test.YtbemnhdadafnnaaDelPairs
namespace Go.Proofs.Ytbemnhdadafnnaa
set_option linter.unusedVariables false
set_option linter.unusedSimpArgs false
open Go.RowKit

def outR (fr to : Int) (p : Int × Int) : Bool := decide (p.1 < fr) || decide (to ≤ p.1)
def rngL (fr to : Int) (l : List (Int × Int)) : List (Int × Int) := kept (outR fr to) l
def rngT (fr to : Int) (s : List UInt8) : Option (List (Int × Int)) := (dec s).map (rngL fr to)
set_option maxRecDepth 100000 in
set_option maxHeartbeats 1000000 in
theorem range1_any (bq : Nat) (fr to x y : Int) (w : World) (h0 : w.cell? ⟨bq, 0, none⟩ = some (.int .i64 fr)) (h1 : w.cell? ⟨bq + 1, 0, none⟩ = some (.int .i64 to)) (hb : bq + 1 < w.heap.size) :
    Calls Try.prog 35 #[.agg #[.int .i64 x, .int .i64 y], .pointer (some ⟨bq, 0, none⟩), .pointer (some ⟨bq + 1, 0, none⟩)] w fun e w' => e = .returned (.bool (outR fr to (x, y))) ∧ Below w.heap.size w w' := by
  have d0 : (w.alloc (.cells #[.int .i64 x, .int .i64 y] 31)).cell? ⟨bq, 0, none⟩ = some (.int .i64 fr) := (World.cell?_alloc_lt _ _ _ (by simp; omega)).trans h0
  have d1 : (w.alloc (.cells #[.int .i64 x, .int .i64 y] 31)).cell? ⟨bq + 1, 0, none⟩ = some (.int .i64 to) := (World.cell?_alloc_lt _ _ _ (by simp; omega)).trans h1
  clear h0 h1
  obtain ⟨R, hR⟩ : ∃ R, R = outR fr to (x, y) := ⟨_, rfl⟩
  rw [← hR]
  unfold outR at hR
  simp only at hR
  by_cases ha : x < fr
  · have e : R = true := by rw [hR]; simp [ha]
    subst e
    clear hR
    have hd : decide (x < fr) = true := by simpa using ha
    go_enter Try.func35, Try.ntmps35
    go_wp2
    go_ret
    exact ⟨rfl, (Below.refl _ _).alloc (Nat.le_refl _) _⟩
  · have hd : decide (x < fr) = false := by simpa using ha
    by_cases hc : to ≤ x
    · have e : R = true := by rw [hR]; simp [hc]
      subst e
      clear hR
      have hd2 : decide (to ≤ x) = true := by simpa using hc
      go_enter Try.func35, Try.ntmps35
      go_wp2
      go_ret
      exact ⟨rfl, (Below.refl _ _).alloc (Nat.le_refl _) _⟩
    · have e : R = false := by rw [hR]; simp; omega
      subst e
      clear hR
      have hd2 : decide (to ≤ x) = false := by simpa using hc
      go_enter Try.func35, Try.ntmps35
      go_wp2
      go_ret
      exact ⟨rfl, (Below.refl _ _).alloc (Nat.le_refl _) _⟩

theorem rng_take {fr to : Int} {l : List (Int × Int)} {k : Nat} {x y : Int} (h : l[k]? = some (x, y)) : rngL fr to (l.take (k + 1)) = if outR fr to (x, y) then rngL fr to (l.take k) else rngL fr to (l.take k) ++ [(x, y)] := by
  unfold rngL
  cases e : outR fr to (x, y) with
  | true => exact kept_snoc_no h e
  | false => exact kept_snoc_yes h e
theorem rng_len {fr to : Int} {l : List (Int × Int)} : (rngL fr to l).length ≤ l.length := List.length_filter_le ..
theorem out_f {fr to x y : Int} (h1 : fr ≤ x) (h2 : x < to) : outR fr to (x, y) = false := by unfold outR; simp; omega
theorem out_t1 {fr to x y : Int} (h1 : x < fr) : outR fr to (x, y) = true := by unfold outR; simp [h1]
theorem out_t2 {fr to x y : Int} (h1 : to ≤ x) : outR fr to (x, y) = true := by unfold outR; simp [h1]

set_option maxRecDepth 100000 in
set_option maxHeartbeats 2000000 in
theorem iRangeOf_any (s : ByteArray) (fr to : Int) (w : World) (hs : s.size ≤ 1048576) : Calls Try.prog 6 #[.string s, .int .i64 fr, .int .i64 to] w (GotS w (rngT fr to s.data.toList)) := by
  have HC := Lib.hid (fun w => decodeChunk_any s w hs)
  cases hd : dec s.data.toList with
  | none =>
    have HT := Lib.hid (show rngT fr to s.data.toList = none by unfold rngT; rw [hd]; rfl)
    rw [hd] at HC
    clear hd
    go_enter Try.func6, Try.ntmps6
    go_wp2_with fail
    refine (HC.out _).mono ?_
    rintro e w1 ⟨h1, _, hb1⟩
    obtain rfl := h1 rfl
    have HB1 := Lib.hid ((below2 _ _).trans (hb1.mono (by simp; omega)) : Below w.heap.size w w1)
    clear h1 hb1
    go_wp2
    go_ret2
    exact GotS.no HT.out rfl HB1.out
  | some l =>
    have hl := goodSmp_len (dec_some hd).1
    have HT := Lib.hid (show rngT fr to s.data.toList = some (rngL fr to l) by unfold rngT; rw [hd]; rfl)
    rw [hd] at HC
    clear hd
    go_enter Try.func6, Try.ntmps6
    go_wp2_with fail
    refine (HC.out _).mono ?_
    rintro e w1 ⟨_, h1, hb1⟩
    obtain ⟨A, c, rfl, ho1⟩ := h1 l rfl
    have hsz : w.heap.size + 2 ≤ w1.heap.size := by have := hb1.size; simpa using this
    have HO := Lib.hid (own_mono ho1 (show w.heap.size + 2 ≤ _ by simp))
    have HB1 := Lib.hid ((below2 _ _).trans (hb1.mono (by simp; omega)) : Below w.heap.size w w1)
    have HX := Lib.hid (show w1.cell? ⟨w.heap.size, 0, none⟩ = some (.int .i64 fr) ∧ w1.cell? ⟨w.heap.size + 1, 0, none⟩ = some (.int .i64 to) from
      ⟨(bcell hb1 _ _ (by simp; omega)).trans (by simp [World.cell?_alloc_lt]), (bcell hb1 _ _ (by simp)).trans (by simp)⟩)
    clear h1 hb1 ho1
    have HD := Lib.hid (rng_del (w.heap.size + 2) w1 (some ⟨w.heap.size, 0, none⟩) (some ⟨w.heap.size + 1, 0, none⟩) (outR fr to) hsz
      (fun x y w' hw => range1_any w.heap.size fr to x y w' ((bcell hw _ _ (by omega)).trans HX.out.1) ((bcell hw _ _ (by omega)).trans HX.out.2) (by have := hw.size; omega))
      A l.length c l w1 (Below.refl _ _) HO.out (by omega))
    clear HX HO
    go_wp2_with fail
    refine HD.out.mono ?_
    rintro e w2 ⟨A2, c2, rfl, ho2, hb2⟩
    have HO2 := Lib.hid ho2
    have HB2 := Lib.hid (HB1.out.trans (hb2.mono (by omega)))
    clear ho2 hb2 HD
    go_wp2
    go_ret2
    refine ⟨fun h => (by rw [HT.out] at h; cases h), fun l' h => ?_, HB2.out⟩
    rw [HT.out] at h
    injection h with h
    subst h
    exact ⟨A2, c2, rfl, own_mono HO2.out (by omega)⟩
set_option maxRecDepth 100000 in
set_option maxHeartbeats 2000000 in
theorem sRangeOf_any (s : ByteArray) (fr to : Int) (w : World) (hs : s.size ≤ 1048576) : Calls Try.prog 7 #[.string s, .int .i64 fr, .int .i64 to] w (GotS w (rngT fr to s.data.toList)) := by
  obtain ⟨j0, hj, hj0, hj1, hj2⟩ := info_parts infoSmp
  have HJ := Lib.hid (And.intro hj (And.intro hj0 (And.intro hj1 hj2)))
  clear hj hj0 hj1 hj2
  have HC := Lib.hid (fun w => sDecodeChunk_any s w hs)
  cases hd : dec s.data.toList with
  | none =>
    have HT := Lib.hid (show rngT fr to s.data.toList = none by unfold rngT; rw [hd]; rfl)
    rw [hd] at HC
    clear hd
    go_enter Try.func7, Try.ntmps7
    go_wp2_with fail
    refine (HC.out _).mono ?_
    rintro e w1 ⟨h1, _, hb1⟩
    obtain rfl := h1 rfl
    have HB1 := Lib.hid hb1
    clear h1 hb1
    go_wp2
    go_ret2
    exact GotS.no HT.out rfl HB1.out
  | some l =>
    have hl := goodSmp_len (dec_some hd).1
    have HT := Lib.hid (show rngT fr to s.data.toList = some (rngL fr to l) by unfold rngT; rw [hd]; rfl)
    rw [hd] at HC
    clear hd
    obtain ⟨n, hn⟩ : ∃ n, n = l.length := ⟨_, rfl⟩
    have HN := Lib.hid hn
    go_enter Try.func7, Try.ntmps7
    go_wp2_with fail
    refine (HC.out _).mono ?_
    rintro e w1 ⟨_, h1, hb1⟩
    obtain ⟨A, c, rfl, ho1⟩ := h1 l rfl
    have HB1 := Lib.hid hb1
    have hsz := hb1.size
    rw [← hn] at ho1
    rw [← hn]
    have H := Lib.hid (Rd.of_own ho1)
    clear h1 hb1 ho1
    replace hl : n ≤ 40 := by omega
    clear hn
    go_wp2_with fail
    go_loopw [10, 22] (fun v i wr => ∃ (k m : Nat), k ≤ n ∧ i = .int .i64 k ∧ m = (rngL fr to (l.take k)).length ∧ m ≤ k ∧ wr.ownsRow w1.heap.size 31 2 v m (smps (rngL fr to (l.take k))) ∧ Below w1.heap.size w1 wr) (fun _ i _ => n - (intOf i).toNat)
    case atStart => exact ⟨0, 0, Nat.zero_le _, rfl, rfl, Nat.le_refl _, World.ownsRow_nil _ _ _ _, Below.refl _ _⟩
    case round =>
      obtain ⟨k, m, hk, rfl, hm, hmk, ho, hb⟩ := hrel
      have HM := Lib.hid hm
      have HO := Lib.hid ho
      have HB := Lib.hid hb
      have hsr := hb.size
      clear hm ho hb
      by_cases hlt : k < n
      · obtain ⟨b, off, x, y, rfl, hbB, hx, hc0, hc1⟩ := H.out.smp_at hlt
        have hc0' : wr.cell? ⟨b, off + k * 2, none⟩ = some (.int .i64 x) := (bcell HB.out _ _ (by omega)).trans hc0
        have hc1' : wr.cell? ⟨b, off + k * 2 + 1, none⟩ = some (.int .i64 y) := (bcell HB.out _ _ (by omega)).trans hc1
        have HX := Lib.hid (rng_take (fr := fr) (to := to) hx)
        clear hx hc0 hc1
        have HBA := Lib.hid (HB.out.alloc hsr (.cells #[.int .i64 x, .int .i64 y] 31))
        by_cases h1 : fr ≤ x
        · have hd1 : decide (fr ≤ x) = true := by simpa using h1
          by_cases h2 : x < to
          · have hd2 : decide (x < to) = true := by simpa using h2
            have HE := Lib.hid (show rngL fr to (l.take (k + 1)) = rngL fr to (l.take k) ++ [(x, y)] by rw [HX.out, out_f h1 h2]; rfl)
            clear HX
            go_wp2_with (at_builtin; refine wpList_append_own _ rfl (.tmp 36) (.tmp 38) 25 rfl w1.heap.size 31 j0 (.agg #[.int .i64 0, .int .i64 0]) 2 16 Try.underlying25 HJ.out.1 HJ.out.2.1 HJ.out.2.2.1 HJ.out.2.2.2 rfl (by decide) _ m _ rfl ((HO.out.alloc _).alloc _) ⟨wr.heap.size + 1, 0, none⟩ 1 1 [.int .i64 x, .int .i64 y] rfl rfl ?c1 (by simp [Value.oneCell']) ?c3 ?c4 ?c5 ?_)
            case c1 =>
              intro j u hj
              match j, hj with
              | 0, hj => simp at hj; subst hj; simp [Addr.add]
              | 1, hj => simp at hj; subst hj; simp [Addr.add]
            case c3 => unfold maxLen; omega
            case c4 => omega
            case c5 => simp; omega
            intro v' w2 ho2 hg2 _
            have HB2 := Lib.hid ((HBA.out.alloc (by simp; omega) (.cells #[.int .i64 x, .int .i64 y] 31)).grown hg2 (by simp; omega) (fun k hk => (HO.out.lt k hk).1))
            have HO2 := Lib.hid (show w2.ownsRow w1.heap.size 31 2 v' (m + 1) (smps (rngL fr to (l.take (k + 1)))) by rw [HE.out, smps_app]; exact ho2)
            clear ho2 hg2
            go_wp2
            go_roundw
            case rel => exact ⟨k + 1, m + 1, by omega, by go_num, by rw [HE.out, List.length_append, ← HM.out]; rfl, by omega, HO2.out, HB2.out⟩
            case measure => simp [intOf]; omega
          · have hd2 : decide (x < to) = false := by simpa using h2
            have HE := Lib.hid (show rngL fr to (l.take (k + 1)) = rngL fr to (l.take k) by rw [HX.out, out_t2 (by omega)]; rfl)
            clear HX
            go_wp2
            go_roundw
            case rel => exact ⟨k + 1, m, by omega, by go_num, by rw [HE.out]; exact HM.out, by omega, by rw [HE.out]; exact HO.out.alloc _, HBA.out⟩
            case measure => simp [intOf]; omega
        · have hd1 : decide (fr ≤ x) = false := by simpa using h1
          have HE := Lib.hid (show rngL fr to (l.take (k + 1)) = rngL fr to (l.take k) by rw [HX.out, out_t1 (by omega)]; rfl)
          clear HX
          go_wp2
          go_roundw
          case rel => exact ⟨k + 1, m, by omega, by go_num, by rw [HE.out]; exact HM.out, by omega, by rw [HE.out]; exact HO.out.alloc _, HBA.out⟩
          case measure => simp [intOf]; omega
      · have hkn : k = n := by omega
        obtain ⟨A2, c2, rfl⟩ := own_slice HO.out
        have e := HM.out
        have ho := HO.out
        rw [hkn, List.take_of_length_le (by rw [HN.out]; exact Nat.le_refl _)] at e ho
        have HE := Lib.hid e
        have HO2 := Lib.hid ho
        clear e ho HO HM
        go_wp2
        go_ret2
        refine ⟨fun h => (by rw [HT.out] at h; cases h), fun l' h => ?_, HB1.out.trans (HB.out.mono hsz)⟩
        rw [HT.out] at h
        injection h with h
        subst h
        rw [← HE.out]
        exact ⟨A2, c2, rfl, own_mono HO2.out hsz⟩
theorem rngT_len {fr to : Int} {s : List UInt8} : ((rngT fr to s).getD []).length ≤ 40 := by
  unfold rngT
  cases e : dec s with
  | none => simp
  | some l => exact Nat.le_trans rng_len (goodSmp_len (dec_some e).1)
theorem both_RangeOf (s : ByteArray) (fr to : Int) (hs : s.size ≤ 1048576) : ∃ (nr : Nat) (lr : List (Int × Int)) (r1 : Bool), nr ≤ 1048576 ∧
    (∀ w, Calls Try.prog 7 #[.string s, .int .i64 fr, .int .i64 to] w (GotR 31 2 w nr (smps lr) r1)) ∧
    (∀ w, Calls Try.prog 6 #[.string s, .int .i64 fr, .int .i64 to] w (GotR 31 2 w nr (smps lr) r1)) :=
  ⟨_, _, _, Nat.le_trans rngT_len (by omega), fun w => (sRangeOf_any s fr to w hs).mono fun _ _ h => h.gotR, fun w => (iRangeOf_any s fr to w hs).mono fun _ _ h => h.gotR⟩
end Go.Proofs.Ytbemnhdadafnnaa
