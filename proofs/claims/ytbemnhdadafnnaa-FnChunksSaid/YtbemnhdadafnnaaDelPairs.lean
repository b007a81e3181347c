/- Deleting from rows of pairs. The contracts of slices.IndexFunc and slices.DeleteFunc at the instances of this program. -/
import Derived.Test.YtbemnhdadafnnaaDelPlain
import Derived.Test.YtbemnhdadafnnaaPairs
namespace Go.Proofs.Ytbemnhdadafnnaa
set_option linter.unusedVariables false
set_option linter.unusedSimpArgs false
open Go.RowKit

theorem smps_set (l : List (Int × Int)) : ∀ (k : Nat) (p : Int × Int), k < l.length → ((smps l).set (k * 2) (.int .i64 p.1)).set (k * 2 + 1) (.int .i64 p.2) = smps (l.set k p) := by
  induction l with
  | nil => intro k p h; simp at h
  | cons q l ih =>
    intro k p h
    cases k with
    | zero => rfl
    | succ k =>
      rw [smps_cons, show (k + 1) * 2 = k * 2 + 1 + 1 from by omega, List.set_cons_succ, List.set_cons_succ, List.set_cons_succ, List.set_cons_succ, ih k p (by simpa using h)]
      rfl
theorem smps_take' (l : List (Int × Int)) (k : Nat) : smps (l.take k) = (smps l).take (k * 2) := by
  induction l generalizing k with
  | nil => simp [smps]
  | cons q l ih =>
    cases k with
    | zero => simp [smps]
    | succ k => rw [List.take_succ_cons, smps_cons, smps_cons, ih, show (k + 1) * 2 = k * 2 + 1 + 1 from by omega, List.take_succ_cons, List.take_succ_cons]
set_option maxHeartbeats 1000000 in
theorem rng_idx (Bp : Nat) (wp : World) (qa qb : Option Addr) (p : Int × Int → Bool) (hBp : Bp ≤ wp.heap.size)
    (hC : ∀ x y w', Below Bp wp w' → Calls Try.prog 35 #[.agg #[.int .i64 x, .int .i64 y], .pointer qa, .pointer qb] w' fun e w'' => e = .returned (.bool (p (x, y))) ∧ Below w'.heap.size w' w'')
    (B : Nat) (A : Option Addr) (n c : Nat) (zs : List (Int × Int)) (w : World) (hW : Below Bp wp w) (hBw : B ≤ w.heap.size) (h : Rd w B 2 A n (smps zs)) (hn : n ≤ 1048576) :
    Calls Try.prog 55 #[.slice A n c, .func (.func 35) #[] #[.pointer qa, .pointer qb]] w fun e w' => e = .returned (.int .i64 (idxZ (fstAt p zs))) ∧ Below w.heap.size w w' := by
  have hlen := h.smp_len
  have HL := Lib.hid hlen
  have H := Lib.hid h
  have HC := Lib.hid hC
  have HW := Lib.hid hW
  clear h hlen hC
  have hWs := hW.size
  clear hW
  obtain ⟨R, hR⟩ : ∃ R, R = fstAt p zs := ⟨_, rfl⟩
  have HR := Lib.hid hR
  rw [← hR]
  clear hR
  go_enter Try.func55, Try.ntmps55
  go_wp2
  go_loopw [8] (fun i wr => ∃ k : Nat, k ≤ n ∧ i = .int .i64 k ∧ (∀ j y, j < k → zs[j]? = some y → p y = false) ∧ Below w.heap.size w wr) (fun i _ => n - (intOf i).toNat)
  case atStart => exact ⟨0, Nat.zero_le _, rfl, fun j y hj => absurd hj (by omega), Below.refl _ _⟩
  case round =>
    obtain ⟨k, hk, rfl, hok, hb⟩ := hrel
    have HK := Lib.hid hok
    have HB := Lib.hid hb
    have hsz := hb.size
    clear hok hb
    by_cases hlt : k < n
    · obtain ⟨b, off, x, y, rfl, hB, hx, hc0, hc1⟩ := H.out.smp_at hlt
      have hc0' : wr.cell? ⟨b, off + k * 2, none⟩ = some (.int .i64 x) := (bcell HB.out _ _ (by omega)).trans hc0
      have hc1' : wr.cell? ⟨b, off + k * 2 + 1, none⟩ = some (.int .i64 y) := (bcell HB.out _ _ (by omega)).trans hc1
      have HX := Lib.hid hx
      clear hx hc0 hc1
      have HC1 := Lib.hid (HC.out x y wr (HW.out.trans (HB.out.mono (by omega))))
      generalize hp : p (x, y) = q at HC1
      have HP := Lib.hid hp
      clear hp
      cases q with
      | false =>
        go_wp2_with (go_at_call 35; refine HC1.out.mono ?_; rintro e w1 ⟨rfl, hb1⟩; have HB1 := Lib.hid (HB.out.trans (hb1.mono hsz)); clear hb1)
        go_roundw
        case rel =>
          refine ⟨k + 1, by omega, by go_num, fun j y hj hy => ?_, HB1.out⟩
          by_cases hjk : j < k
          · exact HK.out j y hjk hy
          · obtain rfl : j = k := by omega
            have := HX.out
            rw [hy] at this
            injection this with this
            rw [this]; exact HP.out
        case measure => simp [intOf]; omega
      | true =>
        have e : R = some k := HR.out.trans (fstAt_hit HX.out HP.out HK.out)
        subst e
        go_wp2_with (go_at_call 35; refine HC1.out.mono ?_; rintro e w1 ⟨rfl, hb1⟩; have HB1 := Lib.hid (HB.out.trans (hb1.mono hsz)); clear hb1)
        go_ret
        exact ⟨rfl, HB1.out⟩
    · have e : R = none := HR.out.trans (fstAt_none fun j y hy => HK.out j y (by have := (List.getElem?_eq_some_iff.1 hy).1; have := HL.out; omega) hy)
      subst e
      go_wp2
      go_ret
      exact ⟨rfl, HB.out⟩
set_option maxRecDepth 100000 in
set_option maxHeartbeats 2000000 in
theorem rng_del (Bp : Nat) (wp : World) (qa qb : Option Addr) (p : Int × Int → Bool) (hBp : Bp ≤ wp.heap.size)
    (hC : ∀ x y w', Below Bp wp w' → Calls Try.prog 35 #[.agg #[.int .i64 x, .int .i64 y], .pointer qa, .pointer qb] w' fun e w'' => e = .returned (.bool (p (x, y))) ∧ Below w'.heap.size w' w'')
    (A : Option Addr) (n c : Nat) (zs : List (Int × Int)) (w : World) (hW : Below Bp wp w) (ho : w.ownsRow Bp 31 2 (.slice A n c) n (smps zs)) (hn : n ≤ 1048576) :
    Calls Try.prog 34 #[.slice A n c, .func (.func 35) #[] #[.pointer qa, .pointer qb]] w fun e w' => ∃ A' c', e = .returned (.slice A' (kept p zs).length c') ∧
      w'.ownsRow Bp 31 2 (.slice A' (kept p zs).length c') (kept p zs).length (smps (kept p zs)) ∧ Below Bp wp w' := by
  have hrd := Rd.of_own ho
  have hlen := hrd.smp_len
  have HL := Lib.hid hlen
  have HO := Lib.hid ho
  have HC := Lib.hid hC
  have HW := Lib.hid hW
  have hWs := hW.size
  have HI := Lib.hid (rng_idx Bp wp qa qb p hBp hC w.heap.size A n c zs w hW (Nat.le_refl _) hrd hn)
  clear ho hC hW hrd hlen
  cases hf : fstAt p zs with
  | none =>
    rw [hf] at HI
    have e : kept p zs = zs := by
      refine kept_all fun j y hy => ?_
      have h2 : ∀ x ∈ zs, p x = false := by
        have := hf
        unfold fstAt at this
        rw [List.findIdx?_eq_none_iff] at this
        exact this
      exact h2 y (List.mem_of_getElem? hy)
    have HE := Lib.hid e
    clear e hf
    go_enter Try.func34, Try.ntmps34
    go_wp2_with fail
    refine HI.out.mono ?_
    rintro e w1 ⟨rfl, hb1⟩
    simp only [idxZ]
    have HO1 := Lib.hid (own_below HO.out hb1 (Nat.le_refl _))
    have HW1 := Lib.hid (HW.out.trans (hb1.mono (by omega)))
    clear hb1
    go_wp2
    go_ret
    rw [HE.out]
    have hl := HL.out
    subst hl
    exact ⟨A, c, rfl, HO1.out, HW1.out⟩
  | some k =>
    rw [hf] at HI
    have hf2 := hf
    unfold fstAt at hf2
    rw [List.findIdx?_eq_some_iff_getElem] at hf2
    obtain ⟨hkl, hpk, hbef⟩ := hf2
    have hD : Del p zs zs k (k + 1) := Del.start (List.getElem?_eq_getElem hkl) hpk (fun j y hj hy => by
      have h1 := hbef j hj
      obtain ⟨_, h2⟩ := List.getElem?_eq_some_iff.1 hy
      rw [h2] at h1
      simpa using h1)
    have HD := Lib.hid hD
    have hkn : k < n := by have := HL.out; omega
    clear hf hD hpk hbef hkl
    obtain ⟨g, cap, hv, hbg, hgl, hnc, hcm⟩ := own_form HO.out (by omega)
    obtain ⟨rfl, rfl⟩ : A = some ⟨g, 0, none⟩ ∧ c = cap := by simpa using hv
    clear hv hgl
    have HG := Lib.hid hbg
    have hkb : ((k : Int) == -1) = false := by first | (simp; done) | (simp; omega)
    go_enter Try.func34, Try.ntmps34
    go_wp2_with fail
    refine HI.out.mono ?_
    rintro e w1 ⟨rfl, hb1⟩
    simp only [idxZ]
    have HO1 := Lib.hid (own_below HO.out hb1 (Nat.le_refl _))
    have HW1 := Lib.hid (HW.out.trans (hb1.mono (by omega)))
    clear hb1 HI HO HW
    go_wp2_with fail
    go_loopw [5, 6] (fun i j wr => ∃ (a b : Nat) (xs : List (Int × Int)), i = .int .i64 a ∧ j = .int .i64 b ∧ b ≤ n ∧ Del p zs xs a b ∧ wr.ownsRow Bp 31 2 (.slice (some ⟨g, 0, none⟩) n c) n (smps xs) ∧ Below Bp wp wr) (fun _ j _ => n - (intOf j).toNat)
    case atStart => exact ⟨k, k + 1, zs, rfl, by first | rfl | go_num, by omega, HD.out, HO1.out, HW1.out⟩
    case round =>
      obtain ⟨a, b, xs, rfl, rfl, hbn, hd, ho, hw⟩ := hrel
      have hab := hd.lt
      have HD := Lib.hid hd
      have HO := Lib.hid ho
      have HW := Lib.hid hw
      have hxl : xs.length = n := by have := HL.out; have := hd.len; omega
      have hsw := hw.size
      clear hd ho hw HO1 HW1
      by_cases hlt : b < n
      · obtain ⟨x, y, hx⟩ : ∃ x y, xs[b]? = some (x, y) := ⟨(xs[b]'(by omega)).1, (xs[b]'(by omega)).2, List.getElem?_eq_getElem (by omega)⟩
        have hgx := smps_get xs b (x, y) hx
        have hlx := smps_len xs
        have hcx : wr.cell? ⟨g, b * 2, none⟩ = some (.int .i64 x) := by rw [HO.out.cellAt (b * 2) (by omega), hgx.1]
        have hcy : wr.cell? ⟨g, b * 2 + 1, none⟩ = some (.int .i64 y) := by rw [HO.out.cellAt (b * 2 + 1) (by omega), hgx.2]
        have HX := Lib.hid (HD.out.at_ ▸ hx : zs[b]? = some (x, y))
        clear hx hgx
        have HC1 := Lib.hid (HC.out x y)
        generalize hp : p (x, y) = q at HC1
        have HP := Lib.hid hp
        have HWA := Lib.hid (HW.out.alloc (by omega) (.cells #[.int .i64 x, .int .i64 y] 31))
        clear hp hlx
        cases q with
        | true =>
          go_wp2_with (go_at_call 35; refine (HC1.out _ HWA.out).mono ?_; rintro e w2 ⟨rfl, hb2⟩; have HO2 := Lib.hid (own_below (HO.out.alloc _) hb2 (Nat.le_refl _)); have HW2 := Lib.hid (HWA.out.trans (hb2.mono (by simp; omega))); clear hb2)
          go_roundw
          case rel => exact ⟨a, b + 1, xs, rfl, by go_num, by omega, HD.out.skip HX.out HP.out, HO2.out, HW2.out⟩
          case measure => simp [intOf]; omega
        | false =>
          have hgl2 := (HO.out.lt g rfl).2
          go_wp2_with (go_at_call 35; refine (HC1.out _ HWA.out).mono ?_; rintro e w2 ⟨rfl, hb2⟩; have HO2 := Lib.hid (own_below (HO.out.alloc _) hb2 (Nat.le_refl _)); have HW2 := Lib.hid (HWA.out.trans (hb2.mono (by simp; omega))); have hv0 : w2.cell? ⟨wr.heap.size, 0, none⟩ = some (.int .i64 x) := (bcell hb2 _ _ (by simp)).trans (by simp); have hv1 : w2.cell? ⟨wr.heap.size, 1, none⟩ = some (.int .i64 y) := (bcell hb2 _ _ (by simp)).trans (by simp); clear hb2; have hf := HO2.out.frozenAt (a * 2); have hf1 := HO2.out.frozenAt (a * 2 + 1); have hlx := smps_len xs; obtain ⟨u, hu⟩ : ∃ u, w2.cell? ⟨g, a * 2, none⟩ = some u := ⟨_, (HO2.out.cellAt (a * 2) (by omega)).trans (List.getElem?_eq_getElem (by omega))⟩; obtain ⟨u1, hu1⟩ : ∃ u, w2.cell? ⟨g, a * 2 + 1, none⟩ = some u := ⟨_, (HO2.out.cellAt (a * 2 + 1) (by omega)).trans (List.getElem?_eq_getElem (by omega))⟩; clear hlx)
          go_roundw
          case rel =>
            refine ⟨a + 1, b + 1, xs.set a (x, y), by go_num, by go_num, by omega, HD.out.keep HX.out HP.out, ?_, (HW2.out.setCell HG.out _).setCell HG.out _⟩
            have := ((HO2.out.stored (a * 2) (.int .i64 x)).1.stored (a * 2 + 1) (.int .i64 y)).1
            rw [smps_set xs a (x, y) (by omega)] at this
            exact this
          case measure => simp [intOf]; omega
      · obtain ⟨he, hal⟩ := HD.out.done (by have := HL.out; omega)
        have hac : ¬ c = a := by omega
        have HE := Lib.hid he
        have HA := Lib.hid hal
        clear he hal
        obtain ⟨Z, hZ⟩ : ∃ Z, Z = (Builtin.zeroCells (Value.agg #[.int .i64 0, .int .i64 0]).cells (n - a)).toList := ⟨_, rfl⟩
        have hclr : ∀ ty, (Builtin.clear_ #[25] ty #[.slice (some ⟨g, a * 2, none⟩) (n - a) (c - a)]).run Try.prog wr = .ok (.tuple #[]) (wr.setCells g (a * 2) Z) := fun ty => by
          rw [hZ]
          exact run_clear_end (P := Try.prog) (size := 2) (t := 25) (m := a) (c' := c - a) (ty := ty) Try.underlying25 (z := .agg #[.int .i64 0, .int .i64 0]) (fun w => Try.zeroValue31 w) rfl (zeroCells_one (by decide) (by simp [Value.cells, Value.oneCell'])) HO.out (by omega)
        obtain ⟨ys, hys, hyt⟩ := own_setCells Z wr (smps xs) (a * 2) HO.out
        have HB := Lib.hid (below_setCells Z HG.out wr (a * 2) HW.out)
        clear hZ
        have HY := Lib.hid hys
        have HYT := Lib.hid hyt
        clear hys hyt
        go_wp2
        go_ret
        have hp := own_prefix HY.out (m := a) (by omega)
        rw [HYT.out, ← smps_take', HE.out] at hp
        rw [← HA.out]
        exact ⟨some ⟨g, 0, none⟩, c, rfl, hp, HB.out⟩
end Go.Proofs.Ytbemnhdadafnnaa
