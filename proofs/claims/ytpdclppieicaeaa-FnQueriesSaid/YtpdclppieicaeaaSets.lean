/- Which numbers of one list another one has: the contracts of the reference's and the program's functions, and the laws LessPosts, MeetPosts. -/
import Derived.Test.YtpdclppieicaeaaPostPlain
import Derived.Test.YtpdclppieicaeaaClone
import Derived.Test.YtpdclppieicaeaaPosts1
import Derived.Test.YtpdclppieicaeaaRowInts
import Derived.Test.YtpdclppieicaeaaHas
namespace Go.Proofs.Ytpdclppieicaeaa
set_option linter.unusedVariables false
set_option linter.unusedSimpArgs false
open Go.RowKit
set_option maxHeartbeats 1000000 in
theorem lessD_idx (Bp : Nat) (wp : World) (q : Option Addr) (p : Int → Bool) (hBp : Bp ≤ wp.heap.size)
    (hC : ∀ x w', Below Bp wp w' → Calls Try.prog 87 #[.int .i64 x, .pointer q] w' fun e w'' => e = .returned (.bool (p x)) ∧ Below w'.heap.size w' w'')
    (B : Nat) (A : Option Addr) (n c : Nat) (zs : List Int) (w : World) (hW : Below Bp wp w) (hBw : B ≤ w.heap.size) (h : Rd w B 1 A n (ints zs)) (hn : n ≤ 1048576) :
    Calls Try.prog 89 #[.slice A n c, .func (.func 87) #[] #[.pointer q]] w fun e w' => e = .returned (.int .i64 (idxZ (fstAt p zs))) ∧ Below w.heap.size w w' := by
  have hlen := h.int_len
  have HL := Lib.hid hlen
  have H := Lib.hid h
  have HC := Lib.hid hC
  have HW := Lib.hid hW
  clear h hlen hC
  have hWs := hW.size
  clear hW
  obtain ⟨R, hR⟩ : ∃ R, R = fstAt p zs := ⟨_, rfl⟩
  have HR := Lib.hid hR
  rw [← hR]
  clear hR
  go_enter Try.func89, Try.ntmps89
  go_wp2
  go_loopw [8] (fun i wr => ∃ k : Nat, k ≤ n ∧ i = .int .i64 k ∧ (∀ j y, j < k → zs[j]? = some y → p y = false) ∧ Below w.heap.size w wr) (fun i _ => n - (intOf i).toNat)
  case atStart => exact ⟨0, Nat.zero_le _, rfl, fun j y hj => absurd hj (by omega), Below.refl _ _⟩
  case round =>
    obtain ⟨k, hk, rfl, hok, hb⟩ := hrel
    have HK := Lib.hid hok
    have HB := Lib.hid hb
    have hsz := hb.size
    clear hok hb
    by_cases hlt : k < n
    · obtain ⟨b, off, x, rfl, hB, hx, hc⟩ := H.out.int_at hlt
      have hc' : wr.cell? ⟨b, off + k, none⟩ = some (.int .i64 x) := (bcell HB.out _ _ (by omega)).trans hc
      have HX := Lib.hid hx
      clear hx hc
      have HC1 := Lib.hid (HC.out x wr (HW.out.trans (HB.out.mono (by omega))))
      generalize hp : p x = q at HC1
      have HP := Lib.hid hp
      clear hp
      cases q with
      | false =>
        go_wp2_with (go_at_call 87; refine HC1.out.mono ?_; rintro e w1 ⟨rfl, hb1⟩; have HB1 := Lib.hid (HB.out.trans (hb1.mono hsz)); clear hb1)
        go_roundw
        case rel =>
          refine ⟨k + 1, by omega, by go_num, fun j y hj hy => ?_, HB1.out⟩
          by_cases hjk : j < k
          · exact HK.out j y hjk hy
          · obtain rfl : j = k := by omega
            have := HX.out
            rw [hy] at this
            injection this with this
            rw [this]; exact HP.out
        case measure => simp [intOf]; omega
      | true =>
        have e : R = some k := HR.out.trans (fstAt_hit HX.out HP.out HK.out)
        subst e
        go_wp2_with (go_at_call 87; refine HC1.out.mono ?_; rintro e w1 ⟨rfl, hb1⟩; have HB1 := Lib.hid (HB.out.trans (hb1.mono hsz)); clear hb1)
        go_ret
        exact ⟨rfl, HB1.out⟩
    · have e : R = none := HR.out.trans (fstAt_none fun j y hy => HK.out j y (by have := (List.getElem?_eq_some_iff.1 hy).1; have := HL.out; omega) hy)
      subst e
      go_wp2
      go_ret
      exact ⟨rfl, HB.out⟩
set_option maxRecDepth 100000 in
set_option maxHeartbeats 2000000 in
theorem lessD_del (Bp : Nat) (wp : World) (q : Option Addr) (p : Int → Bool) (hBp : Bp ≤ wp.heap.size)
    (hC : ∀ x w', Below Bp wp w' → Calls Try.prog 87 #[.int .i64 x, .pointer q] w' fun e w'' => e = .returned (.bool (p x)) ∧ Below w'.heap.size w' w'')
    (A : Option Addr) (n c : Nat) (zs : List Int) (w : World) (hW : Below Bp wp w) (ho : w.ownsRow Bp 3 1 (.slice A n c) n (ints zs)) (hn : n ≤ 1048576) :
    Calls Try.prog 76 #[.slice A n c, .func (.func 87) #[] #[.pointer q]] w fun e w' => ∃ A' c', e = .returned (.slice A' (kept p zs).length c') ∧
      w'.ownsRow Bp 3 1 (.slice A' (kept p zs).length c') (kept p zs).length (ints (kept p zs)) ∧ Below Bp wp w' := by
  have hrd := Rd.of_own ho
  have hlen := hrd.int_len
  have HL := Lib.hid hlen
  have HO := Lib.hid ho
  have HC := Lib.hid hC
  have HW := Lib.hid hW
  have hWs := hW.size
  have HI := Lib.hid (lessD_idx Bp wp q p hBp hC w.heap.size A n c zs w hW (Nat.le_refl _) hrd hn)
  clear ho hC hW hrd hlen
  cases hf : fstAt p zs with
  | none =>
    rw [hf] at HI
    have e : kept p zs = zs := by
      refine kept_all fun j y hy => ?_
      have h2 : ∀ x ∈ zs, p x = false := by
        have := hf
        unfold fstAt at this
        rw [List.findIdx?_eq_none_iff] at this
        exact this
      exact h2 y (List.mem_of_getElem? hy)
    have HE := Lib.hid e
    clear e hf
    go_enter Try.func76, Try.ntmps76
    go_wp2_with fail
    refine HI.out.mono ?_
    rintro e w1 ⟨rfl, hb1⟩
    simp only [idxZ]
    have HO1 := Lib.hid (own_below HO.out hb1 (Nat.le_refl _))
    have HW1 := Lib.hid (HW.out.trans (hb1.mono (by omega)))
    clear hb1
    go_wp2
    go_ret
    rw [HE.out]
    have hl := HL.out
    subst hl
    exact ⟨A, c, rfl, HO1.out, HW1.out⟩
  | some k =>
    rw [hf] at HI
    have hf2 := hf
    unfold fstAt at hf2
    rw [List.findIdx?_eq_some_iff_getElem] at hf2
    obtain ⟨hkl, hpk, hbef⟩ := hf2
    have hD : Del p zs zs k (k + 1) := Del.start (List.getElem?_eq_getElem hkl) hpk (fun j y hj hy => by
      have h1 := hbef j hj
      obtain ⟨_, h2⟩ := List.getElem?_eq_some_iff.1 hy
      rw [h2] at h1
      simpa using h1)
    have HD := Lib.hid hD
    have hkn : k < n := by have := HL.out; omega
    clear hf hD hpk hbef hkl
    obtain ⟨g, cap, hv, hbg, hgl, hnc, hcm⟩ := own_form HO.out (by omega)
    obtain ⟨rfl, rfl⟩ : A = some ⟨g, 0, none⟩ ∧ c = cap := by simpa using hv
    clear hv hgl
    have HG := Lib.hid hbg
    have hkb : ((k : Int) == -1) = false := by first | (simp; done) | (simp; omega)
    go_enter Try.func76, Try.ntmps76
    go_wp2_with fail
    refine HI.out.mono ?_
    rintro e w1 ⟨rfl, hb1⟩
    simp only [idxZ]
    have HO1 := Lib.hid (own_below HO.out hb1 (Nat.le_refl _))
    have HW1 := Lib.hid (HW.out.trans (hb1.mono (by omega)))
    clear hb1 HI HO HW
    go_wp2_with fail
    go_loopw [5, 6] (fun i j wr => ∃ (a b : Nat) (xs : List Int), i = .int .i64 a ∧ j = .int .i64 b ∧ b ≤ n ∧ Del p zs xs a b ∧ wr.ownsRow Bp 3 1 (.slice (some ⟨g, 0, none⟩) n c) n (ints xs) ∧ Below Bp wp wr) (fun _ j _ => n - (intOf j).toNat)
    case atStart => exact ⟨k, k + 1, zs, rfl, by first | rfl | go_num, by omega, HD.out, HO1.out, HW1.out⟩
    case round =>
      obtain ⟨a, b, xs, rfl, rfl, hbn, hd, ho, hw⟩ := hrel
      have hab := hd.lt
      have HD := Lib.hid hd
      have HO := Lib.hid ho
      have HW := Lib.hid hw
      have hxl : xs.length = n := by have := HL.out; have := hd.len; omega
      have hsw := hw.size
      clear hd ho hw HO1 HW1
      by_cases hlt : b < n
      · obtain ⟨x, hx⟩ : ∃ x, xs[b]? = some x := ⟨_, List.getElem?_eq_getElem (by omega)⟩
        have hcx : wr.cell? ⟨g, b, none⟩ = some (.int .i64 x) := by
          rw [HO.out.cellAt b (by omega), ints, List.getElem?_map, hx]; rfl
        have HX := Lib.hid (HD.out.at_ ▸ hx : zs[b]? = some x)
        clear hx
        have HC1 := Lib.hid (HC.out x wr HW.out)
        generalize hp : p x = q at HC1
        have HP := Lib.hid hp
        clear hp
        cases q with
        | true =>
          go_wp2_with (go_at_call 87; refine HC1.out.mono ?_; rintro e w2 ⟨rfl, hb2⟩; have HO2 := Lib.hid (own_below HO.out hb2 (Nat.le_refl _)); have HW2 := Lib.hid (HW.out.trans (hb2.mono (by omega))); clear hb2)
          go_roundw
          case rel => exact ⟨a, b + 1, xs, rfl, by go_num, by omega, HD.out.skip HX.out HP.out, HO2.out, HW2.out⟩
          case measure => simp [intOf]; omega
        | false =>
          go_wp2_with (go_at_call 87; refine HC1.out.mono ?_; rintro e w2 ⟨rfl, hb2⟩; have HO2 := Lib.hid (own_below HO.out hb2 (Nat.le_refl _)); have HW2 := Lib.hid (HW.out.trans (hb2.mono (by omega))); clear hb2; have hf := HO2.out.frozenAt a; obtain ⟨u, hu⟩ : ∃ u, w2.cell? ⟨g, a, none⟩ = some u := ⟨_, (HO2.out.cellAt a (by omega)).trans (List.getElem?_eq_getElem (by rw [ints_len]; omega))⟩)
          go_roundw
          case rel =>
            refine ⟨a + 1, b + 1, xs.set a x, by go_num, by go_num, by omega, HD.out.keep HX.out HP.out, ?_, HW2.out.setCell HG.out _⟩
            have := (HO2.out.stored a (.int .i64 x)).1
            rw [ints, ← List.map_set] at this
            exact this
          case measure => simp [intOf]; omega
      · obtain ⟨he, hal⟩ := HD.out.done (by have := HL.out; omega)
        have hac : ¬ c = a := by omega
        have HE := Lib.hid he
        have HA := Lib.hid hal
        clear he hal
        have hclr : ∀ ty, (Builtin.clear_ #[27] ty #[.slice (some ⟨g, a, none⟩) (n - a) (c - a)]).run Try.prog wr = .ok (.tuple #[]) (wr.setCells g a (Builtin.zeroCells (Value.int .i64 0).cells (n - a)).toList) := fun ty => by
          have h := run_clear_end (P := Try.prog) (size := 1) (t := 27) (m := a) (c' := c - a) (ty := ty) Try.underlying27 (z := .int .i64 0) (fun w => Try.zeroValue3 w) rfl (zeroCells_one (by decide) (by simp [Value.cells, Value.oneCell'])) HO.out (by omega)
          rw [Nat.mul_one] at h
          exact h
        obtain ⟨ys, hys, hyt⟩ := own_setCells (Builtin.zeroCells (Value.int .i64 0).cells (n - a)).toList wr (ints xs) a HO.out
        have HB := Lib.hid (below_setCells (Builtin.zeroCells (Value.int .i64 0).cells (n - a)).toList HG.out wr a HW.out)
        have HY := Lib.hid hys
        have HYT := Lib.hid hyt
        clear hys hyt
        go_wp2
        go_ret
        have hp := own_prefix HY.out (m := a) (by omega)
        rw [Nat.mul_one, HYT.out, ints, ← List.map_take, HE.out] at hp
        rw [← HA.out]
        exact ⟨some ⟨g, 0, none⟩, c, rfl, hp, HB.out⟩
set_option maxHeartbeats 1000000 in
theorem meetD_idx (Bp : Nat) (wp : World) (q : Option Addr) (p : Int → Bool) (hBp : Bp ≤ wp.heap.size)
    (hC : ∀ x w', Below Bp wp w' → Calls Try.prog 77 #[.int .i64 x, .pointer q] w' fun e w'' => e = .returned (.bool (p x)) ∧ Below w'.heap.size w' w'')
    (B : Nat) (A : Option Addr) (n c : Nat) (zs : List Int) (w : World) (hW : Below Bp wp w) (hBw : B ≤ w.heap.size) (h : Rd w B 1 A n (ints zs)) (hn : n ≤ 1048576) :
    Calls Try.prog 89 #[.slice A n c, .func (.func 77) #[] #[.pointer q]] w fun e w' => e = .returned (.int .i64 (idxZ (fstAt p zs))) ∧ Below w.heap.size w w' := by
  have hlen := h.int_len
  have HL := Lib.hid hlen
  have H := Lib.hid h
  have HC := Lib.hid hC
  have HW := Lib.hid hW
  clear h hlen hC
  have hWs := hW.size
  clear hW
  obtain ⟨R, hR⟩ : ∃ R, R = fstAt p zs := ⟨_, rfl⟩
  have HR := Lib.hid hR
  rw [← hR]
  clear hR
  go_enter Try.func89, Try.ntmps89
  go_wp2
  go_loopw [8] (fun i wr => ∃ k : Nat, k ≤ n ∧ i = .int .i64 k ∧ (∀ j y, j < k → zs[j]? = some y → p y = false) ∧ Below w.heap.size w wr) (fun i _ => n - (intOf i).toNat)
  case atStart => exact ⟨0, Nat.zero_le _, rfl, fun j y hj => absurd hj (by omega), Below.refl _ _⟩
  case round =>
    obtain ⟨k, hk, rfl, hok, hb⟩ := hrel
    have HK := Lib.hid hok
    have HB := Lib.hid hb
    have hsz := hb.size
    clear hok hb
    by_cases hlt : k < n
    · obtain ⟨b, off, x, rfl, hB, hx, hc⟩ := H.out.int_at hlt
      have hc' : wr.cell? ⟨b, off + k, none⟩ = some (.int .i64 x) := (bcell HB.out _ _ (by omega)).trans hc
      have HX := Lib.hid hx
      clear hx hc
      have HC1 := Lib.hid (HC.out x wr (HW.out.trans (HB.out.mono (by omega))))
      generalize hp : p x = q at HC1
      have HP := Lib.hid hp
      clear hp
      cases q with
      | false =>
        go_wp2_with (go_at_call 77; refine HC1.out.mono ?_; rintro e w1 ⟨rfl, hb1⟩; have HB1 := Lib.hid (HB.out.trans (hb1.mono hsz)); clear hb1)
        go_roundw
        case rel =>
          refine ⟨k + 1, by omega, by go_num, fun j y hj hy => ?_, HB1.out⟩
          by_cases hjk : j < k
          · exact HK.out j y hjk hy
          · obtain rfl : j = k := by omega
            have := HX.out
            rw [hy] at this
            injection this with this
            rw [this]; exact HP.out
        case measure => simp [intOf]; omega
      | true =>
        have e : R = some k := HR.out.trans (fstAt_hit HX.out HP.out HK.out)
        subst e
        go_wp2_with (go_at_call 77; refine HC1.out.mono ?_; rintro e w1 ⟨rfl, hb1⟩; have HB1 := Lib.hid (HB.out.trans (hb1.mono hsz)); clear hb1)
        go_ret
        exact ⟨rfl, HB1.out⟩
    · have e : R = none := HR.out.trans (fstAt_none fun j y hy => HK.out j y (by have := (List.getElem?_eq_some_iff.1 hy).1; have := HL.out; omega) hy)
      subst e
      go_wp2
      go_ret
      exact ⟨rfl, HB.out⟩
set_option maxRecDepth 100000 in
set_option maxHeartbeats 2000000 in
theorem meetD_del (Bp : Nat) (wp : World) (q : Option Addr) (p : Int → Bool) (hBp : Bp ≤ wp.heap.size)
    (hC : ∀ x w', Below Bp wp w' → Calls Try.prog 77 #[.int .i64 x, .pointer q] w' fun e w'' => e = .returned (.bool (p x)) ∧ Below w'.heap.size w' w'')
    (A : Option Addr) (n c : Nat) (zs : List Int) (w : World) (hW : Below Bp wp w) (ho : w.ownsRow Bp 3 1 (.slice A n c) n (ints zs)) (hn : n ≤ 1048576) :
    Calls Try.prog 76 #[.slice A n c, .func (.func 77) #[] #[.pointer q]] w fun e w' => ∃ A' c', e = .returned (.slice A' (kept p zs).length c') ∧
      w'.ownsRow Bp 3 1 (.slice A' (kept p zs).length c') (kept p zs).length (ints (kept p zs)) ∧ Below Bp wp w' := by
  have hrd := Rd.of_own ho
  have hlen := hrd.int_len
  have HL := Lib.hid hlen
  have HO := Lib.hid ho
  have HC := Lib.hid hC
  have HW := Lib.hid hW
  have hWs := hW.size
  have HI := Lib.hid (meetD_idx Bp wp q p hBp hC w.heap.size A n c zs w hW (Nat.le_refl _) hrd hn)
  clear ho hC hW hrd hlen
  cases hf : fstAt p zs with
  | none =>
    rw [hf] at HI
    have e : kept p zs = zs := by
      refine kept_all fun j y hy => ?_
      have h2 : ∀ x ∈ zs, p x = false := by
        have := hf
        unfold fstAt at this
        rw [List.findIdx?_eq_none_iff] at this
        exact this
      exact h2 y (List.mem_of_getElem? hy)
    have HE := Lib.hid e
    clear e hf
    go_enter Try.func76, Try.ntmps76
    go_wp2_with fail
    refine HI.out.mono ?_
    rintro e w1 ⟨rfl, hb1⟩
    simp only [idxZ]
    have HO1 := Lib.hid (own_below HO.out hb1 (Nat.le_refl _))
    have HW1 := Lib.hid (HW.out.trans (hb1.mono (by omega)))
    clear hb1
    go_wp2
    go_ret
    rw [HE.out]
    have hl := HL.out
    subst hl
    exact ⟨A, c, rfl, HO1.out, HW1.out⟩
  | some k =>
    rw [hf] at HI
    have hf2 := hf
    unfold fstAt at hf2
    rw [List.findIdx?_eq_some_iff_getElem] at hf2
    obtain ⟨hkl, hpk, hbef⟩ := hf2
    have hD : Del p zs zs k (k + 1) := Del.start (List.getElem?_eq_getElem hkl) hpk (fun j y hj hy => by
      have h1 := hbef j hj
      obtain ⟨_, h2⟩ := List.getElem?_eq_some_iff.1 hy
      rw [h2] at h1
      simpa using h1)
    have HD := Lib.hid hD
    have hkn : k < n := by have := HL.out; omega
    clear hf hD hpk hbef hkl
    obtain ⟨g, cap, hv, hbg, hgl, hnc, hcm⟩ := own_form HO.out (by omega)
    obtain ⟨rfl, rfl⟩ : A = some ⟨g, 0, none⟩ ∧ c = cap := by simpa using hv
    clear hv hgl
    have HG := Lib.hid hbg
    have hkb : ((k : Int) == -1) = false := by first | (simp; done) | (simp; omega)
    go_enter Try.func76, Try.ntmps76
    go_wp2_with fail
    refine HI.out.mono ?_
    rintro e w1 ⟨rfl, hb1⟩
    simp only [idxZ]
    have HO1 := Lib.hid (own_below HO.out hb1 (Nat.le_refl _))
    have HW1 := Lib.hid (HW.out.trans (hb1.mono (by omega)))
    clear hb1 HI HO HW
    go_wp2_with fail
    go_loopw [5, 6] (fun i j wr => ∃ (a b : Nat) (xs : List Int), i = .int .i64 a ∧ j = .int .i64 b ∧ b ≤ n ∧ Del p zs xs a b ∧ wr.ownsRow Bp 3 1 (.slice (some ⟨g, 0, none⟩) n c) n (ints xs) ∧ Below Bp wp wr) (fun _ j _ => n - (intOf j).toNat)
    case atStart => exact ⟨k, k + 1, zs, rfl, by first | rfl | go_num, by omega, HD.out, HO1.out, HW1.out⟩
    case round =>
      obtain ⟨a, b, xs, rfl, rfl, hbn, hd, ho, hw⟩ := hrel
      have hab := hd.lt
      have HD := Lib.hid hd
      have HO := Lib.hid ho
      have HW := Lib.hid hw
      have hxl : xs.length = n := by have := HL.out; have := hd.len; omega
      have hsw := hw.size
      clear hd ho hw HO1 HW1
      by_cases hlt : b < n
      · obtain ⟨x, hx⟩ : ∃ x, xs[b]? = some x := ⟨_, List.getElem?_eq_getElem (by omega)⟩
        have hcx : wr.cell? ⟨g, b, none⟩ = some (.int .i64 x) := by
          rw [HO.out.cellAt b (by omega), ints, List.getElem?_map, hx]; rfl
        have HX := Lib.hid (HD.out.at_ ▸ hx : zs[b]? = some x)
        clear hx
        have HC1 := Lib.hid (HC.out x wr HW.out)
        generalize hp : p x = q at HC1
        have HP := Lib.hid hp
        clear hp
        cases q with
        | true =>
          go_wp2_with (go_at_call 77; refine HC1.out.mono ?_; rintro e w2 ⟨rfl, hb2⟩; have HO2 := Lib.hid (own_below HO.out hb2 (Nat.le_refl _)); have HW2 := Lib.hid (HW.out.trans (hb2.mono (by omega))); clear hb2)
          go_roundw
          case rel => exact ⟨a, b + 1, xs, rfl, by go_num, by omega, HD.out.skip HX.out HP.out, HO2.out, HW2.out⟩
          case measure => simp [intOf]; omega
        | false =>
          go_wp2_with (go_at_call 77; refine HC1.out.mono ?_; rintro e w2 ⟨rfl, hb2⟩; have HO2 := Lib.hid (own_below HO.out hb2 (Nat.le_refl _)); have HW2 := Lib.hid (HW.out.trans (hb2.mono (by omega))); clear hb2; have hf := HO2.out.frozenAt a; obtain ⟨u, hu⟩ : ∃ u, w2.cell? ⟨g, a, none⟩ = some u := ⟨_, (HO2.out.cellAt a (by omega)).trans (List.getElem?_eq_getElem (by rw [ints_len]; omega))⟩)
          go_roundw
          case rel =>
            refine ⟨a + 1, b + 1, xs.set a x, by go_num, by go_num, by omega, HD.out.keep HX.out HP.out, ?_, HW2.out.setCell HG.out _⟩
            have := (HO2.out.stored a (.int .i64 x)).1
            rw [ints, ← List.map_set] at this
            exact this
          case measure => simp [intOf]; omega
      · obtain ⟨he, hal⟩ := HD.out.done (by have := HL.out; omega)
        have hac : ¬ c = a := by omega
        have HE := Lib.hid he
        have HA := Lib.hid hal
        clear he hal
        have hclr : ∀ ty, (Builtin.clear_ #[27] ty #[.slice (some ⟨g, a, none⟩) (n - a) (c - a)]).run Try.prog wr = .ok (.tuple #[]) (wr.setCells g a (Builtin.zeroCells (Value.int .i64 0).cells (n - a)).toList) := fun ty => by
          have h := run_clear_end (P := Try.prog) (size := 1) (t := 27) (m := a) (c' := c - a) (ty := ty) Try.underlying27 (z := .int .i64 0) (fun w => Try.zeroValue3 w) rfl (zeroCells_one (by decide) (by simp [Value.cells, Value.oneCell'])) HO.out (by omega)
          rw [Nat.mul_one] at h
          exact h
        obtain ⟨ys, hys, hyt⟩ := own_setCells (Builtin.zeroCells (Value.int .i64 0).cells (n - a)).toList wr (ints xs) a HO.out
        have HB := Lib.hid (below_setCells (Builtin.zeroCells (Value.int .i64 0).cells (n - a)).toList HG.out wr a HW.out)
        have HY := Lib.hid hys
        have HYT := Lib.hid hyt
        clear hys hyt
        go_wp2
        go_ret
        have hp := own_prefix HY.out (m := a) (by omega)
        rw [Nat.mul_one, HYT.out, ints, ← List.map_take, HE.out] at hp
        rw [← HA.out]
        exact ⟨some ⟨g, 0, none⟩, c, rfl, hp, HB.out⟩
theorem less1_any (B bq : Nat) (A : Option Addr) (n c : Nat) (zs : List Int) (x : Int) (w : World) (h : Rd w B 1 A n (ints zs)) (hn : n ≤ 1048576) (h0 : w.cell? ⟨bq, 0, none⟩ = some (.slice A n c)) :
    Calls Try.prog 87 #[.int .i64 x, .pointer (some ⟨bq, 0, none⟩)] w fun e w' => e = .returned (.bool (zs.contains x)) ∧ Below w.heap.size w w' := by
  have HC := Lib.hid (contains_any B A n c zs x w h hn)
  clear h
  generalize zs.contains x = r at HC ⊢
  go_enter Try.func87, Try.ntmps87
  go_wp2_with fail
  refine HC.out.mono ?_
  rintro e w' ⟨rfl, rfl⟩
  go_wp2
  go_ret
  exact ⟨rfl, Below.refl _ _⟩
set_option maxHeartbeats 1000000 in
theorem less_any (B : Nat) (A A' : Option Addr) (n c n' c' : Nat) (za zb : List Int) (w : World) (hBw : B ≤ w.heap.size) (h : Rd w B 1 A n (ints za)) (hn : n ≤ 1048576) (h' : Rd w B 1 A' n' (ints zb)) (hn' : n' ≤ 1048576) :
    Calls Try.prog 71 #[.slice A n c, .slice A' n' c'] w fun e w' => ∃ A2 c2, e = .returned (.slice A2 (lessP za zb).length c2) ∧ w'.ownsRow w.heap.size 3 1 (.slice A2 (lessP za zb).length c2) (lessP za zb).length (ints (lessP za zb)) ∧ Below w.heap.size w w' := by
  obtain ⟨L, hL⟩ : ∃ L, kept (fun x => zb.contains x) za = L := ⟨_, rfl⟩
  rw [lessP_kept, hL]
  obtain ⟨wb, hwb⟩ : ∃ wb, wb = w.alloc (.cells #[.slice A' n' c'] 27) := ⟨_, rfl⟩
  have hb0 : Below w.heap.size w wb := hwb ▸ (Below.refl _ _).alloc (Nat.le_refl _) _
  have hsz : wb.heap.size = w.heap.size + 1 := by rw [hwb]; simp
  have hcb : wb.cell? ⟨w.heap.size, 0, none⟩ = some (.slice A' n' c') := by rw [hwb]; simp
  have HA := Lib.hid ((h.below (hb0.mono hBw)))
  have HB := Lib.hid ((h'.below (hb0.mono hBw)))
  have H0 := Lib.hid hb0
  have HC := Lib.hid (And.intro hcb hsz)
  have hBb : B ≤ wb.heap.size := by omega
  have hsw : w.heap.size ≤ wb.heap.size := by omega
  have HCL := Lib.hid (clone_any B A n c za wb hBb HA.out hn)
  have HE := Lib.hid hwb
  clear h h' hb0 hcb hsz
  go_enter Try.func71, Try.ntmps71
  go_wp2_with fail
  rw [← HE.out]
  refine HCL.out.mono ?_
  rintro e w1 ⟨A1, c1, rfl, ho1, hb1⟩
  have HO := Lib.hid (show w1.ownsRow wb.heap.size 3 1 (.slice A1 n c1) n (ints za) from ho1)
  have HB1 := Lib.hid (H0.out.trans (hb1.mono hsw))
  have HD := Lib.hid (lessD_del wb.heap.size w1 (some ⟨w.heap.size, 0, none⟩) (fun x => zb.contains x) hb1.size
    (fun x w' hw => less1_any B w.heap.size A' n' c' zb x w' ((HB.out.below (hb1.mono hBb)).below (hw.mono hBb)) hn' ((bcell hw _ _ (by have := HC.out.2; omega)).trans ((bcell hb1 _ _ (by have := HC.out.2; omega)).trans HC.out.1)))
    A1 n c1 za w1 (Below.refl _ _) HO.out hn)
  rw [hL] at HD
  clear ho1 hb1 HCL
  go_wp2_with fail
  refine HD.out.mono ?_
  rintro e w2 ⟨A2, c2, rfl, ho2, hb2⟩
  have HO2 := Lib.hid (own_mono ho2 hsw)
  have HB2 := Lib.hid (HB1.out.trans (hb2.mono hsw))
  clear ho2 hb2 HD
  go_wp2
  go_ret
  exact ⟨A2, c2, rfl, HO2.out, HB2.out⟩
theorem meet1_any (B bq : Nat) (A : Option Addr) (n c : Nat) (zs : List Int) (x : Int) (w : World) (h : Rd w B 1 A n (ints zs)) (hn : n ≤ 1048576) (h0 : w.cell? ⟨bq, 0, none⟩ = some (.slice A n c)) :
    Calls Try.prog 77 #[.int .i64 x, .pointer (some ⟨bq, 0, none⟩)] w fun e w' => e = .returned (.bool (!zs.contains x)) ∧ Below w.heap.size w w' := by
  have HC := Lib.hid (contains_any B A n c zs x w h hn)
  clear h
  generalize zs.contains x = r at HC ⊢
  go_enter Try.func77, Try.ntmps77
  go_wp2_with fail
  refine HC.out.mono ?_
  rintro e w' ⟨rfl, rfl⟩
  go_wp2
  go_ret
  exact ⟨rfl, Below.refl _ _⟩
set_option maxHeartbeats 1000000 in
theorem meet_any (B : Nat) (A A' : Option Addr) (n c n' c' : Nat) (za zb : List Int) (w : World) (hBw : B ≤ w.heap.size) (h : Rd w B 1 A n (ints za)) (hn : n ≤ 1048576) (h' : Rd w B 1 A' n' (ints zb)) (hn' : n' ≤ 1048576) :
    Calls Try.prog 56 #[.slice A n c, .slice A' n' c'] w fun e w' => ∃ A2 c2, e = .returned (.slice A2 (meetP za zb).length c2) ∧ w'.ownsRow w.heap.size 3 1 (.slice A2 (meetP za zb).length c2) (meetP za zb).length (ints (meetP za zb)) ∧ Below w.heap.size w w' := by
  obtain ⟨L, hL⟩ : ∃ L, kept (fun x => !zb.contains x) za = L := ⟨_, rfl⟩
  rw [meetP_kept, hL]
  obtain ⟨wb, hwb⟩ : ∃ wb, wb = w.alloc (.cells #[.slice A' n' c'] 27) := ⟨_, rfl⟩
  have hb0 : Below w.heap.size w wb := hwb ▸ (Below.refl _ _).alloc (Nat.le_refl _) _
  have hsz : wb.heap.size = w.heap.size + 1 := by rw [hwb]; simp
  have hcb : wb.cell? ⟨w.heap.size, 0, none⟩ = some (.slice A' n' c') := by rw [hwb]; simp
  have HA := Lib.hid ((h.below (hb0.mono hBw)))
  have HB := Lib.hid ((h'.below (hb0.mono hBw)))
  have H0 := Lib.hid hb0
  have HC := Lib.hid (And.intro hcb hsz)
  have hBb : B ≤ wb.heap.size := by omega
  have hsw : w.heap.size ≤ wb.heap.size := by omega
  have HCL := Lib.hid (clone_any B A n c za wb hBb HA.out hn)
  have HE := Lib.hid hwb
  clear h h' hb0 hcb hsz
  go_enter Try.func56, Try.ntmps56
  go_wp2_with fail
  rw [← HE.out]
  refine HCL.out.mono ?_
  rintro e w1 ⟨A1, c1, rfl, ho1, hb1⟩
  have HO := Lib.hid (show w1.ownsRow wb.heap.size 3 1 (.slice A1 n c1) n (ints za) from ho1)
  have HB1 := Lib.hid (H0.out.trans (hb1.mono hsw))
  have HD := Lib.hid (meetD_del wb.heap.size w1 (some ⟨w.heap.size, 0, none⟩) (fun x => !zb.contains x) hb1.size
    (fun x w' hw => meet1_any B w.heap.size A' n' c' zb x w' ((HB.out.below (hb1.mono hBb)).below (hw.mono hBb)) hn' ((bcell hw _ _ (by have := HC.out.2; omega)).trans ((bcell hb1 _ _ (by have := HC.out.2; omega)).trans HC.out.1)))
    A1 n c1 za w1 (Below.refl _ _) HO.out hn)
  rw [hL] at HD
  clear ho1 hb1 HCL
  go_wp2_with fail
  refine HD.out.mono ?_
  rintro e w2 ⟨A2, c2, rfl, ho2, hb2⟩
  have HO2 := Lib.hid (own_mono ho2 hsw)
  have HB2 := Lib.hid (HB1.out.trans (hb2.mono hsw))
  clear ho2 hb2 HD
  go_wp2
  go_ret
  exact ⟨A2, c2, rfl, HO2.out, HB2.out⟩

/-- What a test on two lists and a set of both hand back: a list in new memory, or nothing and false. -/
def setR (P : List Int → List Int → List Int) (a b : List Int) : List Int := if goodPosts a && goodPosts b then P a b else []
set_option maxRecDepth 100000 in
set_option maxHeartbeats 2000000 in
theorem l4Those_any (B : Nat) (A A' : Option Addr) (n c n' c' : Nat) (za zb : List Int) (d : Bool) (w : World) (hBw : B ≤ w.heap.size) (h : Rd w B 1 A n (ints za)) (hn : n ≤ 1048576) (h' : Rd w B 1 A' n' (ints zb)) (hn' : n' ≤ 1048576) (L : List Int) (hL : L = za.filter fun x => zb.contains x == d) :
    Calls Try.prog 67 #[.slice A n c, .slice A' n' c', .bool d] w fun e w' => ∃ A2 c2, e = .returned (.slice A2 L.length c2) ∧ w'.ownsRow w.heap.size 3 1 (.slice A2 L.length c2) L.length (ints L) ∧ Below w.heap.size w w' := by
  obtain ⟨i0, hi, hi0, hi1, hi2⟩ := info_parts infoInt
  have HI := Lib.hid (And.intro hi (And.intro hi0 (And.intro hi1 hi2)))
  clear hi hi0 hi1 hi2
  have hlen := h.int_len
  have HLN := Lib.hid hlen
  have H := Lib.hid h
  have H' := Lib.hid h'
  have HL := Lib.hid hL
  clear h h' hL hlen
  go_enter Try.func67, Try.ntmps67
  go_wp2
  go_loopw [7, 12] (fun v i wr => ∃ (k m : Nat) (acc : List Int), k ≤ n ∧ i = .int .i64 k ∧ m ≤ k ∧ acc.length = m ∧ acc = (za.take k).filter (fun x => zb.contains x == d) ∧ wr.ownsRow w.heap.size 3 1 v m (ints acc) ∧ Below w.heap.size w wr) (fun _ i _ => n - (intOf i).toNat)
  case atStart => exact ⟨0, 0, [], Nat.zero_le _, rfl, Nat.le_refl _, rfl, rfl, World.ownsRow_nil _ _ _ _, Below.refl _ _⟩
  case round =>
    obtain ⟨k, m, acc, hk, rfl, hm, hml, hacc, ho, hb⟩ := hrel
    have HM := Lib.hid hml
    have HA := Lib.hid hacc
    have HO := Lib.hid ho
    have HB := Lib.hid hb
    have hsz := hb.size
    clear hml hacc ho hb
    by_cases hlt : k < n
    · obtain ⟨b, off, x, rfl, hbB, hx, hc⟩ := H.out.int_at hlt
      have hc' : wr.cell? ⟨b, off + k, none⟩ = some (.int .i64 x) := (bcell HB.out _ _ (by omega)).trans hc
      have HX := Lib.hid hx
      have HC := Lib.hid (fun w (h : Rd w B 1 A' n' (ints zb)) => l1Has_any B A' n' c' zb x w h hn')
      obtain ⟨r, hr⟩ : ∃ r, zb.contains x = r := ⟨_, rfl⟩
      rw [hr] at HC
      have HR := Lib.hid hr
      clear hx hc hr
      by_cases hrd : r = d
      · have hd : (r == d) = true := by simpa using hrd
        have HS := Lib.hid (show acc ++ [x] = (za.take (k + 1)).filter (fun x => zb.contains x == d) by rw [take_snoc' za k x HX.out, List.filter_append, ← HA.out, List.filter_cons, HR.out, hd]; rfl)
        clear hrd
        go_wp2_with fail
        refine (HC.out _ (H'.out.below (HB.out.mono hBw))).mono ?_
        rintro e w' ⟨rfl, rfl⟩
        go_wp2_with (at_builtin; refine wpList_append_own _ rfl (.tmp 21) (.tmp 23) 27 rfl w.heap.size 3 i0 (.int .i64 0) 1 8 Try.underlying27 HI.out.1 HI.out.2.1 HI.out.2.2.1 HI.out.2.2.2 rfl (by decide) _ _ _ rfl (HO.out.alloc _) ⟨wr.heap.size, 0, none⟩ 1 1 [.int .i64 x] rfl rfl ?c1 ?c2 ?c3 ?c4 ?c5 ?_)
        case c1 =>
          intro j u hj
          match j, hj with
          | 0, hj => simp at hj; subst hj; simp [Addr.add]
        case c2 => intro u hu; simp at hu; subst hu; rfl
        case c3 => unfold maxLen; omega
        case c4 => omega
        case c5 => simp; omega
        intro v' w2 ho2 hg2 _
        have HB2 := Lib.hid ((HB.out.alloc hsz _).grown hg2 (by simp; omega) (fun k hk => (HO.out.lt k hk).1))
        have HO2 := Lib.hid (show w2.ownsRow w.heap.size 3 1 v' (m + 1) (ints (acc ++ [x])) by rw [ints_app]; exact ho2)
        clear ho2 hg2
        go_wp2
        go_roundw
        case rel => exact ⟨k + 1, m + 1, acc ++ [x], by omega, by go_num, by omega, by rw [List.length_append, HM.out]; rfl, HS.out, HO2.out, HB2.out⟩
        case measure => simp [intOf]; omega
      · have hd : (r == d) = false := by simpa using hrd
        have HS := Lib.hid (show acc = (za.take (k + 1)).filter (fun x => zb.contains x == d) by rw [take_snoc' za k x HX.out, List.filter_append, ← HA.out, List.filter_cons, HR.out, hd]; simp)
        clear hrd
        go_wp2_with fail
        refine (HC.out _ (H'.out.below (HB.out.mono hBw))).mono ?_
        rintro e w' ⟨rfl, rfl⟩
        go_wp2
        go_roundw
        case rel => exact ⟨k + 1, m, acc, by omega, by go_num, by omega, HM.out, HS.out, HO.out, HB.out⟩
        case measure => simp [intOf]; omega
    · obtain ⟨A2, c2, rfl⟩ := own_slice HO.out
      have e : L = acc := by
        have := HA.out
        rw [List.take_of_length_le (by have := HLN.out; omega)] at this
        rw [HL.out, this]
      have HE := Lib.hid e
      clear e
      go_wp2
      go_ret
      rw [HE.out, HM.out]
      exact ⟨A2, c2, rfl, HO.out, HB.out⟩
theorem meet_those (a b : List Int) : meetP a b = a.filter fun x => b.contains x == true := by unfold meetP; congr 1; funext x; simp
theorem less_those (a b : List Int) : lessP a b = a.filter fun x => b.contains x == false := by unfold lessP; congr 1; funext x; simp
end Go.Proofs.Ytpdclppieicaeaa
