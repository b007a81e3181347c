/- What is left of a tree behind a letter: the reference's walks. -/
import Derived.Test.YtbpeceejboojoaaTreeM
import Derived.Test.YtbpeceejboojoaaTreeI
import Derived.Test.YtbpeceejboojoaaFormPlain
import Derived.Test.YtbpeceejboojoaaEmpt
import Derived.Deep.RegionHeld3
namespace Go.Proofs.Ytbpeceejboojoaa
set_option linter.unusedVariables false
set_option linter.unusedSimpArgs false
open Go.RowKit

def kd : Tr → Int
  | .none => 1 | .empty => 2 | .letter _ => 3 | .any => 4 | .seq _ _ => 5 | .alt _ _ => 6 | .star _ => 7 | .not_ _ => 8
theorem TAt.kd {w : World} {lo hi b : Nat} {t : Tr} (h : TAt w lo hi t b) : w.cell? ⟨b, 0, none⟩ = some (.int .i64 (kd t)) := by
  cases t with
  | none => exact h.2.2.c0
  | empty => exact h.2.2.c0
  | letter c => exact h.2.2.c0
  | any => exact h.2.2.c0
  | seq x y => obtain ⟨_, _, p, q, n, _⟩ := h; exact n.c0
  | alt x y => obtain ⟨_, _, p, q, n, _⟩ := h; exact n.c0
  | star x => obtain ⟨_, _, p, n, _⟩ := h; exact n.c0
  | not_ x => obtain ⟨_, _, p, n, _⟩ := h; exact n.c0
theorem isNone_kd (t : Tr) : isNone t = decide (kd t = 1) := by cases t <;> rfl
theorem isEmp_kd (t : Tr) : isEmp t = decide (kd t = 2) := by cases t <;> rfl
/-- What a maker of trees hands back. -/
def NewT (w : World) (lo : Nat) (t : Tr) (e : Ending) (w' : World) : Prop := ∃ p, e = .returned (.pointer (some ⟨p, 0, none⟩)) ∧ TA w' lo t p ∧ Below w.heap.size w w'
theorem TA.of {w : World} {lo hi : Nat} {t : Tr} {b : Nat} (h : TAt w lo hi t b) (hh : hi ≤ w.heap.size) : TA w lo t b := ⟨hi, hh, h⟩
theorem TA.wide {w : World} {lo : Nat} {t : Tr} {b : Nat} (h : TA w lo t b) : TAt w lo w.heap.size t b := h.fin (Nat.le_refl _)
theorem TA.lo_lt {w : World} {lo : Nat} {t : Tr} {b : Nat} (h : TA w lo t b) : lo < w.heap.size := by have := h.wide.in_; omega
theorem leaf_none (w : World) (lo tx : Nat) (hl : lo ≤ w.heap.size) : TA (w.alloc (.cells #[.int .i64 1, .string ⟨#[]⟩, .pointer none, .pointer none] tx)) lo .none w.heap.size :=
  ⟨w.heap.size + 1, by simp, hl, by omega, by simp, by simp, by simp, by simp⟩
theorem leaf_empty (w : World) (lo tx : Nat) (hl : lo ≤ w.heap.size) : TA (w.alloc (.cells #[.int .i64 2, .string ⟨#[]⟩, .pointer none, .pointer none] tx)) lo .empty w.heap.size :=
  ⟨w.heap.size + 1, by simp, hl, by omega, by simp, by simp, by simp, by simp⟩
theorem node_seq (w : World) (lo tx p q : Nat) {x y : Tr} (hx : TA w lo x p) (hy : TA w lo y q) : TA (w.alloc (.cells #[.int .i64 5, .string ⟨#[]⟩, .pointer (some ⟨p, 0, none⟩), .pointer (some ⟨q, 0, none⟩)] tx)) lo (.seq x y) w.heap.size := by
  have hb : Below w.heap.size w (w.alloc (.cells #[.int .i64 5, .string ⟨#[]⟩, .pointer (some ⟨p, 0, none⟩), .pointer (some ⟨q, 0, none⟩)] tx)) := (Below.refl _ _).alloc (Nat.le_refl _) _
  exact ⟨w.heap.size + 1, by simp, by have := hx.lo_lt; omega, by omega, p, q, ⟨by simp, by simp, by simp, by simp⟩, (hx.wide.bel hb (Nat.le_refl _)).wide (Nat.le_refl _) (by omega), (hy.wide.bel hb (Nat.le_refl _)).wide (Nat.le_refl _) (by omega)⟩
theorem node_alt (w : World) (lo tx p q : Nat) {x y : Tr} (hx : TA w lo x p) (hy : TA w lo y q) : TA (w.alloc (.cells #[.int .i64 6, .string ⟨#[]⟩, .pointer (some ⟨p, 0, none⟩), .pointer (some ⟨q, 0, none⟩)] tx)) lo (.alt x y) w.heap.size := by
  have hb : Below w.heap.size w (w.alloc (.cells #[.int .i64 6, .string ⟨#[]⟩, .pointer (some ⟨p, 0, none⟩), .pointer (some ⟨q, 0, none⟩)] tx)) := (Below.refl _ _).alloc (Nat.le_refl _) _
  exact ⟨w.heap.size + 1, by simp, by have := hx.lo_lt; omega, by omega, p, q, ⟨by simp, by simp, by simp, by simp⟩, (hx.wide.bel hb (Nat.le_refl _)).wide (Nat.le_refl _) (by omega), (hy.wide.bel hb (Nat.le_refl _)).wide (Nat.le_refl _) (by omega)⟩
theorem node_not (w : World) (lo tx p : Nat) {x : Tr} (hx : TA w lo x p) : TA (w.alloc (.cells #[.int .i64 8, .string ⟨#[]⟩, .pointer (some ⟨p, 0, none⟩), .pointer none] tx)) lo (.not_ x) w.heap.size := by
  have hb : Below w.heap.size w (w.alloc (.cells #[.int .i64 8, .string ⟨#[]⟩, .pointer (some ⟨p, 0, none⟩), .pointer none] tx)) := (Below.refl _ _).alloc (Nat.le_refl _) _
  exact ⟨w.heap.size + 1, by simp, by have := hx.lo_lt; omega, by omega, p, ⟨by simp, by simp, by simp, by simp⟩, (hx.wide.bel hb (Nat.le_refl _)).wide (Nat.le_refl _) (by omega)⟩
set_option maxRecDepth 100000 in
set_option maxHeartbeats 4000000 in
theorem l5Then_any (x y : Tr) (lo p q : Nat) (w : World) (hx : TA w lo x p) (hy : TA w lo y q) : Calls Try.prog 49 #[.pointer (some ⟨p, 0, none⟩), .pointer (some ⟨q, 0, none⟩)] w (NewT w lo (thenT x y)) := by
  have h0 := hx.wide.kd
  have k0 := hy.wide.kd
  have HX := Lib.hid hx
  have HY := Lib.hid hy
  have HL := Lib.hid (Nat.le_of_lt hx.lo_lt)
  have HT := Lib.hid (show thenT x y = if isNone x || isNone y then .none else if isEmp x then y else if isEmp y then x else .seq x y from rfl)
  rw [isNone_kd, isNone_kd, isEmp_kd, isEmp_kd] at HT
  obtain ⟨a, ha⟩ : ∃ a, kd x = a := ⟨_, rfl⟩
  obtain ⟨c, hc⟩ : ∃ c, kd y = c := ⟨_, rfl⟩
  obtain ⟨R, hR⟩ : ∃ R, thenT x y = R := ⟨_, rfl⟩
  rw [ha] at h0 HT
  rw [hc] at k0 HT
  rw [hR] at HT ⊢
  clear ha hc hR hx hy
  by_cases h1 : a = 1
  · subst h1
    have HE := Lib.hid (show R = .none from HT.out)
    go_enter Try.func49, Try.ntmps49
    go_wp2
    go_ret
    rw [HE.out]
    exact ⟨_, rfl, leaf_none w lo _ HL.out, (Below.refl _ _).alloc (Nat.le_refl _) _⟩
  · by_cases h2 : c = 1
    · subst h2
      have HE := Lib.hid (show R = .none by have := HT.out; rw [decide_eq_false h1] at this; exact this)
      have h1' : (a == 1) = false := by simpa using h1
      go_enter Try.func49, Try.ntmps49
      go_wp2
      go_ret
      rw [HE.out]
      exact ⟨_, rfl, leaf_none w lo _ HL.out, (Below.refl _ _).alloc (Nat.le_refl _) _⟩
    · have h1' : (a == 1) = false := by simpa using h1
      have h2' : (c == 1) = false := by simpa using h2
      by_cases h3 : a = 2
      · subst h3
        have HE := Lib.hid (show R = y by have := HT.out; rw [decide_eq_false h2] at this; exact this)
        go_enter Try.func49, Try.ntmps49
        go_wp2
        go_ret
        rw [HE.out]
        exact ⟨_, rfl, HY.out, Below.refl _ _⟩
      · have h3' : (a == 2) = false := by simpa using h3
        by_cases h4 : c = 2
        · subst h4
          have HE := Lib.hid (show R = x by have := HT.out; rw [decide_eq_false h1, decide_eq_false h3] at this; exact this)
          go_enter Try.func49, Try.ntmps49
          go_wp2
          go_ret
          rw [HE.out]
          exact ⟨_, rfl, HX.out, Below.refl _ _⟩
        · have h4' : (c == 2) = false := by simpa using h4
          have HE := Lib.hid (show R = .seq x y by have := HT.out; rw [decide_eq_false h1, decide_eq_false h2, decide_eq_false h3, decide_eq_false h4] at this; exact this)
          go_enter Try.func49, Try.ntmps49
          go_wp2
          go_ret
          rw [HE.out]
          exact ⟨_, rfl, node_seq w lo _ p q HX.out HY.out, (Below.refl _ _).alloc (Nat.le_refl _) _⟩
set_option maxRecDepth 100000 in
set_option maxHeartbeats 4000000 in
theorem l5Either_any (x y : Tr) (lo p q : Nat) (w : World) (hx : TA w lo x p) (hy : TA w lo y q) : Calls Try.prog 50 #[.pointer (some ⟨p, 0, none⟩), .pointer (some ⟨q, 0, none⟩)] w (NewT w lo (eitherT x y)) := by
  have h0 := hx.wide.kd
  have k0 := hy.wide.kd
  have HX := Lib.hid hx
  have HY := Lib.hid hy
  have HT := Lib.hid (show eitherT x y = if isNone x then y else if isNone y then x else .alt x y from rfl)
  rw [isNone_kd, isNone_kd] at HT
  obtain ⟨a, ha⟩ : ∃ a, kd x = a := ⟨_, rfl⟩
  obtain ⟨c, hc⟩ : ∃ c, kd y = c := ⟨_, rfl⟩
  obtain ⟨R, hR⟩ : ∃ R, eitherT x y = R := ⟨_, rfl⟩
  rw [ha] at h0 HT
  rw [hc] at k0 HT
  rw [hR] at HT ⊢
  clear ha hc hR hx hy
  by_cases h1 : a = 1
  · subst h1
    have HE := Lib.hid (show R = y from HT.out)
    go_enter Try.func50, Try.ntmps50
    go_wp2
    go_ret
    rw [HE.out]
    exact ⟨_, rfl, HY.out, Below.refl _ _⟩
  · have h1' : (a == 1) = false := by simpa using h1
    by_cases h2 : c = 1
    · subst h2
      have HE := Lib.hid (show R = x by have := HT.out; rw [decide_eq_false h1] at this; exact this)
      go_enter Try.func50, Try.ntmps50
      go_wp2
      go_ret
      rw [HE.out]
      exact ⟨_, rfl, HX.out, Below.refl _ _⟩
    · have h2' : (c == 1) = false := by simpa using h2
      have HE := Lib.hid (show R = .alt x y by have := HT.out; rw [decide_eq_false h1, decide_eq_false h2] at this; exact this)
      go_enter Try.func50, Try.ntmps50
      go_wp2
      go_ret
      rw [HE.out]
      exact ⟨_, rfl, node_alt w lo _ p q HX.out HY.out, (Below.refl _ _).alloc (Nat.le_refl _) _⟩
/-- What the walk of one part hands back, at any later world. -/
structure LG (w : World) (lo p : Nat) (c : UInt8) (d : Tr) : Prop where
  run : ∀ w', Below w.heap.size w w' → Calls Try.prog 39 #[.pointer (some ⟨p, 0, none⟩), .int .u8 c.toNat] w' (NewT w' lo d)
def LT (c : UInt8) (t : Tr) : Prop := ∀ (lo p : Nat) (w : World), TA w lo t p → Calls Try.prog 39 #[.pointer (some ⟨p, 0, none⟩), .int .u8 c.toNat] w (NewT w lo (der t c))
theorem LT.lg {c : UInt8} {t : Tr} (h : LT c t) {w : World} {lo p : Nat} (ht : TA w lo t p) : LG w lo p c (der t c) := ⟨fun w' hb => h lo p w' (ht.bel hb (Nat.le_refl _))⟩
set_option maxRecDepth 100000 in
set_option maxHeartbeats 8000000 in
theorem l5Left_any (c : UInt8) (t : Tr) : LT c t := by
  induction t with
  | none =>
    intro lo p w ht
    have h0 := ht.wide.kd
    have HL := Lib.hid (Nat.le_of_lt ht.lo_lt)
    have h0 : w.cell? ⟨p, 0, none⟩ = some (.int .i64 1) := h0
    clear ht
    go_enter Try.func39, Try.ntmps39
    go_wp2
    go_ret
    exact ⟨_, rfl, leaf_none w lo _ HL.out, (Below.refl _ _).alloc (Nat.le_refl _) _⟩
  | empty =>
    intro lo p w ht
    have h0 : w.cell? ⟨p, 0, none⟩ = some (.int .i64 2) := ht.wide.kd
    have HL := Lib.hid (Nat.le_of_lt ht.lo_lt)
    clear ht
    go_enter Try.func39, Try.ntmps39
    go_wp2
    go_ret
    exact ⟨_, rfl, leaf_none w lo _ HL.out, (Below.refl _ _).alloc (Nat.le_refl _) _⟩
  | any =>
    intro lo p w ht
    have h0 : w.cell? ⟨p, 0, none⟩ = some (.int .i64 4) := ht.wide.kd
    have HL := Lib.hid (Nat.le_of_lt ht.lo_lt)
    clear ht
    go_enter Try.func39, Try.ntmps39
    go_wp2
    go_ret
    exact ⟨_, rfl, leaf_empty w lo _ HL.out, (Below.refl _ _).alloc (Nat.le_refl _) _⟩
  | letter d =>
    intro lo p w ht
    have HL := Lib.hid (Nat.le_of_lt ht.lo_lt)
    obtain ⟨_, _, _, _, h⟩ := ht
    have h0 := h.c0
    have h1 := h.c1
    obtain ⟨z, hz⟩ : ∃ z : ByteArray, (⟨#[d]⟩ : ByteArray) = z := ⟨_, rfl⟩
    have hz1 : z.size = 1 := by rw [← hz]; rfl
    have hd : ∀ h, (getElem z 0 h).toNat = d.toNat := by subst hz; exact fun _ => rfl
    rw [hz] at h1
    clear h hz
    by_cases he : d = c
    · subst he
      have HE := Lib.hid (show der (.letter d) d = .empty by simp [der])
      go_enter Try.func39, Try.ntmps39
      go_wp2
      go_ret
      rw [HE.out]
      exact ⟨_, rfl, leaf_empty w lo _ HL.out, (Below.refl _ _).alloc (Nat.le_refl _) _⟩
    · have HE := Lib.hid (show der (.letter d) c = .none by simp [der, he])
      have hne : ¬ d.toNat = c.toNat := fun e => he (UInt8.toNat_inj.1 e)
      have hne2 : ((d.toNat : Int) == (c.toNat : Int)) = false := by rw [beq_eq_false_iff_ne]; omega
      have hne3 : ¬ (d.toNat : Int) = (c.toNat : Int) := by omega
      go_enter Try.func39, Try.ntmps39
      go_wp2
      go_ret
      rw [HE.out]
      exact ⟨_, rfl, leaf_none w lo _ HL.out, (Below.refl _ _).alloc (Nat.le_refl _) _⟩
  | seq x y ihx ihy =>
    intro lo b w ht
    obtain ⟨hi, hh, _, hbh, p, q, h, hx, hy⟩ := ht
    have h0 := h.c0
    have h2 := h.c2
    have h3 := h.c3
    have gA := ihx.lg (TA.of hx hh)
    have gB := ihy.lg (TA.of hy hh)
    have HXA := Lib.hid (TA.of hx hh)
    have hy0 := TA.of hy hh
    have hbl : b < w.heap.size := by omega
    have HD := Lib.hid (show der (.seq x y) c = if nul x then eitherT (thenT (der x c) y) (der y c) else thenT (der x c) y from rfl)
    have d2 : w.drew.cell? ⟨b, 2, none⟩ = some (.pointer (some ⟨p, 0, none⟩)) := h2
    have d3 : w.drew.cell? ⟨b, 3, none⟩ = some (.pointer (some ⟨q, 0, none⟩)) := h3
    clear h hx hy ihx ihy hh
    go_enter Try.func39, Try.ntmps39
    go_wp2_with fail
    go_region_held3 (fun w' => w'.cell? ⟨b, 2, none⟩ = some (.pointer (some ⟨p, 0, none⟩)) ∧ w'.cell? ⟨b, 3, none⟩ = some (.pointer (some ⟨q, 0, none⟩)))
      (first | go_keep | (go_split_ands; exact ⟨(bcell hb1 _ _ (by first | omega | (simp; omega))).trans (by assumption), (bcell hb1 _ _ (by first | omega | (simp; omega))).trans (by assumption)⟩))
      ((first | (go_at_call 39; refine (LG.run (by assumption) _ (by first | assumption | exact (Below.refl _ _).drew)).mono ?_; rintro e w1 ⟨p1, rfl, ht1, hb1⟩; have hW1 := Below.trans (by first | assumption | exact (Below.refl w.heap.size w).drew) (hb1.mono (show w.heap.size ≤ _ by first | exact Nat.le_refl _ | omega | (simp; omega))); have hS1 := hW1.size) | (go_at_call 49; refine (l5Then_any _ _ lo _ _ _ (by first | assumption | exact TA.bel (by assumption) hb1 (Nat.le_refl _)) (by first | assumption | exact TA.bel (by assumption) hb1 (Nat.le_refl _) | exact TA.bel hy0 hW1 (Nat.le_refl _))).mono ?_; rintro e w2 ⟨p2, rfl, ht2, hb1⟩)))
    have HW2 := Lib.hid (hW1.trans (hb1.mono hS1))
    have HT2 := Lib.hid ht2
    have e2 := (bcell HW2.out b 2 hbl).trans h2
    have e3 := (bcell HW2.out b 3 hbl).trans h3
    have HB := Lib.hid gB
    have hS2 := HW2.out.size
    clear ht1 hW1 hS1 ht2 hb1 gA gB d2 d3 h0 h2 h3
    have HN := Lib.hid (l5Empty_any x p lo w2.heap.size w2 ((HXA.out.bel HW2.out (Nat.le_refl _)).wide))
    obtain ⟨v, hv⟩ : ∃ v, nul x = v := ⟨_, rfl⟩
    rw [hv] at HN HD
    clear hv
    cases v with
    | false =>
      have HE := Lib.hid (show der (.seq x y) c = thenT (der x c) y from HD.out)
      go_wp2_with fail
      refine HN.out.mono ?_
      rintro e w' ⟨rfl, rfl⟩
      go_wp2
      go_ret
      rw [HE.out]
      exact ⟨_, rfl, HT2.out, HW2.out⟩
    | true =>
      have HE := Lib.hid (show der (.seq x y) c = eitherT (thenT (der x c) y) (der y c) from HD.out)
      go_wp2_with fail
      refine HN.out.mono ?_
      rintro e w' ⟨rfl, rfl⟩
      go_wp2_with fail
      refine (HB.out.run w2 HW2.out).mono ?_
      rintro e w3 ⟨p3, rfl, ht3, hb3⟩
      have HT3 := Lib.hid ht3
      have HT2' := Lib.hid (HT2.out.bel hb3 (Nat.le_refl _))
      have HW3 := Lib.hid (HW2.out.trans (hb3.mono hS2))
      have hS3 := HW3.out.size
      clear ht3 hb3
      go_wp2_with fail
      refine (l5Either_any _ _ lo _ _ w3 HT2'.out HT3.out).mono ?_
      rintro e w4 ⟨p4, rfl, ht4, hb4⟩
      have HT4 := Lib.hid ht4
      have HW4 := Lib.hid (HW3.out.trans (hb4.mono hS3))
      clear ht4 hb4
      go_wp2
      go_ret
      rw [HE.out]
      exact ⟨_, rfl, HT4.out, HW4.out⟩
  | alt x y ihx ihy =>
    intro lo b w ht
    obtain ⟨hi, hh, _, hbh, p, q, h, hx, hy⟩ := ht
    have h0 := h.c0
    have h2 := h.c2
    have h3 := h.c3
    have gA := ihx.lg (TA.of hx hh)
    have gB := ihy.lg (TA.of hy hh)
    have hbl : b < w.heap.size := by omega
    have HD := Lib.hid (show der (.alt x y) c = eitherT (der x c) (der y c) from rfl)
    have d2 : w.drew.cell? ⟨b, 2, none⟩ = some (.pointer (some ⟨p, 0, none⟩)) := h2
    have d3 : w.drew.cell? ⟨b, 3, none⟩ = some (.pointer (some ⟨q, 0, none⟩)) := h3
    clear h hx hy ihx ihy hh
    go_enter Try.func39, Try.ntmps39
    go_wp2_with fail
    go_region_held3 (fun w' => w'.cell? ⟨b, 2, none⟩ = some (.pointer (some ⟨p, 0, none⟩)) ∧ w'.cell? ⟨b, 3, none⟩ = some (.pointer (some ⟨q, 0, none⟩)))
      (first | go_keep | (go_split_ands; exact ⟨(bcell hb1 _ _ (by first | omega | (simp; omega))).trans (by assumption), (bcell hb1 _ _ (by first | omega | (simp; omega))).trans (by assumption)⟩))
      ((first | (go_at_call 39; refine (LG.run (by assumption) _ (by first | assumption | exact (Below.refl _ _).drew)).mono ?_; rintro e w1 ⟨p1, rfl, ht1, hb1⟩; have hW1 := Below.trans (by first | assumption | exact (Below.refl w.heap.size w).drew) (hb1.mono (show w.heap.size ≤ _ by first | exact Nat.le_refl _ | omega | (simp; omega))); have hS1 := hW1.size) | (go_at_call 50; refine (l5Either_any _ _ lo _ _ _ (by first | assumption | exact TA.bel (by assumption) hb1 (Nat.le_refl _)) (by first | assumption | exact TA.bel (by assumption) hb1 (Nat.le_refl _) )).mono ?_; rintro e w2 ⟨p2, rfl, ht2, hb1⟩)))
    all_goals
      have HW2 := Lib.hid (hW1.trans (hb1.mono hS1))
      have HT2 := Lib.hid ht2
      clear ht2 hb1 gA gB
      go_wp2
      go_ret
      rw [HD.out]
      exact ⟨_, rfl, HT2.out, HW2.out⟩
  | star x ihx =>
    intro lo b w ht
    have ht0 := Lib.hid ht
    obtain ⟨hi, hh, _, _, p, h, hx⟩ := ht
    have h0 := h.c0
    have h2 := h.c2
    have HG := Lib.hid (ihx.lg (TA.of hx hh))
    have HD := Lib.hid (show der (.star x) c = thenT (der x c) (.star x) from rfl)
    clear h hx ihx hh
    go_enter Try.func39, Try.ntmps39
    go_wp2_with fail
    refine (HG.out.run _ (Below.refl _ _)).mono ?_
    rintro e w1 ⟨p1, rfl, ht1, hb1⟩
    have HT1 := Lib.hid ht1
    have HB1 := Lib.hid hb1
    clear ht1 hb1
    go_wp2_with fail
    refine (l5Then_any _ _ lo p1 b w1 HT1.out (ht0.out.bel HB1.out (Nat.le_refl _))).mono ?_
    rintro e w2 ⟨p2, rfl, ht2, hb2⟩
    have HT2 := Lib.hid ht2
    have HB2 := Lib.hid (HB1.out.trans (hb2.mono HB1.out.size))
    clear ht2 hb2
    go_wp2
    go_ret
    rw [HD.out]
    exact ⟨_, rfl, HT2.out, HB2.out⟩
  | not_ x ihx =>
    intro lo b w ht
    obtain ⟨hi, hh, _, _, p, h, hx⟩ := ht
    have h0 := h.c0
    have h2 := h.c2
    have HG := Lib.hid (ihx.lg (TA.of hx hh))
    have HD := Lib.hid (show der (.not_ x) c = .not_ (der x c) from rfl)
    clear h hx ihx hh
    go_enter Try.func39, Try.ntmps39
    go_wp2_with fail
    refine (HG.out.run _ (Below.refl _ _)).mono ?_
    rintro e w1 ⟨p1, rfl, ht1, hb1⟩
    have HT1 := Lib.hid ht1
    have HB1 := Lib.hid hb1
    clear ht1 hb1
    go_wp2
    go_ret
    rw [HD.out]
    exact ⟨_, rfl, node_not w1 lo _ p1 HT1.out, HB1.out.alloc HB1.out.size _⟩
end Go.Proofs.Ytbpeceejboojoaa
