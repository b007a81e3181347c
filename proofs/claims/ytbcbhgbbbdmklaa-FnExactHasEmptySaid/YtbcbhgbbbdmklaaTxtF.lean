/- The text of a tree: the reference's and the program's walks. -/
import Derived.Test.YtbcbhgbbbdmklaaTreeM
import Derived.Test.YtbcbhgbbbdmklaaBeyond
import Derived.Laws.Concat
namespace Go.Proofs.Ytbcbhgbbbdmklaa
set_option linter.unusedVariables false
set_option linter.unusedSimpArgs false
open Go.RowKit

def tB (t : Tr) : ByteArray := ⟨(txt t).toArray⟩
theorem tB_size (t : Tr) : (tB t).size = (txt t).length := by unfold tB; show (txt t).toArray.size = _; simp
theorem ba_extF {a b : ByteArray} (h : a.data.toList = b.data.toList) : a = b := by cases a; cases b; congr; exact Array.toList_inj.1 h
theorem app_listF (a b : ByteArray) : (a ++ b).data.toList = a.data.toList ++ b.data.toList := by simp
theorem tB_seq (x y : Tr) : (⟨#[40]⟩ : ByteArray) ++ tB x ++ tB y ++ ⟨#[41]⟩ = tB (.seq x y) := ba_extF (by rw [app_listF, app_listF, app_listF]; simp [tB, txt])
theorem tB_alt (x y : Tr) : (⟨#[91]⟩ : ByteArray) ++ tB x ++ ⟨#[124]⟩ ++ tB y ++ ⟨#[93]⟩ = tB (.alt x y) := ba_extF (by rw [app_listF, app_listF, app_listF, app_listF]; simp [tB, txt])
theorem tB_star (x : Tr) : tB x ++ ⟨#[42]⟩ = tB (.star x) := ba_extF (by rw [app_listF]; simp [tB, txt])
theorem tB_not (x : Tr) : tB x ++ ⟨#[94]⟩ = tB (.not_ x) := ba_extF (by rw [app_listF]; simp [tB, txt])
set_option maxRecDepth 100000 in
set_option maxHeartbeats 8000000 in
theorem sTxt_any : ∀ (n : Nat) (t : Tr), trSz t ≤ n → n ≤ 33554432 → ∀ (b lo hi : Nat) (w : World), TAt w lo hi t b → hi ≤ w.heap.size → Calls Try.prog 52 #[.pointer (some ⟨b, 0, none⟩)] w fun e w' => e = .returned (.string (tB t)) ∧ Below w.heap.size w w' := by
  intro n
  induction n with
  | zero => intro t ht; cases t <;> simp [trSz] at ht
  | succ n ih0 =>
    intro t ht hn
    have ih : ∀ (t : Tr), trSz t ≤ n → ∀ (b lo hi : Nat) (w : World), TAt w lo hi t b → hi ≤ w.heap.size → Calls Try.prog 52 #[.pointer (some ⟨b, 0, none⟩)] w fun e w' => e = .returned (.string (tB t)) ∧ Below w.heap.size w w' := fun t h => ih0 t h (by omega)
    clear ih0
    cases t with
    | none =>
      rintro b lo hi w ⟨_, _, h⟩ _
      have h0 := h.c0
      have h1 := h.c1
      clear h ih
      go_enter Try.func52, Try.ntmps52
      go_wp2
      go_ret
      exact ⟨rfl, Below.refl _ _⟩
    | empty =>
      rintro b lo hi w ⟨_, _, h⟩ _
      have h0 := h.c0
      have h1 := h.c1
      clear h ih
      go_enter Try.func52, Try.ntmps52
      go_wp2
      go_ret
      exact ⟨rfl, Below.refl _ _⟩
    | any =>
      rintro b lo hi w ⟨_, _, h⟩ _
      have h0 := h.c0
      have h1 := h.c1
      clear h ih
      go_enter Try.func52, Try.ntmps52
      go_wp2
      go_ret
      exact ⟨rfl, Below.refl _ _⟩
    | letter c =>
      rintro b lo hi w ⟨_, _, h⟩ _
      have h0 := h.c0
      have h1 := h.c1
      clear h ih
      go_enter Try.func52, Try.ntmps52
      go_wp2
      go_ret
      exact ⟨rfl, Below.refl _ _⟩
    | star x =>
      rintro b lo hi w ⟨_, _, p, h, hx⟩ hh
      simp only [trSz] at ht
      have h0 := h.c0
      have h2 := h.c2
      have HX := Lib.hid (ih x (by omega) p lo hi w hx hh)
      have hsz : (tB x).size ≤ 200000000 := by rw [tB_size]; have := txt_len x; omega
      have HE := Lib.hid (tB_star x)
      obtain ⟨S, hS⟩ : ∃ S, tB x = S := ⟨_, rfl⟩
      rw [hS] at HX HE hsz
      obtain ⟨R, hR⟩ : ∃ R, S ++ ⟨#[42]⟩ = R := ⟨_, rfl⟩
      have hcat : ∀ w, (Op.stringOp .add S ⟨#[42]⟩).run Try.prog w = .ok (.string R) w := fun w => hR ▸ run_string_add_sum w S ⟨#[42]⟩ (by show S.size + 1 ≤ _; omega)
      have HR := Lib.hid hR
      clear h hx ih hS hR
      go_enter Try.func52, Try.ntmps52
      go_wp2_with fail
      refine HX.out.mono ?_
      rintro e w1 ⟨rfl, hb1⟩
      have HB := Lib.hid hb1
      clear hb1
      go_wp2
      go_ret
      exact ⟨by rw [← HE.out, HR.out]; rfl, HB.out⟩
    | not_ x =>
      rintro b lo hi w ⟨_, _, p, h, hx⟩ hh
      simp only [trSz] at ht
      have h0 := h.c0
      have h2 := h.c2
      have HX := Lib.hid (ih x (by omega) p lo hi w hx hh)
      have hsz : (tB x).size ≤ 200000000 := by rw [tB_size]; have := txt_len x; omega
      have HE := Lib.hid (tB_not x)
      obtain ⟨S, hS⟩ : ∃ S, tB x = S := ⟨_, rfl⟩
      rw [hS] at HX HE hsz
      obtain ⟨R, hR⟩ : ∃ R, S ++ ⟨#[94]⟩ = R := ⟨_, rfl⟩
      have hcat : ∀ w, (Op.stringOp .add S ⟨#[94]⟩).run Try.prog w = .ok (.string R) w := fun w => hR ▸ run_string_add_sum w S ⟨#[94]⟩ (by show S.size + 1 ≤ _; omega)
      have HR := Lib.hid hR
      clear h hx ih hS hR
      go_enter Try.func52, Try.ntmps52
      go_wp2_with fail
      refine HX.out.mono ?_
      rintro e w1 ⟨rfl, hb1⟩
      have HB := Lib.hid hb1
      clear hb1
      go_wp2
      go_ret
      exact ⟨by rw [← HE.out, HR.out]; rfl, HB.out⟩
    | seq x y =>
      rintro b lo hi w ⟨_, _, p, q, h, hx, hy⟩ hh
      simp only [trSz] at ht
      have h0 := h.c0
      have d2 := beyond_cell (B := w.heap.size) (W := w) h.c2 (by omega)
      have d3 := beyond_cell (B := w.heap.size) (W := w) h.c3 (by omega)
      have hszx : (tB x).size ≤ 200000000 := by rw [tB_size]; have := txt_len x; omega
      have hszy : (tB y).size ≤ 200000000 := by rw [tB_size]; have := txt_len y; omega
      have HG := Lib.hid (show ∀ (t' : Tr) (r : Nat) (z : Beyond w.heap.size w), TAt w lo hi t' r → trSz t' ≤ n → Calls Try.prog 52 #[.pointer (some ⟨r, 0, none⟩)] z.1 fun e w' => e = .returned (.string (tB t')) ∧ Below z.1.heap.size z.1 w' from
        fun t' r z h1 h2 => ih t' h2 r lo hi z.1 (h1.bel z.2 hh) (Nat.le_trans hh z.2.size))
      have hnx : trSz x ≤ n := by omega
      have hny : trSz y ≤ n := by omega
      have HE := Lib.hid (tB_seq x y)
      obtain ⟨P1, hP1⟩ : ∃ R, (⟨#[40]⟩ : ByteArray) ++ tB x = R := ⟨_, rfl⟩
      have s1 : P1.size ≤ 200000001 := by rw [← hP1, ByteArray.size_append]; show 1 + (tB x).size ≤ _; omega
      obtain ⟨P2, hP2⟩ : ∃ R, P1 ++ tB y = R := ⟨_, rfl⟩
      have s2 : P2.size ≤ 400000001 := by rw [← hP2, ByteArray.size_append]; omega
      obtain ⟨P3, hP3⟩ : ∃ R, P2 ++ ⟨#[41]⟩ = R := ⟨_, rfl⟩
      have hcat1 : ∀ w, (Op.stringOp .add ⟨#[40]⟩ (tB x)).run Try.prog w = .ok (.string P1) w := fun w => hP1 ▸ run_string_add_sum w ⟨#[40]⟩ (tB x) (by show 1 + (tB x).size ≤ _; omega)
      have hcat2 : ∀ w, (Op.stringOp .add P1 (tB y)).run Try.prog w = .ok (.string P2) w := fun w => hP2 ▸ run_string_add_sum w P1 (tB y) (by omega)
      have hcat3 : ∀ w, (Op.stringOp .add P2 ⟨#[41]⟩).run Try.prog w = .ok (.string P3) w := fun w => hP3 ▸ run_string_add_sum w P2 ⟨#[41]⟩ (by show P2.size + 1 ≤ _; omega)
      have HR := Lib.hid (show P3 = tB (.seq x y) by rw [← hP3, ← hP2, ← hP1]; exact HE.out)
      clear h ih hP1 hP2 hP3 HE
      go_enter Try.func52, Try.ntmps52
      go_wp2_with fail
      refine wp_region_beyond (B := w.heap.size) (W := w) (Below.refl _ _) (by kernel_rfl) (by kernel_rfl) ?_
      repeat (go_big_quiet_step ((go_at_call 52; exact calls_beyond (Nat.le_refl _) (HG.out _ _ _ (by assumption) (by assumption)))))
      refine wpQuiet_nil ?_
      intro _ hw'
      obtain ⟨z, rfl⟩ := hw'
      have HZ := Lib.hid z.2
      generalize z.1 = wz at HZ ⊢
      clear d2 d3
      go_wp2
      go_ret
      exact ⟨by rw [← HR.out]; rfl, HZ.out⟩
    | alt x y =>
      rintro b lo hi w ⟨_, _, p, q, h, hx, hy⟩ hh
      simp only [trSz] at ht
      have h0 := h.c0
      have d2 := beyond_cell (B := w.heap.size) (W := w) h.c2 (by omega)
      have d3 := beyond_cell (B := w.heap.size) (W := w) h.c3 (by omega)
      have hszx : (tB x).size ≤ 200000000 := by rw [tB_size]; have := txt_len x; omega
      have hszy : (tB y).size ≤ 200000000 := by rw [tB_size]; have := txt_len y; omega
      have HG := Lib.hid (show ∀ (t' : Tr) (r : Nat) (z : Beyond w.heap.size w), TAt w lo hi t' r → trSz t' ≤ n → Calls Try.prog 52 #[.pointer (some ⟨r, 0, none⟩)] z.1 fun e w' => e = .returned (.string (tB t')) ∧ Below z.1.heap.size z.1 w' from
        fun t' r z h1 h2 => ih t' h2 r lo hi z.1 (h1.bel z.2 hh) (Nat.le_trans hh z.2.size))
      have hnx : trSz x ≤ n := by omega
      have hny : trSz y ≤ n := by omega
      have HE := Lib.hid (tB_alt x y)
      obtain ⟨P1, hP1⟩ : ∃ R, (⟨#[91]⟩ : ByteArray) ++ tB x = R := ⟨_, rfl⟩
      have s1 : P1.size ≤ 200000001 := by rw [← hP1, ByteArray.size_append]; show 1 + (tB x).size ≤ _; omega
      obtain ⟨P0, hP0⟩ : ∃ R, P1 ++ ⟨#[124]⟩ = R := ⟨_, rfl⟩
      have s0 : P0.size ≤ 200000002 := by rw [← hP0, ByteArray.size_append]; show P1.size + 1 ≤ _; omega
      obtain ⟨P2, hP2⟩ : ∃ R, P0 ++ tB y = R := ⟨_, rfl⟩
      have s2 : P2.size ≤ 400000002 := by rw [← hP2, ByteArray.size_append]; omega
      obtain ⟨P3, hP3⟩ : ∃ R, P2 ++ ⟨#[93]⟩ = R := ⟨_, rfl⟩
      have hcat1 : ∀ w, (Op.stringOp .add ⟨#[91]⟩ (tB x)).run Try.prog w = .ok (.string P1) w := fun w => hP1 ▸ run_string_add_sum w ⟨#[91]⟩ (tB x) (by show 1 + (tB x).size ≤ _; omega)
      have hcat0 : ∀ w, (Op.stringOp .add P1 ⟨#[124]⟩).run Try.prog w = .ok (.string P0) w := fun w => hP0 ▸ run_string_add_sum w P1 ⟨#[124]⟩ (by show P1.size + 1 ≤ _; omega)
      have hcat2 : ∀ w, (Op.stringOp .add P0 (tB y)).run Try.prog w = .ok (.string P2) w := fun w => hP2 ▸ run_string_add_sum w P0 (tB y) (by omega)
      have hcat3 : ∀ w, (Op.stringOp .add P2 ⟨#[93]⟩).run Try.prog w = .ok (.string P3) w := fun w => hP3 ▸ run_string_add_sum w P2 ⟨#[93]⟩ (by show P2.size + 1 ≤ _; omega)
      have HR := Lib.hid (show P3 = tB (.alt x y) by rw [← hP3, ← hP2, ← hP0, ← hP1]; exact HE.out)
      clear h ih hP1 hP0 hP2 hP3 HE
      go_enter Try.func52, Try.ntmps52
      go_wp2_with fail
      refine wp_region_beyond (B := w.heap.size) (W := w) (Below.refl _ _) (by kernel_rfl) (by kernel_rfl) ?_
      repeat (go_big_quiet_step ((go_at_call 52; exact calls_beyond (Nat.le_refl _) (HG.out _ _ _ (by assumption) (by assumption)))))
      refine wpQuiet_nil ?_
      intro _ hw'
      obtain ⟨z, rfl⟩ := hw'
      have HZ := Lib.hid z.2
      generalize z.1 = wz at HZ ⊢
      clear d2 d3
      go_wp2
      go_ret
      exact ⟨by rw [← HR.out]; rfl, HZ.out⟩
set_option maxRecDepth 100000 in
set_option maxHeartbeats 8000000 in
theorem iTxt_any : ∀ (n : Nat) (t : Tr), trSz t ≤ n → n ≤ 33554432 → ∀ (b lo hi : Nat) (w : World), TAt w lo hi t b → hi ≤ w.heap.size → Calls Try.prog 53 #[.pointer (some ⟨b, 0, none⟩)] w fun e w' => e = .returned (.string (tB t)) ∧ Below w.heap.size w w' := by
  intro n
  induction n with
  | zero => intro t ht; cases t <;> simp [trSz] at ht
  | succ n ih0 =>
    intro t ht hn
    have ih : ∀ (t : Tr), trSz t ≤ n → ∀ (b lo hi : Nat) (w : World), TAt w lo hi t b → hi ≤ w.heap.size → Calls Try.prog 53 #[.pointer (some ⟨b, 0, none⟩)] w fun e w' => e = .returned (.string (tB t)) ∧ Below w.heap.size w w' := fun t h => ih0 t h (by omega)
    clear ih0
    cases t with
    | none =>
      rintro b lo hi w ⟨_, _, h⟩ _
      have h0 := h.c0
      have h1 := h.c1
      clear h ih
      go_enter Try.func53, Try.ntmps53
      go_wp2
      go_ret
      exact ⟨rfl, Below.refl _ _⟩
    | empty =>
      rintro b lo hi w ⟨_, _, h⟩ _
      have h0 := h.c0
      have h1 := h.c1
      clear h ih
      go_enter Try.func53, Try.ntmps53
      go_wp2
      go_ret
      exact ⟨rfl, Below.refl _ _⟩
    | any =>
      rintro b lo hi w ⟨_, _, h⟩ _
      have h0 := h.c0
      have h1 := h.c1
      clear h ih
      go_enter Try.func53, Try.ntmps53
      go_wp2
      go_ret
      exact ⟨rfl, Below.refl _ _⟩
    | letter c =>
      rintro b lo hi w ⟨_, _, h⟩ _
      have h0 := h.c0
      have h1 := h.c1
      clear h ih
      go_enter Try.func53, Try.ntmps53
      go_wp2
      go_ret
      exact ⟨rfl, Below.refl _ _⟩
    | star x =>
      rintro b lo hi w ⟨_, _, p, h, hx⟩ hh
      simp only [trSz] at ht
      have h0 := h.c0
      have h2 := h.c2
      have HX := Lib.hid (ih x (by omega) p lo hi w hx hh)
      have hsz : (tB x).size ≤ 200000000 := by rw [tB_size]; have := txt_len x; omega
      have HE := Lib.hid (tB_star x)
      obtain ⟨S, hS⟩ : ∃ S, tB x = S := ⟨_, rfl⟩
      rw [hS] at HX HE hsz
      obtain ⟨R, hR⟩ : ∃ R, S ++ ⟨#[42]⟩ = R := ⟨_, rfl⟩
      have hcat : ∀ w, (Op.stringOp .add S ⟨#[42]⟩).run Try.prog w = .ok (.string R) w := fun w => hR ▸ run_string_add_sum w S ⟨#[42]⟩ (by show S.size + 1 ≤ _; omega)
      have HR := Lib.hid hR
      clear h hx ih hS hR
      go_enter Try.func53, Try.ntmps53
      go_wp2_with fail
      refine HX.out.mono ?_
      rintro e w1 ⟨rfl, hb1⟩
      have HB := Lib.hid hb1
      clear hb1
      go_wp2
      go_ret
      exact ⟨by rw [← HE.out, HR.out]; rfl, HB.out⟩
    | not_ x =>
      rintro b lo hi w ⟨_, _, p, h, hx⟩ hh
      simp only [trSz] at ht
      have h0 := h.c0
      have h2 := h.c2
      have HX := Lib.hid (ih x (by omega) p lo hi w hx hh)
      have hsz : (tB x).size ≤ 200000000 := by rw [tB_size]; have := txt_len x; omega
      have HE := Lib.hid (tB_not x)
      obtain ⟨S, hS⟩ : ∃ S, tB x = S := ⟨_, rfl⟩
      rw [hS] at HX HE hsz
      obtain ⟨R, hR⟩ : ∃ R, S ++ ⟨#[94]⟩ = R := ⟨_, rfl⟩
      have hcat : ∀ w, (Op.stringOp .add S ⟨#[94]⟩).run Try.prog w = .ok (.string R) w := fun w => hR ▸ run_string_add_sum w S ⟨#[94]⟩ (by show S.size + 1 ≤ _; omega)
      have HR := Lib.hid hR
      clear h hx ih hS hR
      go_enter Try.func53, Try.ntmps53
      go_wp2_with fail
      refine HX.out.mono ?_
      rintro e w1 ⟨rfl, hb1⟩
      have HB := Lib.hid hb1
      clear hb1
      go_wp2
      go_ret
      exact ⟨by rw [← HE.out, HR.out]; rfl, HB.out⟩
    | seq x y =>
      rintro b lo hi w ⟨_, _, p, q, h, hx, hy⟩ hh
      simp only [trSz] at ht
      have h0 := h.c0
      have d2 := beyond_cell (B := w.heap.size) (W := w) h.c2 (by omega)
      have d3 := beyond_cell (B := w.heap.size) (W := w) h.c3 (by omega)
      have hszx : (tB x).size ≤ 200000000 := by rw [tB_size]; have := txt_len x; omega
      have hszy : (tB y).size ≤ 200000000 := by rw [tB_size]; have := txt_len y; omega
      have HG := Lib.hid (show ∀ (t' : Tr) (r : Nat) (z : Beyond w.heap.size w), TAt w lo hi t' r → trSz t' ≤ n → Calls Try.prog 53 #[.pointer (some ⟨r, 0, none⟩)] z.1 fun e w' => e = .returned (.string (tB t')) ∧ Below z.1.heap.size z.1 w' from
        fun t' r z h1 h2 => ih t' h2 r lo hi z.1 (h1.bel z.2 hh) (Nat.le_trans hh z.2.size))
      have hnx : trSz x ≤ n := by omega
      have hny : trSz y ≤ n := by omega
      have HE := Lib.hid (tB_seq x y)
      obtain ⟨P1, hP1⟩ : ∃ R, (⟨#[40]⟩ : ByteArray) ++ tB x = R := ⟨_, rfl⟩
      have s1 : P1.size ≤ 200000001 := by rw [← hP1, ByteArray.size_append]; show 1 + (tB x).size ≤ _; omega
      obtain ⟨P2, hP2⟩ : ∃ R, P1 ++ tB y = R := ⟨_, rfl⟩
      have s2 : P2.size ≤ 400000001 := by rw [← hP2, ByteArray.size_append]; omega
      obtain ⟨P3, hP3⟩ : ∃ R, P2 ++ ⟨#[41]⟩ = R := ⟨_, rfl⟩
      have hcat1 : ∀ w, (Op.stringOp .add ⟨#[40]⟩ (tB x)).run Try.prog w = .ok (.string P1) w := fun w => hP1 ▸ run_string_add_sum w ⟨#[40]⟩ (tB x) (by show 1 + (tB x).size ≤ _; omega)
      have hcat2 : ∀ w, (Op.stringOp .add P1 (tB y)).run Try.prog w = .ok (.string P2) w := fun w => hP2 ▸ run_string_add_sum w P1 (tB y) (by omega)
      have hcat3 : ∀ w, (Op.stringOp .add P2 ⟨#[41]⟩).run Try.prog w = .ok (.string P3) w := fun w => hP3 ▸ run_string_add_sum w P2 ⟨#[41]⟩ (by show P2.size + 1 ≤ _; omega)
      have HR := Lib.hid (show P3 = tB (.seq x y) by rw [← hP3, ← hP2, ← hP1]; exact HE.out)
      clear h ih hP1 hP2 hP3 HE
      go_enter Try.func53, Try.ntmps53
      go_wp2_with fail
      refine wp_region_beyond (B := w.heap.size) (W := w) (Below.refl _ _) (by kernel_rfl) (by kernel_rfl) ?_
      repeat (go_big_quiet_step ((go_at_call 53; exact calls_beyond (Nat.le_refl _) (HG.out _ _ _ (by assumption) (by assumption)))))
      refine wpQuiet_nil ?_
      intro _ hw'
      obtain ⟨z, rfl⟩ := hw'
      have HZ := Lib.hid z.2
      generalize z.1 = wz at HZ ⊢
      clear d2 d3
      go_wp2
      go_ret
      exact ⟨by rw [← HR.out]; rfl, HZ.out⟩
    | alt x y =>
      rintro b lo hi w ⟨_, _, p, q, h, hx, hy⟩ hh
      simp only [trSz] at ht
      have h0 := h.c0
      have d2 := beyond_cell (B := w.heap.size) (W := w) h.c2 (by omega)
      have d3 := beyond_cell (B := w.heap.size) (W := w) h.c3 (by omega)
      have hszx : (tB x).size ≤ 200000000 := by rw [tB_size]; have := txt_len x; omega
      have hszy : (tB y).size ≤ 200000000 := by rw [tB_size]; have := txt_len y; omega
      have HG := Lib.hid (show ∀ (t' : Tr) (r : Nat) (z : Beyond w.heap.size w), TAt w lo hi t' r → trSz t' ≤ n → Calls Try.prog 53 #[.pointer (some ⟨r, 0, none⟩)] z.1 fun e w' => e = .returned (.string (tB t')) ∧ Below z.1.heap.size z.1 w' from
        fun t' r z h1 h2 => ih t' h2 r lo hi z.1 (h1.bel z.2 hh) (Nat.le_trans hh z.2.size))
      have hnx : trSz x ≤ n := by omega
      have hny : trSz y ≤ n := by omega
      have HE := Lib.hid (tB_alt x y)
      obtain ⟨P1, hP1⟩ : ∃ R, (⟨#[91]⟩ : ByteArray) ++ tB x = R := ⟨_, rfl⟩
      have s1 : P1.size ≤ 200000001 := by rw [← hP1, ByteArray.size_append]; show 1 + (tB x).size ≤ _; omega
      obtain ⟨P0, hP0⟩ : ∃ R, P1 ++ ⟨#[124]⟩ = R := ⟨_, rfl⟩
      have s0 : P0.size ≤ 200000002 := by rw [← hP0, ByteArray.size_append]; show P1.size + 1 ≤ _; omega
      obtain ⟨P2, hP2⟩ : ∃ R, P0 ++ tB y = R := ⟨_, rfl⟩
      have s2 : P2.size ≤ 400000002 := by rw [← hP2, ByteArray.size_append]; omega
      obtain ⟨P3, hP3⟩ : ∃ R, P2 ++ ⟨#[93]⟩ = R := ⟨_, rfl⟩
      have hcat1 : ∀ w, (Op.stringOp .add ⟨#[91]⟩ (tB x)).run Try.prog w = .ok (.string P1) w := fun w => hP1 ▸ run_string_add_sum w ⟨#[91]⟩ (tB x) (by show 1 + (tB x).size ≤ _; omega)
      have hcat0 : ∀ w, (Op.stringOp .add P1 ⟨#[124]⟩).run Try.prog w = .ok (.string P0) w := fun w => hP0 ▸ run_string_add_sum w P1 ⟨#[124]⟩ (by show P1.size + 1 ≤ _; omega)
      have hcat2 : ∀ w, (Op.stringOp .add P0 (tB y)).run Try.prog w = .ok (.string P2) w := fun w => hP2 ▸ run_string_add_sum w P0 (tB y) (by omega)
      have hcat3 : ∀ w, (Op.stringOp .add P2 ⟨#[93]⟩).run Try.prog w = .ok (.string P3) w := fun w => hP3 ▸ run_string_add_sum w P2 ⟨#[93]⟩ (by show P2.size + 1 ≤ _; omega)
      have HR := Lib.hid (show P3 = tB (.alt x y) by rw [← hP3, ← hP2, ← hP0, ← hP1]; exact HE.out)
      clear h ih hP1 hP0 hP2 hP3 HE
      go_enter Try.func53, Try.ntmps53
      go_wp2_with fail
      refine wp_region_beyond (B := w.heap.size) (W := w) (Below.refl _ _) (by kernel_rfl) (by kernel_rfl) ?_
      repeat (go_big_quiet_step ((go_at_call 53; exact calls_beyond (Nat.le_refl _) (HG.out _ _ _ (by assumption) (by assumption)))))
      refine wpQuiet_nil ?_
      intro _ hw'
      obtain ⟨z, rfl⟩ := hw'
      have HZ := Lib.hid z.2
      generalize z.1 = wz at HZ ⊢
      clear d2 d3
      go_wp2
      go_ret
      exact ⟨by rw [← HR.out]; rfl, HZ.out⟩
end Go.Proofs.Ytbcbhgbbbdmklaa
