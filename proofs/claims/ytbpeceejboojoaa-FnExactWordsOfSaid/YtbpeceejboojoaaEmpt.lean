/- Whether a tree matches nothing: the reference's and the program's walks. -/
import Derived.Test.YtbpeceejboojoaaTreeM
namespace Go.Proofs.Ytbpeceejboojoaa
set_option linter.unusedVariables false
set_option linter.unusedSimpArgs false
open Go.RowKit

set_option maxRecDepth 100000 in
set_option maxHeartbeats 4000000 in
theorem l5Empty_any (t : Tr) : ∀ (b lo hi : Nat) (w : World), TAt w lo hi t b → Calls Try.prog 40 #[.pointer (some ⟨b, 0, none⟩)] w fun e w' => e = .returned (.bool (nul t)) ∧ w = w' := by
  induction t with
  | none =>
    rintro b lo hi w ⟨_, _, h⟩
    have h0 := h.c0
    clear h
    go_enter Try.func40, Try.ntmps40
    go_wp2
    go_ret
    exact ⟨rfl, rfl⟩
  | empty =>
    rintro b lo hi w ⟨_, _, h⟩
    have h0 := h.c0
    clear h
    go_enter Try.func40, Try.ntmps40
    go_wp2
    go_ret
    exact ⟨rfl, rfl⟩
  | any =>
    rintro b lo hi w ⟨_, _, h⟩
    have h0 := h.c0
    clear h
    go_enter Try.func40, Try.ntmps40
    go_wp2
    go_ret
    exact ⟨rfl, rfl⟩
  | letter c =>
    rintro b lo hi w ⟨_, _, h⟩
    have h0 := h.c0
    clear h
    go_enter Try.func40, Try.ntmps40
    go_wp2
    go_ret
    exact ⟨rfl, rfl⟩
  | seq x y ihx ihy =>
    rintro b lo hi w ⟨_, _, p, q, h, hx, hy⟩
    have h0 := h.c0
    have h2 := h.c2
    have h3 := h.c3
    have HX := Lib.hid (ihx p lo hi w hx)
    have HY := Lib.hid (ihy q lo hi w hy)
    show Calls _ _ _ _ fun e w' => e = .returned (.bool (nul x && nul y)) ∧ w = w'
    clear h hx hy ihx ihy
    generalize nul x = a at HX ⊢
    generalize nul y = c at HY ⊢
    cases a with
    | false =>
      go_enter Try.func40, Try.ntmps40
      go_wp2_with fail
      refine HX.out.mono ?_
      rintro e w' ⟨rfl, rfl⟩
      go_wp2_with fail
      go_ret
      exact ⟨rfl, rfl⟩
    | true =>
      go_enter Try.func40, Try.ntmps40
      go_wp2_with fail
      refine HX.out.mono ?_
      rintro e w' ⟨rfl, rfl⟩
      go_wp2_with fail
      refine HY.out.mono ?_
      rintro e w' ⟨rfl, rfl⟩
      go_wp2_with fail
      go_ret
      exact ⟨rfl, rfl⟩
  | alt x y ihx ihy =>
    rintro b lo hi w ⟨_, _, p, q, h, hx, hy⟩
    have h0 := h.c0
    have h2 := h.c2
    have h3 := h.c3
    have HX := Lib.hid (ihx p lo hi w hx)
    have HY := Lib.hid (ihy q lo hi w hy)
    show Calls _ _ _ _ fun e w' => e = .returned (.bool (nul x || nul y)) ∧ w = w'
    clear h hx hy ihx ihy
    generalize nul x = a at HX ⊢
    generalize nul y = c at HY ⊢
    cases a with
    | true =>
      go_enter Try.func40, Try.ntmps40
      go_wp2_with fail
      refine HX.out.mono ?_
      rintro e w' ⟨rfl, rfl⟩
      go_wp2_with fail
      go_ret
      exact ⟨rfl, rfl⟩
    | false =>
      go_enter Try.func40, Try.ntmps40
      go_wp2_with fail
      refine HX.out.mono ?_
      rintro e w' ⟨rfl, rfl⟩
      go_wp2_with fail
      refine HY.out.mono ?_
      rintro e w' ⟨rfl, rfl⟩
      go_wp2_with fail
      go_ret
      exact ⟨rfl, rfl⟩
  | star x ih =>
    rintro b lo hi w ⟨_, _, p, h, hx⟩
    have h0 := h.c0
    clear h hx ih
    go_enter Try.func40, Try.ntmps40
    go_wp2
    go_ret
    exact ⟨rfl, rfl⟩
  | not_ x ih =>
    rintro b lo hi w ⟨_, _, p, h, hx⟩
    have h0 := h.c0
    have h2 := h.c2
    have HX := Lib.hid (ih p lo hi w hx)
    show Calls _ _ _ _ fun e w' => e = .returned (.bool (!nul x)) ∧ w = w'
    clear h hx ih
    generalize nul x = a at HX ⊢
    go_enter Try.func40, Try.ntmps40
    go_wp2_with fail
    refine HX.out.mono ?_
    rintro e w' ⟨rfl, rfl⟩
    go_wp2
    go_ret
    exact ⟨rfl, rfl⟩
end Go.Proofs.Ytbpeceejboojoaa
