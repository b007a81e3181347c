/- The contracts of the tests that all numbers of a list are in range (spec.l1All, impl.areValues, slices.ContainsFunc and IndexFunc under it). -/
import Derived.Test.YtbemnhdadafnnaaInts
namespace Go.Proofs.Ytbemnhdadafnnaa
set_option linter.unusedVariables false
set_option linter.unusedSimpArgs false
open Go.RowKit

/-- The first place, from k on, whose element the test takes. -/
def firstAt {α : Type} (p : α → Bool) (l : List α) : Option Nat := l.findIdx? p
def idxI (o : Option Nat) : Int := match o with | none => -1 | some k => (k : Int)
theorem firstAt_hit {α : Type} {p : α → Bool} {l : List α} {k : Nat} {x : α} (hk : l[k]? = some x) (hx : p x = true) (h : ∀ j y, j < k → l[j]? = some y → p y = false) : firstAt p l = some k := by
  obtain ⟨hl, rfl⟩ := List.getElem?_eq_some_iff.1 hk
  unfold firstAt
  rw [List.findIdx?_eq_some_iff_getElem]
  exact ⟨hl, hx, fun j hj => by have := h j (l[j]'(by omega)) hj (List.getElem?_eq_getElem _); simp [this]⟩
theorem firstAt_none {α : Type} {p : α → Bool} {l : List α} (h : ∀ (j : Nat) (y : α), l[j]? = some y → p y = false) : firstAt p l = none := by
  unfold firstAt
  rw [List.findIdx?_eq_none_iff]
  intro x hx
  obtain ⟨j, hj, rfl⟩ := List.mem_iff_getElem.1 hx
  exact h j _ (List.getElem?_eq_getElem hj)
theorem firstAt_bd {α : Type} {p : α → Bool} {l : List α} {k : Nat} (h : firstAt p l = some k) : k < l.length := (List.findIdx?_eq_some_iff_getElem.1 h).1
theorem firstAt_any {α : Type} (p : α → Bool) (l : List α) : (firstAt p l).isSome = l.any p := by
  unfold firstAt; exact List.findIdx?_isSome
theorem idxI_ge (o : Option Nat) : decide (0 ≤ idxI o) = o.isSome := by cases o <;> simp [idxI]

def allV (zs : List Int) : Bool := zs.all isV

set_option maxHeartbeats 1000000 in
theorem l1All_any (B : Nat) (A : Option Addr) (n c : Nat) (zs : List Int) (lo hi : Int) (w : World) (h : Rd w B 1 A n (ints zs)) (hn : n ≤ 1048576) :
    Calls Try.prog 67 #[.slice A n c, .int .i64 lo, .int .i64 hi] w fun e w' => e = .returned (.bool (zs.all fun x => inB x lo hi)) ∧ w = w' := by
  have hlen := h.int_len
  have HL := Lib.hid hlen
  have H := Lib.hid h
  clear h hlen
  go_enter Try.func67, Try.ntmps67
  go_wp2
  go_loop [11] (fun i => ∃ k : Nat, k ≤ n ∧ i = .int .i64 k ∧ ∀ x ∈ zs.take k, inB x lo hi = true) (fun i => n - (intOf i).toNat)
  case atStart => exact ⟨0, Nat.zero_le _, rfl, by simp⟩
  case round =>
    obtain ⟨k, hk, rfl, hok⟩ := hrel
    have HK := Lib.hid hok
    clear hok
    by_cases hlt : k < n
    · obtain ⟨b, off, x, rfl, hB, hx, hc⟩ := H.out.int_at hlt
      have HX := Lib.hid hx
      clear hx
      by_cases hin : inB x lo hi = true
      · go_wp2_with (go_at_call 58; refine (l1In_any _ _ _ _).mono ?_; rintro e w' ⟨rfl, rfl⟩)
        go_round
        case rel =>
          refine ⟨k + 1, by omega, by go_num, fun y hy => ?_⟩
          rw [take_snoc' _ _ _ HX.out] at hy
          rcases List.mem_append.1 hy with hy | hy
          · exact HK.out y hy
          · rw [List.mem_singleton.1 hy]; exact hin
        case measure => simp [intOf]; omega
      · replace hin : inB x lo hi = false := by simpa using hin
        go_wp2_with (go_at_call 58; refine (l1In_any _ _ _ _).mono ?_; rintro e w' ⟨rfl, rfl⟩)
        go_ret
        refine ⟨retB ?_, rfl⟩
        exact (List.all_eq_false.2 ⟨x, List.mem_of_getElem? HX.out, by simp [hin]⟩).symm
    · go_wp2
      go_ret
      refine ⟨retB ?_, rfl⟩
      refine (List.all_eq_true.2 fun x hx => HK.out x ?_).symm
      rwa [List.take_of_length_le (by have := HL.out; omega)]
theorem l1AllV_any (B : Nat) (A : Option Addr) (n c : Nat) (zs : List Int) (w : World) (h : Rd w B 1 A n (ints zs)) (hn : n ≤ 1048576) :
    Calls Try.prog 67 #[.slice A n c, .int .i64 (-1000000000000), .int .i64 1000000000000] w fun e w' => e = .returned (.bool (allV zs)) ∧ w = w' := l1All_any B A n c zs _ _ w h hn


def notV (x : Int) : Bool := !isV x
theorem areValues_fn (x : Int) (w : World) : Calls Try.prog 64 #[.int .i64 x] w fun e w' => e = .returned (.bool (notV x)) ∧ w = w' := by
  go_enter Try.func64, Try.ntmps64
  go_wp2_with (go_at_call 65; refine (isValue_any _ _).mono ?_; rintro e w' ⟨rfl, rfl⟩)
  go_ret
  exact ⟨rfl, rfl⟩
set_option maxHeartbeats 1000000 in
theorem areValues_idx (B : Nat) (A : Option Addr) (n c : Nat) (zs : List Int) (w : World) (h : Rd w B 1 A n (ints zs)) (hn : n ≤ 1048576) :
    Calls Try.prog 73 #[.slice A n c, .func (.func 64) #[] #[]] w fun e w' => e = .returned (.int .i64 (idxI (firstAt notV zs))) ∧ w = w' := by
  have hlen := h.int_len
  have HL := Lib.hid hlen
  have H := Lib.hid h
  clear h hlen
  obtain ⟨R, hR⟩ : ∃ R, R = firstAt notV zs := ⟨_, rfl⟩
  have HR := Lib.hid hR
  rw [← hR]
  clear hR
  go_enter Try.func73, Try.ntmps73
  go_wp2
  go_loop [8] (fun i => ∃ k : Nat, k ≤ n ∧ i = .int .i64 k ∧ ∀ j y, j < k → zs[j]? = some y → notV y = false) (fun i => n - (intOf i).toNat)
  case atStart => exact ⟨0, Nat.zero_le _, rfl, fun j y hj => absurd hj (by omega)⟩
  case round =>
    obtain ⟨k, hk, rfl, hok⟩ := hrel
    have HK := Lib.hid hok
    clear hok
    by_cases hlt : k < n
    · obtain ⟨b, off, x, rfl, hB, hx, hc⟩ := H.out.int_at hlt
      have HX := Lib.hid hx
      clear hx
      have HC := Lib.hid (fun w => areValues_fn x w)
      generalize hp : notV x = p at HC
      have HP := Lib.hid hp
      clear hp
      cases p with
      | false =>
        go_wp2_with (go_at_call 64; refine (HC.out _).mono ?_; rintro e w' ⟨rfl, rfl⟩)
        go_round
        case rel =>
          refine ⟨k + 1, by omega, by go_num, fun j y hj hy => ?_⟩
          by_cases hjk : j < k
          · exact HK.out j y hjk hy
          · obtain rfl : j = k := by omega
            have := HX.out
            rw [hy] at this
            injection this with this
            rw [this]; exact HP.out
        case measure => simp [intOf]; omega
      | true =>
        have e : R = some k := HR.out.trans (firstAt_hit HX.out HP.out HK.out)
        subst e
        go_wp2_with (go_at_call 64; refine (HC.out _).mono ?_; rintro e w' ⟨rfl, rfl⟩)
        go_ret
        exact ⟨rfl, rfl⟩
    · have e : R = none := HR.out.trans (firstAt_none fun j y hy => HK.out j y (by have := (List.getElem?_eq_some_iff.1 hy).1; have := HL.out; omega) hy)
      subst e
      go_wp2
      go_ret
      exact ⟨rfl, rfl⟩
set_option maxHeartbeats 1000000 in
theorem areValues_contains (B : Nat) (A : Option Addr) (n c : Nat) (zs : List Int) (w : World) (h : Rd w B 1 A n (ints zs)) (hn : n ≤ 1048576) :
    Calls Try.prog 63 #[.slice A n c, .func (.func 64) #[] #[]] w fun e w' => e = .returned (.bool (zs.any notV)) ∧ w = w' := by
  have H := Lib.hid h
  clear h
  obtain ⟨R, hR⟩ : ∃ R, R = idxI (firstAt notV zs) := ⟨_, rfl⟩
  have HR := Lib.hid hR
  have HG := Lib.hid (show decide (0 ≤ R) = zs.any notV by rw [hR, idxI_ge, firstAt_any])
  clear hR
  go_enter Try.func63, Try.ntmps63
  go_wp2_with fail
  refine (areValues_idx B A n c zs _ H.out hn).mono ?_
  rintro e w' ⟨rfl, rfl⟩
  rw [← HR.out]
  go_wp2
  go_ret
  exact ⟨retB HG.out, rfl⟩
set_option maxHeartbeats 1000000 in
theorem areValues_any (B : Nat) (A : Option Addr) (n c : Nat) (zs : List Int) (w : World) (h : Rd w B 1 A n (ints zs)) (hn : n ≤ 1048576) :
    Calls Try.prog 46 #[.slice A n c] w fun e w' => e = .returned (.bool (allV zs)) ∧ w = w' := by
  have H := Lib.hid h
  clear h
  go_enter Try.func46, Try.ntmps46
  go_wp2_with fail
  refine (areValues_contains B A n c zs _ H.out hn).mono ?_
  rintro e w' ⟨rfl, rfl⟩
  go_wp2
  go_ret
  refine ⟨retB ?_, rfl⟩
  unfold allV notV
  rw [List.any_eq_not_all_not]
  simp
end Go.Proofs.Ytbemnhdadafnnaa
