/- PutAll of the reference and of the program, and the law. -/
import Derived.Test.YtdmcfllmhjdleaaPutAll
namespace Go.Proofs.Ytdmcfllmhjdleaa
set_option linter.unusedVariables false
set_option linter.unusedSimpArgs false
open Go.RowKit

def okPut (n : Nat) (zs : List Int) : Bool := decide (n ≤ 60) && allV zs
set_option maxHeartbeats 1000000 in
theorem sPutAll_any (B : Nat) (A : Option Addr) (n c : Nat) (zs : List Int) (w : World) (hBw : B ≤ w.heap.size) (h : Rd w B 1 A n (ints zs)) (hn : n ≤ 1048576) :
    Calls Try.prog 56 #[.slice A n c] w fun e w' => e = .returned (.tuple #[.string (if okPut n zs then ⟨(putL zs).toArray⟩ else ⟨#[]⟩), .bool (okPut n zs)]) ∧ Below w.heap.size w w' := by
  have H := Lib.hid h
  clear h
  by_cases h6 : n ≤ 60
  · have hd : okPut n zs = allV zs := by unfold okPut; simp [h6]
    rw [hd]
    clear hd
    have HG := Lib.hid (fun w h => l1AllV_any B A n c zs w h hn)
    by_cases hv : allV zs = true
    · have HP := Lib.hid (fun w hBw h => l1PutAll_any B A n c zs w hBw h hn hv)
      rw [hv] at HG ⊢
      clear hv
      go_enter Try.func56, Try.ntmps56
      go_wp2_with fail
      refine (HG.out _ H.out).mono ?_
      rintro e w' ⟨rfl, rfl⟩
      go_wp2_with fail
      refine (HP.out _ hBw H.out).mono ?_
      rintro e w1 ⟨rfl, hb⟩
      have HB := Lib.hid hb
      clear hb
      go_wp2
      go_ret2
      exact ⟨rfl, HB.out⟩
    · replace hv : allV zs = false := by simpa using hv
      rw [hv] at HG ⊢
      clear hv
      go_enter Try.func56, Try.ntmps56
      go_wp2_with fail
      refine (HG.out _ H.out).mono ?_
      rintro e w' ⟨rfl, rfl⟩
      go_wp2
      go_ret2
      exact ⟨rfl, Below.refl _ _⟩
  · have hd : okPut n zs = false := by unfold okPut; simp [h6]
    rw [hd]
    clear hd
    go_enter Try.func56, Try.ntmps56
    go_wp2
    go_ret2
    exact ⟨rfl, Below.refl _ _⟩
set_option maxHeartbeats 1000000 in
theorem iPutAll_any (B : Nat) (A : Option Addr) (n c : Nat) (zs : List Int) (w : World) (hBw : B ≤ w.heap.size) (h : Rd w B 1 A n (ints zs)) (hn : n ≤ 1048576) :
    Calls Try.prog 55 #[.slice A n c] w fun e w' => e = .returned (.tuple #[.string (if okPut n zs then ⟨(putL zs).toArray⟩ else ⟨#[]⟩), .bool (okPut n zs)]) ∧ Below w.heap.size w w' := by
  have H := Lib.hid h
  clear h
  by_cases h6 : n ≤ 60
  · have hd : okPut n zs = allV zs := by unfold okPut; simp [h6]
    rw [hd]
    clear hd
    have HG := Lib.hid (fun w h => areValues_any B A n c zs w h hn)
    by_cases hv : allV zs = true
    · have HP := Lib.hid (fun w hBw h => putAll_any B A n c zs w hBw h hn hv)
      rw [hv] at HG ⊢
      clear hv
      go_enter Try.func55, Try.ntmps55
      go_wp2_with fail
      refine (HG.out _ H.out).mono ?_
      rintro e w' ⟨rfl, rfl⟩
      go_wp2_with fail
      refine (HP.out _ hBw H.out).mono ?_
      rintro e w1 ⟨rfl, hb⟩
      have HB := Lib.hid hb
      clear hb
      go_wp2
      go_ret2
      exact ⟨rfl, HB.out⟩
    · replace hv : allV zs = false := by simpa using hv
      rw [hv] at HG ⊢
      clear hv
      go_enter Try.func55, Try.ntmps55
      go_wp2_with fail
      refine (HG.out _ H.out).mono ?_
      rintro e w' ⟨rfl, rfl⟩
      go_wp2
      go_ret2
      exact ⟨rfl, Below.refl _ _⟩
  · have hd : okPut n zs = false := by unfold okPut; simp [h6]
    rw [hd]
    clear hd
    go_enter Try.func55, Try.ntmps55
    go_wp2
    go_ret2
    exact ⟨rfl, Below.refl _ _⟩
theorem putAll_both (n : Nat) (zs : List Int) (hn : n ≤ 1048576) : ∃ (S : ByteArray) (K : Bool),
    (∀ B A c w, B ≤ w.heap.size → Rd w B 1 A n (ints zs) → Calls Try.prog 56 #[.slice A n c] w fun e w' => e = .returned (.tuple #[.string S, .bool K]) ∧ Below w.heap.size w w') ∧
    (∀ B A c w, B ≤ w.heap.size → Rd w B 1 A n (ints zs) → Calls Try.prog 55 #[.slice A n c] w fun e w' => e = .returned (.tuple #[.string S, .bool K]) ∧ Below w.heap.size w w') :=
  ⟨_, _, fun B A c w hB h => sPutAll_any B A n c zs w hB h hn, fun B A c w hB h => iPutAll_any B A n c zs w hB h hn⟩

end Go.Proofs.Ytdmcfllmhjdleaa
