/- PutAll of the reference and of the program, and the law. -/
import Derived.Test.YtmnbjolkenabjaaPutAll
namespace Go.Proofs.Ytmnbjolkenabjaa
set_option linter.unusedVariables false
set_option linter.unusedSimpArgs false
open Go.RowKit

def okPut (n : Nat) (zs : List Int) : Bool := decide (n ≤ 60) && allV zs
set_option maxHeartbeats 1000000 in
theorem sPutAll_any (B : Nat) (A : Option Addr) (n c : Nat) (zs : List Int) (w : World) (hBw : B ≤ w.heap.size) (h : Rd w B 1 A n (ints zs)) (hn : n ≤ 1048576) :
    Calls Try.prog 33 #[.slice A n c] w fun e w' => e = .returned (.tuple #[.string (if okPut n zs then ⟨(putL zs).toArray⟩ else ⟨#[]⟩), .bool (okPut n zs)]) ∧ Below w.heap.size w w' := by
  have H := Lib.hid h
  clear h
  by_cases h6 : n ≤ 60
  · have hd : okPut n zs = allV zs := by unfold okPut; simp [h6]
    rw [hd]
    clear hd
    have HG := Lib.hid (fun w h => l1AllV_any B A n c zs w h hn)
    by_cases hv : allV zs = true
    · have HP := Lib.hid (fun w hBw h => l1PutAll_any B A n c zs w hBw h hn hv)
      rw [hv] at HG ⊢
      clear hv
      go_enter Try.func33, Try.ntmps33
      go_wp2_with fail
      refine (HG.out _ H.out).mono ?_
      rintro e w' ⟨rfl, rfl⟩
      go_wp2_with fail
      refine (HP.out _ hBw H.out).mono ?_
      rintro e w1 ⟨rfl, hb⟩
      have HB := Lib.hid hb
      clear hb
      go_wp2
      go_ret2
      exact ⟨rfl, HB.out⟩
    · replace hv : allV zs = false := by simpa using hv
      rw [hv] at HG ⊢
      clear hv
      go_enter Try.func33, Try.ntmps33
      go_wp2_with fail
      refine (HG.out _ H.out).mono ?_
      rintro e w' ⟨rfl, rfl⟩
      go_wp2
      go_ret2
      exact ⟨rfl, Below.refl _ _⟩
  · have hd : okPut n zs = false := by unfold okPut; simp [h6]
    rw [hd]
    clear hd
    go_enter Try.func33, Try.ntmps33
    go_wp2
    go_ret2
    exact ⟨rfl, Below.refl _ _⟩
set_option maxHeartbeats 1000000 in
theorem iPutAll_any (B : Nat) (A : Option Addr) (n c : Nat) (zs : List Int) (w : World) (hBw : B ≤ w.heap.size) (h : Rd w B 1 A n (ints zs)) (hn : n ≤ 1048576) :
    Calls Try.prog 34 #[.slice A n c] w fun e w' => e = .returned (.tuple #[.string (if okPut n zs then ⟨(putL zs).toArray⟩ else ⟨#[]⟩), .bool (okPut n zs)]) ∧ Below w.heap.size w w' := by
  have H := Lib.hid h
  clear h
  by_cases h6 : n ≤ 60
  · have hd : okPut n zs = allV zs := by unfold okPut; simp [h6]
    rw [hd]
    clear hd
    have HG := Lib.hid (fun w h => areValues_any B A n c zs w h hn)
    by_cases hv : allV zs = true
    · have HP := Lib.hid (fun w hBw h => putAll_any B A n c zs w hBw h hn hv)
      rw [hv] at HG ⊢
      clear hv
      go_enter Try.func34, Try.ntmps34
      go_wp2_with fail
      refine (HG.out _ H.out).mono ?_
      rintro e w' ⟨rfl, rfl⟩
      go_wp2_with fail
      refine (HP.out _ hBw H.out).mono ?_
      rintro e w1 ⟨rfl, hb⟩
      have HB := Lib.hid hb
      clear hb
      go_wp2
      go_ret2
      exact ⟨rfl, HB.out⟩
    · replace hv : allV zs = false := by simpa using hv
      rw [hv] at HG ⊢
      clear hv
      go_enter Try.func34, Try.ntmps34
      go_wp2_with fail
      refine (HG.out _ H.out).mono ?_
      rintro e w' ⟨rfl, rfl⟩
      go_wp2
      go_ret2
      exact ⟨rfl, Below.refl _ _⟩
  · have hd : okPut n zs = false := by unfold okPut; simp [h6]
    rw [hd]
    clear hd
    go_enter Try.func34, Try.ntmps34
    go_wp2
    go_ret2
    exact ⟨rfl, Below.refl _ _⟩
theorem putAll_both (n : Nat) (zs : List Int) (hn : n ≤ 1048576) : ∃ (S : ByteArray) (K : Bool),
    (∀ B A c w, B ≤ w.heap.size → Rd w B 1 A n (ints zs) → Calls Try.prog 33 #[.slice A n c] w fun e w' => e = .returned (.tuple #[.string S, .bool K]) ∧ Below w.heap.size w w') ∧
    (∀ B A c w, B ≤ w.heap.size → Rd w B 1 A n (ints zs) → Calls Try.prog 34 #[.slice A n c] w fun e w' => e = .returned (.tuple #[.string S, .bool K]) ∧ Below w.heap.size w w') :=
  ⟨_, _, fun B A c w hB h => sPutAll_any B A n c zs w hB h hn, fun B A c w hB h => iPutAll_any B A n c zs w hB h hn⟩

set_option maxHeartbeats 1000000 in
theorem law_PutAll (A : Option Addr) (n c : Nat) (zs : List Int) (w : World) (h : Rd w w.heap.size 1 A n (ints zs)) :
    Calls Try.prog 12 #[.slice A n c] w fun e w' => e = .returned (.bool true) ∧ Below w.heap.size w w' := by
  have H := Lib.hid h
  clear h
  by_cases hn : n ≤ 1048576
  · obtain ⟨S, K, hS, hI⟩ := putAll_both n zs hn
    have HS := Lib.hid hS
    have HI := Lib.hid hI
    clear hS hI
    go_enter Try.func12, Try.ntmps12
    go_wp2_with fail
    refine (toIntS_any A n c zs _ H.out hn).mono ?_
    rintro e w1 ⟨rfl, ho1, hb1⟩
    have HO1 := Lib.hid ho1
    have HB1 := Lib.hid hb1
    clear ho1 hb1
    go_wp2_with fail
    refine (HS.out _ _ _ _ (Nat.le_refl _) (Rd.of_own HO1.out)).mono ?_
    rintro e w2 ⟨rfl, hb2⟩
    have HB2 := Lib.hid (HB1.out.trans (hb2.mono HB1.out.size))

    go_wp2_with fail
    refine (toIntS_any A n c zs _ ((H.out.below HB2.out).more HB2.out.size) hn).mono ?_
    rintro e w3 ⟨rfl, ho3, hb3⟩
    have HO3 := Lib.hid ho3
    have HB3 := Lib.hid hb3
    clear ho3 hb3
    go_wp2_with fail
    refine (HI.out _ _ _ _ (Nat.le_refl _) (Rd.of_own HO3.out)).mono ?_
    rintro e w4 ⟨rfl, hb4⟩
    have HB4 := Lib.hid ((HB2.out.trans (HB3.out.mono HB2.out.size)).trans (hb4.mono (HB2.out.trans (HB3.out.mono HB2.out.size)).size))
    have HO4 := Lib.hid (own_below HO3.out hb4 (Nat.le_refl _))
    clear hb4
    go_wp2_with fail
    refine (toIntS_any A n c zs _ ((H.out.below HB4.out).more HB4.out.size) hn).mono ?_
    rintro e w5 ⟨rfl, ho5, hb5⟩
    have HO5 := Lib.hid ho5
    have HB5 := Lib.hid hb5
    clear ho5 hb5
    go_wp2_with fail
    refine (eqIntS_same _ _ n n n _ zs _ (Rd.of_own (own_below HO4.out HB5.out (Nat.le_refl _))) (Rd.of_own HO5.out) hn).mono ?_
    rintro e w' ⟨rfl, q, rfl⟩
    go_wp2
    go_ret
    exact ⟨rfl, Below.drewN (HB4.out.trans (HB5.out.mono HB4.out.size)) q⟩
  · go_enter Try.func12, Try.ntmps12
    go_wp2
    go_ret
    exact ⟨rfl, Below.refl _ _⟩
end Go.Proofs.Ytmnbjolkenabjaa
