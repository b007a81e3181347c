/- The law FnRing. Written by a program of mine (genring.py). -/
import Derived.Test.YtkpofdfikmcjgaaRingFacts
import Derived.Test.YtkpofdfikmcjgaaRingDraws
import Derived.Test.YtkpofdfikmcjgaaTokLaw
import Derived.Deep.DeepCutAuto
import Derived.Outline
import Derived.OwnWalk
namespace Go.Proofs.Ytkpofdfikmcjgaa
set_option linter.unusedVariables false
set_option linter.unusedSimpArgs false
open Go.RowKit

set_option maxRecDepth 200000 in
set_option maxHeartbeats 16000000 in
theorem law_FnRing (A : Option Addr) (n c : Nat) (l : List UInt8) (A' : Option Addr) (n' c' : Nat) (l' : List UInt8) (w : World) (h : Rd w w.heap.size 1 A n (bys l)) (hn : n ≤ 140737488355328) (h' : Rd w w.heap.size 1 A' n' (bys l')) (hn' : n' ≤ 140737488355328) :
    Calls Try.prog 10 #[.slice A n c, .slice A' n' c'] w fun e w' => e = .returned (.bool true) ∧ Below w.heap.size w w' := by
  have H := Lib.hid h
  have H' := Lib.hid h'
  clear h h'
  by_cases hs : n + n' ≤ 1048576
  · go_enter Try.func10, Try.ntmps10
    go_wp2_with fail
    refine (DrawAddOwner_any A n c l _ H.out (by omega)).mono ?_
    rintro e w1 ⟨_, rfl, ⟨Ar, cr, kr, lr, ow, Aa, ca, ka, za, rfl, hkr, hka, how0, how1, hor, hoa⟩, hb⟩
    have HB1 := Lib.hid hb
    have HRr := Lib.hid (Rd.of_own hor)
    have HRa := Lib.hid (Rd.of_own hoa)
    have HRt := Lib.hid ((H'.out.below hb).more hb.size)
    have hlr := (Rd.of_own hor).smp_len
    have hs1 := hb.size
    clear hb hor hoa
    have hXl := addL_len lr ow za
    have F := fun (e : okAdd lr ow za = true) => add_facts e
    obtain ⟨K, hK⟩ : ∃ K, okAdd lr ow za = K := ⟨_, rfl⟩
    obtain ⟨X, hX⟩ : ∃ K, addL lr ow za = K := ⟨_, rfl⟩
    rw [hK, hX] at F
    rw [hX] at hXl
    have HF := Lib.hid F
    have HK := Lib.hid hK
    have HX := Lib.hid hX
    have HLR := Lib.hid hlr
    clear hlr hK hX F
    have C := iAddOwner_any w1.heap.size Ar Aa kr cr ka ca lr ow za w1 (Nat.le_refl _) HRr.out (by omega) HRa.out (by omega)
    rw [HK.out] at C
    rw [HX.out] at C
    have HC := Lib.hid C
    clear C
    go_wp2_with fail
    refine HC.out.mono ?_
    rintro e w2 ⟨Ax, cx, rfl, hr, hc⟩
    have hb := hc.below0
    have hcapx := hr.cap_
    clear HC hc
    have HRqr := Lib.hid ((HRr.out.below hb).more hb.size)
    clear HRr
    have HRr := Lib.hid HRqr.out
    clear HRqr
    have HRqa := Lib.hid ((HRa.out.below hb).more hb.size)
    clear HRa
    have HRa := Lib.hid HRqa.out
    clear HRqa
    have HRqt := Lib.hid ((HRt.out.below hb).more hb.size)
    clear HRt
    have HRt := Lib.hid HRqt.out
    clear HRqt
    have HB2 := Lib.hid (HB1.out.trans (hb.mono HB1.out.size))
    clear HB1
    clear hb
    have HRx := Lib.hid hr.rd
    clear hr
    have C := sAddOwner_any w2.heap.size Ar Aa kr cr ka ca lr ow za w2 (Nat.le_refl _) HRr.out (by omega) HRa.out (by omega)
    rw [HK.out] at C
    rw [HX.out] at C
    have HC := Lib.hid C
    clear C
    go_wp2_with fail
    refine HC.out.mono ?_
    rintro e w3 ⟨Axx, cxx, rfl, hr, hc⟩
    have hb := hc.below0
    have hcapxx := hr.cap_
    clear HC hc
    have HRqr := Lib.hid ((HRr.out.below hb).more hb.size)
    clear HRr
    have HRr := Lib.hid HRqr.out
    clear HRqr
    have HRqa := Lib.hid ((HRa.out.below hb).more hb.size)
    clear HRa
    have HRa := Lib.hid HRqa.out
    clear HRqa
    have HRqt := Lib.hid ((HRt.out.below hb).more hb.size)
    clear HRt
    have HRt := Lib.hid HRqt.out
    clear HRqt
    have HRqx := Lib.hid ((HRx.out.below hb).more hb.size)
    clear HRx
    have HRx := Lib.hid HRqx.out
    clear HRqx
    have HB3 := Lib.hid (HB2.out.trans (hb.mono HB2.out.size))
    clear HB2
    clear hb
    have HRxx := Lib.hid hr.rd
    clear hr
    have C := sameRing_same w3.heap.size Ax Axx X.length cx cxx X w3 HRx.out HRxx.out (by omega)
    have HC := Lib.hid C
    clear C
    go_wp2_with fail
    refine HC.out.mono ?_
    rintro e w4 ⟨rfl, hb⟩
    clear HC
    have HRqr := Lib.hid ((HRr.out.below hb).more hb.size)
    clear HRr
    have HRr := Lib.hid HRqr.out
    clear HRqr
    have HRqa := Lib.hid ((HRa.out.below hb).more hb.size)
    clear HRa
    have HRa := Lib.hid HRqa.out
    clear HRqa
    have HRqt := Lib.hid ((HRt.out.below hb).more hb.size)
    clear HRt
    have HRt := Lib.hid HRqt.out
    clear HRqt
    have HRqx := Lib.hid ((HRx.out.below hb).more hb.size)
    clear HRx
    have HRx := Lib.hid HRqx.out
    clear HRqx
    have HRqxx := Lib.hid ((HRxx.out.below hb).more hb.size)
    clear HRxx
    have HRxx := Lib.hid HRqxx.out
    clear HRqxx
    have HB4 := Lib.hid (HB3.out.trans (hb.mono HB3.out.size))
    clear HB3
    clear hb
    obtain ⟨ga, hga⟩ : ∃ g, goodTok lr = g := ⟨_, rfl⟩
    have HGA := Lib.hid hga
    clear hga
    have C := iGoodRing_any w4.heap.size Ar kr cr lr w4 (Nat.le_refl _) HRr.out (by omega)
    rw [HGA.out] at C
    have HC := Lib.hid C
    clear C
    go_wp2_with fail
    refine HC.out.mono ?_
    rintro e w5 ⟨rfl, hb⟩
    clear HC
    have HRqr := Lib.hid ((HRr.out.below hb).more hb.size)
    clear HRr
    have HRr := Lib.hid HRqr.out
    clear HRqr
    have HRqa := Lib.hid ((HRa.out.below hb).more hb.size)
    clear HRa
    have HRa := Lib.hid HRqa.out
    clear HRqa
    have HRqt := Lib.hid ((HRt.out.below hb).more hb.size)
    clear HRt
    have HRt := Lib.hid HRqt.out
    clear HRqt
    have HRqx := Lib.hid ((HRx.out.below hb).more hb.size)
    clear HRx
    have HRx := Lib.hid HRqx.out
    clear HRqx
    have HRqxx := Lib.hid ((HRxx.out.below hb).more hb.size)
    clear HRxx
    have HRxx := Lib.hid HRqxx.out
    clear HRqxx
    have HB5 := Lib.hid (HB4.out.trans (hb.mono HB4.out.size))
    clear HB4
    clear hb
    have C := sGoodRing_any w5.heap.size Ar kr cr lr w5 (Nat.le_refl _) HRr.out (by omega)
    rw [HGA.out] at C
    have HC := Lib.hid C
    clear C
    go_wp2_with fail
    refine HC.out.mono ?_
    rintro e w6 ⟨rfl, hb⟩
    clear HC
    have HRqr := Lib.hid ((HRr.out.below hb).more hb.size)
    clear HRr
    have HRr := Lib.hid HRqr.out
    clear HRqr
    have HRqa := Lib.hid ((HRa.out.below hb).more hb.size)
    clear HRa
    have HRa := Lib.hid HRqa.out
    clear HRqa
    have HRqt := Lib.hid ((HRt.out.below hb).more hb.size)
    clear HRt
    have HRt := Lib.hid HRqt.out
    clear HRqt
    have HRqx := Lib.hid ((HRx.out.below hb).more hb.size)
    clear HRx
    have HRx := Lib.hid HRqx.out
    clear HRqx
    have HRqxx := Lib.hid ((HRxx.out.below hb).more hb.size)
    clear HRxx
    have HRxx := Lib.hid HRqxx.out
    clear HRqxx
    have HB6 := Lib.hid (HB5.out.trans (hb.mono HB5.out.size))
    clear HB5
    clear hb
    clear HRa HRxx
    go_upto_if 83 with fail
    go_cut [] (fun wx => Below w.heap.size w wx)
    case first =>
      cases K with
      | false =>
        go_wp2_with fail
        go_meet
        exact HB6.out
      | true =>
        go_wp2_with fail
        refine (numberOf_any w6.heap.size A' n' c' l' w6 HRt.out (by omega)).mono ?_
        rintro e w' ⟨⟨r0, hr0, rfl⟩, rfl⟩
        obtain ⟨f1, f2, f3, f4, f5⟩ := HF.out (by simp) ((r0 : Int) % 1009) (by omega) (by omega)
        obtain ⟨a1, ha1⟩ : ∃ q, ownV lr ((r0 : Int) % 1009) = q := ⟨_, rfl⟩
        obtain ⟨b1, hb1⟩ : ∃ q, ownV X ((r0 : Int) % 1009) = q := ⟨_, rfl⟩
        obtain ⟨k1, hk1⟩ : ∃ q, okOwn lr ((r0 : Int) % 1009) = q := ⟨_, rfl⟩
        rw [ha1, hb1, hk1] at f5
        have Hf1 := Lib.hid f1
        clear f1
        have Hf2 := Lib.hid f2
        clear f2
        have Hf3 := Lib.hid f3
        clear f3
        have Hf4 := Lib.hid f4
        clear f4
        have Hf5 := Lib.hid f5
        clear f5
        have Hha1 := Lib.hid ha1
        clear ha1
        have Hhb1 := Lib.hid hb1
        clear hb1
        have Hhk1 := Lib.hid hk1
        clear hk1
        have E0 := HLR.out
        have C := iOwnerOf_any w6.heap.size Ar kr cr lr ((r0 : Int) % 1009) w6 (Nat.le_refl _) HRr.out (by omega)
        rw [Hha1.out] at C
        rw [Hhk1.out] at C
        have HC := Lib.hid C
        clear C
        go_wp2_with fail
        refine HC.out.mono ?_
        rintro e w7 ⟨rfl, hb⟩
        clear HC
        have HRqr := Lib.hid ((HRr.out.below hb).more hb.size)
        clear HRr
        have HRr := Lib.hid HRqr.out
        clear HRqr
        have HRqx := Lib.hid ((HRx.out.below hb).more hb.size)
        clear HRx
        have HRx := Lib.hid HRqx.out
        clear HRqx
        have HRqt := Lib.hid ((HRt.out.below hb).more hb.size)
        clear HRt
        have HRt := Lib.hid HRqt.out
        clear HRqt
        have HB7 := Lib.hid (HB6.out.trans (hb.mono HB6.out.size))
        clear HB6
        clear hb
        have C := iOwnerOf_any w7.heap.size Ax X.length cx X ((r0 : Int) % 1009) w7 (Nat.le_refl _) HRx.out (by omega)
        rw [Hhb1.out] at C
        rw [Hf1.out] at C
        have HC := Lib.hid C
        clear C
        go_wp2_with fail
        refine HC.out.mono ?_
        rintro e w8 ⟨rfl, hb⟩
        clear HC
        have HRqr := Lib.hid ((HRr.out.below hb).more hb.size)
        clear HRr
        have HRr := Lib.hid HRqr.out
        clear HRqr
        have HRqx := Lib.hid ((HRx.out.below hb).more hb.size)
        clear HRx
        have HRx := Lib.hid HRqx.out
        clear HRqx
        have HRqt := Lib.hid ((HRt.out.below hb).more hb.size)
        clear HRt
        have HRt := Lib.hid HRqt.out
        clear HRqt
        have HB8 := Lib.hid (HB7.out.trans (hb.mono HB7.out.size))
        clear HB7
        clear hb
        have C := iDropOwner_any w8.heap.size Ax X.length cx X ow w8 (Nat.le_refl _) HRx.out (by omega)
        rw [Hf2.out] at C
        rw [Hf3.out] at C
        have HC := Lib.hid C
        clear C
        go_wp2_with fail
        refine HC.out.mono ?_
        rintro e w9 ⟨Ab, cb, rfl, hr, hc⟩
        have hb := hc.below0
        have hcapb := hr.cap_
        clear HC hc
        have HRqr := Lib.hid ((HRr.out.below hb).more hb.size)
        clear HRr
        have HRr := Lib.hid HRqr.out
        clear HRqr
        have HRqx := Lib.hid ((HRx.out.below hb).more hb.size)
        clear HRx
        have HRx := Lib.hid HRqx.out
        clear HRqx
        have HRqt := Lib.hid ((HRt.out.below hb).more hb.size)
        clear HRt
        have HRt := Lib.hid HRqt.out
        clear HRqt
        have HB9 := Lib.hid (HB8.out.trans (hb.mono HB8.out.size))
        clear HB8
        clear hb
        have HRb := Lib.hid hr.rd
        clear hr
        rw [E0] at hcapb HRb
        have hh : k1 = false ∨ (k1 = true ∧ (b1 = a1 ∨ b1 = ow)) := by
          cases k1 with
          | false => exact .inl rfl
          | true => exact .inr ⟨rfl, Hf5.out rfl⟩
        clear Hf5 Hha1 Hhb1 Hhk1
        rcases hh with rfl | ⟨rfl, rfl | rfl⟩
        ·
          have C := sameRing_same w9.heap.size Ab Ar kr cb cr lr w9 HRb.out HRr.out (by omega)
          have HC := Lib.hid C
          clear C
          go_wp2_with fail
          refine HC.out.mono ?_
          rintro e w10 ⟨rfl, hb⟩
          clear HC
          have HRqr := Lib.hid ((HRr.out.below hb).more hb.size)
          clear HRr
          have HRr := Lib.hid HRqr.out
          clear HRqr
          have HRqx := Lib.hid ((HRx.out.below hb).more hb.size)
          clear HRx
          have HRx := Lib.hid HRqx.out
          clear HRqx
          have HRqt := Lib.hid ((HRt.out.below hb).more hb.size)
          clear HRt
          have HRt := Lib.hid HRqt.out
          clear HRqt
          have HRqb := Lib.hid ((HRb.out.below hb).more hb.size)
          clear HRb
          have HRb := Lib.hid HRqb.out
          clear HRqb
          have HB10 := Lib.hid (HB9.out.trans (hb.mono HB9.out.size))
          clear HB9
          clear hb
          have C := iGoodRing_any w10.heap.size Ax X.length cx X w10 (Nat.le_refl _) HRx.out (by omega)
          rw [Hf4.out] at C
          have HC := Lib.hid C
          clear C
          go_wp2_with fail
          refine HC.out.mono ?_
          rintro e w11 ⟨rfl, hb⟩
          clear HC
          have HRqr := Lib.hid ((HRr.out.below hb).more hb.size)
          clear HRr
          have HRr := Lib.hid HRqr.out
          clear HRqr
          have HRqx := Lib.hid ((HRx.out.below hb).more hb.size)
          clear HRx
          have HRx := Lib.hid HRqx.out
          clear HRqx
          have HRqt := Lib.hid ((HRt.out.below hb).more hb.size)
          clear HRt
          have HRt := Lib.hid HRqt.out
          clear HRqt
          have HRqb := Lib.hid ((HRb.out.below hb).more hb.size)
          clear HRb
          have HRb := Lib.hid HRqb.out
          clear HRqb
          have HB11 := Lib.hid (HB10.out.trans (hb.mono HB10.out.size))
          clear HB10
          clear hb
          go_wp2_with fail
          go_meet
          exact HB11.out
        ·
          have C := sameRing_same w9.heap.size Ab Ar kr cb cr lr w9 HRb.out HRr.out (by omega)
          have HC := Lib.hid C
          clear C
          go_wp2_with fail
          refine HC.out.mono ?_
          rintro e w10 ⟨rfl, hb⟩
          clear HC
          have HRqr := Lib.hid ((HRr.out.below hb).more hb.size)
          clear HRr
          have HRr := Lib.hid HRqr.out
          clear HRqr
          have HRqx := Lib.hid ((HRx.out.below hb).more hb.size)
          clear HRx
          have HRx := Lib.hid HRqx.out
          clear HRqx
          have HRqt := Lib.hid ((HRt.out.below hb).more hb.size)
          clear HRt
          have HRt := Lib.hid HRqt.out
          clear HRqt
          have HRqb := Lib.hid ((HRb.out.below hb).more hb.size)
          clear HRb
          have HRb := Lib.hid HRqb.out
          clear HRqb
          have HB10 := Lib.hid (HB9.out.trans (hb.mono HB9.out.size))
          clear HB9
          clear hb
          have C := iGoodRing_any w10.heap.size Ax X.length cx X w10 (Nat.le_refl _) HRx.out (by omega)
          rw [Hf4.out] at C
          have HC := Lib.hid C
          clear C
          go_wp2_with fail
          refine HC.out.mono ?_
          rintro e w11 ⟨rfl, hb⟩
          clear HC
          have HRqr := Lib.hid ((HRr.out.below hb).more hb.size)
          clear HRr
          have HRr := Lib.hid HRqr.out
          clear HRqr
          have HRqx := Lib.hid ((HRx.out.below hb).more hb.size)
          clear HRx
          have HRx := Lib.hid HRqx.out
          clear HRqx
          have HRqt := Lib.hid ((HRt.out.below hb).more hb.size)
          clear HRt
          have HRt := Lib.hid HRqt.out
          clear HRqt
          have HRqb := Lib.hid ((HRb.out.below hb).more hb.size)
          clear HRb
          have HRb := Lib.hid HRqb.out
          clear HRqb
          have HB11 := Lib.hid (HB10.out.trans (hb.mono HB10.out.size))
          clear HB10
          clear hb
          go_wp2_with fail
          go_meet
          exact HB11.out
        ·
          by_cases hq : b1 = a1
          · subst hq
            have C := sameRing_same w9.heap.size Ab Ar kr cb cr lr w9 HRb.out HRr.out (by omega)
            have HC := Lib.hid C
            clear C
            go_wp2_with fail
            refine HC.out.mono ?_
            rintro e w10 ⟨rfl, hb⟩
            clear HC
            have HRqr := Lib.hid ((HRr.out.below hb).more hb.size)
            clear HRr
            have HRr := Lib.hid HRqr.out
            clear HRqr
            have HRqx := Lib.hid ((HRx.out.below hb).more hb.size)
            clear HRx
            have HRx := Lib.hid HRqx.out
            clear HRqx
            have HRqt := Lib.hid ((HRt.out.below hb).more hb.size)
            clear HRt
            have HRt := Lib.hid HRqt.out
            clear HRqt
            have HRqb := Lib.hid ((HRb.out.below hb).more hb.size)
            clear HRb
            have HRb := Lib.hid HRqb.out
            clear HRqb
            have HB10 := Lib.hid (HB9.out.trans (hb.mono HB9.out.size))
            clear HB9
            clear hb
            have C := iGoodRing_any w10.heap.size Ax X.length cx X w10 (Nat.le_refl _) HRx.out (by omega)
            rw [Hf4.out] at C
            have HC := Lib.hid C
            clear C
            go_wp2_with fail
            refine HC.out.mono ?_
            rintro e w11 ⟨rfl, hb⟩
            clear HC
            have HRqr := Lib.hid ((HRr.out.below hb).more hb.size)
            clear HRr
            have HRr := Lib.hid HRqr.out
            clear HRqr
            have HRqx := Lib.hid ((HRx.out.below hb).more hb.size)
            clear HRx
            have HRx := Lib.hid HRqx.out
            clear HRqx
            have HRqt := Lib.hid ((HRt.out.below hb).more hb.size)
            clear HRt
            have HRt := Lib.hid HRqt.out
            clear HRqt
            have HRqb := Lib.hid ((HRb.out.below hb).more hb.size)
            clear HRb
            have HRb := Lib.hid HRqb.out
            clear HRqb
            have HB11 := Lib.hid (HB10.out.trans (hb.mono HB10.out.size))
            clear HB10
            clear hb
            go_wp2_with fail
            go_meet
            exact HB11.out
          ·
            have C := sameRing_same w9.heap.size Ab Ar kr cb cr lr w9 HRb.out HRr.out (by omega)
            have HC := Lib.hid C
            clear C
            go_wp2_with fail
            refine HC.out.mono ?_
            rintro e w10 ⟨rfl, hb⟩
            clear HC
            have HRqr := Lib.hid ((HRr.out.below hb).more hb.size)
            clear HRr
            have HRr := Lib.hid HRqr.out
            clear HRqr
            have HRqx := Lib.hid ((HRx.out.below hb).more hb.size)
            clear HRx
            have HRx := Lib.hid HRqx.out
            clear HRqx
            have HRqt := Lib.hid ((HRt.out.below hb).more hb.size)
            clear HRt
            have HRt := Lib.hid HRqt.out
            clear HRqt
            have HRqb := Lib.hid ((HRb.out.below hb).more hb.size)
            clear HRb
            have HRb := Lib.hid HRqb.out
            clear HRqb
            have HB10 := Lib.hid (HB9.out.trans (hb.mono HB9.out.size))
            clear HB9
            clear hb
            have C := iGoodRing_any w10.heap.size Ax X.length cx X w10 (Nat.le_refl _) HRx.out (by omega)
            rw [Hf4.out] at C
            have HC := Lib.hid C
            clear C
            go_wp2_with fail
            refine HC.out.mono ?_
            rintro e w11 ⟨rfl, hb⟩
            clear HC
            have HRqr := Lib.hid ((HRr.out.below hb).more hb.size)
            clear HRr
            have HRr := Lib.hid HRqr.out
            clear HRqr
            have HRqx := Lib.hid ((HRx.out.below hb).more hb.size)
            clear HRx
            have HRx := Lib.hid HRqx.out
            clear HRqx
            have HRqt := Lib.hid ((HRt.out.below hb).more hb.size)
            clear HRt
            have HRt := Lib.hid HRqt.out
            clear HRqt
            have HRqb := Lib.hid ((HRb.out.below hb).more hb.size)
            clear HRb
            have HRb := Lib.hid HRqb.out
            clear HRqb
            have HB11 := Lib.hid (HB10.out.trans (hb.mono HB10.out.size))
            clear HB10
            clear hb
            go_wp2_with fail
            go_meet
            exact HB11.out
    case rest =>
      have HC := Lib.hid hcut
      have hcs := hcut.size
      have HD := Lib.hid ((H'.out.below hcut).more hcut.size)
      clear hcut HB6 HRr HRx HRt HF HK HX HLR HGA
      go_wp2_with fail
      refine (DrawOwnerOf_any A' n' c' l' _ HD.out (by omega)).mono ?_
      rintro e y1 ⟨_, rfl, ⟨Ay, cy, ky, ly, vy, rfl, hky, hoy⟩, hb⟩
      have HB1 := Lib.hid (HC.out.trans (hb.mono hcs))
      have HRy := Lib.hid (Rd.of_own hoy)
      have HRt := Lib.hid ((HD.out.below hb).more hb.size)
      clear hb hoy HD HC
      obtain ⟨py, hpy⟩ : ∃ q, ownV ly vy = q := ⟨_, rfl⟩
      obtain ⟨ey, hey⟩ : ∃ q, okOwn ly vy = q := ⟨_, rfl⟩
      have Hpy := Lib.hid hpy
      have Hey := Lib.hid hey
      clear hpy hey
      have C := iOwnerOf_any y1.heap.size Ay ky cy ly vy y1 (Nat.le_refl _) HRy.out (by omega)
      rw [Hpy.out] at C
      rw [Hey.out] at C
      have HC := Lib.hid C
      clear C
      go_wp2_with fail
      refine HC.out.mono ?_
      rintro e w2 ⟨rfl, hb⟩
      clear HC
      have HRqy := Lib.hid ((HRy.out.below hb).more hb.size)
      clear HRy
      have HRy := Lib.hid HRqy.out
      clear HRqy
      have HRqt := Lib.hid ((HRt.out.below hb).more hb.size)
      clear HRt
      have HRt := Lib.hid HRqt.out
      clear HRqt
      have HB2 := Lib.hid (HB1.out.trans (hb.mono HB1.out.size))
      clear HB1
      clear hb
      have C := sOwnerOf_any w2.heap.size Ay ky cy ly vy w2 (Nat.le_refl _) HRy.out (by omega)
      rw [Hpy.out] at C
      rw [Hey.out] at C
      have HC := Lib.hid C
      clear C
      go_wp2_with fail
      refine HC.out.mono ?_
      rintro e w3 ⟨rfl, hb⟩
      clear HC
      have HRqy := Lib.hid ((HRy.out.below hb).more hb.size)
      clear HRy
      have HRy := Lib.hid HRqy.out
      clear HRqy
      have HRqt := Lib.hid ((HRt.out.below hb).more hb.size)
      clear HRt
      have HRt := Lib.hid HRqt.out
      clear HRqt
      have HB3 := Lib.hid (HB2.out.trans (hb.mono HB2.out.size))
      clear HB2
      clear hb
      clear HRy
      go_wp2_with fail
      refine (DrawOwnersOf_any A' n' c' l' _ HRt.out (by omega)).mono ?_
      rintro e w4 ⟨_, rfl, ⟨Az, cz, kz, lz, vz, mz, rfl, hkz, hoz, hmz0, hmz1⟩, hb⟩
      have HRqt := Lib.hid ((HRt.out.below hb).more hb.size)
      clear HRt
      have HRt := Lib.hid HRqt.out
      clear HRqt
      have HB4 := Lib.hid (HB3.out.trans (hb.mono HB3.out.size))
      clear HB3
      clear hb
      have HRz := Lib.hid (Rd.of_own hoz)
      clear hoz
      have MF := fun (e : okMany lz vz mz = true) => many_facts e
      have hMl : (manyL lz vz mz).length ≤ 5 := by
        unfold manyL
        split
        · rw [List.length_take]; omega
        · simp
      obtain ⟨M, hM⟩ : ∃ q, manyL lz vz mz = q := ⟨_, rfl⟩
      obtain ⟨KM, hKM⟩ : ∃ q, okMany lz vz mz = q := ⟨_, rfl⟩
      rw [hM, hKM] at MF
      rw [hM] at hMl
      have HMF := Lib.hid MF
      clear MF
      have HhM := Lib.hid hM
      clear hM
      have HhKM := Lib.hid hKM
      clear hKM
      have C := iOwnersOf_any w4.heap.size Az kz cz lz vz mz w4 (Nat.le_refl _) HRz.out (by omega)
      rw [HhM.out] at C
      rw [HhKM.out] at C
      have HC := Lib.hid C
      clear C
      go_wp2_with fail
      refine HC.out.mono ?_
      rintro e w5 ⟨Am, cm, rfl, hr, hc⟩
      have hb := hc.below0
      have hcapm := hr.cap_
      clear HC hc
      have HRqt := Lib.hid ((HRt.out.below hb).more hb.size)
      clear HRt
      have HRt := Lib.hid HRqt.out
      clear HRqt
      have HRqz := Lib.hid ((HRz.out.below hb).more hb.size)
      clear HRz
      have HRz := Lib.hid HRqz.out
      clear HRqz
      have HB5 := Lib.hid (HB4.out.trans (hb.mono HB4.out.size))
      clear HB4
      clear hb
      have HRm := Lib.hid hr.rd
      clear hr
      have C := sOwnersOf_any w5.heap.size Az kz cz lz vz mz w5 (Nat.le_refl _) HRz.out (by omega)
      rw [HhM.out] at C
      rw [HhKM.out] at C
      have HC := Lib.hid C
      clear C
      go_wp2_with fail
      refine HC.out.mono ?_
      rintro e w6 ⟨Amm, cmm, rfl, hr, hc⟩
      have hb := hc.below0
      have hcapmm := hr.cap_
      clear HC hc
      have HRqt := Lib.hid ((HRt.out.below hb).more hb.size)
      clear HRt
      have HRt := Lib.hid HRqt.out
      clear HRqt
      have HRqz := Lib.hid ((HRz.out.below hb).more hb.size)
      clear HRz
      have HRz := Lib.hid HRqz.out
      clear HRqz
      have HRqm := Lib.hid ((HRm.out.below hb).more hb.size)
      clear HRm
      have HRm := Lib.hid HRqm.out
      clear HRqm
      have HB6 := Lib.hid (HB5.out.trans (hb.mono HB5.out.size))
      clear HB5
      clear hb
      have HRmm := Lib.hid hr.rd
      clear hr
      go_wp2_with fail
      refine (DrawDropOwner_any A' n' c' l' _ HRt.out (by omega)).mono ?_
      rintro e w7 ⟨_, rfl, ⟨Ad, cd, kd, ld, vd, rfl, hkd, hod⟩, hb⟩
      have HRqt := Lib.hid ((HRt.out.below hb).more hb.size)
      clear HRt
      have HRt := Lib.hid HRqt.out
      clear HRqt
      have HRqz := Lib.hid ((HRz.out.below hb).more hb.size)
      clear HRz
      have HRz := Lib.hid HRqz.out
      clear HRqz
      have HRqm := Lib.hid ((HRm.out.below hb).more hb.size)
      clear HRm
      have HRm := Lib.hid HRqm.out
      clear HRqm
      have HRqmm := Lib.hid ((HRmm.out.below hb).more hb.size)
      clear HRmm
      have HRmm := Lib.hid HRqmm.out
      clear HRqmm
      have HB7 := Lib.hid (HB6.out.trans (hb.mono HB6.out.size))
      clear HB6
      clear hb
      have HRd := Lib.hid (Rd.of_own hod)
      clear hod
      have hDl : (dropL ld vd).length ≤ 1048576 := by
        have := HRd.out.smp_len
        unfold dropL
        split
        · exact Nat.le_trans (List.length_filter_le ..) (by omega)
        · simp
      obtain ⟨D, hD⟩ : ∃ q, dropL ld vd = q := ⟨_, rfl⟩
      obtain ⟨KD, hKD⟩ : ∃ q, okDrop ld vd = q := ⟨_, rfl⟩
      rw [hD] at hDl
      have HhD := Lib.hid hD
      clear hD
      have HhKD := Lib.hid hKD
      clear hKD
      have C := iDropOwner_any w7.heap.size Ad kd cd ld vd w7 (Nat.le_refl _) HRd.out (by omega)
      rw [HhD.out] at C
      rw [HhKD.out] at C
      have HC := Lib.hid C
      clear C
      go_wp2_with fail
      refine HC.out.mono ?_
      rintro e w8 ⟨Ae, ce, rfl, hr, hc⟩
      have hb := hc.below0
      have hcape := hr.cap_
      clear HC hc
      have HRqt := Lib.hid ((HRt.out.below hb).more hb.size)
      clear HRt
      have HRt := Lib.hid HRqt.out
      clear HRqt
      have HRqz := Lib.hid ((HRz.out.below hb).more hb.size)
      clear HRz
      have HRz := Lib.hid HRqz.out
      clear HRqz
      have HRqm := Lib.hid ((HRm.out.below hb).more hb.size)
      clear HRm
      have HRm := Lib.hid HRqm.out
      clear HRqm
      have HRqmm := Lib.hid ((HRmm.out.below hb).more hb.size)
      clear HRmm
      have HRmm := Lib.hid HRqmm.out
      clear HRqmm
      have HRqd := Lib.hid ((HRd.out.below hb).more hb.size)
      clear HRd
      have HRd := Lib.hid HRqd.out
      clear HRqd
      have HB8 := Lib.hid (HB7.out.trans (hb.mono HB7.out.size))
      clear HB7
      clear hb
      have HRe := Lib.hid hr.rd
      clear hr
      have C := sDropOwner_any w8.heap.size Ad kd cd ld vd w8 (Nat.le_refl _) HRd.out (by omega)
      rw [HhD.out] at C
      rw [HhKD.out] at C
      have HC := Lib.hid C
      clear C
      go_wp2_with fail
      refine HC.out.mono ?_
      rintro e w9 ⟨Aee, cee, rfl, hr, hc⟩
      have hb := hc.below0
      have hcapee := hr.cap_
      clear HC hc
      have HRqt := Lib.hid ((HRt.out.below hb).more hb.size)
      clear HRt
      have HRt := Lib.hid HRqt.out
      clear HRqt
      have HRqz := Lib.hid ((HRz.out.below hb).more hb.size)
      clear HRz
      have HRz := Lib.hid HRqz.out
      clear HRqz
      have HRqm := Lib.hid ((HRm.out.below hb).more hb.size)
      clear HRm
      have HRm := Lib.hid HRqm.out
      clear HRqm
      have HRqmm := Lib.hid ((HRmm.out.below hb).more hb.size)
      clear HRmm
      have HRmm := Lib.hid HRqmm.out
      clear HRqmm
      have HRqd := Lib.hid ((HRd.out.below hb).more hb.size)
      clear HRd
      have HRd := Lib.hid HRqd.out
      clear HRqd
      have HRqe := Lib.hid ((HRe.out.below hb).more hb.size)
      clear HRe
      have HRe := Lib.hid HRqe.out
      clear HRqe
      have HB9 := Lib.hid (HB8.out.trans (hb.mono HB8.out.size))
      clear HB8
      clear hb
      have HRee := Lib.hid hr.rd
      clear hr
      have C := sameInts_same w9.heap.size Am Amm M.length cm cmm M w9 HRm.out HRmm.out (by omega)
      have HC := Lib.hid C
      clear C
      go_wp2_with fail
      refine HC.out.mono ?_
      rintro e w10 ⟨rfl, hb⟩
      clear HC
      have HRqt := Lib.hid ((HRt.out.below hb).more hb.size)
      clear HRt
      have HRt := Lib.hid HRqt.out
      clear HRqt
      have HRqz := Lib.hid ((HRz.out.below hb).more hb.size)
      clear HRz
      have HRz := Lib.hid HRqz.out
      clear HRqz
      have HRqm := Lib.hid ((HRm.out.below hb).more hb.size)
      clear HRm
      have HRm := Lib.hid HRqm.out
      clear HRqm
      have HRqmm := Lib.hid ((HRmm.out.below hb).more hb.size)
      clear HRmm
      have HRmm := Lib.hid HRqmm.out
      clear HRqmm
      have HRqd := Lib.hid ((HRd.out.below hb).more hb.size)
      clear HRd
      have HRd := Lib.hid HRqd.out
      clear HRqd
      have HRqe := Lib.hid ((HRe.out.below hb).more hb.size)
      clear HRe
      have HRe := Lib.hid HRqe.out
      clear HRqe
      have HRqee := Lib.hid ((HRee.out.below hb).more hb.size)
      clear HRee
      have HRee := Lib.hid HRqee.out
      clear HRqee
      have HB10 := Lib.hid (HB9.out.trans (hb.mono HB9.out.size))
      clear HB9
      clear hb
      have C := sameRing_same w10.heap.size Ae Aee D.length ce cee D w10 HRe.out HRee.out (by omega)
      have HC := Lib.hid C
      clear C
      go_wp2_with fail
      refine HC.out.mono ?_
      rintro e w11 ⟨rfl, hb⟩
      clear HC
      have HRqt := Lib.hid ((HRt.out.below hb).more hb.size)
      clear HRt
      have HRt := Lib.hid HRqt.out
      clear HRqt
      have HRqz := Lib.hid ((HRz.out.below hb).more hb.size)
      clear HRz
      have HRz := Lib.hid HRqz.out
      clear HRqz
      have HRqm := Lib.hid ((HRm.out.below hb).more hb.size)
      clear HRm
      have HRm := Lib.hid HRqm.out
      clear HRqm
      have HRqmm := Lib.hid ((HRmm.out.below hb).more hb.size)
      clear HRmm
      have HRmm := Lib.hid HRqmm.out
      clear HRqmm
      have HRqd := Lib.hid ((HRd.out.below hb).more hb.size)
      clear HRd
      have HRd := Lib.hid HRqd.out
      clear HRqd
      have HRqe := Lib.hid ((HRe.out.below hb).more hb.size)
      clear HRe
      have HRe := Lib.hid HRqe.out
      clear HRqe
      have HRqee := Lib.hid ((HRee.out.below hb).more hb.size)
      clear HRee
      have HRee := Lib.hid HRqee.out
      clear HRqee
      have HB11 := Lib.hid (HB10.out.trans (hb.mono HB10.out.size))
      clear HB10
      clear hb
      clear HRt HRmm HRd HRe HRee
      cases KM with
      | false =>
        go_wp2
        go_ret
        exact ⟨rfl, HB11.out⟩
      | true =>
        obtain ⟨m1, m2, m3, m4, m5⟩ := HMF.out rfl
        obtain ⟨pz, hpz⟩ : ∃ q, ownV lz vz = q := ⟨_, rfl⟩
        rw [hpz] at m4
        have Hm1 := Lib.hid m1
        clear m1
        have Hm4 := Lib.hid m4
        clear m4
        have Hm5 := Lib.hid m5
        clear m5
        have Hhpz := Lib.hid hpz
        clear hpz
        obtain ⟨b0, off, x0, rfl, hB0, hx0, hc0⟩ := HRm.out.int_at (k := 0) m3
        clear hx0 hc0
        have C := iOwnerOf_any w11.heap.size Az kz cz lz vz w11 (Nat.le_refl _) HRz.out (by omega)
        rw [Hhpz.out] at C
        rw [Hm1.out] at C
        have HC := Lib.hid C
        clear C
        go_wp2_with fail
        refine HC.out.mono ?_
        rintro e w12 ⟨rfl, hb⟩
        clear HC
        have HRqz := Lib.hid ((HRz.out.below hb).more hb.size)
        clear HRz
        have HRz := Lib.hid HRqz.out
        clear HRqz
        have HRqm := Lib.hid ((HRm.out.below hb).more hb.size)
        clear HRm
        have HRm := Lib.hid HRqm.out
        clear HRqm
        have HB12 := Lib.hid (HB11.out.trans (hb.mono HB11.out.size))
        clear HB11
        clear hb
        obtain ⟨b0', off', x0, he, hB0', hx0, hc0⟩ := HRm.out.int_at (k := 0) m3
        obtain ⟨rfl, rfl⟩ : b0 = b0' ∧ off = off' := by simpa using he
        obtain rfl : pz = x0 := by rw [Hm4.out] at hx0; injection hx0
        have HC0 := Lib.hid hc0
        clear hx0 he hc0
        have hc00 : w12.cell? ⟨b0, off, none⟩ = some (.int .i64 pz) := HC0.out
        go_wp2_with fail
        go_loopw [243] (fun i wr => ∃ k q : Nat, k ≤ M.length ∧ i = .int .i64 k ∧ wr = w12.drewN q) (fun i _ => M.length - (intOf i).toNat)
        case atStart => exact ⟨0, 0, Nat.zero_le _, rfl, rfl⟩
        case round =>
          obtain ⟨k, q, hk, rfl, rfl⟩ := hrel
          by_cases hlt : k < M.length
          · obtain ⟨b1, off1, x, he, hB1, hx, hcx⟩ := HRm.out.int_at hlt
            obtain ⟨rfl, rfl⟩ : b0 = b1 ∧ off = off1 := by simpa using he
            have hnot : x ∉ M.take k := by
              intro hm
              obtain ⟨j, hj, hj2⟩ := List.mem_iff_getElem.1 hm
              rw [List.length_take] at hj
              rw [List.getElem_take] at hj2
              have hnd := List.pairwise_iff_getElem.1 Hm5.out j k (by omega) hlt (by omega)
              rw [List.getElem?_eq_getElem hlt] at hx
              injection hx with hx
              exact hnd (hj2.trans hx.symm)
            have HN := Lib.hid hnot
            have hkc : k ≤ cm := by omega
            have hkc2 : (k : Int) ≤ (cm : Int) := by omega
            have hkc3 : k ≤ M.length := hk
            have HP := Lib.hid (show Rd w12 w12.heap.size 1 (some ⟨b0, off, none⟩) k (ints (M.take k)) by have := HRm.out.pre (k := k) hk; rw [Nat.mul_one, ints_take] at this; exact this)
            clear hx he hnot hc00
            go_wp2_with fail
            go_quiet ((go_at_call 48; refine (has_not w12.heap.size _ k _ (M.take k) x _ (Rd.drewN HP.out _) (by omega) HN.out).mono ?_; rintro e w' ⟨rfl, rfl⟩; exact ⟨rfl, _, rfl⟩))
            go_wp2_with fail
            go_roundw
            case rel => exact ⟨k + 1, q + nq, by omega, by go_num, rfl⟩
            case measure => simp [intOf]; omega
          · go_wp2
            go_ret
            exact ⟨rfl, Below.drewN HB12.out _⟩
  · go_enter Try.func10, Try.ntmps10
    go_wp2
    go_ret
    exact ⟨rfl, Below.refl _ _⟩
end Go.Proofs.Ytkpofdfikmcjgaa
