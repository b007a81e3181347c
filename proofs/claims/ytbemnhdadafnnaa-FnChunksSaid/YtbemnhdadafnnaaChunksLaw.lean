/- The law FnChunks. Written by a program of mine (genchunks.py). -/
import Derived.Test.YtbemnhdadafnnaaDrawChunk2
import Derived.Test.YtbemnhdadafnnaaDrawDel
import Derived.Test.YtbemnhdadafnnaaSmpFns
import Derived.Test.YtbemnhdadafnnaaSmpLaw
import Derived.Test.YtbemnhdadafnnaaDecLaw
import Derived.Test.YtbemnhdadafnnaaChunkFacts
import Derived.Test.YtbemnhdadafnnaaDeltas
import Derived.Test.YtbemnhdadafnnaaSame
import Derived.Deep.DeepCutAuto
import Derived.Outline
import Derived.OwnWalk
namespace Go.Proofs.Ytbemnhdadafnnaa
set_option linter.unusedVariables false
set_option linter.unusedSimpArgs false
open Go.RowKit

def dlK (n : Nat) (zs : List Int) : Bool := few n zs && allV (deltas 0 zs)
def dlR (n : Nat) (zs : List Int) : List Int := if dlK n zs then deltas 0 zs else []
theorem dlR_len {n : Nat} {zs : List Int} (h : zs.length = n) : (dlR n zs).length = (if dlK n zs then n else 0) := by
  unfold dlR
  split
  · rw [deltas_len, h]
  · rfl
theorem dlR_le {n : Nat} {zs : List Int} (h : zs.length = n) : (dlR n zs).length ≤ n := by
  rw [dlR_len h]; split <;> omega
theorem dlR_ints (n : Nat) (zs : List Int) : (if dlK n zs then ints (deltas 0 zs) else []) = ints (dlR n zs) := by
  unfold dlR
  split <;> rfl
def smK (n : Nat) (zs : List Int) : Bool := few n zs && allV (sums 0 zs)
def smR (n : Nat) (zs : List Int) : List Int := if smK n zs then sums 0 zs else []
theorem smR_len {n : Nat} {zs : List Int} (h : zs.length = n) : (smR n zs).length = (if smK n zs then n else 0) := by
  unfold smR
  split
  · rw [sums_len, h]
  · rfl
theorem smR_le {n : Nat} {zs : List Int} (h : zs.length = n) : (smR n zs).length ≤ n := by
  rw [smR_len h]; split <;> omega
theorem smR_ints (n : Nat) (zs : List Int) : (if smK n zs then ints (sums 0 zs) else []) = ints (smR n zs) := by
  unfold smR
  split <;> rfl
theorem iDeltasOf_g (A : Option Addr) (n c : Nat) (zs : List Int) (w : World) (h : Rd w w.heap.size 1 A n (ints zs)) (hn : n ≤ 1048576) :
    Calls Try.prog 26 #[.slice A n c] w (GotR 3 1 w (dlR n zs).length (ints (dlR n zs)) (dlK n zs)) := by
  have C := iDeltasOf_any w.heap.size A n c zs w (Nat.le_refl _) h hn
  rw [dlR_len h.int_len, ← dlR_ints]
  exact C
theorem iSumsOf_g (A : Option Addr) (n c : Nat) (zs : List Int) (w : World) (h : Rd w w.heap.size 1 A n (ints zs)) (hn : n ≤ 1048576) :
    Calls Try.prog 28 #[.slice A n c] w (GotR 3 1 w (smR n zs).length (ints (smR n zs)) (smK n zs)) := by
  have C := iSumsOf_any w.heap.size A n c zs w (Nat.le_refl _) h hn
  rw [smR_len h.int_len, ← smR_ints]
  exact C
theorem sDeltasOf_g (A : Option Addr) (n c : Nat) (zs : List Int) (w : World) (h : Rd w w.heap.size 1 A n (ints zs)) (hn : n ≤ 1048576) :
    Calls Try.prog 27 #[.slice A n c] w (GotR 3 1 w (dlR n zs).length (ints (dlR n zs)) (dlK n zs)) := by
  have C := sDeltasOf_any w.heap.size A n c zs w (Nat.le_refl _) h hn
  rw [dlR_len h.int_len, ← dlR_ints]
  exact C
theorem sSumsOf_g (A : Option Addr) (n c : Nat) (zs : List Int) (w : World) (h : Rd w w.heap.size 1 A n (ints zs)) (hn : n ≤ 1048576) :
    Calls Try.prog 29 #[.slice A n c] w (GotR 3 1 w (smR n zs).length (ints (smR n zs)) (smK n zs)) := by
  have C := sSumsOf_any w.heap.size A n c zs w (Nat.le_refl _) h hn
  rw [smR_len h.int_len, ← smR_ints]
  exact C
theorem sums_back {n : Nat} {zs : List Int} (h : dlK n zs = true) : smK n (dlR n zs) = true ∧ smR n (dlR n zs) = zs ∧ dlR n zs = deltas 0 zs := by
  have e : dlR n zs = deltas 0 zs := by unfold dlR; rw [if_pos h]
  unfold dlK at h
  rw [Bool.and_eq_true, few_iff] at h
  have hk : smK n (deltas 0 zs) = true := by
    unfold smK
    rw [sums_deltas, Bool.and_eq_true, few_iff]
    exact ⟨⟨h.1.1, h.2⟩, h.1.2⟩
  rw [e]
  refine ⟨hk, ?_, rfl⟩
  unfold smR
  rw [if_pos hk, sums_deltas]
theorem size3 (w : World) (a b d : Obj) : (((w.alloc a).alloc b).alloc d).heap.size = w.heap.size + 3 := by simp
theorem cell3 (w : World) (a b : Obj) (C : Array Value) (T : TypeId) (j : Nat) (v : Value) (h : C[j]? = some v) : (((w.alloc a).alloc b).alloc (.cells C T)).cell? ⟨w.heap.size + 2, j, none⟩ = some v := by
  exact (World.cell?_alloc_at _ _ _ _ (by simp)).trans h
/-- What the law asks of samples that are written, all at once. -/
theorem chunk_facts {l : List (Int × Int)} (hg : goodSmp l = true) : dec (encR l).data.toList = some l ∧ (encR l).size = (enc l).length ∧ (∀ p ∈ l, 0 ≤ p.1 ∧ p.1 ≤ 1000000000) ∧
    (∀ a b : Int × Int, 1 < l.length → l.length < 40 → l[l.length - 2]? = some a → l[l.length - 1]? = some b → 2 * b.1 - a.1 ≤ 1000000000 →
      appK (encR l).data.toList (2 * b.1 - a.1, b.2) = true ∧ (appR (encR l).data.toList (2 * b.1 - a.1, b.2)).size = (encR l).size + 2) := by
  obtain ⟨h1, h2, h3, _⟩ := enc_facts hg
  rw [h1]
  refine ⟨h2, h3, fun p hp => ?_, fun a b q1 q2 q3 q4 q5 => ?_⟩
  · exact inB_iff.1 (smpOk_t (x := p.1) (y := p.2) (goodSmp_ok hg p hp)).1
  · have := more_facts hg q1 q2 q3 q4 q5
    rw [h3]
    exact this
set_option maxRecDepth 200000 in
set_option maxHeartbeats 16000000 in
theorem law_FnChunks (A : Option Addr) (n c : Nat) (l : List UInt8) (A' : Option Addr) (n' c' : Nat) (l' : List UInt8) (w : World) (h : Rd w w.heap.size 1 A n (bys l)) (hn : n ≤ 140737488355328) (h' : Rd w w.heap.size 1 A' n' (bys l')) (hn' : n' ≤ 140737488355328) :
    Calls Try.prog 4 #[.slice A n c, .slice A' n' c'] w fun e w' => e = .returned (.bool true) ∧ Below w.heap.size w w' := by
  have H := Lib.hid h
  have H' := Lib.hid h'
  clear h h'
  by_cases hs : n + n' ≤ 1048576
  · go_enter Try.func4, Try.ntmps4
    go_wp2_with fail
    refine (DrawEncodeChunk_any A n c l _ H.out (by omega)).mono ?_
    rintro e w1 ⟨_, rfl, ⟨Al, cl, kl, M, rfl, hkl, ho⟩, hb⟩
    have HB1 := Lib.hid hb
    have HRt := Lib.hid ((H'.out.below hb).more hb.size)
    have HRl := Lib.hid (Rd.of_own ho)
    have hMl : M.length = kl := (Rd.of_own ho).smp_len
    clear hb ho
    have hes := encR_size M
    have F := fun hg => chunk_facts (l := M) hg
    obtain ⟨E, hE⟩ : ∃ q, encR M = q := ⟨_, rfl⟩
    obtain ⟨K, hK⟩ : ∃ q, goodSmp M = q := ⟨_, rfl⟩
    obtain ⟨Z, hZ⟩ : ∃ q : Int, (if K then ((enc M).length : Int) else 0) = q := ⟨_, rfl⟩
    rw [hE] at hes F
    rw [hK] at F
    have HZK := Lib.hid (show Z = if goodSmp M then ((enc M).length : Int) else 0 by rw [hK]; exact hZ.symm)
    have HE := Lib.hid (show E = if goodSmp M then str (enc M) else str [] from hE.symm)
    have HK := Lib.hid hK
    have HZ := Lib.hid hZ
    have HF := Lib.hid F
    have HML := Lib.hid hMl
    clear hE hK hZ F hMl
    have C := iEncodeChunk_any w1.heap.size Al kl cl M w1 (Nat.le_refl _) HRl.out (by omega) E K HE.out HK.out.symm
    have HC := Lib.hid C
    clear C
    go_wp2_with fail
    refine HC.out.mono ?_
    rintro e w2 ⟨rfl, hb⟩
    clear HC
    have HRqt := Lib.hid ((HRt.out.below hb).more hb.size)
    clear HRt
    have HRt := Lib.hid HRqt.out
    clear HRqt
    have HRql := Lib.hid ((HRl.out.below hb).more hb.size)
    clear HRl
    have HRl := Lib.hid HRql.out
    clear HRql
    have HB2 := Lib.hid (HB1.out.trans (hb.mono HB1.out.size))
    clear HB1
    clear hb
    have C := sEncodeChunk_any w2.heap.size Al kl cl M w2 (Nat.le_refl _) HRl.out (by omega) E K HE.out HK.out.symm
    have HC := Lib.hid C
    clear C
    go_wp2_with fail
    refine HC.out.mono ?_
    rintro e w3 ⟨rfl, hb⟩
    clear HC
    have HRqt := Lib.hid ((HRt.out.below hb).more hb.size)
    clear HRt
    have HRt := Lib.hid HRqt.out
    clear HRqt
    have HRql := Lib.hid ((HRl.out.below hb).more hb.size)
    clear HRl
    have HRl := Lib.hid HRql.out
    clear HRql
    have HB3 := Lib.hid (HB2.out.trans (hb.mono HB2.out.size))
    clear HB2
    clear hb
    have C := iChunkSize_any w3.heap.size Al kl cl M w3 (Nat.le_refl _) HRl.out (by omega) Z K HZK.out HK.out.symm
    have HC := Lib.hid C
    clear C
    go_wp2_with fail
    refine HC.out.mono ?_
    rintro e w4 ⟨rfl, hb⟩
    clear HC
    have HRqt := Lib.hid ((HRt.out.below hb).more hb.size)
    clear HRt
    have HRt := Lib.hid HRqt.out
    clear HRqt
    have HRql := Lib.hid ((HRl.out.below hb).more hb.size)
    clear HRl
    have HRl := Lib.hid HRql.out
    clear HRql
    have HB4 := Lib.hid (HB3.out.trans (hb.mono HB3.out.size))
    clear HB3
    clear hb
    have C := sChunkSize_any w4.heap.size Al kl cl M w4 (Nat.le_refl _) HRl.out (by omega) Z K HZK.out HK.out.symm
    have HC := Lib.hid C
    clear C
    go_wp2_with fail
    refine HC.out.mono ?_
    rintro e w5 ⟨rfl, hb⟩
    clear HC
    have HRqt := Lib.hid ((HRt.out.below hb).more hb.size)
    clear HRt
    have HRt := Lib.hid HRqt.out
    clear HRqt
    have HRql := Lib.hid ((HRl.out.below hb).more hb.size)
    clear HRl
    have HRl := Lib.hid HRql.out
    clear HRql
    have HB5 := Lib.hid (HB4.out.trans (hb.mono HB4.out.size))
    clear HB4
    clear hb
    have C := iGoodSamples_any w5.heap.size Al kl cl M w5 (Nat.le_refl _) HRl.out (by omega)
    rw [HK.out] at C
    have HC := Lib.hid C
    clear C
    go_wp2_with fail
    refine HC.out.mono ?_
    rintro e w6 ⟨rfl, hb⟩
    clear HC
    have HRqt := Lib.hid ((HRt.out.below hb).more hb.size)
    clear HRt
    have HRt := Lib.hid HRqt.out
    clear HRqt
    have HRql := Lib.hid ((HRl.out.below hb).more hb.size)
    clear HRl
    have HRl := Lib.hid HRql.out
    clear HRql
    have HB6 := Lib.hid (HB5.out.trans (hb.mono HB5.out.size))
    clear HB5
    clear hb
    go_upto_if 91 with fail
    go_cut [] (fun wx => Below w.heap.size w wx)
    case first =>
      cases K with
      | false =>
        go_wp2_with fail
        go_meet
        exact HB6.out
      | true =>
        obtain ⟨hd, hz, hbd, hmore⟩ := HF.out rfl
        have hZE : (E.size : Int) = Z := by rw [hz]; exact HZ.out
        subst hZE
        have Hmore := Lib.hid hmore
        have Hbd := Lib.hid hbd
        have Hd := Lib.hid hd
        clear hmore hbd hd hz HZ HZK HE HF
        have C := (iDecodeChunk_any E w6 (by omega)).mono fun _ _ h => h.gotR
        rw [Hd.out] at C
        rw [show ((some M).getD []).length = kl from HML.out] at C
        have HC := Lib.hid C
        clear C
        go_wp2_with fail
        refine HC.out.mono ?_
        rintro e w7 ⟨Ab, cb, rfl, hr, hc⟩
        have hb := hc.below0
        clear HC hc
        have HRqt := Lib.hid ((HRt.out.below hb).more hb.size)
        clear HRt
        have HRt := Lib.hid HRqt.out
        clear HRqt
        have HRql := Lib.hid ((HRl.out.below hb).more hb.size)
        clear HRl
        have HRl := Lib.hid HRql.out
        clear HRql
        have HB7 := Lib.hid (HB6.out.trans (hb.mono HB6.out.size))
        clear HB6
        clear hb
        have HRb := Lib.hid hr.rd
        clear hr
        have HRb0 := Lib.hid (show Rd w7 w7.heap.size 2 Ab kl (smps M) from HRb.out)
        clear HRb
        have HRb := Lib.hid HRb0.out
        clear HRb0
        have C := (sameSamples_same w7.heap.size Ab Al kl cb cl M w7 HRb.out HRl.out (by omega)).mono (fun e w' h => (⟨h.1, by obtain ⟨q, rfl⟩ := h.2; exact Below.drewN (Below.refl _ _) q⟩ : e = .returned (.bool true) ∧ Below w7.heap.size w7 w'))
        have HC := Lib.hid C
        clear C
        go_wp2_with fail
        refine HC.out.mono ?_
        rintro e w8 ⟨rfl, hb⟩
        clear HC
        have HRqt := Lib.hid ((HRt.out.below hb).more hb.size)
        clear HRt
        have HRt := Lib.hid HRqt.out
        clear HRqt
        have HRql := Lib.hid ((HRl.out.below hb).more hb.size)
        clear HRl
        have HRl := Lib.hid HRql.out
        clear HRql
        have HRqb := Lib.hid ((HRb.out.below hb).more hb.size)
        clear HRb
        have HRb := Lib.hid HRqb.out
        clear HRqb
        have HB8 := Lib.hid (HB7.out.trans (hb.mono HB7.out.size))
        clear HB7
        clear hb
        clear HRb
        by_cases h1 : 1 < kl
        · by_cases h2 : kl < 40
          · obtain ⟨m, rfl⟩ : ∃ m, kl = m + 2 := ⟨kl - 2, by omega⟩
            obtain ⟨b0, off, xa, ya, rfl, hbB, hxa, ha0, ha1⟩ := HRl.out.smp_at (k := m) (by omega)
            obtain ⟨b1, off1, xb, yb, he, hbB1, hxb, hb0, hb1⟩ := HRl.out.smp_at (k := m + 1) (by omega)
            obtain ⟨rfl, rfl⟩ : b0 = b1 ∧ off = off1 := by simpa using he
            have hba := Hbd.out _ (List.mem_of_getElem? hxa)
            have hbb := Hbd.out _ (List.mem_of_getElem? hxb)
            have HMO := Lib.hid (Hmore.out (xa, ya) (xb, yb) (by rw [HML.out]; omega) (by rw [HML.out]; omega) (by rw [HML.out]; exact hxa) (by rw [HML.out]; exact hxb))
            simp only at hba hbb
            clear hxa hxb he Hmore Hbd
            have hap := appR_size E.data.toList (2 * xb - xa, yb)
            obtain ⟨GA, hGA⟩ : ∃ q, appR E.data.toList (2 * xb - xa, yb) = q := ⟨_, rfl⟩
            obtain ⟨KA, hKA⟩ : ∃ q, appK E.data.toList (2 * xb - xa, yb) = q := ⟨_, rfl⟩
            rw [hGA] at hap
            have HMO2 := Lib.hid (by have := HMO.out; rw [hGA, hKA] at this; exact this)
            clear HMO
            have CA := fun w => iAppendChunk_any E (2 * xb - xa) yb w (by omega)
            simp only [hGA, hKA] at CA
            have HCA := Lib.hid CA
            clear CA hGA hKA
            go_wp2_with fail
            refine (HCA.out _).mono ?_
            rintro e w9 ⟨rfl, hb⟩
            have d18 : w9.cell? ⟨w8.heap.size + 2, 0, none⟩ = some (.int .i64 (2 * xb - xa)) := (bcell hb _ _ (by rw [size3]; omega)).trans (cell3 _ _ _ _ _ _ _ (by simp))
            have HB9 := Lib.hid (HB8.out.trans (((below3 _ _ _).trans (hb.mono (by rw [size3]; omega))).mono HB8.out.size))
            clear hb HCA
            by_cases hm : 2 * xb - xa ≤ 1000000000
            · obtain ⟨rfl, hgs⟩ := HMO2.out hm
              have hgs2 : (GA.size : Int) = (E.size : Int) + 2 := by omega
              clear hgs
              go_wp2_with fail
              go_meet
              exact HB9.out
            · clear HMO2
              go_wp2_with fail
              go_meet
              exact HB9.out
          · go_wp2_with fail
            go_meet
            exact HB8.out
        · go_wp2_with fail
          go_meet
          exact HB8.out
    case rest =>
      have HC := Lib.hid hcut
      have hcs := hcut.size
      have HD := Lib.hid ((H'.out.below hcut).more hcut.size)
      clear hcut HB6 HRl HRt HF HK HE HZ HZK HML
      go_wp2_with fail
      refine (DrawDecodeChunk_any A' n' c' l' _ HD.out (by omega)).mono ?_
      rintro e w1 ⟨_, rfl, ⟨S, rfl, hS⟩, hb⟩
      have HB1 := Lib.hid (HC.out.trans (hb.mono hcs))
      have HRt := Lib.hid ((HD.out.below hb).more hb.size)
      clear hb HD HC
      have F := fun (d : List (Int × Int)) (e : dec S.data.toList = some d) => dec_facts e
      obtain ⟨R, hR⟩ : ∃ R, dec S.data.toList = R := ⟨_, rfl⟩
      rw [hR] at F
      obtain ⟨D, hD⟩ : ∃ X, R.getD [] = X := ⟨_, rfl⟩
      obtain ⟨K2, hK2⟩ : ∃ X, R.isSome = X := ⟨_, rfl⟩
      have hDl : D.length ≤ 40 := by
        rw [← hD]
        cases R with
        | none => simp
        | some d => exact (F d rfl).2.2
      have HF := Lib.hid F
      have HR := Lib.hid hR
      have HDD := Lib.hid hD
      have HK2 := Lib.hid hK2
      clear F hR hD hK2
      have C := (iDecodeChunk_any S w1 (by omega)).mono fun _ _ h => h.gotR
      rw [HR.out] at C
      rw [HDD.out] at C
      rw [HK2.out] at C
      have HC := Lib.hid C
      clear C
      go_wp2_with fail
      refine HC.out.mono ?_
      rintro e w2 ⟨Ad, cd, rfl, hr, hc⟩
      have hb := hc.below0
      clear HC hc
      have HRqt := Lib.hid ((HRt.out.below hb).more hb.size)
      clear HRt
      have HRt := Lib.hid HRqt.out
      clear HRqt
      have HB2 := Lib.hid (HB1.out.trans (hb.mono HB1.out.size))
      clear HB1
      clear hb
      have HRd := Lib.hid hr.rd
      clear hr
      have C := (sDecodeChunk_any S w2 (by omega)).mono fun _ _ h => h.gotR
      rw [HR.out] at C
      rw [HDD.out] at C
      rw [HK2.out] at C
      have HC := Lib.hid C
      clear C
      go_wp2_with fail
      refine HC.out.mono ?_
      rintro e w3 ⟨Add, cdd, rfl, hr, hc⟩
      have hb := hc.below0
      clear HC hc
      have HRqt := Lib.hid ((HRt.out.below hb).more hb.size)
      clear HRt
      have HRt := Lib.hid HRqt.out
      clear HRqt
      have HRqd := Lib.hid ((HRd.out.below hb).more hb.size)
      clear HRd
      have HRd := Lib.hid HRqd.out
      clear HRqd
      have HB3 := Lib.hid (HB2.out.trans (hb.mono HB2.out.size))
      clear HB2
      clear hb
      have HRdd := Lib.hid hr.rd
      clear hr
      have C := (sameSamples_same w3.heap.size Ad Add D.length cd cdd D w3 HRd.out HRdd.out (by omega)).mono (fun e w' h => (⟨h.1, by obtain ⟨q, rfl⟩ := h.2; exact Below.drewN (Below.refl _ _) q⟩ : e = .returned (.bool true) ∧ Below w3.heap.size w3 w'))
      have HC := Lib.hid C
      clear C
      go_wp2_with fail
      refine HC.out.mono ?_
      rintro e w4 ⟨rfl, hb⟩
      clear HC
      have HRqt := Lib.hid ((HRt.out.below hb).more hb.size)
      clear HRt
      have HRt := Lib.hid HRqt.out
      clear HRqt
      have HRqd := Lib.hid ((HRd.out.below hb).more hb.size)
      clear HRd
      have HRd := Lib.hid HRqd.out
      clear HRqd
      have HRqdd := Lib.hid ((HRdd.out.below hb).more hb.size)
      clear HRdd
      have HRdd := Lib.hid HRqdd.out
      clear HRqdd
      have HB4 := Lib.hid (HB3.out.trans (hb.mono HB3.out.size))
      clear HB3
      clear hb
      go_upto_if 186 with fail
      go_cut [] (fun wx => Below w.heap.size w wx)
      case first =>
        cases K2 with
        | false =>
          go_wp2_with fail
          go_meet
          exact HB4.out
        | true =>
          have hRD : R = some D := by
            have k1 := HK2.out
            have k2 := HDD.out
            cases R with
            | none => simp at k1
            | some x => simpa using k2
          obtain ⟨he, hg, _⟩ := HF.out D hRD
          have HE := Lib.hid he
          have HG := Lib.hid hg
          clear he hg hRD
          have C := iEncodeChunk_any w4.heap.size Ad D.length cd D w4 (Nat.le_refl _) HRd.out (by omega) S true HE.out.symm HG.out.symm
          have HC := Lib.hid C
          clear C
          go_wp2_with fail
          refine HC.out.mono ?_
          rintro e w5 ⟨rfl, hb⟩
          clear HC
          have HRqt := Lib.hid ((HRt.out.below hb).more hb.size)
          clear HRt
          have HRt := Lib.hid HRqt.out
          clear HRqt
          have HRqd := Lib.hid ((HRd.out.below hb).more hb.size)
          clear HRd
          have HRd := Lib.hid HRqd.out
          clear HRqd
          have HRqdd := Lib.hid ((HRdd.out.below hb).more hb.size)
          clear HRdd
          have HRdd := Lib.hid HRqdd.out
          clear HRqdd
          have HB5 := Lib.hid (HB4.out.trans (hb.mono HB4.out.size))
          clear HB4
          clear hb
          go_wp2_with fail
          go_meet
          exact HB5.out
      case rest =>
        have HC := Lib.hid hcut
        have hcs := hcut.size
        have HD := Lib.hid ((H'.out.below hcut).more hcut.size)
        clear hcut HB4 HRt HRd HRdd HF HR HDD HK2
        go_wp2_with fail
        refine (DrawDeltasOf_any A' n' c' l' _ HD.out (by omega)).mono ?_
        rintro e w1 ⟨_, rfl, ⟨Av, cv, kv, zs, rfl, hkv, ho, _⟩, hb⟩
        have HB1 := Lib.hid (HC.out.trans (hb.mono hcs))
        have HRv := Lib.hid (Rd.of_own ho)
        have hzl : zs.length = kv := (Rd.of_own ho).int_len
        clear hb ho HD HC
        have F := fun (h : dlK kv zs = true) => And.intro (sums_back h) (show (dlR kv zs).length = kv by rw [(sums_back h).2.2, deltas_len, hzl])
        have hdl := dlR_le hzl
        have hsl := smR_le hzl
        obtain ⟨DL, hDL⟩ : ∃ q, dlR kv zs = q := ⟨_, rfl⟩
        obtain ⟨KD, hKD⟩ : ∃ q, dlK kv zs = q := ⟨_, rfl⟩
        obtain ⟨SL, hSL⟩ : ∃ q, smR kv zs = q := ⟨_, rfl⟩
        obtain ⟨KS, hKS⟩ : ∃ q, smK kv zs = q := ⟨_, rfl⟩
        rw [hDL] at F hdl
        rw [hKD] at F
        rw [hSL] at hsl
        have HF := Lib.hid F
        have HDL := Lib.hid hDL
        have HKD := Lib.hid hKD
        have HSL := Lib.hid hSL
        have HKS := Lib.hid hKS
        have HZL := Lib.hid hzl
        clear F hDL hKD hSL hKS hzl
        have C := iDeltasOf_g Av kv cv zs w1 HRv.out (by omega)
        rw [HDL.out] at C
        rw [HKD.out] at C
        have HC := Lib.hid C
        clear C
        go_wp2_with fail
        refine HC.out.mono ?_
        rintro e w2 ⟨Ae, ce, rfl, hr, hc⟩
        have hb := hc.below0
        clear HC hc
        have HRqv := Lib.hid ((HRv.out.below hb).more hb.size)
        clear HRv
        have HRv := Lib.hid HRqv.out
        clear HRqv
        have HB2 := Lib.hid (HB1.out.trans (hb.mono HB1.out.size))
        clear HB1
        clear hb
        have HRe := Lib.hid hr.rd
        clear hr
        have C := sDeltasOf_g Av kv cv zs w2 HRv.out (by omega)
        rw [HDL.out] at C
        rw [HKD.out] at C
        have HC := Lib.hid C
        clear C
        go_wp2_with fail
        refine HC.out.mono ?_
        rintro e w3 ⟨Aee, cee, rfl, hr, hc⟩
        have hb := hc.below0
        clear HC hc
        have HRqv := Lib.hid ((HRv.out.below hb).more hb.size)
        clear HRv
        have HRv := Lib.hid HRqv.out
        clear HRqv
        have HRqe := Lib.hid ((HRe.out.below hb).more hb.size)
        clear HRe
        have HRe := Lib.hid HRqe.out
        clear HRqe
        have HB3 := Lib.hid (HB2.out.trans (hb.mono HB2.out.size))
        clear HB2
        clear hb
        have HRee := Lib.hid hr.rd
        clear hr
        have C := iSumsOf_g Av kv cv zs w3 HRv.out (by omega)
        rw [HSL.out] at C
        rw [HKS.out] at C
        have HC := Lib.hid C
        clear C
        go_wp2_with fail
        refine HC.out.mono ?_
        rintro e w4 ⟨Au, cu, rfl, hr, hc⟩
        have hb := hc.below0
        clear HC hc
        have HRqv := Lib.hid ((HRv.out.below hb).more hb.size)
        clear HRv
        have HRv := Lib.hid HRqv.out
        clear HRqv
        have HRqe := Lib.hid ((HRe.out.below hb).more hb.size)
        clear HRe
        have HRe := Lib.hid HRqe.out
        clear HRqe
        have HRqee := Lib.hid ((HRee.out.below hb).more hb.size)
        clear HRee
        have HRee := Lib.hid HRqee.out
        clear HRqee
        have HB4 := Lib.hid (HB3.out.trans (hb.mono HB3.out.size))
        clear HB3
        clear hb
        have HRu := Lib.hid hr.rd
        clear hr
        have C := sSumsOf_g Av kv cv zs w4 HRv.out (by omega)
        rw [HSL.out] at C
        rw [HKS.out] at C
        have HC := Lib.hid C
        clear C
        go_wp2_with fail
        refine HC.out.mono ?_
        rintro e w5 ⟨Auu, cuu, rfl, hr, hc⟩
        have hb := hc.below0
        clear HC hc
        have HRqv := Lib.hid ((HRv.out.below hb).more hb.size)
        clear HRv
        have HRv := Lib.hid HRqv.out
        clear HRqv
        have HRqe := Lib.hid ((HRe.out.below hb).more hb.size)
        clear HRe
        have HRe := Lib.hid HRqe.out
        clear HRqe
        have HRqee := Lib.hid ((HRee.out.below hb).more hb.size)
        clear HRee
        have HRee := Lib.hid HRqee.out
        clear HRqee
        have HRqu := Lib.hid ((HRu.out.below hb).more hb.size)
        clear HRu
        have HRu := Lib.hid HRqu.out
        clear HRqu
        have HB5 := Lib.hid (HB4.out.trans (hb.mono HB4.out.size))
        clear HB4
        clear hb
        have HRuu := Lib.hid hr.rd
        clear hr
        have C := sameInts_same w5.heap.size Ae Aee DL.length ce cee DL w5 HRe.out HRee.out (by omega)
        have HC := Lib.hid C
        clear C
        go_wp2_with fail
        refine HC.out.mono ?_
        rintro e w6 ⟨rfl, hb⟩
        clear HC
        have HRqv := Lib.hid ((HRv.out.below hb).more hb.size)
        clear HRv
        have HRv := Lib.hid HRqv.out
        clear HRqv
        have HRqe := Lib.hid ((HRe.out.below hb).more hb.size)
        clear HRe
        have HRe := Lib.hid HRqe.out
        clear HRqe
        have HRqee := Lib.hid ((HRee.out.below hb).more hb.size)
        clear HRee
        have HRee := Lib.hid HRqee.out
        clear HRqee
        have HRqu := Lib.hid ((HRu.out.below hb).more hb.size)
        clear HRu
        have HRu := Lib.hid HRqu.out
        clear HRqu
        have HRquu := Lib.hid ((HRuu.out.below hb).more hb.size)
        clear HRuu
        have HRuu := Lib.hid HRquu.out
        clear HRquu
        have HB6 := Lib.hid (HB5.out.trans (hb.mono HB5.out.size))
        clear HB5
        clear hb
        have C := sameInts_same w6.heap.size Au Auu SL.length cu cuu SL w6 HRu.out HRuu.out (by omega)
        have HC := Lib.hid C
        clear C
        go_wp2_with fail
        refine HC.out.mono ?_
        rintro e w7 ⟨rfl, hb⟩
        clear HC
        have HRqv := Lib.hid ((HRv.out.below hb).more hb.size)
        clear HRv
        have HRv := Lib.hid HRqv.out
        clear HRqv
        have HRqe := Lib.hid ((HRe.out.below hb).more hb.size)
        clear HRe
        have HRe := Lib.hid HRqe.out
        clear HRqe
        have HRqee := Lib.hid ((HRee.out.below hb).more hb.size)
        clear HRee
        have HRee := Lib.hid HRqee.out
        clear HRqee
        have HRqu := Lib.hid ((HRu.out.below hb).more hb.size)
        clear HRu
        have HRu := Lib.hid HRqu.out
        clear HRqu
        have HRquu := Lib.hid ((HRuu.out.below hb).more hb.size)
        clear HRuu
        have HRuu := Lib.hid HRquu.out
        clear HRquu
        have HB7 := Lib.hid (HB6.out.trans (hb.mono HB6.out.size))
        clear HB6
        clear hb
        cases KD with
        | false =>
          go_wp2_with fail
          go_ret
          exact ⟨rfl, HB7.out⟩
        | true =>
          obtain ⟨⟨hk, hr2, hdd⟩, hln⟩ := HF.out rfl
          have HK := Lib.hid hk
          have HR2 := Lib.hid hr2
          have HLN := Lib.hid hln
          clear hk hr2 hln hdd
          have C := iSumsOf_g Ae DL.length ce DL w7 HRe.out (by omega)
          rw [HLN.out] at C
          rw [HK.out] at C
          rw [HR2.out] at C
          rw [HZL.out] at C
          have HC := Lib.hid C
          clear C
          go_wp2_with fail
          rw [HLN.out]
          refine HC.out.mono ?_
          rintro e w8 ⟨Ak, ck, rfl, hr, hc⟩
          have hb := hc.below0
          clear HC hc
          have HRqv := Lib.hid ((HRv.out.below hb).more hb.size)
          clear HRv
          have HRv := Lib.hid HRqv.out
          clear HRqv
          have HRqe := Lib.hid ((HRe.out.below hb).more hb.size)
          clear HRe
          have HRe := Lib.hid HRqe.out
          clear HRqe
          have HRqee := Lib.hid ((HRee.out.below hb).more hb.size)
          clear HRee
          have HRee := Lib.hid HRqee.out
          clear HRqee
          have HRqu := Lib.hid ((HRu.out.below hb).more hb.size)
          clear HRu
          have HRu := Lib.hid HRqu.out
          clear HRqu
          have HRquu := Lib.hid ((HRuu.out.below hb).more hb.size)
          clear HRuu
          have HRuu := Lib.hid HRquu.out
          clear HRquu
          have HB8 := Lib.hid (HB7.out.trans (hb.mono HB7.out.size))
          clear HB7
          clear hb
          have HRk := Lib.hid hr.rd
          clear hr
          have C := sameInts_same w8.heap.size Ak Av kv ck cv zs w8 HRk.out HRv.out (by omega)
          have HC := Lib.hid C
          clear C
          go_wp2_with fail
          refine HC.out.mono ?_
          rintro e w9 ⟨rfl, hb⟩
          clear HC
          have HRqv := Lib.hid ((HRv.out.below hb).more hb.size)
          clear HRv
          have HRv := Lib.hid HRqv.out
          clear HRqv
          have HRqe := Lib.hid ((HRe.out.below hb).more hb.size)
          clear HRe
          have HRe := Lib.hid HRqe.out
          clear HRqe
          have HRqee := Lib.hid ((HRee.out.below hb).more hb.size)
          clear HRee
          have HRee := Lib.hid HRqee.out
          clear HRqee
          have HRqu := Lib.hid ((HRu.out.below hb).more hb.size)
          clear HRu
          have HRu := Lib.hid HRqu.out
          clear HRqu
          have HRquu := Lib.hid ((HRuu.out.below hb).more hb.size)
          clear HRuu
          have HRuu := Lib.hid HRquu.out
          clear HRquu
          have HRqk := Lib.hid ((HRk.out.below hb).more hb.size)
          clear HRk
          have HRk := Lib.hid HRqk.out
          clear HRqk
          have HB9 := Lib.hid (HB8.out.trans (hb.mono HB8.out.size))
          clear HB8
          clear hb
          go_wp2_with fail
          go_ret
          exact ⟨rfl, HB9.out⟩
  · go_enter Try.func4, Try.ntmps4
    go_wp2
    go_ret
    exact ⟨rfl, Below.refl _ _⟩
end Go.Proofs.Ytbemnhdadafnnaa
