/- The laws EncodeChunk and ChunkSize. -/
import Derived.Test.YtbemnhdadafnnaaEncI
import Derived.Test.YtbemnhdadafnnaaSmpLaw
namespace Go.Proofs.Ytbemnhdadafnnaa
set_option linter.unusedVariables false
set_option linter.unusedSimpArgs false
open Go.RowKit

set_option maxHeartbeats 1000000 in
theorem sEncodeChunk_any (B : Nat) (A : Option Addr) (n c : Nat) (l : List (Int × Int)) (w : World) (hBw : B ≤ w.heap.size) (h : Rd w B 2 A n (smps l)) (hn : n ≤ 1048576) (S : ByteArray) (K : Bool)
    (hS : S = if goodSmp l then str (enc l) else str []) (hK : K = goodSmp l) :
    Calls Try.prog 19 #[.slice A n c] w fun e w' => e = .returned (.tuple #[.string S, .bool K]) ∧ Below w.heap.size w w' := by
  have HG := Lib.hid (sGoodSamples_any B A n c l w hBw h hn)
  have H := Lib.hid h
  clear h
  cases hg : goodSmp l with
  | true =>
    rw [hg] at HG hK
    rw [hg, if_pos rfl] at hS
    subst hK
    have HE := Lib.hid (fun w (hBw : B ≤ w.heap.size) (h : Rd w B 2 A n (smps l)) => hS ▸ l2Encode_any B A n c l w hBw h hg : ∀ w, B ≤ w.heap.size → Rd w B 2 A n (smps l) → Calls Try.prog 42 #[.slice A n c] w fun e w' => e = .returned (.string S) ∧ Below w.heap.size w w')
    clear hS hg
    go_enter Try.func19, Try.ntmps19
    go_wp2_with fail
    refine HG.out.mono ?_
    rintro e w1 ⟨rfl, hb⟩
    have hs := hb.size
    have HB := Lib.hid hb
    clear hb
    go_wp2_with fail
    refine (HE.out _ (by omega) ((H.out.below (HB.out.mono hBw)))).mono ?_
    rintro e w2 ⟨rfl, hb2⟩
    have HB2 := Lib.hid (HB.out.trans (hb2.mono hs))
    clear hb2
    go_wp2
    go_ret2
    exact ⟨rfl, HB2.out⟩
  | false =>
    rw [hg] at HG hK
    rw [hg] at hS
    have e : S = str [] := by rw [hS]; rfl
    subst hK
    subst e
    clear hS hg
    go_enter Try.func19, Try.ntmps19
    go_wp2_with fail
    refine HG.out.mono ?_
    rintro e w1 ⟨rfl, hb⟩
    have HB := Lib.hid hb
    clear hb
    go_wp2
    go_ret2
    exact ⟨rfl, HB.out⟩
set_option maxHeartbeats 1000000 in
theorem sChunkSize_any (B : Nat) (A : Option Addr) (n c : Nat) (l : List (Int × Int)) (w : World) (hBw : B ≤ w.heap.size) (h : Rd w B 2 A n (smps l)) (hn : n ≤ 1048576) (S : Int) (K : Bool)
    (hS : S = if goodSmp l then ((enc l).length : Int) else 0) (hK : K = goodSmp l) :
    Calls Try.prog 21 #[.slice A n c] w fun e w' => e = .returned (.tuple #[.int .i64 S, .bool K]) ∧ Below w.heap.size w w' := by
  have HG := Lib.hid (sGoodSamples_any B A n c l w hBw h hn)
  have H := Lib.hid h
  clear h
  cases hg : goodSmp l with
  | true =>
    rw [hg] at HG hK
    rw [hg, if_pos rfl] at hS
    subst hK
    obtain ⟨E, hE⟩ : ∃ E, E = str (enc l) := ⟨_, rfl⟩
    have HE := Lib.hid (fun w (hBw : B ≤ w.heap.size) (h : Rd w B 2 A n (smps l)) => hE ▸ l2Encode_any B A n c l w hBw h hg : ∀ w, B ≤ w.heap.size → Rd w B 2 A n (smps l) → Calls Try.prog 42 #[.slice A n c] w fun e w' => e = .returned (.string E) ∧ Below w.heap.size w w')
    have hz : E.size = (enc l).length := by rw [hE, str_size]
    have hz1 : E.size ≤ 486 := by rw [hz]; exact enc_len hg
    have HS := Lib.hid (show (E.size : Int) = S by rw [hS, hz])
    clear hS hg hE hz
    go_enter Try.func21, Try.ntmps21
    go_wp2_with fail
    refine HG.out.mono ?_
    rintro e w1 ⟨rfl, hb⟩
    have hs := hb.size
    have HB := Lib.hid hb
    clear hb
    go_wp2_with fail
    refine (HE.out _ (by omega) ((H.out.below (HB.out.mono hBw)))).mono ?_
    rintro e w2 ⟨rfl, hb2⟩
    have HB2 := Lib.hid (HB.out.trans (hb2.mono hs))
    clear hb2
    go_wp2
    go_ret2
    rw [← HS.out]
    exact ⟨rfl, HB2.out⟩
  | false =>
    rw [hg] at HG hK
    rw [hg] at hS
    have e : S = 0 := by rw [hS]; rfl
    subst hK
    subst e
    clear hS hg
    go_enter Try.func21, Try.ntmps21
    go_wp2_with fail
    refine HG.out.mono ?_
    rintro e w1 ⟨rfl, hb⟩
    have HB := Lib.hid hb
    clear hb
    go_wp2
    go_ret2
    exact ⟨rfl, HB.out⟩
set_option maxHeartbeats 1000000 in
theorem iEncodeChunk_any (B : Nat) (A : Option Addr) (n c : Nat) (l : List (Int × Int)) (w : World) (hBw : B ≤ w.heap.size) (h : Rd w B 2 A n (smps l)) (hn : n ≤ 1048576) (S : ByteArray) (K : Bool)
    (hS : S = if goodSmp l then str (enc l) else str []) (hK : K = goodSmp l) :
    Calls Try.prog 18 #[.slice A n c] w fun e w' => e = .returned (.tuple #[.string S, .bool K]) ∧ Below w.heap.size w w' := by
  have HG := Lib.hid (areSamples_any B A n c l w hBw h hn)
  have H := Lib.hid h
  clear h
  cases hg : goodSmp l with
  | true =>
    rw [hg] at HG hK
    rw [hg, if_pos rfl] at hS
    subst hK
    have HE := Lib.hid (fun w (hBw : B ≤ w.heap.size) (h : Rd w B 2 A n (smps l)) => hS ▸ encodeChunk_any B A n c l w hBw h hg : ∀ w, B ≤ w.heap.size → Rd w B 2 A n (smps l) → Calls Try.prog 40 #[.slice A n c] w fun e w' => e = .returned (.string S) ∧ Below w.heap.size w w')
    clear hS hg
    go_enter Try.func18, Try.ntmps18
    go_wp2_with fail
    refine HG.out.mono ?_
    rintro e w1 ⟨rfl, hb⟩
    have hs := hb.size
    have HB := Lib.hid hb
    clear hb
    go_wp2_with fail
    refine (HE.out _ (by omega) ((H.out.below (HB.out.mono hBw)))).mono ?_
    rintro e w2 ⟨rfl, hb2⟩
    have HB2 := Lib.hid (HB.out.trans (hb2.mono hs))
    clear hb2
    go_wp2
    go_ret2
    exact ⟨rfl, HB2.out⟩
  | false =>
    rw [hg] at HG hK
    rw [hg] at hS
    have e : S = str [] := by rw [hS]; rfl
    subst hK
    subst e
    clear hS hg
    go_enter Try.func18, Try.ntmps18
    go_wp2_with fail
    refine HG.out.mono ?_
    rintro e w1 ⟨rfl, hb⟩
    have HB := Lib.hid hb
    clear hb
    go_wp2
    go_ret2
    exact ⟨rfl, HB.out⟩
set_option maxHeartbeats 1000000 in
theorem iChunkSize_any (B : Nat) (A : Option Addr) (n c : Nat) (l : List (Int × Int)) (w : World) (hBw : B ≤ w.heap.size) (h : Rd w B 2 A n (smps l)) (hn : n ≤ 1048576) (S : Int) (K : Bool)
    (hS : S = if goodSmp l then ((enc l).length : Int) else 0) (hK : K = goodSmp l) :
    Calls Try.prog 20 #[.slice A n c] w fun e w' => e = .returned (.tuple #[.int .i64 S, .bool K]) ∧ Below w.heap.size w w' := by
  have HG := Lib.hid (areSamples_any B A n c l w hBw h hn)
  have H := Lib.hid h
  clear h
  cases hg : goodSmp l with
  | true =>
    rw [hg] at HG hK
    rw [hg, if_pos rfl] at hS
    subst hK
    obtain ⟨E, hE⟩ : ∃ E, E = str (enc l) := ⟨_, rfl⟩
    have HE := Lib.hid (fun w (hBw : B ≤ w.heap.size) (h : Rd w B 2 A n (smps l)) => hE ▸ encodeChunk_any B A n c l w hBw h hg : ∀ w, B ≤ w.heap.size → Rd w B 2 A n (smps l) → Calls Try.prog 40 #[.slice A n c] w fun e w' => e = .returned (.string E) ∧ Below w.heap.size w w')
    have hz : E.size = (enc l).length := by rw [hE, str_size]
    have hz1 : E.size ≤ 486 := by rw [hz]; exact enc_len hg
    have HS := Lib.hid (show (E.size : Int) = S by rw [hS, hz])
    clear hS hg hE hz
    go_enter Try.func20, Try.ntmps20
    go_wp2_with fail
    refine HG.out.mono ?_
    rintro e w1 ⟨rfl, hb⟩
    have hs := hb.size
    have HB := Lib.hid hb
    clear hb
    go_wp2_with fail
    refine (HE.out _ (by omega) ((H.out.below (HB.out.mono hBw)))).mono ?_
    rintro e w2 ⟨rfl, hb2⟩
    have HB2 := Lib.hid (HB.out.trans (hb2.mono hs))
    clear hb2
    go_wp2
    go_ret2
    rw [← HS.out]
    exact ⟨rfl, HB2.out⟩
  | false =>
    rw [hg] at HG hK
    rw [hg] at hS
    have e : S = 0 := by rw [hS]; rfl
    subst hK
    subst e
    clear hS hg
    go_enter Try.func20, Try.ntmps20
    go_wp2_with fail
    refine HG.out.mono ?_
    rintro e w1 ⟨rfl, hb⟩
    have HB := Lib.hid hb
    clear hb
    go_wp2
    go_ret2
    exact ⟨rfl, HB.out⟩
theorem both_EncodeChunk (n : Nat) (l : List (Int × Int)) (hn : n ≤ 1048576) : ∃ (S : ByteArray) (K : Bool),
    (∀ B A c w, B ≤ w.heap.size → Rd w B 2 A n (smps l) → Calls Try.prog 19 #[.slice A n c] w fun e w' => e = .returned (.tuple #[.string S, .bool K]) ∧ Ch 0 0 w w') ∧
    (∀ B A c w, B ≤ w.heap.size → Rd w B 2 A n (smps l) → Calls Try.prog 18 #[.slice A n c] w fun e w' => e = .returned (.tuple #[.string S, .bool K]) ∧ Ch 0 0 w w') :=
  ⟨_, _, fun B A c w hB h => (sEncodeChunk_any B A n c l w hB h hn _ _ rfl rfl).mono fun _ _ ⟨he, hb⟩ => ⟨he, Ch.of_below hb⟩,
    fun B A c w hB h => (iEncodeChunk_any B A n c l w hB h hn _ _ rfl rfl).mono fun _ _ ⟨he, hb⟩ => ⟨he, Ch.of_below hb⟩⟩
theorem both_ChunkSize (n : Nat) (l : List (Int × Int)) (hn : n ≤ 1048576) : ∃ (S : Int) (K : Bool),
    (∀ B A c w, B ≤ w.heap.size → Rd w B 2 A n (smps l) → Calls Try.prog 21 #[.slice A n c] w fun e w' => e = .returned (.tuple #[.int .i64 S, .bool K]) ∧ Ch 0 0 w w') ∧
    (∀ B A c w, B ≤ w.heap.size → Rd w B 2 A n (smps l) → Calls Try.prog 20 #[.slice A n c] w fun e w' => e = .returned (.tuple #[.int .i64 S, .bool K]) ∧ Ch 0 0 w w') :=
  ⟨_, _, fun B A c w hB h => (sChunkSize_any B A n c l w hB h hn _ _ rfl rfl).mono fun _ _ ⟨he, hb⟩ => ⟨he, Ch.of_below hb⟩,
    fun B A c w hB h => (iChunkSize_any B A n c l w hB h hn _ _ rfl rfl).mono fun _ _ ⟨he, hb⟩ => ⟨he, Ch.of_below hb⟩⟩
end Go.Proofs.Ytbemnhdadafnnaa
