/- The contracts of the functions that write all numbers of a list (spec.l1PutAll, impl.putAll). -/
import Derived.Test.YtdmcfllmhjdleaaAllV
import Derived.Test.YtdmcfllmhjdleaaPutV
import Derived.Test.YtdmcfllmhjdleaaBuilder
import Derived.Laws.Concat
import Derived.Lib.SmallJoins
namespace Go.Proofs.Ytdmcfllmhjdleaa
set_option linter.unusedVariables false
set_option linter.unusedSimpArgs false
open Go.RowKit

def putL (zs : List Int) : List UInt8 := zs.flatMap vz
theorem putL_snoc (zs : List Int) (k : Nat) (x : Int) (h : zs[k]? = some x) : putL (zs.take (k + 1)) = putL (zs.take k) ++ vz x := by
  unfold putL; rw [take_snoc' _ _ _ h, List.flatMap_append]; simp
theorem putL_all (zs : List Int) (k : Nat) (h : zs.length ≤ k) : putL (zs.take k) = putL zs := by rw [List.take_of_length_le h]
theorem allV_at {zs : List Int} {k : Nat} {x : Int} (h : allV zs = true) (hx : zs[k]? = some x) : isV x = true := List.all_eq_true.1 h x (List.mem_of_getElem? hx)
theorem str_list (S : ByteArray) (l : List UInt8) (h : S.data.toList = l) : S = ⟨l.toArray⟩ := by subst h; cases S; simp

set_option maxRecDepth 100000 in
set_option maxHeartbeats 1000000 in
theorem l1PutAll_any (B : Nat) (A : Option Addr) (n c : Nat) (zs : List Int) (w : World) (hBw : B ≤ w.heap.size) (h : Rd w B 1 A n (ints zs)) (hn : n ≤ 1048576) (hv : allV zs = true) :
    Calls Try.prog 101 #[.slice A n c] w fun e w' => e = .returned (.string ⟨(putL zs).toArray⟩) ∧ Below w.heap.size w w' := by
  have hlen := h.int_len
  have HL := Lib.hid hlen
  have H := Lib.hid h
  have HV := Lib.hid hv
  clear h hlen hv
  go_enter Try.func101, Try.ntmps101
  go_wp2
  go_loopw [3, 8] (fun s i wr => ∃ (k : Nat) (S : ByteArray), k ≤ n ∧ i = .int .i64 k ∧ s = .string S ∧ S.data.toList = putL (zs.take k) ∧ S.size ≤ 6 * k ∧ Below w.heap.size w wr) (fun _ i _ => n - (intOf i).toNat)
  case atStart => exact ⟨0, ⟨#[]⟩, Nat.zero_le _, rfl, rfl, rfl, Nat.le_refl _, Below.refl _ _⟩
  case round =>
    obtain ⟨k, S, hk, rfl, rfl, hS, hsz, hb⟩ := hrel
    have HS := Lib.hid hS
    have HB := Lib.hid hb
    clear hS hb
    by_cases hlt : k < n
    · obtain ⟨b, off, x, rfl, hbB, hx, hc⟩ := H.out.int_at hlt
      have hc' : wr.cell? ⟨b, off + k, none⟩ = some (.int .i64 x) := (bcell HB.out _ _ (by omega)).trans hc
      have HX := Lib.hid hx
      clear hx hc
      obtain ⟨V, hV⟩ : ∃ V : ByteArray, V = str (vz x) := ⟨_, rfl⟩
      have hvs : V.size ≤ 6 := by rw [hV, str_size]; exact (vz_len (allV_at HV.out HX.out)).2
      have hcon := Lib.hid (fun w => hV ▸ l1Varint_any x w (allV_at HV.out HX.out) : ∀ w, Calls Try.prog 88 #[.int .i64 x] w fun e w' => e = .returned (.string V) ∧ Below w.heap.size w w')
      have HVV := Lib.hid hV
      clear hV
      go_wp2_with fail
      refine (hcon.out _).mono ?_
      rintro e w1 ⟨rfl, hb1⟩
      have HB1 := Lib.hid (HB.out.trans (hb1.mono HB.out.size))
      clear hb1
      have hcat := fun w => run_string_add_sum (P := Try.prog) (w := w) S V (by omega)
      go_wp2
      go_roundw
      case rel =>
        refine ⟨k + 1, S ++ V, by omega, by go_num, rfl, ?_, ?_, HB1.out⟩
        · rw [Joins.data_append, HS.out, HVV.out, putL_snoc zs k x HX.out]; rfl
        · rw [ByteArray.size_append]; omega
      case measure => simp [intOf]; omega
    · go_wp2
      go_ret
      refine ⟨?_, HB.out⟩
      rw [← putL_all zs k (by have := HL.out; omega)]
      exact congrArg (fun s => Ending.returned (Value.string s)) (str_list S _ HS.out)

set_option maxRecDepth 100000 in
set_option maxHeartbeats 1000000 in
theorem putAll_any (B : Nat) (A : Option Addr) (n c : Nat) (zs : List Int) (w : World) (hBw : B ≤ w.heap.size) (h : Rd w B 1 A n (ints zs)) (hn : n ≤ 1048576) (hv : allV zs = true) :
    Calls Try.prog 99 #[.slice A n c] w fun e w' => e = .returned (.string ⟨(putL zs).toArray⟩) ∧ Below w.heap.size w w' := by
  have hlen := h.int_len
  have HL := Lib.hid hlen
  have H := Lib.hid h
  have HV := Lib.hid hv
  clear h hlen hv
  go_enter Try.func99, Try.ntmps99
  go_wp2
  have hfresh := Lib.fresh_isBuilder 103 5 w
  have HF := Lib.hid hfresh
  clear hfresh
  go_loopw [8] (fun i wr => ∃ (k : Nat) (l : List UInt8), k ≤ n ∧ i = .int .i64 k ∧ l = putL (zs.take k) ∧ l.length ≤ 6 * k ∧ (0 < k → l ≠ []) ∧ Bld w.heap.size w.heap.size l wr ∧ Below w.heap.size w wr ∧ w.heap.size < wr.heap.size ∧ (k = 0 → wr = w.alloc (.cells #[.pointer none, .slice none 0 0] 103))) (fun i _ => n - (intOf i).toNat)
  case atStart => exact ⟨0, [], Nat.zero_le _, rfl, rfl, by simp, by omega, HF.out, (Below.refl _ _).alloc (Nat.le_refl _) _, by simp, fun _ => rfl⟩
  case round =>
    clear HF
    obtain ⟨k, l, hk, rfl, hl, hsz, hne, hI, hb, hszw, h0⟩ := hrel
    have HS := Lib.hid hl
    have HB := Lib.hid hb
    have HI := Lib.hid hI
    have HN := Lib.hid hne
    have H0 := Lib.hid h0
    clear hl hb hI hne h0
    by_cases hlt : k < n
    · clear H0
      obtain ⟨b, off, x, rfl, hbB, hx, hc⟩ := H.out.int_at hlt
      have hc' : wr.cell? ⟨b, off + k, none⟩ = some (.int .i64 x) := (bcell HB.out _ _ (by omega)).trans hc
      have HX := Lib.hid hx
      clear hx hc
      obtain ⟨V, hV⟩ : ∃ V : ByteArray, V = str (vz x) := ⟨_, rfl⟩
      have hvl := vz_len (allV_at HV.out HX.out)
      have hvs : V.size = (vz x).length := by rw [hV, str_size]
      have hvs1 : V.size ≤ 6 := by omega
      have HVS := Lib.hid (And.intro hvs hvl.1)
      clear hvs hvl
      have hcon := Lib.hid (fun w => hV ▸ putVarint_any x w (allV_at HV.out HX.out) : ∀ w, Calls Try.prog 86 #[.int .i64 x] w fun e w' => e = .returned (.string V) ∧ Below w.heap.size w w')
      have HVV := Lib.hid hV
      clear hV
      go_wp2_with fail
      refine (hcon.out _).mono ?_
      rintro e w1 ⟨rfl, hb1⟩
      have HB1 := Lib.hid (HB.out.trans (hb1.mono HB.out.size))
      have hI1 : Bld w.heap.size w.heap.size l w1 := by
        have hk := HI.out
        unfold Bld Lib.IsBuilder at hk ⊢
        refine hk.imp (fun q => ?_) (fun q => ?_)
        all_goals
          obtain ⟨q1, v, q2, q3, q4⟩ := q
          exact ⟨q1, v, (hb1.block _ hszw).trans q2, own_below q3 hb1 (Nat.le_refl _), q4⟩
      have HI1 := Lib.hid hI1
      have hs1 := hb1.size
      clear hb1 hI1
      go_wp2_with fail
      refine (writeString_any w.heap.size w.heap.size l V _ HI1.out (by omega) (by omega)).mono ?_
      rintro e w2 ⟨rfl, hI2, hb2⟩
      have HI2 := Lib.hid hI2
      have hs2 := hb2.size
      have HB2 := Lib.hid (HB1.out.trans hb2)
      clear hI2 hb2
      go_wp2
      go_roundw
      case rel =>
        refine ⟨k + 1, l ++ vz x, by omega, by go_num, ?_, ?_, ?_, ?_, HB2.out, by omega, fun h => absurd h (by omega)⟩
        · rw [HS.out, putL_snoc zs k x HX.out]
        · rw [List.length_append, ← HVS.out.1]; omega
        · intro _ e
          have h1 := HVS.out.2
          rw [(List.append_eq_nil_iff.1 e).2] at h1
          simp at h1
        · have h1 := HI2.out
          rw [HVV.out] at h1
          exact h1
      case measure => simp [intOf]; omega
    · have hkn : k = n := by omega
      subst hkn
      by_cases hk0 : k = 0
      · have hw := H0.out hk0
        subst hw
        clear HI HB
        go_wp2_with fail
        refine (bString_nil w.heap.size w.heap.size _ _ (heap_alloc_new w _)).mono ?_
        rintro e w1 ⟨rfl, hb1⟩
        have HB1 := Lib.hid hb1
        clear hb1
        go_wp2
        go_ret
        refine ⟨?_, (((Below.refl _ _).alloc (Nat.le_refl _) _).trans HB1.out)⟩
        have : zs = [] := List.eq_nil_of_length_eq_zero (by rw [HL.out, hk0])
        rw [this]
        rfl
      · clear H0
        go_wp2_with fail
        refine (bString_row w.heap.size w.heap.size l _ HI.out (HN.out (by omega))).mono ?_
        rintro e w1 ⟨rfl, hb1⟩
        have HB1 := Lib.hid (HB.out.trans hb1)
        clear hb1
        go_wp2
        go_ret
        refine ⟨?_, HB1.out⟩
        rw [← putL_all zs k (by have := HL.out; omega), ← HS.out]
        rfl
end Go.Proofs.Ytdmcfllmhjdleaa
