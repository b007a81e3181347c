/- The law NotQuery. -/
import Derived.Test.YtpdclppieicaeaaQryLaw
import Derived.Test.YtpdclppieicaeaaCloneP
namespace Go.Proofs.Ytpdclppieicaeaa
set_option linter.unusedVariables false
set_option linter.unusedSimpArgs false
open Go.RowKit

def okNotQ (l : List Qry) : Bool := goodQry l && decide (l.length ≠ 20)
def notQL (l : List Qry) : List Qry := if okNotQ l then l ++ [notQ l] else []
theorem notQ_no {l : List Qry} (h : okNotQ l = false) : notQL l = [] := by unfold notQL; rw [h]; rfl
theorem notQ_yes {l : List Qry} (h : okNotQ l = true) : notQL l = l ++ [notQ l] := by unfold notQL; rw [h]; rfl
theorem notQ_len (l : List Qry) : (notQL l).length ≤ 1048576 := by
  cases h : okNotQ l
  · rw [notQ_no h]; exact Nat.zero_le _
  · rw [notQ_yes h]
    unfold okNotQ at h
    simp only [Bool.and_eq_true] at h
    have := goodQ_len h.1
    simp
    omega
set_option maxRecDepth 100000 in
set_option maxHeartbeats 4000000 in
theorem sNotQuery_any (B : Nat) (A : Option Addr) (n c : Nat) (l : List Qry) (w : World) (hBw : B ≤ w.heap.size) (h : Rd w B 5 A n (qrys l)) (hn : n ≤ 1048576) (hok : ∀ p ∈ l, p.name.size ≤ 1048576 ∧ p.value.size ≤ 1048576) :
    Calls Try.prog 32 #[.slice A n c] w (GotR 59 5 w (notQL l).length (qrys (notQL l)) (okNotQ l)) := by
  have hlen := h.qry_len
  have C1 := Lib.hid (sGoodQuery_any B A n c l w hBw h hn hok)
  obtain ⟨i0, hi, hi0, hi1, hi2⟩ := info_parts infoQuery
  have HI := Lib.hid (And.intro hi (And.intro hi0 (And.intro hi1 hi2)))
  clear hi hi0 hi1 hi2
  cases hg : goodQry l with
  | false =>
    have e1 : okNotQ l = false := by unfold okNotQ; rw [hg]; rfl
    rw [e1, notQ_no e1]
    rw [hg] at C1
    clear h hlen e1 hg
    go_enter Try.func32, Try.ntmps32
    go_wp2_with fail
    refine C1.out.mono ?_
    rintro e w1 ⟨rfl, hb1⟩
    have HB := Lib.hid hb1
    clear hb1
    go_wp2
    go_ret2
    exact GotR.no_ HB.out
  | true =>
    by_cases h20 : n = 20
    · have e1 : okNotQ l = false := by unfold okNotQ; rw [hg, hlen, h20]; rfl
      rw [e1, notQ_no e1]
      rw [hg] at C1
      clear h hlen e1 hg
      subst h20
      go_enter Try.func32, Try.ntmps32
      go_wp2_with fail
      refine C1.out.mono ?_
      rintro e w1 ⟨rfl, hb1⟩
      have HB := Lib.hid hb1
      clear hb1
      go_wp2
      go_ret2
      exact GotR.no_ HB.out
    · have e1 : okNotQ l = true := by unfold okNotQ; rw [hg, hlen]; simpa using h20
      rw [e1, notQ_yes e1]
      have hlq := goodQ_len hg
      rw [hlen] at hlq
      rw [hg] at C1
      have h20' : ((n : Int) == 20) = false := by simp; omega
      obtain ⟨b0, off, rfl, hb0, hc⟩ := h.2 (by omega)
      have HL := Lib.hid hlen
      have HC := Lib.hid hc
      have H := Lib.hid h
      clear e1 hg hlen hc h
      go_enter Try.func32, Try.ntmps32
      go_wp2_with fail
      refine C1.out.mono ?_
      rintro e w1 ⟨rfl, hb1⟩
      have HB1 := Lib.hid hb1
      have hs1 := hb1.size
      clear hb1
      go_wp2_with (at_builtin; refine wpList_append_own _ rfl (.tmp 12) (.tmp 13) 42 rfl w.heap.size 59 i0 (.agg #[.int .i64 0, .string .empty, .string .empty, .int .i64 0, .int .i64 0]) 5 56 Try.underlying42 HI.out.1 HI.out.2.1 HI.out.2.2.1 HI.out.2.2.2 rfl (by decide) _ 0 [] rfl (World.ownsRow_lit w1 #[] 0 hs1 (by unfold maxLen; omega) rfl) ⟨b0, off, none⟩ n c (qrys l) rfl (by rw [qrys_len, HL.out]) ?c1 (qrys_one l) (by unfold maxLen; omega) (by omega) (by simp; omega) ?_)
      case c1 =>
        intro j u hu
        rw [Addr.add_lit, World.cell?_alloc_lt _ _ _ (by simp; omega)]
        exact (bcell HB1.out _ _ (by omega)).trans (HC.out j u hu)
      intro v' w2 ho2 hg2 _
      obtain ⟨A2, c2, rfl⟩ := own_slice ho2
      have HB2 := Lib.hid ((HB1.out.alloc hs1 (.cells #[] 59)).grown hg2 (by simp; omega) (fun k hk => by simp [Value.ownBlock] at hk; omega))
      have HO2 := Lib.hid (show w2.ownsRow w.heap.size 59 5 (.slice A2 n c2) n (qrys l) by simpa using ho2)
      clear ho2 hg2
      go_wp2_with (at_builtin; refine wpList_append_own _ rfl (.tmp 14) (.tmp 19) 42 rfl w.heap.size 59 i0 (.agg #[.int .i64 0, .string .empty, .string .empty, .int .i64 0, .int .i64 0]) 5 56 Try.underlying42 HI.out.1 HI.out.2.1 HI.out.2.2.1 HI.out.2.2.2 rfl (by decide) _ n _ rfl (HO2.out.alloc _) ⟨w2.heap.size, 0, none⟩ 1 1 (qrys [⟨5, ⟨#[]⟩, ⟨#[]⟩, (n : Int) - 1, 0⟩]) rfl rfl ?c1 (qrys_one _) ?c3 ?c4 ?c5 ?_)
      case c1 =>
        intro j u hj
        have hj5 : j < 5 := (List.getElem?_eq_some_iff.1 hj).1
        rw [Addr.add_lit, World.cell?_alloc_at _ _ _ _ rfl]
        simpa [qrys, Qry.cells] using hj
      case c3 => unfold maxLen; omega
      case c4 => omega
      case c5 => have := HB2.out.size; simp; omega
      intro v' w3 ho3 hg3 _
      obtain ⟨A3, c3, rfl⟩ := own_slice ho3
      have HB3 := Lib.hid ((HB2.out.alloc (by have := HB2.out.size; omega) (.cells #[.int .i64 5, .string ⟨#[]⟩, .string ⟨#[]⟩, .int .i64 ((n : Int) - 1), .int .i64 0] 59)).grown hg3 (by have := HB2.out.size; simp; omega) (fun k hk => (HO2.out.lt k hk).1))
      have HO3 := Lib.hid (show w3.ownsRow w.heap.size 59 5 (.slice A3 (n + 1) c3) (n + 1) (qrys (l ++ [notQ l])) by rw [qrys_app]; unfold notQ; rw [HL.out]; exact ho3)
      clear ho3 hg3
      go_wp2
      go_ret2
      rw [List.length_append, HL.out, List.length_singleton]
      exact GotR.own_ HO3.out HB3.out
set_option maxRecDepth 100000 in
set_option maxHeartbeats 4000000 in
theorem iNotQuery_any (B : Nat) (A : Option Addr) (n c : Nat) (l : List Qry) (w : World) (hBw : B ≤ w.heap.size) (h : Rd w B 5 A n (qrys l)) (hn : n ≤ 1048576) (hok : ∀ p ∈ l, p.name.size ≤ 1048576 ∧ p.value.size ≤ 1048576) :
    Calls Try.prog 27 #[.slice A n c] w (GotR 59 5 w (notQL l).length (qrys (notQL l)) (okNotQ l)) := by
  have hlen := h.qry_len
  have C1 := Lib.hid (isQuery_any B A n c l w hBw h hn hok)
  obtain ⟨i0, hi, hi0, hi1, hi2⟩ := info_parts infoQuery
  have HI := Lib.hid (And.intro hi (And.intro hi0 (And.intro hi1 hi2)))
  clear hi hi0 hi1 hi2
  cases hg : goodQry l with
  | false =>
    have e1 : okNotQ l = false := by unfold okNotQ; rw [hg]; rfl
    rw [e1, notQ_no e1]
    rw [hg] at C1
    clear h hlen e1 hg
    go_enter Try.func27, Try.ntmps27
    go_wp2_with fail
    refine C1.out.mono ?_
    rintro e w1 ⟨rfl, hb1⟩
    have HB := Lib.hid hb1
    clear hb1
    go_wp2
    go_ret2
    exact GotR.no_ HB.out
  | true =>
    by_cases h20 : n = 20
    · have e1 : okNotQ l = false := by unfold okNotQ; rw [hg, hlen, h20]; rfl
      rw [e1, notQ_no e1]
      rw [hg] at C1
      clear h hlen e1 hg
      subst h20
      go_enter Try.func27, Try.ntmps27
      go_wp2_with fail
      refine C1.out.mono ?_
      rintro e w1 ⟨rfl, hb1⟩
      have HB := Lib.hid hb1
      clear hb1
      go_wp2
      go_ret2
      exact GotR.no_ HB.out
    · have e1 : okNotQ l = true := by unfold okNotQ; rw [hg, hlen]; simpa using h20
      rw [e1, notQ_yes e1]
      have hlq := goodQ_len hg
      rw [hlen] at hlq
      rw [hg] at C1
      have h20' : ((n : Int) == 20) = false := by simp; omega
      obtain ⟨b0, off, rfl, hb0, hc⟩ := h.2 (by omega)
      have HL := Lib.hid hlen
      have HC := Lib.hid hc
      have H := Lib.hid h
      clear e1 hg hlen hc h
      go_enter Try.func27, Try.ntmps27
      go_wp2_with fail
      refine C1.out.mono ?_
      rintro e w1 ⟨rfl, hb1⟩
      have HB1 := Lib.hid hb1
      have hs1 := hb1.size
      clear hb1
      go_wp2_with fail
      refine (cloneQuery_any B _ n c l w1 (by omega) (H.out.keep fun b off hb => bcell HB1.out _ _ (by omega)) hn).mono ?_
      rintro e w2 ⟨A2, c2, rfl, ho2, hg2⟩
      have HB2 := Lib.hid (HB1.out.trans (hg2.mono hs1))
      have HO2 := Lib.hid (own_mono ho2 hs1)
      clear ho2 hg2
      go_wp2_with (at_builtin; refine wpList_append_own _ rfl (.tmp 13) (.tmp 18) 42 rfl w.heap.size 59 i0 (.agg #[.int .i64 0, .string .empty, .string .empty, .int .i64 0, .int .i64 0]) 5 56 Try.underlying42 HI.out.1 HI.out.2.1 HI.out.2.2.1 HI.out.2.2.2 rfl (by decide) _ n _ rfl (HO2.out.alloc _) ⟨w2.heap.size, 0, none⟩ 1 1 (qrys [⟨5, ⟨#[]⟩, ⟨#[]⟩, (n : Int) - 1, 0⟩]) rfl rfl ?c1 (qrys_one _) ?c3 ?c4 ?c5 ?_)
      case c1 =>
        intro j u hj
        have hj5 : j < 5 := (List.getElem?_eq_some_iff.1 hj).1
        rw [Addr.add_lit, World.cell?_alloc_at _ _ _ _ rfl]
        simpa [qrys, Qry.cells] using hj
      case c3 => unfold maxLen; omega
      case c4 => omega
      case c5 => have := HB2.out.size; simp; omega
      intro v' w3 ho3 hg3 _
      obtain ⟨A3, c3, rfl⟩ := own_slice ho3
      have HB3 := Lib.hid ((HB2.out.alloc (by have := HB2.out.size; omega) (.cells #[.int .i64 5, .string ⟨#[]⟩, .string ⟨#[]⟩, .int .i64 ((n : Int) - 1), .int .i64 0] 59)).grown hg3 (by have := HB2.out.size; simp; omega) (fun k hk => (HO2.out.lt k hk).1))
      have HO3 := Lib.hid (show w3.ownsRow w.heap.size 59 5 (.slice A3 (n + 1) c3) (n + 1) (qrys (l ++ [notQ l])) by rw [qrys_app]; unfold notQ; rw [HL.out]; exact ho3)
      clear ho3 hg3
      go_wp2
      go_ret2
      rw [List.length_append, HL.out, List.length_singleton]
      exact GotR.own_ HO3.out HB3.out
end Go.Proofs.Ytpdclppieicaeaa
