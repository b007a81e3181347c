/- The generators of labels. -/
import Derived.Test.YtjokpbopceolcaaDoorCurVal
import Derived.Test.YtjokpbopceolcaaDoorDrawPost0
import Derived.Test.YtjokpbopceolcaaDoorLabs
namespace Go.Proofs.YtjokpbopceolcaaDoor
set_option linter.unusedVariables false
set_option linter.unusedSimpArgs false
open Go.RowKit

/-- The texts that a block holds. -/
def StrsAt (w : World) (g : Nat) (ts : List ByteArray) : Prop := ∀ (j : Nat) (x : ByteArray), ts[j]? = some x → w.cell? ⟨g, j, none⟩ = some (.string x)
theorem StrsAt.ch {w w' : World} {g a b : Nat} {ts : List ByteArray} (h : StrsAt w g ts) (hc : Ch a b w w') (hg : g < w.heap.size) (ho : g < a ∨ b ≤ g) : StrsAt w' g ts :=
  fun j x e => (cell_same (hc.block g hg ho)).trans (h j x e)
theorem StrsAt.below {w w' : World} {g B : Nat} {ts : List ByteArray} (h : StrsAt w g ts) (hb : Below B w w') (hg : g < B) : StrsAt w' g ts := fun j x e => (bcell hb _ _ hg).trans (h j x e)
theorem lit_strs {w : World} {t : Nat} {ts : List ByteArray} : StrsAt (w.alloc (.cells (ts.map Value.string).toArray t)) w.heap.size ts := fun j x h => by
  rw [cell_of_row _ _ _ _ _ _ (heap_alloc_new w _)]
  simp [h]
/-- One of some texts. -/
def OfV (ts : List ByteArray) (_ : World) (v : Value) : Prop := ∃ x ∈ ts, v = .string x
set_option maxRecDepth 100000 in
set_option maxHeartbeats 1000000 in
theorem of_any (u : CU) (m g n c : Nat) (ts : List ByteArray) (w : World) (h : CurAt u m w) (hm : m ≤ 549755813888) (hg : g ≠ u.b) (hl : ts.length = n) (hn : 0 < n) (hn2 : n ≤ 1000000) (hc : StrsAt w g ts) (hgl : g < w.heap.size) :
    Calls Tryd.prog 75 #[.pointer (some ⟨u.b, 0, none⟩), .slice (some ⟨g, 0, none⟩) n c] w (Drew u (m + 2) w (OfV ts)) := by
  have HH := Lib.hid h
  have HL := Lib.hid hl
  have HCE := Lib.hid hc
  clear h hl hc
  go_enter Tryd.func75, Tryd.ntmps75
  go_wp2_with fail
  refine (pick_any u m n _ HH.out (by omega) (by omega)).mono ?_
  rintro e w1 ⟨_, rfl, ⟨r, rfl, hr0, hr⟩, hcu, hch⟩
  have HC := Lib.hid hcu
  have HW := Lib.hid hch
  obtain ⟨k, rfl⟩ := Int.eq_ofNat_of_zero_le hr0
  have hkn : k < n := by omega
  obtain ⟨x, hx⟩ : ∃ x, ts[k]? = some x := ⟨_, List.getElem?_eq_getElem (by rw [HL.out]; exact hkn)⟩
  have hcx : w1.cell? ⟨g, k, none⟩ = some (.string x) := (HCE.out.ch hch hgl (by omega)) k x hx
  have HX := Lib.hid hx
  clear hcu hch hx hr hr0
  go_wp2
  go_ret
  exact ⟨_, rfl, ⟨x, List.mem_of_getElem? HX.out, rfl⟩, HC.out, HW.out⟩
/-- Labels of short texts. -/
def smallLab (l : List Lab) : Prop := ∀ p ∈ l, p.1.size ≤ 16 ∧ p.2.size ≤ 16
theorem smallLab.snoc {l : List Lab} {p : Lab} (h : smallLab l) (h1 : p.1.size ≤ 16) (h2 : p.2.size ≤ 16) : smallLab (l ++ [p]) := by
  intro q hq
  rcases List.mem_append.1 hq with h3 | h3
  · exact h q h3
  · rw [List.mem_singleton.1 h3]; exact ⟨h1, h2⟩
theorem smallLab.set {l : List Lab} {p : Lab} (k : Nat) (h : smallLab l) (h1 : p.1.size ≤ 16) (h2 : p.2.size ≤ 16) : smallLab (l.set k p) := by
  intro q hq
  rcases List.mem_or_eq_of_mem_set hq with h3 | h3
  · exact h q h3
  · rw [h3]; exact ⟨h1, h2⟩
theorem own_casesL {w : World} {base e size n c : Nat} {A : Option Addr} {xs : List Value} (h : w.ownsRow base e size (.slice A n c) n xs) (hn : 0 < n) : ∃ g, A = some ⟨g, 0, none⟩ := by
  rcases h.2 with ⟨_, rfl⟩ | ⟨g, cap, cur, hv, _⟩
  · omega
  · injection hv with e1 _ e3
    exact ⟨g, e1⟩
theorem lbls_set (l : List Lab) : ∀ (k : Nat) (p : Lab), k < l.length → ((lbls l).set (k * 2) (.string p.1)).set (k * 2 + 1) (.string p.2) = lbls (l.set k p) := by
  induction l with
  | nil => intro k p h; simp at h
  | cons q l ih =>
    intro k p h
    cases k with
    | zero => simp [lbls]
    | succ k =>
      have := ih k p (by simpa using h)
      have e : (k + 1) * 2 = k * 2 + 1 + 1 := by omega
      rw [e]
      simp only [lbls, List.flatMap_cons, List.cons_append, List.nil_append, List.set_cons_succ] at this ⊢
      rw [this]
/-- Drawn labels, in new memory. -/
def LabsV (base : Nat) (w : World) (v : Value) : Prop := ∃ A c k l, v = .slice A k c ∧ k ≤ 7 ∧ w.ownsRow base 48 2 (.slice A k c) k (lbls l) ∧ smallLab l
set_option maxRecDepth 100000 in
set_option maxHeartbeats 8000000 in
theorem labels_any (u : CU) (m : Nat) (w : World) (h : CurAt u m w) (hm : m ≤ 549755800000) :
    Calls Tryd.prog 45 #[.pointer (some ⟨u.b, 0, none⟩)] w (Drew u (m + 40) w (LabsV w.heap.size)) := by
  obtain ⟨i0, hi, hz0, hz1, hz2⟩ := info_parts infoLabel
  have HI := Lib.hid (And.intro hi (And.intro hz0 (And.intro hz1 hz2)))
  clear hi hz0 hz1 hz2
  have hub := h.hb
  have HH := Lib.hid h
  clear h
  go_enter Tryd.func45, Tryd.ntmps45
  go_wp2_with fail
  obtain ⟨ts, hts⟩ : ∃ ts : List ByteArray, ts = [⟨#[97, 112, 112]⟩, ⟨#[104, 111, 115, 116]⟩, ⟨#[106, 111, 98]⟩, ⟨#[108, 101]⟩, ⟨#[109, 101, 116, 104, 111, 100]⟩, ⟨#[112, 97, 116, 104]⟩, ⟨#[122, 111, 110, 101]⟩] := ⟨_, rfl⟩
  have hlen : ts.length = 7 := by rw [hts]; rfl
  have HTS := Lib.hid (show ∀ x ∈ ts, x.size ≤ 16 by rw [hts]; decide)
  obtain ⟨w0, hw0⟩ : ∃ w0, w.alloc (.cells #[.string ⟨#[97, 112, 112]⟩, .string ⟨#[104, 111, 115, 116]⟩, .string ⟨#[106, 111, 98]⟩, .string ⟨#[108, 101]⟩, .string ⟨#[109, 101, 116, 104, 111, 100]⟩, .string ⟨#[112, 97, 116, 104]⟩, .string ⟨#[122, 111, 110, 101]⟩] 9) = w0 := ⟨_, rfl⟩
  rw [hw0]
  have HT := Lib.hid (show StrsAt w0 w.heap.size ts by rw [← hw0, hts]; exact lit_strs)
  have HC0 := Lib.hid (show CurAt u m w0 by rw [← hw0]; exact HH.out.alloc _)
  have HW0 := Lib.hid (show Ch u.b (u.b + 1) w w0 by rw [← hw0]; exact (Ch.alloc _ _).zero)
  have hs0 : w0.heap.size = w.heap.size + 1 := by rw [← hw0]; simp
  have HLEN := Lib.hid hlen
  obtain ⟨X, hX⟩ : ∃ X, w.heap.size = X := ⟨_, rfl⟩
  rw [hX] at hub hs0 HT ⊢
  have HX := Lib.hid hX
  clear hw0 hts HH hlen hX
  go_loopw [3, 8] (fun v i wr => ∃ (k j : Nat) (A : Option Addr) (c : Nat) (l : List Lab), j ≤ 7 ∧ i = .int .i64 j ∧ k ≤ j ∧ v = .slice A k c ∧ wr.ownsRow (X + 1) 48 2 (.slice A k c) k (lbls l) ∧ smallLab l ∧ CurAt u (m + 4 * j) wr ∧ StrsAt wr X ts ∧ X + 1 ≤ wr.heap.size ∧ Ch u.b (u.b + 1) w wr) (fun _ i _ => 7 - (intOf i).toNat)
  case atStart => exact ⟨0, 0, none, 0, [], by omega, rfl, by omega, rfl, World.ownsRow_nil _ _ _ _, (fun p hp => by cases hp), HC0.out, HT.out, by omega, HW0.out⟩
  case round =>
    clear HC0 HT HW0
    obtain ⟨k, j, A, c, l, hj, rfl, hkj, rfl, ho, hsm, hcu, hT, hsz, hch⟩ := hrel
    have HO := Lib.hid ho
    have HC := Lib.hid hcu
    have HW := Lib.hid hch
    have HSM := Lib.hid hsm
    have HTr := Lib.hid hT
    clear ho hcu hch hsm hT
    by_cases hlt : j < 7
    · obtain ⟨x, hx⟩ : ∃ x, ts[j]? = some x := ⟨_, List.getElem?_eq_getElem (by rw [HLEN.out]; exact hlt)⟩
      have hcx := HTr.out j x hx
      have hx16 := HTS.out x (List.mem_of_getElem? hx)
      clear hx
      go_wp2_with fail
      refine (one_any u (m + 4 * j) 3 _ HC.out (by omega) (by omega)).mono ?_
      rintro e w2 ⟨_, rfl, ⟨q, rfl⟩, hcu, hch⟩
      have hs2 := hch.size
      have HO2 := Lib.hid (own_chP HO.out hch (by omega))
      have HC2 := Lib.hid hcu
      have HW2 := Lib.hid (HW.out.trans hch)
      have HT2 := Lib.hid (HTr.out.ch hch (by omega) (by omega))
      clear hcu hch HO HC HW hcx HTr
      cases q with
      | false =>
        go_wp2
        go_roundw
        case rel => exact ⟨k, j + 1, A, c, l, by omega, by go_num, by omega, rfl, HO2.out, HSM.out, HC2.out.more (by omega), HT2.out, by omega, HW2.out⟩
        case measure => simp [intOf]; omega
      | true =>
        go_wp2_with fail
        refine (of_any u (m + 4 * j + 2) w2.heap.size 5 5 [⟨#[97]⟩, ⟨#[98]⟩, ⟨#[97, 112, 105]⟩, ⟨#[119, 101, 98, 49]⟩, ⟨#[120, 57]⟩] _ (HC2.out.alloc _) (by omega) (by have := HC2.out.hb; omega) rfl (by omega) (by omega) lit_strs (by simp)).mono ?_
        rintro e w3 ⟨_, rfl, ⟨y, hy, rfl⟩, hcu, hch⟩
        have hs3 := hch.size
        simp at hs3
        have HO3 := Lib.hid (own_chP (HO2.out.alloc (.cells #[.string ⟨#[97]⟩, .string ⟨#[98]⟩, .string ⟨#[97, 112, 105]⟩, .string ⟨#[119, 101, 98, 49]⟩, .string ⟨#[120, 57]⟩] 9)) hch (by omega))
        have HC3 := Lib.hid hcu
        have HW3 := Lib.hid ((HW2.out.trans (Ch.alloc _ _).zero).trans hch)
        have HT3 := Lib.hid ((HT2.out.ch (Ch.alloc _ _) (by omega) (Or.inr (Nat.zero_le _))).ch hch (by simp; omega) (by omega))
        have hy16 : y.size ≤ 16 := (show ∀ z ∈ ([⟨#[97]⟩, ⟨#[98]⟩, ⟨#[97, 112, 105]⟩, ⟨#[119, 101, 98, 49]⟩, ⟨#[120, 57]⟩] : List ByteArray), z.size ≤ 16 by decide) y hy
        clear hcu hch HO2 HC2 HW2 hy
        go_wp2_with (at_builtin; refine wpList_append_own _ rfl (.tmp 14) (.tmp 20) 22 rfl (X + 1) 48 i0 (.agg #[.string .empty, .string .empty]) 2 32 Tryd.underlying22 HI.out.1 HI.out.2.1 HI.out.2.2.1 HI.out.2.2.2 rfl (by decide) _ k _ rfl (HO3.out.alloc _) ⟨w3.heap.size, 0, none⟩ 1 1 (lbls [(x, y)]) rfl rfl ?c1 (lbls_one _) ?c3 ?c4 ?c5 ?_)
        case c1 =>
          intro i u hj
          match i, hj with
          | 0, hj => simp [lbls] at hj; subst hj; simp [Addr.add]
          | 1, hj => simp [lbls] at hj; subst hj; simp [Addr.add]
          | i + 2, hj => simp [lbls] at hj
        case c3 => unfold maxLen; omega
        case c4 => omega
        case c5 => simp; omega
        intro v' w6 ho6 hg6 _
        obtain ⟨A6, c6, rfl⟩ := own_slice ho6
        have HO6 := Lib.hid (show w6.ownsRow (X + 1) 48 2 (.slice A6 (k + 1) c6) (k + 1) (lbls (l ++ [(x, y)])) by rw [lbls_app]; exact ho6)
        have hb6 : Below (X + 1) (w3.alloc (.cells #[.string x, .string y] 48)) w6 := (Below.refl _ _).grown hg6 (by simp; omega) (fun k hk => (HO3.out.lt k hk).1)
        have HC6 := Lib.hid ((HC3.out.alloc (.cells #[.string x, .string y] 48)).below (hb6.mono (by omega)))
        have HW6 := Lib.hid ((HW3.out.trans (Ch.alloc w3 (.cells #[.string x, .string y] 48)).zero).growP (X + 1) hb6 (by rw [HX.out]; omega))
        have HT6 := Lib.hid (((HT3.out.ch (Ch.alloc w3 (.cells #[.string x, .string y] 48)) (by omega) (Or.inr (Nat.zero_le _)))).below hb6 (by omega))
        have hb6s := hb6.size
        simp at hb6s

        clear ho6 hg6 hb6 HO3 HC3 HW3
        go_wp2
        go_roundw
        case rel => exact ⟨k + 1, j + 1, A6, c6, _, by omega, by go_num, by omega, rfl, HO6.out, HSM.out.snoc hx16 hy16, HC6.out.more (by omega), HT6.out, by have := hb6s; omega, HW6.out⟩
        case measure => simp [intOf]; omega
    · obtain rfl : j = 7 := by omega
      by_cases hk0 : k = 0
      · subst hk0
        go_wp2
        go_ret
        exact ⟨_, rfl, ⟨A, c, 0, l, rfl, by omega, (by rw [HX.out]; exact own_mono HO.out (Nat.le_succ _)), HSM.out⟩, HC.out.more (by omega), HW.out⟩
      · have hk0' : (0 : Int) < (k : Int) := by omega
        go_wp2_with fail
        refine (one_any u (m + 4 * 7) 20 _ HC.out (by omega) (by omega)).mono ?_
        rintro e w5 ⟨_, rfl, ⟨q, rfl⟩, hcu, hch⟩
        have hs5 := hch.size
        have HO5 := Lib.hid (own_chP HO.out hch (by omega))
        have HC5 := Lib.hid hcu
        have HW5 := Lib.hid (HW.out.trans hch)
        clear hcu hch HO HC HW HTr
        cases q with
        | false =>
          go_wp2
          go_ret
          exact ⟨_, rfl, ⟨A, c, k, l, rfl, by omega, (by rw [HX.out]; exact own_mono HO5.out (Nat.le_succ _)), HSM.out⟩, HC5.out.more (by omega), HW5.out⟩
        | true =>
          go_wp2_with fail
          refine (pick_any u (m + 4 * 7 + 2) k _ HC5.out (by omega) (by omega)).mono ?_
          rintro e w6 ⟨_, rfl, ⟨r, rfl, hr0, hr⟩, hcu, hch⟩
          obtain ⟨p, rfl⟩ := Int.eq_ofNat_of_zero_le hr0
          have hp : p < k := by omega
          have hs6 := hch.size
          have HO6 := Lib.hid (own_chP HO5.out hch (by omega))
          have HC6 := Lib.hid hcu
          have HW6 := Lib.hid (HW5.out.trans hch)
          clear hcu hch HO5 HC5 HW5 hr0 hr
          go_wp2_with fail
          refine (of_any u (m + 4 * 7 + 4) w6.heap.size 4 4 [⟨#[]⟩, ⟨#[97, 49]⟩, ⟨#[122, 122, 122]⟩, ⟨#[116, 111, 111, 108, 111, 110, 103, 110, 97, 109, 101]⟩] _ (HC6.out.alloc _) (by omega) (by have := HC6.out.hb; omega) rfl (by omega) (by omega) lit_strs (by simp)).mono ?_
          rintro e w7 ⟨_, rfl, ⟨x, hx, rfl⟩, hcu, hch⟩
          have hs7 := hch.size
          simp at hs7
          have HO7 := Lib.hid (own_chP (HO6.out.alloc (.cells #[.string ⟨#[]⟩, .string ⟨#[97, 49]⟩, .string ⟨#[122, 122, 122]⟩, .string ⟨#[116, 111, 111, 108, 111, 110, 103, 110, 97, 109, 101]⟩] 9)) hch (by omega))
          have HC7 := Lib.hid hcu
          have HW7 := Lib.hid ((HW6.out.trans (Ch.alloc _ _).zero).trans hch)
          have hx16 : x.size ≤ 16 := (show ∀ z ∈ ([⟨#[]⟩, ⟨#[97, 49]⟩, ⟨#[122, 122, 122]⟩, ⟨#[116, 111, 111, 108, 111, 110, 103, 110, 97, 109, 101]⟩] : List ByteArray), z.size ≤ 16 by decide) x hx
          clear hcu hch HO6 HC6 HW6 hx
          go_wp2_with fail
          refine (of_any u (m + 4 * 7 + 6) w7.heap.size 3 3 [⟨#[]⟩, ⟨#[111, 107]⟩, ⟨#[97, 32, 98]⟩] _ (HC7.out.alloc _) (by omega) (by have := HC7.out.hb; omega) rfl (by omega) (by omega) lit_strs (by simp)).mono ?_
          rintro e w8 ⟨_, rfl, ⟨y, hy, rfl⟩, hcu, hch⟩
          have hs8 := hch.size
          simp at hs8
          have ho8 := own_chP (HO7.out.alloc (.cells #[.string ⟨#[]⟩, .string ⟨#[111, 107]⟩, .string ⟨#[97, 32, 98]⟩] 9)) hch (by omega)
          have HC8 := Lib.hid hcu
          have HW8 := Lib.hid ((HW7.out.trans (Ch.alloc _ _).zero).trans hch)
          have hy16 : y.size ≤ 16 := (show ∀ z ∈ ([⟨#[]⟩, ⟨#[111, 107]⟩, ⟨#[97, 32, 98]⟩] : List ByteArray), z.size ≤ 16 by decide) y hy
          clear hcu hch HO7 HC7 HW7 hy
          obtain ⟨g, rfl⟩ := own_casesL ho8 (by omega)
          have hgl := (ho8.lt g rfl)
          have hll := ho8.1
          rw [lbls_len] at hll
          have hf0 := ho8.frozenAt (p * 2)
          have hf1 := ho8.frozenAt (p * 2 + 1)
          obtain ⟨u0, hu0⟩ : ∃ u, w8.cell? ⟨g, p * 2, none⟩ = some u := by
            rw [ho8.cellAt (p * 2) (by omega)]
            exact ⟨_, List.getElem?_eq_getElem (by rw [lbls_len]; omega)⟩
          obtain ⟨u1, hu1⟩ : ∃ u, w8.cell? ⟨g, p * 2 + 1, none⟩ = some u := by
            rw [ho8.cellAt (p * 2 + 1) (by omega)]
            exact ⟨_, List.getElem?_eq_getElem (by rw [lbls_len]; omega)⟩
          have s0 := (World.ownsRow.stored ho8 (p * 2) (.string x)).1
          have s1 := (World.ownsRow.stored s0 (p * 2 + 1) (.string y)).1
          rw [lbls_set l p (x, y) (by omega)] at s1
          have HS := Lib.hid s1
          have HSM2 := Lib.hid (HSM.out.set (p := (x, y)) p hx16 hy16)
          have hgu : g ≠ u.b := by omega
          have hgX : X ≤ g := by have := hgl.1; omega
          clear s0 s1 hll ho8
          go_wp2
          go_ret
          refine ⟨_, rfl, ⟨_, c, k, l.set p (x, y), rfl, by omega, (by rw [HX.out]; exact own_mono HS.out (Nat.le_succ _)), HSM2.out⟩, ?_, ?_⟩
          · exact (HC8.out.more (by omega)).below (((Below.refl _ _).setCell (by simp; omega) _).setCell (by simp; omega) _)
          · exact HW8.out.growP X (((Below.refl _ _).setCell (by simpa using hgX) _).setCell (by simpa using hgX) _) (by rw [HX.out]; exact Nat.le_refl _)
end Go.Proofs.YtjokpbopceolcaaDoor
