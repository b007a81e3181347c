/- The generators of series and queries, the comparing of queries, and the plain facts of the law FnQueries. -/
import Derived.Test.YtpdclppieicaeaaRowSS
import Derived.Test.YtpdclppieicaeaaCur
import Derived.Test.YtpdclppieicaeaaDrawLab
import Derived.Test.YtpdclppieicaeaaLabSS
import Derived.Test.YtpdclppieicaeaaQrys
import Derived.Test.YtpdclppieicaeaaEvalLaw
import Derived.Test.YtpdclppieicaeaaPostsOf
import Derived.Test.YtpdclppieicaeaaNotQry
import Derived.Test.YtpdclppieicaeaaSetLaw
namespace Go.Proofs.Ytpdclppieicaeaa
set_option linter.unusedVariables false
set_option linter.unusedSimpArgs false
open Go.RowKit

/-- A slice of integers that begins where its block does. -/
def L0 (lo : Nat) (w : World) (h : Hd) (z : List Lab) : Prop := Rd w w.heap.size 2 h.1 h.2.1 (lbls z) ∧ (0 < h.2.1 → ∃ b, h.1 = some ⟨b, 0, none⟩ ∧ lo ≤ b)
section
variable {lo : Nat} {w w' : World} {h : Hd} {z : List Lab}
theorem L0.of_own {base T n c : Nat} {A : Option Addr} (ho : w.ownsRow base T 2 (.slice A n c) n (lbls z)) : L0 base w (A, n, c) z := by
  refine ⟨Rd.of_own ho, fun hn => ?_⟩
  obtain ⟨g, cap, hv, hbg, _⟩ := own_form ho hn
  injection hv with e
  exact ⟨g, e, hbg⟩
theorem L0.first (hr : L0 lo w h z) (hn : 0 < h.2.1) : ∃ b x, h.1 = some ⟨b, 0, none⟩ ∧ b < w.heap.size ∧ w.cell? ⟨b, 0, none⟩ = some (.string x) := by
  obtain ⟨b0, hb0, _⟩ := hr.2 hn
  obtain ⟨b, off, e, hb, hc⟩ := hr.1.2 hn
  rw [hb0] at e
  injection e with e
  injection e with e1 e2
  subst e1; subst e2
  have hl : 0 < z.length := by have := hr.1.lab_len; omega
  refine ⟨b0, z[0].1, hb0, hb, ?_⟩
  have := hc 0 (.string z[0].1) (lbls_get z 0 z[0] (List.getElem?_eq_getElem hl)).1
  simpa using this
theorem L0.keep (hr : L0 lo w h z) (hs : w.heap.size ≤ w'.heap.size) (hk : ∀ b x, 0 < h.2.1 → h.1 = some ⟨b, 0, none⟩ → b < w.heap.size → w.cell? ⟨b, 0, none⟩ = some (.string x) → w'.heap[b]? = w.heap[b]?) : L0 lo w' h z := by
  refine ⟨⟨hr.1.1, fun hn => ?_⟩, hr.2⟩
  obtain ⟨b0, x, hb0, hlt, hx⟩ := hr.first hn
  obtain ⟨b, off, e, hb, hc⟩ := hr.1.2 hn
  have e0 := e
  rw [hb0] at e
  injection e with e
  injection e with e1 e2
  subst e1; subst e2
  have eb := hk b0 x hn hb0 hlt hx
  refine ⟨b0, 0, hb0, by omega, fun j u hu => ?_⟩
  have e1 : ∀ j, w'.cell? ⟨b0, j, none⟩ = w.cell? ⟨b0, j, none⟩ := fun j => by simp only [World.cell?, eb]
  rw [e1]
  exact hc j u hu
theorem L0.below (hr : L0 lo w h z) (hb : Below w.heap.size w w') : L0 lo w' h z := hr.keep hb.size fun b x _ _ hlt _ => hb.block b hlt
/-- What such a slice reads as, in blocks below B. -/
theorem L0.rd (hr : L0 lo w h z) : Rd w w.heap.size 2 h.1 h.2.1 (lbls z) := hr.1
end
/-- The rows told so far, in a slice that the call owns. -/
def ToldL (T base : Nat) (v : Value) (k : Nat) (zss : List (List Lab)) (w : World) : Prop :=
  ∃ hs : List Hd, hs.length = k ∧ zss.length = k ∧ w.ownsRow base T 1 v k (hds hs) ∧ (k = 0 → v = .slice none 0 0) ∧ ∀ (j : Nat) (h : Hd) (z : List Lab), hs[j]? = some h → zss[j]? = some z → L0 base w h z
section
variable {T base k : Nat} {v : Value} {zss : List (List Lab)} {w w' : World}
theorem ToldL.start : ToldL T base (.slice none 0 0) 0 [] w := ⟨[], rfl, rfl, World.ownsRow_nil _ _ _ _, fun _ => rfl, fun j h z e => by simp at e⟩
theorem ToldL.below (h : ToldL T base v k zss w) (hb : Below w.heap.size w w') : ToldL T base v k zss w' := by
  obtain ⟨hs, h1, h2, h3, h4, h5⟩ := h
  exact ⟨hs, h1, h2, own_below h3 hb (Nat.le_refl _), h4, fun j h z e e' => (h5 j h z e e').below hb⟩
theorem own_cellL {n : Nat} {A : Option Addr} {c : Nat} {xs : List Value} (h : w.ownsRow base T 1 (.slice A n c) n xs) {j : Nat} {u : Value} (hu : xs[j]? = some u) : ∃ b, A = some ⟨b, 0, none⟩ ∧ base ≤ b ∧ b < w.heap.size ∧ w.cell? ⟨b, j, none⟩ = some u := by
  have hn : 0 < n := by have := h.1; have := (List.getElem?_eq_some_iff.1 hu).1; omega
  obtain ⟨g, cap, hv, hb, hlt, _⟩ := own_form h hn
  injection hv with e
  exact ⟨g, e, hb, hlt, by have := h.cells (g := g) (by rw [e]; rfl) j u hu; rwa [own_add, Nat.zero_add] at this⟩
theorem ToldL.at_ {At : Option Addr} {ct j : Nat} (h : ToldL T base (.slice At k ct) k zss w) (hj : j < k) :
    ∃ b A n c z, At = some ⟨b, 0, none⟩ ∧ base ≤ b ∧ b < w.heap.size ∧ zss[j]? = some z ∧ w.cell? ⟨b, j, none⟩ = some (.slice A n c) ∧ L0 base w (A, n, c) z := by
  obtain ⟨hs, h1, h2, h3, h4, h5⟩ := h
  have e1 : hs[j]? = some hs[j] := List.getElem?_eq_getElem (by omega)
  have e2 : zss[j]? = some zss[j] := List.getElem?_eq_getElem (by omega)
  obtain ⟨b, hA, hb, hlt, hc⟩ := own_cellL h3 (hds_get e1)
  exact ⟨b, hs[j].1, hs[j].2.1, hs[j].2.2, zss[j], hA, hb, hlt, e2, hc, h5 j _ _ e1 e2⟩
/-- A row of integers survives what is done to a slice of slices. -/
theorem L0.grown {h : Hd} {z : List Lab} {hs : List Hd} (hr : L0 base w h z) (ho : w.ownsRow base T 1 v k (hds hs)) (hl : hs.length = k) (h0 : k = 0 → v = .slice none 0 0) (hg : w.grownBy w' v.ownBlock) : L0 base w' h z := by
  refine hr.keep hg.size fun b x _ _ hlt hx => hg.block b hlt fun e => ?_
  by_cases hk : k = 0
  · rw [h0 hk] at e; simp [Value.ownBlock] at e
  · have e1 : hs[0]? = some hs[0] := List.getElem?_eq_getElem (by omega)
    have := ho.cells e.symm 0 _ (hds_get e1)
    rw [own_add, Nat.zero_add, hx] at this
    simp [hdV] at this
theorem ToldL.app {hs : List Hd} {v' : Value} {h : Hd} {z : List Lab} (h1 : hs.length = k) (h2 : zss.length = k) (ho : w.ownsRow base T 1 v k (hds hs)) (h0 : k = 0 → v = .slice none 0 0) (h5 : ∀ (j : Nat) (h : Hd) (z : List Lab), hs[j]? = some h → zss[j]? = some z → L0 base w h z)
    (hz : L0 base w h z) (ho' : w'.ownsRow base T 1 v' (k + 1) (hds hs ++ [hdV h])) (hg : w.grownBy w' v.ownBlock) : ToldL T base v' (k + 1) (zss ++ [z]) w' := by
  refine ⟨hs ++ [h], by simp [h1], by simp [h2], by rw [hds_app]; exact ho', fun e => absurd e (by omega), fun j h' z' e e' => ?_⟩
  by_cases hj : j < k
  · rw [List.getElem?_append_left (by omega)] at e e'
    exact (h5 j h' z' e e').grown ho h1 h0 hg
  · have hjk : j = k := by have := (List.getElem?_eq_some_iff.1 e).1; simp [h1] at this; omega
    subst hjk
    rw [List.getElem?_append_right (by omega), h1, Nat.sub_self] at e
    rw [List.getElem?_append_right (by omega), h2, Nat.sub_self] at e'
    simp at e e'
    subst e; subst e'
    exact hz.grown ho h1 h0 hg
end
theorem L0.mono {lo lo' : Nat} {w : World} {h : Hd} {z : List Lab} (hr : L0 lo w h z) (hl : lo' ≤ lo) : L0 lo' w h z := ⟨hr.1, fun hn => by obtain ⟨b, e, hb⟩ := hr.2 hn; exact ⟨b, e, by omega⟩⟩
theorem L0.ch {lo : Nat} {w w' : World} {h : Hd} {z : List Lab} {u : CU} {m : Nat} (hr : L0 lo w h z) (hc : CurAt u m w) (hch : Ch u.b (u.b + 1) w w') : L0 lo w' h z := by
  refine hr.keep hch.size fun b x _ _ hlt hx => hch.block b hlt ?_
  have hne : b ≠ u.b := fun e => by
    have h1 := hc.code
    rw [← e, hx] at h1
    cases h1
  omega
theorem ToldL.ch {w w' : World} {T base k : Nat} {v : Value} {zss : List (List Lab)} {u : CU} {m : Nat} (h : ToldL T base v k zss w) (hc : CurAt u m w) (hch : Ch u.b (u.b + 1) w w') (hb : u.b < base) : ToldL T base v k zss w' := by
  obtain ⟨hs, h1, h2, h3, h4, h5⟩ := h
  refine ⟨hs, h1, h2, ?_, h4, fun j h z e e' => (h5 j h z e e').ch hc hch⟩
  refine ⟨h3.1, ?_⟩
  rcases h3.2 with q | ⟨g, cap, cur, hv, hl, hh, r⟩
  · exact .inl q
  · have hlt := h3.lt g (by rw [hv]; rfl)
    exact .inr ⟨g, cap, cur, hv, hl, (hch.block g hlt.2 (by have := hlt.1; omega)).trans hh, r⟩
theorem ToldL.chB {w w' : World} {T base k a b : Nat} {v : Value} {zss : List (List Lab)} (h : ToldL T base v k zss w) (hch : Ch a b w w') (hb : b ≤ base) : ToldL T base v k zss w' := by
  obtain ⟨hs, h1, h2, h3, h4, h5⟩ := h
  refine ⟨hs, h1, h2, ?_, h4, fun j h z e e' => ?_⟩
  · refine ⟨h3.1, ?_⟩
    rcases h3.2 with q | ⟨g, cap, cur, hv, hl, hh, r⟩
    · exact .inl q
    · have hlt := h3.lt g (by rw [hv]; rfl)
      exact .inr ⟨g, cap, cur, hv, hl, (hch.block g hlt.2 (by have := hlt.1; omega)).trans hh, r⟩
  · have hr := h5 j h z e e'
    refine hr.keep hch.size fun b0 x hn hb0 hlt _ => hch.block b0 hlt ?_
    obtain ⟨b1, e1, hb1⟩ := hr.2 hn
    rw [hb0] at e1
    injection e1 with e1
    injection e1 with e1
    omega
theorem ToldL.rd {w : World} {T base k : Nat} {A : Option Addr} {c : Nat} {zss : List (List Lab)} (h : ToldL T base (.slice A k c) k zss w) (hs : ∀ l ∈ zss, l.length ≤ 1048576) : RdSS w w.heap.size A k zss := by
  obtain ⟨hs', h1, h2, h3, h4, h5⟩ := h
  exact ⟨hs', Rd.of_own h3, h2, fun j h l e e' => ⟨(h5 j h l e e').rd, by have h6 := (h5 j h l e e').rd.lab_len; have := hs l (List.mem_of_getElem? e'); omega⟩⟩
theorem pc_store2 {w : World} {g : Nat} {u0 u1 y s : Value} (d0 : w.cell? ⟨g, 0, none⟩ = some u0) (d1 : w.cell? ⟨g, 1, none⟩ = some u1) :
    let w' := (w.setCell ⟨g, 0, none⟩ y).setCell ⟨g, 1, none⟩ s
    w'.cell? ⟨g, 0, none⟩ = some y ∧ w'.cell? ⟨g, 1, none⟩ = some s ∧ Ch g (g + 1) w w' := by
  have e1 : (w.setCell ⟨g, 0, none⟩ y).cell? ⟨g, 1, none⟩ = some u1 := (World.cell?_setCell_other _ _ _ _ (by simp)).trans d1
  refine ⟨?_, World.cell?_setCell_same _ _ _ e1, ?_⟩
  · exact (World.cell?_setCell_other _ _ _ _ (by simp)).trans (World.cell?_setCell_same _ _ _ d0)
  · refine ⟨rfl, rfl, rfl, by simp only [World.size_setCell]; exact Nat.le_refl _, fun k hk ho => ?_⟩
    rw [Below.heap_setCell _ _ _ _ (by simp; omega), Below.heap_setCell _ _ _ _ (by simp; omega)]
theorem frz_same {w w' : World} {b j : Nat} (h : w'.heap[b]? = w.heap[b]?) : w'.frozen? ⟨b, j, none⟩ = w.frozen? ⟨b, j, none⟩ := by
  simp only [World.frozen?, h]
theorem frz_alloc {w : World} {b j : Nat} {o : Obj} (h : b < w.heap.size) : (w.alloc o).frozen? ⟨b, j, none⟩ = w.frozen? ⟨b, j, none⟩ := World.frozen?_alloc_past o b j h
/-- A drawn label. -/
def LabV (_ : World) (v : Value) : Prop := ∃ x y, v = .agg #[.string x, .string y] ∧ x.size ≤ 16 ∧ y.size ≤ 16
set_option maxRecDepth 100000 in
set_option maxHeartbeats 2000000 in
theorem label_any (u : CU) (m : Nat) (w : World) (h : CurAt u m w) (hm : m ≤ 549755800000) :
    Calls Try.prog 57 #[.pointer (some ⟨u.b, 0, none⟩)] w (Drew u (m + 4) w LabV) := by
  have hub := h.hb
  have HH := Lib.hid h
  clear h
  go_enter Try.func57, Try.ntmps57
  go_wp2_with fail
  have hS0 : StrsAt ((w.alloc (.cells #[.string ⟨#[]⟩, .string ⟨#[]⟩] 32)).alloc (.cells #[.string ⟨#[97, 112, 112]⟩, .string ⟨#[104, 111, 115, 116]⟩, .string ⟨#[106, 111, 98]⟩, .string ⟨#[108, 101]⟩, .string ⟨#[]⟩] 9)) (w.heap.size + 1) [⟨#[97, 112, 112]⟩, ⟨#[104, 111, 115, 116]⟩, ⟨#[106, 111, 98]⟩, ⟨#[108, 101]⟩, ⟨#[]⟩] := by
    have := lit_strs (w := w.alloc (.cells #[.string ⟨#[]⟩, .string ⟨#[]⟩] 32)) (t := 9) (ts := [⟨#[97, 112, 112]⟩, ⟨#[104, 111, 115, 116]⟩, ⟨#[106, 111, 98]⟩, ⟨#[108, 101]⟩, ⟨#[]⟩])
    simpa using this
  refine (of_any u m (w.heap.size + 1) 5 5 [⟨#[97, 112, 112]⟩, ⟨#[104, 111, 115, 116]⟩, ⟨#[106, 111, 98]⟩, ⟨#[108, 101]⟩, ⟨#[]⟩] _ ((HH.out.alloc _).alloc _) (by omega) (by omega) rfl (by omega) (by omega) hS0 (by simp)).mono ?_
  rintro e w7 ⟨_, rfl, ⟨x, hx, rfl⟩, hcu, hch⟩
  have hs7 := hch.size
  simp at hs7
  have d0 : w7.cell? ⟨w.heap.size, 0, none⟩ = some (.string ⟨#[]⟩) := (cell_same (hch.block w.heap.size (by simp; omega) (by omega))).trans ((World.cell?_alloc_lt _ _ _ (by simp)).trans (by simp))
  have d1 : w7.cell? ⟨w.heap.size, 1, none⟩ = some (.string ⟨#[]⟩) := (cell_same (hch.block w.heap.size (by simp; omega) (by omega))).trans ((World.cell?_alloc_lt _ _ _ (by simp)).trans (by simp))
  have hf : ∀ j, w7.frozen? ⟨w.heap.size, j, none⟩ = false := fun j => (frz_same (hch.block w.heap.size (by simp; omega) (by omega))).trans ((frz_alloc (by simp)).trans (World.frozen?_alloc_at _ _ _ _ rfl))
  have HC7 := Lib.hid hcu
  have HW7 := Lib.hid (((Ch.alloc w (.cells #[.string ⟨#[]⟩, .string ⟨#[]⟩] 32)).zero.trans (Ch.alloc _ _).zero).trans hch)
  have hx16 : x.size ≤ 16 := (show ∀ z ∈ ([⟨#[97, 112, 112]⟩, ⟨#[104, 111, 115, 116]⟩, ⟨#[106, 111, 98]⟩, ⟨#[108, 101]⟩, ⟨#[]⟩] : List ByteArray), z.size ≤ 16 by decide) x hx
  clear hcu hch HH hx hS0
  go_wp2_with fail
  refine (of_any u (m + 2) w7.heap.size 4 4 [⟨#[97]⟩, ⟨#[98]⟩, ⟨#[97, 112, 105]⟩, ⟨#[119, 101, 98, 49]⟩] _ (HC7.out.alloc _) (by omega) (by have := HC7.out.hb; omega) rfl (by omega) (by omega) lit_strs (by simp)).mono ?_
  rintro e w8 ⟨_, rfl, ⟨y, hy, rfl⟩, hcu, hch⟩
  have e0 : w8.cell? ⟨w.heap.size, 0, none⟩ = some (.string ⟨#[]⟩) := (cell_same (hch.block w.heap.size (by simp; omega) (by omega))).trans ((World.cell?_alloc_lt _ _ _ (by simp; omega)).trans d0)
  have e1 : w8.cell? ⟨w.heap.size, 1, none⟩ = some (.string ⟨#[]⟩) := (cell_same (hch.block w.heap.size (by simp; omega) (by omega))).trans ((World.cell?_alloc_lt _ _ _ (by simp; omega)).trans d1)
  have g0 : w8.frozen? ⟨w.heap.size, 0, none⟩ = false := (frz_same (hch.block w.heap.size (by simp; omega) (by omega))).trans ((frz_alloc (by omega)).trans (hf 0))
  have g1 : w8.frozen? ⟨w.heap.size, 1, none⟩ = false := (frz_same (hch.block w.heap.size (by simp; omega) (by omega))).trans ((frz_alloc (by omega)).trans (hf 1))
  have hs8 := hch.size
  simp at hs8
  have HC8 := Lib.hid hcu
  have HW8 := Lib.hid ((HW7.out.trans (Ch.alloc _ _).zero).trans hch)
  have hy16 : y.size ≤ 16 := (show ∀ z ∈ ([⟨#[97]⟩, ⟨#[98]⟩, ⟨#[97, 112, 105]⟩, ⟨#[119, 101, 98, 49]⟩] : List ByteArray), z.size ≤ 16 by decide) y hy
  clear hcu hch hf d0 d1 HC7 HW7 hy
  go_wp2_with fail
  have P := pc_store2 (y := .string x) (s := .string y) e0 e1
  obtain ⟨w9, hw9⟩ : ∃ w9, ((w8.setCell ⟨w.heap.size, 0, none⟩ (.string x)).setCell ⟨w.heap.size, 1, none⟩ (.string y)) = w9 := ⟨_, rfl⟩
  rw [hw9] at P ⊢
  obtain ⟨p0, p1, hg⟩ := P
  clear e0 e1 g0 g1 hw9
  have hg' : Below w.heap.size w8 w9 := hg.below (by omega) (.inl (Nat.le_refl _))
  exact bodyPost_ret (v := .agg #[.string x, .string y]) (by simp [results, Try.results57, go_sem, p0, p1]) rfl ⟨_, rfl, ⟨x, y, rfl, hx16, hy16⟩, (HC8.out.more (by omega)).below (hg'.mono (by omega)), HW8.out.growP w.heap.size hg' (Nat.le_refl _)⟩
/-- Drawn series, in new memory. -/
def SerV (base : Nat) (w : World) (v : Value) : Prop := ∃ A c k ls, v = .slice A k c ∧ k ≤ 61 ∧ ToldL 66 base (.slice A k c) k ls w ∧ ∀ l ∈ ls, l.length ≤ 7 ∧ smallLab l
set_option maxRecDepth 100000 in
set_option maxHeartbeats 8000000 in
theorem series_any (u : CU) (m : Nat) (w : World) (h : CurAt u m w) (hm : m ≤ 549755700000) :
    Calls Try.prog 51 #[.pointer (some ⟨u.b, 0, none⟩)] w (Drew u (m + 2600) w (SerV w.heap.size)) := by
  obtain ⟨i0, hi, hz0, hz1, hz2⟩ := info_parts infoLabS
  have HI := Lib.hid (And.intro hi (And.intro hz0 (And.intro hz1 hz2)))
  clear hi hz0 hz1 hz2
  have hub := h.hb
  have HH := Lib.hid h
  clear h
  go_enter Try.func51, Try.ntmps51
  go_wp2_with fail
  refine (pick_any u m 7 _ HH.out (by omega) (by omega)).mono ?_
  rintro e w1 ⟨_, rfl, ⟨r, rfl, hr0, hr⟩, hcu, hch⟩
  obtain ⟨N, rfl⟩ := Int.eq_ofNat_of_zero_le hr0
  have hN : N ≤ 61 := by omega
  have hs1 := hch.size
  have HC := Lib.hid hcu
  have HW := Lib.hid hch
  clear hcu hch HH hr hr0
  go_wp2_with fail
  refine (one_any u (m + 2) 30 _ HC.out (by omega) (by omega)).mono ?_
  rintro e w2 ⟨_, rfl, ⟨q, rfl⟩, hcu, hch⟩
  have hs2 := hch.size
  have HC2 := Lib.hid hcu
  have HW2 := Lib.hid (HW.out.trans hch)
  clear hcu hch HC HW
  cases q with
  | true =>
    go_wp2_with fail
    refine (pick_any u (m + 4) 2 _ HC2.out (by omega) (by omega)).mono ?_
    rintro e w3 ⟨_, rfl, ⟨r, rfl, hr0, hr⟩, hcu, hch⟩
    obtain ⟨M, hM⟩ : ∃ M : Nat, 60 + r = (M : Int) := ⟨(60 + r).toNat, by omega⟩
    have hM2 : M ≤ 61 := by omega
    have hs3 := hch.size
    have HC3 := Lib.hid hcu
    have HW3 := Lib.hid (HW2.out.trans hch)
    clear hcu hch HC2 HW2 hr
    go_wp2_with fail
    · skip
      go_loopw [3, 4] (fun v i wr => ∃ (k j : Nat) (A : Option Addr) (c : Nat) (ls : List (List Lab)), k + j = M ∧ i = .int .i64 j ∧ v = .slice A k c ∧ ToldL 66 w.heap.size (.slice A k c) k ls wr ∧ (∀ l ∈ ls, l.length ≤ 7 ∧ smallLab l) ∧ CurAt u (m + 6 + 40 * k) wr ∧ Ch u.b (u.b + 1) w wr) (fun _ i _ => (intOf i).toNat)
      case atStart => exact ⟨0, M, none, 0, [], by omega, by first | rfl | (congr 1; omega), rfl, ToldL.start, (fun p hp => by cases hp), HC3.out.more (by omega), HW3.out⟩
      case round =>
        clear HC3 HW3
        obtain ⟨k, j, A, c, ls, hkj, rfl, rfl, ht, hsm, hcu, hch⟩ := hrel
        have hsz := hch.size
        have HT := Lib.hid ht
        have HC := Lib.hid hcu
        have HW := Lib.hid hch
        have HSM := Lib.hid hsm
        have hkj' : k + j ≤ 61 := by omega
        have HKJ := Lib.hid hkj
        clear ht hcu hch hsm hkj
        by_cases hlt : 0 < j
        · go_wp2_with fail
          refine (labels_any u (m + 6 + 40 * k) _ HC.out (by omega)).mono ?_
          rintro e w4 ⟨_, rfl, ⟨A4, c4, k4, l4, rfl, hk4, ho4, hsm4⟩, hcu, hch⟩
          have hs4 := hch.size
          have HR4 := Lib.hid ((L0.of_own ho4).mono (show w.heap.size ≤ _ by omega))
          have hlen4 : l4.length ≤ 7 := by have := (Rd.of_own ho4).lab_len; omega
          have HT4 := Lib.hid (HT.out.ch HC.out hch (by omega))
          have HC4 := Lib.hid hcu
          have HW4 := Lib.hid (HW.out.trans hch)
          have HSM4 := Lib.hid (show ∀ l ∈ ls ++ [l4], l.length ≤ 7 ∧ smallLab l from fun l hl => by
            rcases List.mem_append.1 hl with h3 | h3
            · exact HSM.out l h3
            · rw [List.mem_singleton.1 h3]; exact ⟨hlen4, hsm4⟩)
          clear hcu hch ho4 hsm4 HT HC HW HSM
          obtain ⟨hs, hl1, hl2, hoT, h0, hr⟩ := HT4.out
          have HO := Lib.hid hoT
          have HL1 := Lib.hid hl1
          have HL2 := Lib.hid hl2
          have H00 := Lib.hid h0
          have HRR := Lib.hid hr
          clear hoT hl1 hl2 h0 hr HT4
          go_wp2_with (at_builtin; refine wpList_append_own _ rfl (.tmp 16) (.tmp 19) 30 rfl w.heap.size 66 i0 (.slice none 0 0) 1 24 Try.underlying30 HI.out.1 HI.out.2.1 HI.out.2.2.1 HI.out.2.2.2 rfl (by decide) _ k _ rfl (HO.out.alloc _) ⟨w4.heap.size, 0, none⟩ 1 1 [.slice A4 k4 c4] rfl rfl (by intro j u hj; cases j with | zero => simp at hj; subst hj; simp [Addr.add] | succ j => simp at hj) (by intro u hu; simp at hu; subst hu; rfl) (by unfold maxLen; omega) (by omega) (by simp; omega) ?_)
          intro v' w5 ho5 hg5 _
          obtain ⟨A5, c5, rfl⟩ := own_slice ho5
          have HT5 := Lib.hid (ToldL.app HL1.out HL2.out (HO.out.alloc _) H00.out (fun j h z e e' => (HRR.out j h z e e').below ((Below.refl _ _).alloc (Nat.le_refl _) _)) (h := (A4, k4, c4)) (z := l4) (HR4.out.below ((Below.refl _ _).alloc (Nat.le_refl _) _)) ho5 hg5)
          have hb5 : Below w.heap.size (w4.alloc (.cells #[.slice A4 k4 c4] 66)) w5 := (Below.refl _ _).grown hg5 (by simp; omega) (fun k hk => (HO.out.lt k hk).1)
          have HC5 := Lib.hid ((HC4.out.alloc (.cells #[.slice A4 k4 c4] 66)).below (hb5.mono (by omega)))
          have HW5 := Lib.hid ((HW4.out.trans (Ch.alloc w4 (.cells #[.slice A4 k4 c4] 66)).zero).growP w.heap.size hb5 (by omega))
          clear ho5 hg5 hb5 HR4 HRR HO HC4 HW4
          go_wp2
          go_roundw
          case rel => exact ⟨k + 1, j - 1, A5, c5, _, by have := HKJ.out; omega, by go_num, rfl, HT5.out, HSM4.out, HC5.out.more (by omega), HW5.out⟩
          case measure => simp [intOf]; omega
        · obtain rfl : j = 0 := by omega
          go_wp2
          go_ret
          exact ⟨_, rfl, ⟨A, c, k, ls, rfl, by omega, HT.out, HSM.out⟩, HC.out.more (by omega), HW.out⟩
  | false =>
    go_wp2_with fail
    · skip
      go_loopw [3, 4] (fun v i wr => ∃ (k j : Nat) (A : Option Addr) (c : Nat) (ls : List (List Lab)), k + j = N ∧ i = .int .i64 j ∧ v = .slice A k c ∧ ToldL 66 w.heap.size (.slice A k c) k ls wr ∧ (∀ l ∈ ls, l.length ≤ 7 ∧ smallLab l) ∧ CurAt u (m + 6 + 40 * k) wr ∧ Ch u.b (u.b + 1) w wr) (fun _ i _ => (intOf i).toNat)
      case atStart => exact ⟨0, N, none, 0, [], by omega, by first | rfl | (congr 1; omega), rfl, ToldL.start, (fun p hp => by cases hp), HC2.out.more (by omega), HW2.out⟩
      case round =>
        clear HC2 HW2
        obtain ⟨k, j, A, c, ls, hkj, rfl, rfl, ht, hsm, hcu, hch⟩ := hrel
        have hsz := hch.size
        have HT := Lib.hid ht
        have HC := Lib.hid hcu
        have HW := Lib.hid hch
        have HSM := Lib.hid hsm
        have hkj' : k + j ≤ 61 := by omega
        have HKJ := Lib.hid hkj
        clear ht hcu hch hsm hkj
        by_cases hlt : 0 < j
        · go_wp2_with fail
          refine (labels_any u (m + 6 + 40 * k) _ HC.out (by omega)).mono ?_
          rintro e w4 ⟨_, rfl, ⟨A4, c4, k4, l4, rfl, hk4, ho4, hsm4⟩, hcu, hch⟩
          have hs4 := hch.size
          have HR4 := Lib.hid ((L0.of_own ho4).mono (show w.heap.size ≤ _ by omega))
          have hlen4 : l4.length ≤ 7 := by have := (Rd.of_own ho4).lab_len; omega
          have HT4 := Lib.hid (HT.out.ch HC.out hch (by omega))
          have HC4 := Lib.hid hcu
          have HW4 := Lib.hid (HW.out.trans hch)
          have HSM4 := Lib.hid (show ∀ l ∈ ls ++ [l4], l.length ≤ 7 ∧ smallLab l from fun l hl => by
            rcases List.mem_append.1 hl with h3 | h3
            · exact HSM.out l h3
            · rw [List.mem_singleton.1 h3]; exact ⟨hlen4, hsm4⟩)
          clear hcu hch ho4 hsm4 HT HC HW HSM
          obtain ⟨hs, hl1, hl2, hoT, h0, hr⟩ := HT4.out
          have HO := Lib.hid hoT
          have HL1 := Lib.hid hl1
          have HL2 := Lib.hid hl2
          have H00 := Lib.hid h0
          have HRR := Lib.hid hr
          clear hoT hl1 hl2 h0 hr HT4
          go_wp2_with (at_builtin; refine wpList_append_own _ rfl (.tmp 16) (.tmp 19) 30 rfl w.heap.size 66 i0 (.slice none 0 0) 1 24 Try.underlying30 HI.out.1 HI.out.2.1 HI.out.2.2.1 HI.out.2.2.2 rfl (by decide) _ k _ rfl (HO.out.alloc _) ⟨w4.heap.size, 0, none⟩ 1 1 [.slice A4 k4 c4] rfl rfl (by intro j u hj; cases j with | zero => simp at hj; subst hj; simp [Addr.add] | succ j => simp at hj) (by intro u hu; simp at hu; subst hu; rfl) (by unfold maxLen; omega) (by omega) (by simp; omega) ?_)
          intro v' w5 ho5 hg5 _
          obtain ⟨A5, c5, rfl⟩ := own_slice ho5
          have HT5 := Lib.hid (ToldL.app HL1.out HL2.out (HO.out.alloc _) H00.out (fun j h z e e' => (HRR.out j h z e e').below ((Below.refl _ _).alloc (Nat.le_refl _) _)) (h := (A4, k4, c4)) (z := l4) (HR4.out.below ((Below.refl _ _).alloc (Nat.le_refl _) _)) ho5 hg5)
          have hb5 : Below w.heap.size (w4.alloc (.cells #[.slice A4 k4 c4] 66)) w5 := (Below.refl _ _).grown hg5 (by simp; omega) (fun k hk => (HO.out.lt k hk).1)
          have HC5 := Lib.hid ((HC4.out.alloc (.cells #[.slice A4 k4 c4] 66)).below (hb5.mono (by omega)))
          have HW5 := Lib.hid ((HW4.out.trans (Ch.alloc w4 (.cells #[.slice A4 k4 c4] 66)).zero).growP w.heap.size hb5 (by omega))
          clear ho5 hg5 hb5 HR4 HRR HO HC4 HW4
          go_wp2
          go_roundw
          case rel => exact ⟨k + 1, j - 1, A5, c5, _, by have := HKJ.out; omega, by go_num, rfl, HT5.out, HSM4.out, HC5.out.more (by omega), HW5.out⟩
          case measure => simp [intOf]; omega
        · obtain rfl : j = 0 := by omega
          go_wp2
          go_ret
          exact ⟨_, rfl, ⟨A, c, k, ls, rfl, by omega, HT.out, HSM.out⟩, HC.out.more (by omega), HW.out⟩
def smallQry (l : List Qry) : Prop := ∀ p ∈ l, p.name.size ≤ 16 ∧ p.value.size ≤ 16
theorem smallQry.snoc {l : List Qry} {p : Qry} (h : smallQry l) (h1 : p.name.size ≤ 16) (h2 : p.value.size ≤ 16) : smallQry (l ++ [p]) := by
  intro q hq
  rcases List.mem_append.1 hq with h3 | h3
  · exact h q h3
  · rw [List.mem_singleton.1 h3]; exact ⟨h1, h2⟩
theorem smallQry.set {l : List Qry} {p : Qry} (k : Nat) (h : smallQry l) (h1 : p.name.size ≤ 16) (h2 : p.value.size ≤ 16) : smallQry (l.set k p) := by
  intro q hq
  rcases List.mem_or_eq_of_mem_set hq with h3 | h3
  · exact h q h3
  · rw [h3]; exact ⟨h1, h2⟩
theorem qrys_set3 (l : List Qry) : ∀ (k : Nat) (p : Qry) (x : Int), l[k]? = some p → (qrys l).set (k * 5 + 3) (.int .i64 x) = qrys (l.set k { p with a := x }) := by
  induction l with
  | nil => intro k p x h; simp at h
  | cons q l ih =>
    intro k p x h
    cases k with
    | zero =>
      simp at h
      subst h
      simp [qrys, Qry.cells]
    | succ k =>
      have := ih k p x (by simpa using h)
      rw [show (k + 1) * 5 + 3 = k * 5 + 3 + 1 + 1 + 1 + 1 + 1 by omega]
      simp only [qrys, List.flatMap_cons, Qry.cells, List.cons_append, List.nil_append, List.set_cons_succ] at this ⊢
      rw [this]
def qry1 : Qry := ⟨2, ⟨#[97, 112, 112]⟩, ⟨#[97]⟩, 0, 0⟩
theorem qry1_small : smallQry [qry1] := by intro p hp; rw [List.mem_singleton.1 hp]; exact ⟨by decide, by decide⟩
theorem own_set1 {w : World} {base e s n : Nat} {v : Value} {xs : List Value} {p : Addr} (h : w.ownsRow base e s v n xs) (x : Value) (hne : ∀ b, v.ownBlock = some b → b ≠ p.block) : (w.setCell p x).ownsRow base e s v n xs := by
  refine ⟨h.1, ?_⟩
  rcases h.2 with h2 | ⟨g, cap, cur, hv, hl, hh, r⟩
  · exact .inl h2
  · exact .inr ⟨g, cap, cur, hv, hl, (Below.heap_setCell _ _ _ _ (hne g (by rw [hv]; rfl))).trans hh, r⟩
theorem own_set2 {w : World} {base e s n : Nat} {v : Value} {xs : List Value} {p q : Addr} (h : w.ownsRow base e s v n xs) (x y : Value) (hp : ∀ b, v.ownBlock = some b → b ≠ p.block) (hq : ∀ b, v.ownBlock = some b → b ≠ q.block) : ((w.setCell p x).setCell q y).ownsRow base e s v n xs := own_set1 (own_set1 h x hp) y hq
theorem lit5 {w : World} {g t : Nat} {kd a b : Int} {x y : ByteArray} (hg : g = w.heap.size) : ∀ (i : Nat) (u : Value), (qrys [⟨kd, x, y, a, b⟩])[i]? = some u → (w.alloc (.cells #[.int .i64 kd, .string x, .string y, .int .i64 a, .int .i64 b] t)).cell? ((⟨g, 0, none⟩ : Addr).add i) = some u := by
  subst hg
  intro i u hj
  match i, hj with
  | 0, hj => simp [qrys, Qry.cells] at hj; subst hj; simp [Addr.add]
  | 1, hj => simp [qrys, Qry.cells] at hj; subst hj; simp [Addr.add]
  | 2, hj => simp [qrys, Qry.cells] at hj; subst hj; simp [Addr.add]
  | 3, hj => simp [qrys, Qry.cells] at hj; subst hj; simp [Addr.add]
  | 4, hj => simp [qrys, Qry.cells] at hj; subst hj; simp [Addr.add]
  | i + 5, hj => simp [qrys, Qry.cells] at hj
/-- A block of five cells. -/
def Box5 (w : World) (g : Nat) (v0 v1 v2 v3 v4 : Value) : Prop :=
  (w.cell? ⟨g, 0, none⟩ = some v0 ∧ w.cell? ⟨g, 1, none⟩ = some v1 ∧ w.cell? ⟨g, 2, none⟩ = some v2 ∧ w.cell? ⟨g, 3, none⟩ = some v3 ∧ w.cell? ⟨g, 4, none⟩ = some v4) ∧ (∀ j, w.frozen? ⟨g, j, none⟩ = false) ∧ g < w.heap.size
theorem Box5.new {w : World} {t : Nat} {v0 v1 v2 v3 v4 : Value} : Box5 (w.alloc (.cells #[v0, v1, v2, v3, v4] t)) w.heap.size v0 v1 v2 v3 v4 :=
  ⟨⟨by simp, by simp, by simp, by simp, by simp⟩, fun j => World.frozen?_alloc_at _ _ _ _ rfl, by simp⟩
theorem Box5.ch {w w' : World} {g a b : Nat} {v0 v1 v2 v3 v4 : Value} (h : Box5 w g v0 v1 v2 v3 v4) (hc : Ch a b w w') (hg : b ≤ g) : Box5 w' g v0 v1 v2 v3 v4 := by
  obtain ⟨⟨h0, h1, h2, h3, h4⟩, hf, hl⟩ := h
  have hb := hc.block g hl (Or.inr hg)
  exact ⟨⟨(cell_same hb).trans h0, (cell_same hb).trans h1, (cell_same hb).trans h2, (cell_same hb).trans h3, (cell_same hb).trans h4⟩, fun j => (frz_same hb).trans (hf j), Nat.lt_of_lt_of_le hl hc.size⟩
theorem Box5.set12 {w : World} {g : Nat} {v0 v1 v2 v3 v4 x y : Value} (h : Box5 w g v0 v1 v2 v3 v4) : Box5 ((w.setCell ⟨g, 1, none⟩ x).setCell ⟨g, 2, none⟩ y) g v0 x y v3 v4 := by
  obtain ⟨⟨h0, h1, h2, h3, h4⟩, hf, hl⟩ := h
  have ne : ∀ {i j : Nat} {u : World} {z : Value}, i ≠ j → (u.setCell ⟨g, i, none⟩ z).cell? ⟨g, j, none⟩ = u.cell? ⟨g, j, none⟩ := fun h => World.cell?_setCell_other _ _ _ _ (by intro e; injection e; omega)
  refine ⟨⟨?_, ?_, ?_, ?_, ?_⟩, fun j => by rw [World.frozen?_setCell, World.frozen?_setCell]; exact hf j, by simpa [World.size_setCell] using hl⟩
  · rw [ne (by omega), ne (by omega)]; exact h0
  · rw [ne (by omega)]; exact World.cell?_setCell_same _ _ _ h1
  · exact World.cell?_setCell_same _ _ _ ((ne (by omega)).trans h2)
  · rw [ne (by omega), ne (by omega)]; exact h3
  · rw [ne (by omega), ne (by omega)]; exact h4
theorem Box5.set3 {w : World} {g : Nat} {v0 v1 v2 v3 v4 x : Value} (h : Box5 w g v0 v1 v2 v3 v4) : Box5 (w.setCell ⟨g, 3, none⟩ x) g v0 v1 v2 x v4 := by
  obtain ⟨⟨h0, h1, h2, h3, h4⟩, hf, hl⟩ := h
  have ne : ∀ {i j : Nat} {u : World} {z : Value}, i ≠ j → (u.setCell ⟨g, i, none⟩ z).cell? ⟨g, j, none⟩ = u.cell? ⟨g, j, none⟩ := fun h => World.cell?_setCell_other _ _ _ _ (by intro e; injection e; omega)
  exact ⟨⟨(ne (by omega)).trans h0, (ne (by omega)).trans h1, (ne (by omega)).trans h2, World.cell?_setCell_same _ _ _ h3, (ne (by omega)).trans h4⟩, fun j => by rw [World.frozen?_setCell]; exact hf j, by simpa [World.size_setCell] using hl⟩
theorem Box5.set4 {w : World} {g : Nat} {v0 v1 v2 v3 v4 x : Value} (h : Box5 w g v0 v1 v2 v3 v4) : Box5 (w.setCell ⟨g, 4, none⟩ x) g v0 v1 v2 v3 x := by
  obtain ⟨⟨h0, h1, h2, h3, h4⟩, hf, hl⟩ := h
  have ne : ∀ {i j : Nat} {u : World} {z : Value}, i ≠ j → (u.setCell ⟨g, i, none⟩ z).cell? ⟨g, j, none⟩ = u.cell? ⟨g, j, none⟩ := fun h => World.cell?_setCell_other _ _ _ _ (by intro e; injection e; omega)
  exact ⟨⟨(ne (by omega)).trans h0, (ne (by omega)).trans h1, (ne (by omega)).trans h2, (ne (by omega)).trans h3, World.cell?_setCell_same _ _ _ h4⟩, fun j => by rw [World.frozen?_setCell]; exact hf j, by simpa [World.size_setCell] using hl⟩
/-- A drawn query, in new memory. -/
def QryV (base : Nat) (w : World) (v : Value) : Prop := ∃ A c k l, v = .slice A k c ∧ k ≤ 21 ∧ w.ownsRow base 59 5 (.slice A k c) k (qrys l) ∧ smallQry l
set_option maxRecDepth 100000 in
set_option maxHeartbeats 8000000 in
theorem query_any (u : CU) (m : Nat) (w : World) (h : CurAt u m w) (hm : m ≤ 549755700000) :
    Calls Try.prog 52 #[.pointer (some ⟨u.b, 0, none⟩)] w (Drew u (m + 500) w (QryV w.heap.size)) := by
  obtain ⟨i0, hi, hz0, hz1, hz2⟩ := info_parts infoQuery
  have HI := Lib.hid (And.intro hi (And.intro hz0 (And.intro hz1 hz2)))
  clear hi hz0 hz1 hz2
  have hub := h.hb
  have HH := Lib.hid (show CurAt u m (w.alloc (.cells #[.int .i64 2, .string ⟨#[97, 112, 112]⟩, .string ⟨#[97]⟩, .int .i64 0, .int .i64 0] 59)) from h.alloc _)
  have HL := Lib.hid (show (w.alloc (.cells #[.int .i64 2, .string ⟨#[97, 112, 112]⟩, .string ⟨#[97]⟩, .int .i64 0, .int .i64 0] 59)).ownsRow w.heap.size 59 5 (.slice (some ⟨w.heap.size, 0, none⟩) 1 1) 1 (qrys [qry1]) from World.ownsRow_lit w #[.int .i64 2, .string ⟨#[97, 112, 112]⟩, .string ⟨#[97]⟩, .int .i64 0, .int .i64 0] 1 (Nat.le_refl _) (by unfold maxLen; omega) rfl)
  clear h
  go_enter Try.func52, Try.ntmps52
  go_wp2_with fail
  refine (pick_any u m 7 _ HH.out (by omega) (by omega)).mono ?_
  rintro e w1 ⟨_, rfl, ⟨r, rfl, hr0, hr⟩, hcu, hch⟩
  obtain ⟨N, rfl⟩ := Int.eq_ofNat_of_zero_le hr0
  have hN : N ≤ 20 := by omega
  have hs1 := hch.size
  simp at hs1
  have HL1 := Lib.hid (own_chP HL.out hch (by omega))
  have HC := Lib.hid hcu
  have HW := Lib.hid ((Ch.alloc w (.cells #[.int .i64 2, .string ⟨#[97, 112, 112]⟩, .string ⟨#[97]⟩, .int .i64 0, .int .i64 0] 59)).zero.trans hch)
  clear hcu hch HH hr hr0 HL
  go_wp2_with fail
  refine (one_any u (m + 2) 20 _ HC.out (by omega) (by omega)).mono ?_
  rintro e w2 ⟨_, rfl, ⟨q, rfl⟩, hcu, hch⟩
  have hs2 := hch.size
  have HC2 := Lib.hid hcu
  have HW2 := Lib.hid (HW.out.trans hch)
  have HC2O := Lib.hid (own_chP HL1.out hch (by omega))
  clear hcu hch HC HW HL1
  cases q with
  | true =>
    go_wp2_with fail
    refine (pick_any u (m + 4) 3 _ HC2.out (by omega) (by omega)).mono ?_
    rintro e w3 ⟨_, rfl, ⟨r, rfl, hr0, hr⟩, hcu, hch⟩
    obtain ⟨M, hM⟩ : ∃ M : Nat, 18 + r = (M : Int) := ⟨(18 + r).toNat, by omega⟩
    have hM2 : M ≤ 20 := by omega
    have hs3 := hch.size
    have HC3 := Lib.hid hcu
    have HW3 := Lib.hid (HW2.out.trans hch)
    have HC3O := Lib.hid (own_chP HC2O.out hch (by omega))
    clear hcu hch HC2 HW2 HC2O hr
    go_wp2_with fail
    · skip
      go_loopw [3, 4] (fun v i wr => ∃ (k j : Nat) (A : Option Addr) (c : Nat) (l : List Qry), k + j = M + 1 ∧ i = .int .i64 j ∧ 1 ≤ k ∧ v = .slice A k c ∧ wr.ownsRow w.heap.size 59 5 (.slice A k c) k (qrys l) ∧ smallQry l ∧ CurAt u (m + 6 + 20 * k) wr ∧ Ch u.b (u.b + 1) w wr) (fun _ i _ => (intOf i).toNat)
      case atStart => exact ⟨1, M, _, _, _, by omega, by first | rfl | (congr 1; omega), by omega, rfl, HC3O.out, qry1_small, HC3.out.more (by omega), HW3.out⟩
      case round =>
        clear HC3 HW3 HC3O
        obtain ⟨k, j, A, c, l, hkj, rfl, hk1, rfl, ho, hsm, hcu, hch⟩ := hrel
        have hsz := hch.size
        have HO := Lib.hid ho
        have HC := Lib.hid hcu
        have HW := Lib.hid hch
        have HSM := Lib.hid hsm
        have hkj' : k + j ≤ 21 := by omega
        have HKJ := Lib.hid hkj
        clear ho hcu hch hsm hkj
        by_cases hlt : 0 < j
        · go_wp2_with fail
          refine (pick_any u (m + 6 + 20 * k) 5 _ HC.out (by omega) (by omega)).mono ?_
          rintro e w4 ⟨_, rfl, ⟨r, rfl, hr0, hr⟩, hcu, hch⟩
          have hs4 := hch.size
          have HO4 := Lib.hid (own_chP HO.out hch (by omega))
          have hOb : ∀ b, (Value.slice A k c).ownBlock = some b → b ≠ w4.heap.size := fun b hb => by have := (HO4.out.lt b hb).2; omega
          have HC4 := Lib.hid hcu
          have HW4 := Lib.hid (HW.out.trans hch)
          clear hcu hch HO HC HW
          have h5 : r = 0 ∨ r = 1 ∨ r = 2 ∨ r = 3 ∨ r = 4 := by omega
          clear hr hr0
          rcases h5 with rfl | rfl | rfl | rfl | rfl
          · skip
            have HCA := Lib.hid (HC4.out.alloc (.cells #[.int .i64 1, .string ⟨#[]⟩, .string ⟨#[]⟩, .int .i64 0, .int .i64 0] 59))
            have HOA := Lib.hid (HO4.out.alloc (.cells #[.int .i64 1, .string ⟨#[]⟩, .string ⟨#[]⟩, .int .i64 0, .int .i64 0] 59))
            have HWA := Lib.hid (HW4.out.trans (Ch.alloc w4 (.cells #[.int .i64 1, .string ⟨#[]⟩, .string ⟨#[]⟩, .int .i64 0, .int .i64 0] 59)).zero)
            have HBA := Lib.hid (Box5.new (w := w4) (t := 59) (v0 := .int .i64 1) (v1 := .string ⟨#[]⟩) (v2 := .string ⟨#[]⟩) (v3 := .int .i64 0) (v4 := .int .i64 0))
            clear HC4 HO4 HW4
            have HOZ := HOA
            have HCZ := HCA
            have HWZ := HWA
            clear HOA HCA HWA HBA
            · skip
              go_wp2_with (at_builtin; refine wpList_append_own _ rfl (.tmp 51) (.tmp 53) 42 rfl w.heap.size 59 i0 (.agg #[.int .i64 0, .string .empty, .string .empty, .int .i64 0, .int .i64 0]) 5 56 Try.underlying42 HI.out.1 HI.out.2.1 HI.out.2.2.1 HI.out.2.2.2 rfl (by decide) _ k _ rfl (HOZ.out.alloc _) ⟨w4.heap.size + 1, 0, none⟩ 1 1 (qrys [⟨1, ⟨#[]⟩, ⟨#[]⟩, 0, 0⟩]) rfl rfl ?c1 (qrys_one _) ?c3 ?c4 ?c5 ?_)
              case c1 => exact lit5 (by simp [World.size_setCell])
              case c3 => unfold maxLen; omega
              case c4 => omega
              case c5 => simp; omega
              intro v' wz ho6 hg6 _
              obtain ⟨A6, c6, rfl⟩ := own_slice ho6
              have HO6 := Lib.hid (show wz.ownsRow w.heap.size 59 5 (.slice A6 (k + 1) c6) (k + 1) (qrys (l ++ [⟨1, ⟨#[]⟩, ⟨#[]⟩, 0, 0⟩])) by rw [qrys_app]; exact ho6)
              have hb6 : Below w.heap.size ((w4.alloc (.cells #[.int .i64 1, .string ⟨#[]⟩, .string ⟨#[]⟩, .int .i64 0, .int .i64 0] 59)).alloc (.cells #[.int .i64 1, .string ⟨#[]⟩, .string ⟨#[]⟩, .int .i64 0, .int .i64 0] 59)) wz := (Below.refl _ _).grown hg6 (by simp; omega) (fun k hk => (HOZ.out.lt k hk).1)
              have HC6 := Lib.hid ((HCZ.out.alloc (.cells #[.int .i64 1, .string ⟨#[]⟩, .string ⟨#[]⟩, .int .i64 0, .int .i64 0] 59)).below (hb6.mono (by omega)))
              have HW6 := Lib.hid ((HWZ.out.trans (Ch.alloc (w4.alloc (.cells #[.int .i64 1, .string ⟨#[]⟩, .string ⟨#[]⟩, .int .i64 0, .int .i64 0] 59)) (.cells #[.int .i64 1, .string ⟨#[]⟩, .string ⟨#[]⟩, .int .i64 0, .int .i64 0] 59)).zero).growP w.heap.size hb6 (by omega))
              clear ho6 hg6 hb6 HOZ HCZ HWZ
              go_wp2
              go_roundw
              case rel => exact ⟨k + 1, j - 1, A6, c6, _, by have := HKJ.out; omega, by go_num, by omega, rfl, HO6.out, HSM.out.snoc (p := ⟨1, ⟨#[]⟩, ⟨#[]⟩, 0, 0⟩) (by first | assumption | exact Nat.zero_le _) (by first | assumption | exact Nat.zero_le _), HC6.out.more (by omega), HW6.out⟩
              case measure => simp [intOf]; omega
          · skip
            have HCA := Lib.hid (HC4.out.alloc (.cells #[.int .i64 2, .string ⟨#[]⟩, .string ⟨#[]⟩, .int .i64 0, .int .i64 0] 59))
            have HOA := Lib.hid (HO4.out.alloc (.cells #[.int .i64 2, .string ⟨#[]⟩, .string ⟨#[]⟩, .int .i64 0, .int .i64 0] 59))
            have HWA := Lib.hid (HW4.out.trans (Ch.alloc w4 (.cells #[.int .i64 2, .string ⟨#[]⟩, .string ⟨#[]⟩, .int .i64 0, .int .i64 0] 59)).zero)
            have HBA := Lib.hid (Box5.new (w := w4) (t := 59) (v0 := .int .i64 2) (v1 := .string ⟨#[]⟩) (v2 := .string ⟨#[]⟩) (v3 := .int .i64 0) (v4 := .int .i64 0))
            clear HC4 HO4 HW4
            go_wp2_with fail
            refine (label_any u (m + 6 + 20 * k + 2) _ HCA.out (by omega)).mono ?_
            rintro e w5 ⟨_, rfl, ⟨x, y, rfl, hx16, hy16⟩, hcu, hch⟩
            have hs5 := hch.size
            simp at hs5
            have HO5 := Lib.hid (own_chP HOA.out hch (by omega))
            have HC5 := Lib.hid hcu
            have HW5 := Lib.hid (HWA.out.trans hch)
            have HB5 := Lib.hid (HBA.out.ch hch (by omega))
            obtain ⟨⟨d0, d1, d2, d3, d4⟩, hfz, hgl⟩ := HB5.out
            have f1 := hfz 1
            have f2 := hfz 2
            clear hcu hch HOA HCA HWA HBA hfz
            have hb5 : Below w4.heap.size w5 ((w5.setCell ⟨w4.heap.size, 1, none⟩ (.string x)).setCell ⟨w4.heap.size, 2, none⟩ (.string y)) := ((Below.refl _ _).setCell (by simp) _).setCell (by simp) _
            have HOZ := Lib.hid (own_set2 HO5.out (p := ⟨w4.heap.size, 1, none⟩) (q := ⟨w4.heap.size, 2, none⟩) (.string x) (.string y) hOb hOb)
            have HCZ := Lib.hid (HC5.out.below (hb5.mono (by omega)))
            have HWZ := Lib.hid (HW5.out.growP w.heap.size (hb5.mono (by omega)) (Nat.le_refl _))
            clear hb5 HO5 HC5 HW5 HB5 hOb
            · skip
              go_wp2_with (at_builtin; refine wpList_append_own _ rfl (.tmp 51) (.tmp 53) 42 rfl w.heap.size 59 i0 (.agg #[.int .i64 0, .string .empty, .string .empty, .int .i64 0, .int .i64 0]) 5 56 Try.underlying42 HI.out.1 HI.out.2.1 HI.out.2.2.1 HI.out.2.2.2 rfl (by decide) _ k _ rfl (HOZ.out.alloc _) ⟨w5.heap.size, 0, none⟩ 1 1 (qrys [⟨2, x, y, 0, 0⟩]) rfl rfl ?c1 (qrys_one _) ?c3 ?c4 ?c5 ?_)
              case c1 => exact lit5 (by simp [World.size_setCell])
              case c3 => unfold maxLen; omega
              case c4 => omega
              case c5 => simp; omega
              intro v' wz ho6 hg6 _
              obtain ⟨A6, c6, rfl⟩ := own_slice ho6
              have HO6 := Lib.hid (show wz.ownsRow w.heap.size 59 5 (.slice A6 (k + 1) c6) (k + 1) (qrys (l ++ [⟨2, x, y, 0, 0⟩])) by rw [qrys_app]; exact ho6)
              have hb6 : Below w.heap.size (((w5.setCell ⟨w4.heap.size, 1, none⟩ (.string x)).setCell ⟨w4.heap.size, 2, none⟩ (.string y)).alloc (.cells #[.int .i64 2, .string x, .string y, .int .i64 0, .int .i64 0] 59)) wz := (Below.refl _ _).grown hg6 (by simp; omega) (fun k hk => (HOZ.out.lt k hk).1)
              have HC6 := Lib.hid ((HCZ.out.alloc (.cells #[.int .i64 2, .string x, .string y, .int .i64 0, .int .i64 0] 59)).below (hb6.mono (by omega)))
              have HW6 := Lib.hid ((HWZ.out.trans (Ch.alloc ((w5.setCell ⟨w4.heap.size, 1, none⟩ (.string x)).setCell ⟨w4.heap.size, 2, none⟩ (.string y)) (.cells #[.int .i64 2, .string x, .string y, .int .i64 0, .int .i64 0] 59)).zero).growP w.heap.size hb6 (by omega))
              clear ho6 hg6 hb6 HOZ HCZ HWZ
              go_wp2
              go_roundw
              case rel => exact ⟨k + 1, j - 1, A6, c6, _, by have := HKJ.out; omega, by go_num, by omega, rfl, HO6.out, HSM.out.snoc (p := ⟨2, x, y, 0, 0⟩) (by first | assumption | exact Nat.zero_le _) (by first | assumption | exact Nat.zero_le _), HC6.out.more (by omega), HW6.out⟩
              case measure => simp [intOf]; omega
          · skip
            have HCA := Lib.hid (HC4.out.alloc (.cells #[.int .i64 3, .string ⟨#[]⟩, .string ⟨#[]⟩, .int .i64 0, .int .i64 0] 59))
            have HOA := Lib.hid (HO4.out.alloc (.cells #[.int .i64 3, .string ⟨#[]⟩, .string ⟨#[]⟩, .int .i64 0, .int .i64 0] 59))
            have HWA := Lib.hid (HW4.out.trans (Ch.alloc w4 (.cells #[.int .i64 3, .string ⟨#[]⟩, .string ⟨#[]⟩, .int .i64 0, .int .i64 0] 59)).zero)
            have HBA := Lib.hid (Box5.new (w := w4) (t := 59) (v0 := .int .i64 3) (v1 := .string ⟨#[]⟩) (v2 := .string ⟨#[]⟩) (v3 := .int .i64 0) (v4 := .int .i64 0))
            clear HC4 HO4 HW4
            go_wp2_with fail
            refine (pick_any u (m + 6 + 20 * k + 2) k _ HCA.out (by omega) (by omega)).mono ?_
            rintro e w5 ⟨_, rfl, ⟨pa, rfl, _, _⟩, hcu, hch⟩
            have hs5 := hch.size
            simp at hs5
            have HO5 := Lib.hid (own_chP HOA.out hch (by omega))
            have HC5 := Lib.hid hcu
            have HW5 := Lib.hid (HWA.out.trans hch)
            have HB5 := Lib.hid (HBA.out.ch hch (by omega))
            obtain ⟨⟨d0, d1, d2, d3, d4⟩, hfz, hgl⟩ := HB5.out
            have f3 := hfz 3
            clear hcu hch HOA HCA HWA HBA hfz
            have hb5 : Below w4.heap.size w5 (w5.setCell ⟨w4.heap.size, 3, none⟩ (.int .i64 pa)) := (Below.refl _ _).setCell (by simp) _
            have HO5' := Lib.hid (own_set1 HO5.out (p := ⟨w4.heap.size, 3, none⟩) (.int .i64 pa) hOb)
            have HC5' := Lib.hid (HC5.out.below (hb5.mono (by omega)))
            have HW5' := Lib.hid (HW5.out.growP w.heap.size (hb5.mono (by omega)) (Nat.le_refl _))
            have HB5' := Lib.hid (HB5.out.set3 (x := .int .i64 pa))
            clear hb5 HO5 HC5 HW5 HB5
            go_wp2_with fail
            refine (pick_any u (m + 6 + 20 * k + 4) k _ (HC5'.out.more (by omega)) (by omega) (by omega)).mono ?_
            rintro e w6 ⟨_, rfl, ⟨pb, rfl, _, _⟩, hcu, hch⟩
            have hs6 := hch.size
            simp only [World.size_setCell] at hs6
            have HO6' := Lib.hid (own_chP HO5'.out hch (by omega))
            have HC6' := Lib.hid hcu
            have HW6' := Lib.hid (HW5'.out.trans hch)
            have HB6' := Lib.hid (HB5'.out.ch hch (by omega))
            clear d0 d1 d2 d3 d4 f3 hgl
            obtain ⟨⟨d0, d1, d2, d3, d4⟩, hfz, hgl⟩ := HB6'.out
            have f4 := hfz 4
            clear hcu hch HO5' HC5' HW5' HB5' hfz HB6'
            have hb6' : Below w4.heap.size w6 (w6.setCell ⟨w4.heap.size, 4, none⟩ (.int .i64 pb)) := (Below.refl _ _).setCell (by simp) _
            have HOZ := Lib.hid (own_set1 HO6'.out (p := ⟨w4.heap.size, 4, none⟩) (.int .i64 pb) hOb)
            have HCZ := Lib.hid (HC6'.out.below (hb6'.mono (by omega)))
            have HWZ := Lib.hid (HW6'.out.growP w.heap.size (hb6'.mono (by omega)) (Nat.le_refl _))
            clear hb6' HO6' HC6' HW6' hOb
            · skip
              go_wp2_with (at_builtin; refine wpList_append_own _ rfl (.tmp 51) (.tmp 53) 42 rfl w.heap.size 59 i0 (.agg #[.int .i64 0, .string .empty, .string .empty, .int .i64 0, .int .i64 0]) 5 56 Try.underlying42 HI.out.1 HI.out.2.1 HI.out.2.2.1 HI.out.2.2.2 rfl (by decide) _ k _ rfl (HOZ.out.alloc _) ⟨w6.heap.size, 0, none⟩ 1 1 (qrys [⟨3, ⟨#[]⟩, ⟨#[]⟩, pa, pb⟩]) rfl rfl ?c1 (qrys_one _) ?c3 ?c4 ?c5 ?_)
              case c1 => exact lit5 (by simp [World.size_setCell])
              case c3 => unfold maxLen; omega
              case c4 => omega
              case c5 => simp; omega
              intro v' wz ho6 hg6 _
              obtain ⟨A6, c6, rfl⟩ := own_slice ho6
              have HO6 := Lib.hid (show wz.ownsRow w.heap.size 59 5 (.slice A6 (k + 1) c6) (k + 1) (qrys (l ++ [⟨3, ⟨#[]⟩, ⟨#[]⟩, pa, pb⟩])) by rw [qrys_app]; exact ho6)
              have hb6 : Below w.heap.size ((w6.setCell ⟨w4.heap.size, 4, none⟩ (.int .i64 pb)).alloc (.cells #[.int .i64 3, .string ⟨#[]⟩, .string ⟨#[]⟩, .int .i64 pa, .int .i64 pb] 59)) wz := (Below.refl _ _).grown hg6 (by simp; omega) (fun k hk => (HOZ.out.lt k hk).1)
              have HC6 := Lib.hid ((HCZ.out.alloc (.cells #[.int .i64 3, .string ⟨#[]⟩, .string ⟨#[]⟩, .int .i64 pa, .int .i64 pb] 59)).below (hb6.mono (by omega)))
              have HW6 := Lib.hid ((HWZ.out.trans (Ch.alloc (w6.setCell ⟨w4.heap.size, 4, none⟩ (.int .i64 pb)) (.cells #[.int .i64 3, .string ⟨#[]⟩, .string ⟨#[]⟩, .int .i64 pa, .int .i64 pb] 59)).zero).growP w.heap.size hb6 (by omega))
              clear ho6 hg6 hb6 HOZ HCZ HWZ
              go_wp2
              go_roundw
              case rel => exact ⟨k + 1, j - 1, A6, c6, _, by have := HKJ.out; omega, by go_num, by omega, rfl, HO6.out, HSM.out.snoc (p := ⟨3, ⟨#[]⟩, ⟨#[]⟩, pa, pb⟩) (by first | assumption | exact Nat.zero_le _) (by first | assumption | exact Nat.zero_le _), HC6.out.more (by omega), HW6.out⟩
              case measure => simp [intOf]; omega
          · skip
            have HCA := Lib.hid (HC4.out.alloc (.cells #[.int .i64 4, .string ⟨#[]⟩, .string ⟨#[]⟩, .int .i64 0, .int .i64 0] 59))
            have HOA := Lib.hid (HO4.out.alloc (.cells #[.int .i64 4, .string ⟨#[]⟩, .string ⟨#[]⟩, .int .i64 0, .int .i64 0] 59))
            have HWA := Lib.hid (HW4.out.trans (Ch.alloc w4 (.cells #[.int .i64 4, .string ⟨#[]⟩, .string ⟨#[]⟩, .int .i64 0, .int .i64 0] 59)).zero)
            have HBA := Lib.hid (Box5.new (w := w4) (t := 59) (v0 := .int .i64 4) (v1 := .string ⟨#[]⟩) (v2 := .string ⟨#[]⟩) (v3 := .int .i64 0) (v4 := .int .i64 0))
            clear HC4 HO4 HW4
            go_wp2_with fail
            refine (pick_any u (m + 6 + 20 * k + 2) k _ HCA.out (by omega) (by omega)).mono ?_
            rintro e w5 ⟨_, rfl, ⟨pa, rfl, _, _⟩, hcu, hch⟩
            have hs5 := hch.size
            simp at hs5
            have HO5 := Lib.hid (own_chP HOA.out hch (by omega))
            have HC5 := Lib.hid hcu
            have HW5 := Lib.hid (HWA.out.trans hch)
            have HB5 := Lib.hid (HBA.out.ch hch (by omega))
            obtain ⟨⟨d0, d1, d2, d3, d4⟩, hfz, hgl⟩ := HB5.out
            have f3 := hfz 3
            clear hcu hch HOA HCA HWA HBA hfz
            have hb5 : Below w4.heap.size w5 (w5.setCell ⟨w4.heap.size, 3, none⟩ (.int .i64 pa)) := (Below.refl _ _).setCell (by simp) _
            have HO5' := Lib.hid (own_set1 HO5.out (p := ⟨w4.heap.size, 3, none⟩) (.int .i64 pa) hOb)
            have HC5' := Lib.hid (HC5.out.below (hb5.mono (by omega)))
            have HW5' := Lib.hid (HW5.out.growP w.heap.size (hb5.mono (by omega)) (Nat.le_refl _))
            have HB5' := Lib.hid (HB5.out.set3 (x := .int .i64 pa))
            clear hb5 HO5 HC5 HW5 HB5
            go_wp2_with fail
            refine (pick_any u (m + 6 + 20 * k + 4) k _ (HC5'.out.more (by omega)) (by omega) (by omega)).mono ?_
            rintro e w6 ⟨_, rfl, ⟨pb, rfl, _, _⟩, hcu, hch⟩
            have hs6 := hch.size
            simp only [World.size_setCell] at hs6
            have HO6' := Lib.hid (own_chP HO5'.out hch (by omega))
            have HC6' := Lib.hid hcu
            have HW6' := Lib.hid (HW5'.out.trans hch)
            have HB6' := Lib.hid (HB5'.out.ch hch (by omega))
            clear d0 d1 d2 d3 d4 f3 hgl
            obtain ⟨⟨d0, d1, d2, d3, d4⟩, hfz, hgl⟩ := HB6'.out
            have f4 := hfz 4
            clear hcu hch HO5' HC5' HW5' HB5' hfz HB6'
            have hb6' : Below w4.heap.size w6 (w6.setCell ⟨w4.heap.size, 4, none⟩ (.int .i64 pb)) := (Below.refl _ _).setCell (by simp) _
            have HOZ := Lib.hid (own_set1 HO6'.out (p := ⟨w4.heap.size, 4, none⟩) (.int .i64 pb) hOb)
            have HCZ := Lib.hid (HC6'.out.below (hb6'.mono (by omega)))
            have HWZ := Lib.hid (HW6'.out.growP w.heap.size (hb6'.mono (by omega)) (Nat.le_refl _))
            clear hb6' HO6' HC6' HW6' hOb
            · skip
              go_wp2_with (at_builtin; refine wpList_append_own _ rfl (.tmp 51) (.tmp 53) 42 rfl w.heap.size 59 i0 (.agg #[.int .i64 0, .string .empty, .string .empty, .int .i64 0, .int .i64 0]) 5 56 Try.underlying42 HI.out.1 HI.out.2.1 HI.out.2.2.1 HI.out.2.2.2 rfl (by decide) _ k _ rfl (HOZ.out.alloc _) ⟨w6.heap.size, 0, none⟩ 1 1 (qrys [⟨4, ⟨#[]⟩, ⟨#[]⟩, pa, pb⟩]) rfl rfl ?c1 (qrys_one _) ?c3 ?c4 ?c5 ?_)
              case c1 => exact lit5 (by simp [World.size_setCell])
              case c3 => unfold maxLen; omega
              case c4 => omega
              case c5 => simp; omega
              intro v' wz ho6 hg6 _
              obtain ⟨A6, c6, rfl⟩ := own_slice ho6
              have HO6 := Lib.hid (show wz.ownsRow w.heap.size 59 5 (.slice A6 (k + 1) c6) (k + 1) (qrys (l ++ [⟨4, ⟨#[]⟩, ⟨#[]⟩, pa, pb⟩])) by rw [qrys_app]; exact ho6)
              have hb6 : Below w.heap.size ((w6.setCell ⟨w4.heap.size, 4, none⟩ (.int .i64 pb)).alloc (.cells #[.int .i64 4, .string ⟨#[]⟩, .string ⟨#[]⟩, .int .i64 pa, .int .i64 pb] 59)) wz := (Below.refl _ _).grown hg6 (by simp; omega) (fun k hk => (HOZ.out.lt k hk).1)
              have HC6 := Lib.hid ((HCZ.out.alloc (.cells #[.int .i64 4, .string ⟨#[]⟩, .string ⟨#[]⟩, .int .i64 pa, .int .i64 pb] 59)).below (hb6.mono (by omega)))
              have HW6 := Lib.hid ((HWZ.out.trans (Ch.alloc (w6.setCell ⟨w4.heap.size, 4, none⟩ (.int .i64 pb)) (.cells #[.int .i64 4, .string ⟨#[]⟩, .string ⟨#[]⟩, .int .i64 pa, .int .i64 pb] 59)).zero).growP w.heap.size hb6 (by omega))
              clear ho6 hg6 hb6 HOZ HCZ HWZ
              go_wp2
              go_roundw
              case rel => exact ⟨k + 1, j - 1, A6, c6, _, by have := HKJ.out; omega, by go_num, by omega, rfl, HO6.out, HSM.out.snoc (p := ⟨4, ⟨#[]⟩, ⟨#[]⟩, pa, pb⟩) (by first | assumption | exact Nat.zero_le _) (by first | assumption | exact Nat.zero_le _), HC6.out.more (by omega), HW6.out⟩
              case measure => simp [intOf]; omega
          · skip
            have HCA := Lib.hid (HC4.out.alloc (.cells #[.int .i64 5, .string ⟨#[]⟩, .string ⟨#[]⟩, .int .i64 0, .int .i64 0] 59))
            have HOA := Lib.hid (HO4.out.alloc (.cells #[.int .i64 5, .string ⟨#[]⟩, .string ⟨#[]⟩, .int .i64 0, .int .i64 0] 59))
            have HWA := Lib.hid (HW4.out.trans (Ch.alloc w4 (.cells #[.int .i64 5, .string ⟨#[]⟩, .string ⟨#[]⟩, .int .i64 0, .int .i64 0] 59)).zero)
            have HBA := Lib.hid (Box5.new (w := w4) (t := 59) (v0 := .int .i64 5) (v1 := .string ⟨#[]⟩) (v2 := .string ⟨#[]⟩) (v3 := .int .i64 0) (v4 := .int .i64 0))
            clear HC4 HO4 HW4
            go_wp2_with fail
            refine (pick_any u (m + 6 + 20 * k + 2) k _ HCA.out (by omega) (by omega)).mono ?_
            rintro e w5 ⟨_, rfl, ⟨pa, rfl, _, _⟩, hcu, hch⟩
            have hs5 := hch.size
            simp at hs5
            have HO5 := Lib.hid (own_chP HOA.out hch (by omega))
            have HC5 := Lib.hid hcu
            have HW5 := Lib.hid (HWA.out.trans hch)
            have HB5 := Lib.hid (HBA.out.ch hch (by omega))
            obtain ⟨⟨d0, d1, d2, d3, d4⟩, hfz, hgl⟩ := HB5.out
            have f3 := hfz 3
            clear hcu hch HOA HCA HWA HBA hfz
            have hb5 : Below w4.heap.size w5 (w5.setCell ⟨w4.heap.size, 3, none⟩ (.int .i64 pa)) := (Below.refl _ _).setCell (by simp) _
            have HO5' := Lib.hid (own_set1 HO5.out (p := ⟨w4.heap.size, 3, none⟩) (.int .i64 pa) hOb)
            have HC5' := Lib.hid (HC5.out.below (hb5.mono (by omega)))
            have HW5' := Lib.hid (HW5.out.growP w.heap.size (hb5.mono (by omega)) (Nat.le_refl _))
            have HB5' := Lib.hid (HB5.out.set3 (x := .int .i64 pa))
            have HOZ := HO5'
            have HCZ := HC5'
            have HWZ := HW5'
            clear hb5 HO5 HC5 HW5 HB5 HB5' hOb HO5' HC5' HW5'
            · skip
              go_wp2_with (at_builtin; refine wpList_append_own _ rfl (.tmp 51) (.tmp 53) 42 rfl w.heap.size 59 i0 (.agg #[.int .i64 0, .string .empty, .string .empty, .int .i64 0, .int .i64 0]) 5 56 Try.underlying42 HI.out.1 HI.out.2.1 HI.out.2.2.1 HI.out.2.2.2 rfl (by decide) _ k _ rfl (HOZ.out.alloc _) ⟨w5.heap.size, 0, none⟩ 1 1 (qrys [⟨5, ⟨#[]⟩, ⟨#[]⟩, pa, 0⟩]) rfl rfl ?c1 (qrys_one _) ?c3 ?c4 ?c5 ?_)
              case c1 => exact lit5 (by simp [World.size_setCell])
              case c3 => unfold maxLen; omega
              case c4 => omega
              case c5 => simp; omega
              intro v' wz ho6 hg6 _
              obtain ⟨A6, c6, rfl⟩ := own_slice ho6
              have HO6 := Lib.hid (show wz.ownsRow w.heap.size 59 5 (.slice A6 (k + 1) c6) (k + 1) (qrys (l ++ [⟨5, ⟨#[]⟩, ⟨#[]⟩, pa, 0⟩])) by rw [qrys_app]; exact ho6)
              have hb6 : Below w.heap.size ((w5.setCell ⟨w4.heap.size, 3, none⟩ (.int .i64 pa)).alloc (.cells #[.int .i64 5, .string ⟨#[]⟩, .string ⟨#[]⟩, .int .i64 pa, .int .i64 0] 59)) wz := (Below.refl _ _).grown hg6 (by simp; omega) (fun k hk => (HOZ.out.lt k hk).1)
              have HC6 := Lib.hid ((HCZ.out.alloc (.cells #[.int .i64 5, .string ⟨#[]⟩, .string ⟨#[]⟩, .int .i64 pa, .int .i64 0] 59)).below (hb6.mono (by omega)))
              have HW6 := Lib.hid ((HWZ.out.trans (Ch.alloc (w5.setCell ⟨w4.heap.size, 3, none⟩ (.int .i64 pa)) (.cells #[.int .i64 5, .string ⟨#[]⟩, .string ⟨#[]⟩, .int .i64 pa, .int .i64 0] 59)).zero).growP w.heap.size hb6 (by omega))
              clear ho6 hg6 hb6 HOZ HCZ HWZ
              go_wp2
              go_roundw
              case rel => exact ⟨k + 1, j - 1, A6, c6, _, by have := HKJ.out; omega, by go_num, by omega, rfl, HO6.out, HSM.out.snoc (p := ⟨5, ⟨#[]⟩, ⟨#[]⟩, pa, 0⟩) (by first | assumption | exact Nat.zero_le _) (by first | assumption | exact Nat.zero_le _), HC6.out.more (by omega), HW6.out⟩
              case measure => simp [intOf]; omega
        · obtain rfl : j = 0 := by omega
          go_wp2_with fail
          refine (one_any u (m + 6 + 20 * k) 20 _ HC.out (by omega) (by omega)).mono ?_
          rintro e w5 ⟨_, rfl, ⟨q, rfl⟩, hcu, hch⟩
          have hs5 := hch.size
          have HO5 := Lib.hid (own_chP HO.out hch (by omega))
          have HC5 := Lib.hid hcu
          have HW5 := Lib.hid (HW.out.trans hch)
          clear hcu hch HO HC HW
          cases q with
          | false =>
            go_wp2
            go_ret
            exact ⟨_, rfl, ⟨A, c, k, l, rfl, by omega, HO5.out, HSM.out⟩, HC5.out.more (by omega), HW5.out⟩
          | true =>
            go_wp2_with fail
            refine (pick_any u (m + 6 + 20 * k + 2) k _ HC5.out (by omega) (by omega)).mono ?_
            rintro e w6 ⟨_, rfl, ⟨r, rfl, hr0, hr⟩, hcu, hch⟩
            obtain ⟨p, rfl⟩ := Int.eq_ofNat_of_zero_le hr0
            have hp : p < k := by omega
            have hs6 := hch.size
            have HO6 := Lib.hid (own_chP HO5.out hch (by omega))
            have HC6 := Lib.hid hcu
            have HW6 := Lib.hid (HW5.out.trans hch)
            clear hcu hch HO5 HC5 HW5 hr0 hr
            go_wp2_with fail
            refine (pick_any u (m + 6 + 20 * k + 4) 9 _ (HC6.out.more (by omega)) (by omega) (by omega)).mono ?_
            rintro e w7 ⟨_, rfl, ⟨r, rfl, hr0, hr⟩, hcu, hch⟩
            have hr9 : r ≤ 8 := by omega
            have hs7 := hch.size
            have ho7 := own_chP HO6.out hch (by omega)
            have HC7 := Lib.hid hcu
            have HW7 := Lib.hid (HW6.out.trans hch)
            clear hcu hch HO6 HC6 HW6 hr
            obtain ⟨g, rfl⟩ := own_casesL ho7 (by omega)
            have hgl := (ho7.lt g rfl)
            have hll := ho7.1
            rw [qrys_len] at hll
            have hf0 := ho7.frozenAt (p * 5 + 3)
            obtain ⟨u0, hu0⟩ : ∃ u, w7.cell? ⟨g, p * 5 + 3, none⟩ = some u := by
              rw [ho7.cellAt (p * 5 + 3) (by omega)]
              exact ⟨_, List.getElem?_eq_getElem (by rw [qrys_len]; omega)⟩
            have s0 := (World.ownsRow.stored ho7 (p * 5 + 3) (.int .i64 (r - 1))).1
            obtain ⟨e5, he5⟩ : ∃ e5, l[p]? = some e5 := ⟨_, List.getElem?_eq_getElem (by omega)⟩
            rw [qrys_set3 l p e5 (r - 1) he5] at s0
            have HS := Lib.hid s0
            have HSM2 := Lib.hid (HSM.out.set (p := { e5 with a := r - 1 }) p (HSM.out e5 (List.mem_of_getElem? he5)).1 (HSM.out e5 (List.mem_of_getElem? he5)).2)
            have hgu : g ≠ u.b := by omega
            have hgX : w.heap.size ≤ g := hgl.1
            clear s0 hll ho7 he5
            go_wp2
            go_ret
            refine ⟨_, rfl, ⟨_, c, k, _, rfl, by omega, HS.out, HSM2.out⟩, ?_, ?_⟩
            · exact (HC7.out.more (by omega)).below ((Below.refl _ _).setCell (by simp; omega) _)
            · exact HW7.out.growP w.heap.size ((Below.refl _ _).setCell (by simpa using hgX) _) (Nat.le_refl _)
  | false =>
    go_wp2_with fail
    · skip
      go_loopw [3, 4] (fun v i wr => ∃ (k j : Nat) (A : Option Addr) (c : Nat) (l : List Qry), k + j = N + 1 ∧ i = .int .i64 j ∧ 1 ≤ k ∧ v = .slice A k c ∧ wr.ownsRow w.heap.size 59 5 (.slice A k c) k (qrys l) ∧ smallQry l ∧ CurAt u (m + 6 + 20 * k) wr ∧ Ch u.b (u.b + 1) w wr) (fun _ i _ => (intOf i).toNat)
      case atStart => exact ⟨1, N, _, _, _, by omega, by first | rfl | (congr 1; omega), by omega, rfl, HC2O.out, qry1_small, HC2.out.more (by omega), HW2.out⟩
      case round =>
        clear HC2 HW2 HC2O
        obtain ⟨k, j, A, c, l, hkj, rfl, hk1, rfl, ho, hsm, hcu, hch⟩ := hrel
        have hsz := hch.size
        have HO := Lib.hid ho
        have HC := Lib.hid hcu
        have HW := Lib.hid hch
        have HSM := Lib.hid hsm
        have hkj' : k + j ≤ 21 := by omega
        have HKJ := Lib.hid hkj
        clear ho hcu hch hsm hkj
        by_cases hlt : 0 < j
        · go_wp2_with fail
          refine (pick_any u (m + 6 + 20 * k) 5 _ HC.out (by omega) (by omega)).mono ?_
          rintro e w4 ⟨_, rfl, ⟨r, rfl, hr0, hr⟩, hcu, hch⟩
          have hs4 := hch.size
          have HO4 := Lib.hid (own_chP HO.out hch (by omega))
          have hOb : ∀ b, (Value.slice A k c).ownBlock = some b → b ≠ w4.heap.size := fun b hb => by have := (HO4.out.lt b hb).2; omega
          have HC4 := Lib.hid hcu
          have HW4 := Lib.hid (HW.out.trans hch)
          clear hcu hch HO HC HW
          have h5 : r = 0 ∨ r = 1 ∨ r = 2 ∨ r = 3 ∨ r = 4 := by omega
          clear hr hr0
          rcases h5 with rfl | rfl | rfl | rfl | rfl
          · skip
            have HCA := Lib.hid (HC4.out.alloc (.cells #[.int .i64 1, .string ⟨#[]⟩, .string ⟨#[]⟩, .int .i64 0, .int .i64 0] 59))
            have HOA := Lib.hid (HO4.out.alloc (.cells #[.int .i64 1, .string ⟨#[]⟩, .string ⟨#[]⟩, .int .i64 0, .int .i64 0] 59))
            have HWA := Lib.hid (HW4.out.trans (Ch.alloc w4 (.cells #[.int .i64 1, .string ⟨#[]⟩, .string ⟨#[]⟩, .int .i64 0, .int .i64 0] 59)).zero)
            have HBA := Lib.hid (Box5.new (w := w4) (t := 59) (v0 := .int .i64 1) (v1 := .string ⟨#[]⟩) (v2 := .string ⟨#[]⟩) (v3 := .int .i64 0) (v4 := .int .i64 0))
            clear HC4 HO4 HW4
            have HOZ := HOA
            have HCZ := HCA
            have HWZ := HWA
            clear HOA HCA HWA HBA
            · skip
              go_wp2_with (at_builtin; refine wpList_append_own _ rfl (.tmp 51) (.tmp 53) 42 rfl w.heap.size 59 i0 (.agg #[.int .i64 0, .string .empty, .string .empty, .int .i64 0, .int .i64 0]) 5 56 Try.underlying42 HI.out.1 HI.out.2.1 HI.out.2.2.1 HI.out.2.2.2 rfl (by decide) _ k _ rfl (HOZ.out.alloc _) ⟨w4.heap.size + 1, 0, none⟩ 1 1 (qrys [⟨1, ⟨#[]⟩, ⟨#[]⟩, 0, 0⟩]) rfl rfl ?c1 (qrys_one _) ?c3 ?c4 ?c5 ?_)
              case c1 => exact lit5 (by simp [World.size_setCell])
              case c3 => unfold maxLen; omega
              case c4 => omega
              case c5 => simp; omega
              intro v' wz ho6 hg6 _
              obtain ⟨A6, c6, rfl⟩ := own_slice ho6
              have HO6 := Lib.hid (show wz.ownsRow w.heap.size 59 5 (.slice A6 (k + 1) c6) (k + 1) (qrys (l ++ [⟨1, ⟨#[]⟩, ⟨#[]⟩, 0, 0⟩])) by rw [qrys_app]; exact ho6)
              have hb6 : Below w.heap.size ((w4.alloc (.cells #[.int .i64 1, .string ⟨#[]⟩, .string ⟨#[]⟩, .int .i64 0, .int .i64 0] 59)).alloc (.cells #[.int .i64 1, .string ⟨#[]⟩, .string ⟨#[]⟩, .int .i64 0, .int .i64 0] 59)) wz := (Below.refl _ _).grown hg6 (by simp; omega) (fun k hk => (HOZ.out.lt k hk).1)
              have HC6 := Lib.hid ((HCZ.out.alloc (.cells #[.int .i64 1, .string ⟨#[]⟩, .string ⟨#[]⟩, .int .i64 0, .int .i64 0] 59)).below (hb6.mono (by omega)))
              have HW6 := Lib.hid ((HWZ.out.trans (Ch.alloc (w4.alloc (.cells #[.int .i64 1, .string ⟨#[]⟩, .string ⟨#[]⟩, .int .i64 0, .int .i64 0] 59)) (.cells #[.int .i64 1, .string ⟨#[]⟩, .string ⟨#[]⟩, .int .i64 0, .int .i64 0] 59)).zero).growP w.heap.size hb6 (by omega))
              clear ho6 hg6 hb6 HOZ HCZ HWZ
              go_wp2
              go_roundw
              case rel => exact ⟨k + 1, j - 1, A6, c6, _, by have := HKJ.out; omega, by go_num, by omega, rfl, HO6.out, HSM.out.snoc (p := ⟨1, ⟨#[]⟩, ⟨#[]⟩, 0, 0⟩) (by first | assumption | exact Nat.zero_le _) (by first | assumption | exact Nat.zero_le _), HC6.out.more (by omega), HW6.out⟩
              case measure => simp [intOf]; omega
          · skip
            have HCA := Lib.hid (HC4.out.alloc (.cells #[.int .i64 2, .string ⟨#[]⟩, .string ⟨#[]⟩, .int .i64 0, .int .i64 0] 59))
            have HOA := Lib.hid (HO4.out.alloc (.cells #[.int .i64 2, .string ⟨#[]⟩, .string ⟨#[]⟩, .int .i64 0, .int .i64 0] 59))
            have HWA := Lib.hid (HW4.out.trans (Ch.alloc w4 (.cells #[.int .i64 2, .string ⟨#[]⟩, .string ⟨#[]⟩, .int .i64 0, .int .i64 0] 59)).zero)
            have HBA := Lib.hid (Box5.new (w := w4) (t := 59) (v0 := .int .i64 2) (v1 := .string ⟨#[]⟩) (v2 := .string ⟨#[]⟩) (v3 := .int .i64 0) (v4 := .int .i64 0))
            clear HC4 HO4 HW4
            go_wp2_with fail
            refine (label_any u (m + 6 + 20 * k + 2) _ HCA.out (by omega)).mono ?_
            rintro e w5 ⟨_, rfl, ⟨x, y, rfl, hx16, hy16⟩, hcu, hch⟩
            have hs5 := hch.size
            simp at hs5
            have HO5 := Lib.hid (own_chP HOA.out hch (by omega))
            have HC5 := Lib.hid hcu
            have HW5 := Lib.hid (HWA.out.trans hch)
            have HB5 := Lib.hid (HBA.out.ch hch (by omega))
            obtain ⟨⟨d0, d1, d2, d3, d4⟩, hfz, hgl⟩ := HB5.out
            have f1 := hfz 1
            have f2 := hfz 2
            clear hcu hch HOA HCA HWA HBA hfz
            have hb5 : Below w4.heap.size w5 ((w5.setCell ⟨w4.heap.size, 1, none⟩ (.string x)).setCell ⟨w4.heap.size, 2, none⟩ (.string y)) := ((Below.refl _ _).setCell (by simp) _).setCell (by simp) _
            have HOZ := Lib.hid (own_set2 HO5.out (p := ⟨w4.heap.size, 1, none⟩) (q := ⟨w4.heap.size, 2, none⟩) (.string x) (.string y) hOb hOb)
            have HCZ := Lib.hid (HC5.out.below (hb5.mono (by omega)))
            have HWZ := Lib.hid (HW5.out.growP w.heap.size (hb5.mono (by omega)) (Nat.le_refl _))
            clear hb5 HO5 HC5 HW5 HB5 hOb
            · skip
              go_wp2_with (at_builtin; refine wpList_append_own _ rfl (.tmp 51) (.tmp 53) 42 rfl w.heap.size 59 i0 (.agg #[.int .i64 0, .string .empty, .string .empty, .int .i64 0, .int .i64 0]) 5 56 Try.underlying42 HI.out.1 HI.out.2.1 HI.out.2.2.1 HI.out.2.2.2 rfl (by decide) _ k _ rfl (HOZ.out.alloc _) ⟨w5.heap.size, 0, none⟩ 1 1 (qrys [⟨2, x, y, 0, 0⟩]) rfl rfl ?c1 (qrys_one _) ?c3 ?c4 ?c5 ?_)
              case c1 => exact lit5 (by simp [World.size_setCell])
              case c3 => unfold maxLen; omega
              case c4 => omega
              case c5 => simp; omega
              intro v' wz ho6 hg6 _
              obtain ⟨A6, c6, rfl⟩ := own_slice ho6
              have HO6 := Lib.hid (show wz.ownsRow w.heap.size 59 5 (.slice A6 (k + 1) c6) (k + 1) (qrys (l ++ [⟨2, x, y, 0, 0⟩])) by rw [qrys_app]; exact ho6)
              have hb6 : Below w.heap.size (((w5.setCell ⟨w4.heap.size, 1, none⟩ (.string x)).setCell ⟨w4.heap.size, 2, none⟩ (.string y)).alloc (.cells #[.int .i64 2, .string x, .string y, .int .i64 0, .int .i64 0] 59)) wz := (Below.refl _ _).grown hg6 (by simp; omega) (fun k hk => (HOZ.out.lt k hk).1)
              have HC6 := Lib.hid ((HCZ.out.alloc (.cells #[.int .i64 2, .string x, .string y, .int .i64 0, .int .i64 0] 59)).below (hb6.mono (by omega)))
              have HW6 := Lib.hid ((HWZ.out.trans (Ch.alloc ((w5.setCell ⟨w4.heap.size, 1, none⟩ (.string x)).setCell ⟨w4.heap.size, 2, none⟩ (.string y)) (.cells #[.int .i64 2, .string x, .string y, .int .i64 0, .int .i64 0] 59)).zero).growP w.heap.size hb6 (by omega))
              clear ho6 hg6 hb6 HOZ HCZ HWZ
              go_wp2
              go_roundw
              case rel => exact ⟨k + 1, j - 1, A6, c6, _, by have := HKJ.out; omega, by go_num, by omega, rfl, HO6.out, HSM.out.snoc (p := ⟨2, x, y, 0, 0⟩) (by first | assumption | exact Nat.zero_le _) (by first | assumption | exact Nat.zero_le _), HC6.out.more (by omega), HW6.out⟩
              case measure => simp [intOf]; omega
          · skip
            have HCA := Lib.hid (HC4.out.alloc (.cells #[.int .i64 3, .string ⟨#[]⟩, .string ⟨#[]⟩, .int .i64 0, .int .i64 0] 59))
            have HOA := Lib.hid (HO4.out.alloc (.cells #[.int .i64 3, .string ⟨#[]⟩, .string ⟨#[]⟩, .int .i64 0, .int .i64 0] 59))
            have HWA := Lib.hid (HW4.out.trans (Ch.alloc w4 (.cells #[.int .i64 3, .string ⟨#[]⟩, .string ⟨#[]⟩, .int .i64 0, .int .i64 0] 59)).zero)
            have HBA := Lib.hid (Box5.new (w := w4) (t := 59) (v0 := .int .i64 3) (v1 := .string ⟨#[]⟩) (v2 := .string ⟨#[]⟩) (v3 := .int .i64 0) (v4 := .int .i64 0))
            clear HC4 HO4 HW4
            go_wp2_with fail
            refine (pick_any u (m + 6 + 20 * k + 2) k _ HCA.out (by omega) (by omega)).mono ?_
            rintro e w5 ⟨_, rfl, ⟨pa, rfl, _, _⟩, hcu, hch⟩
            have hs5 := hch.size
            simp at hs5
            have HO5 := Lib.hid (own_chP HOA.out hch (by omega))
            have HC5 := Lib.hid hcu
            have HW5 := Lib.hid (HWA.out.trans hch)
            have HB5 := Lib.hid (HBA.out.ch hch (by omega))
            obtain ⟨⟨d0, d1, d2, d3, d4⟩, hfz, hgl⟩ := HB5.out
            have f3 := hfz 3
            clear hcu hch HOA HCA HWA HBA hfz
            have hb5 : Below w4.heap.size w5 (w5.setCell ⟨w4.heap.size, 3, none⟩ (.int .i64 pa)) := (Below.refl _ _).setCell (by simp) _
            have HO5' := Lib.hid (own_set1 HO5.out (p := ⟨w4.heap.size, 3, none⟩) (.int .i64 pa) hOb)
            have HC5' := Lib.hid (HC5.out.below (hb5.mono (by omega)))
            have HW5' := Lib.hid (HW5.out.growP w.heap.size (hb5.mono (by omega)) (Nat.le_refl _))
            have HB5' := Lib.hid (HB5.out.set3 (x := .int .i64 pa))
            clear hb5 HO5 HC5 HW5 HB5
            go_wp2_with fail
            refine (pick_any u (m + 6 + 20 * k + 4) k _ (HC5'.out.more (by omega)) (by omega) (by omega)).mono ?_
            rintro e w6 ⟨_, rfl, ⟨pb, rfl, _, _⟩, hcu, hch⟩
            have hs6 := hch.size
            simp only [World.size_setCell] at hs6
            have HO6' := Lib.hid (own_chP HO5'.out hch (by omega))
            have HC6' := Lib.hid hcu
            have HW6' := Lib.hid (HW5'.out.trans hch)
            have HB6' := Lib.hid (HB5'.out.ch hch (by omega))
            clear d0 d1 d2 d3 d4 f3 hgl
            obtain ⟨⟨d0, d1, d2, d3, d4⟩, hfz, hgl⟩ := HB6'.out
            have f4 := hfz 4
            clear hcu hch HO5' HC5' HW5' HB5' hfz HB6'
            have hb6' : Below w4.heap.size w6 (w6.setCell ⟨w4.heap.size, 4, none⟩ (.int .i64 pb)) := (Below.refl _ _).setCell (by simp) _
            have HOZ := Lib.hid (own_set1 HO6'.out (p := ⟨w4.heap.size, 4, none⟩) (.int .i64 pb) hOb)
            have HCZ := Lib.hid (HC6'.out.below (hb6'.mono (by omega)))
            have HWZ := Lib.hid (HW6'.out.growP w.heap.size (hb6'.mono (by omega)) (Nat.le_refl _))
            clear hb6' HO6' HC6' HW6' hOb
            · skip
              go_wp2_with (at_builtin; refine wpList_append_own _ rfl (.tmp 51) (.tmp 53) 42 rfl w.heap.size 59 i0 (.agg #[.int .i64 0, .string .empty, .string .empty, .int .i64 0, .int .i64 0]) 5 56 Try.underlying42 HI.out.1 HI.out.2.1 HI.out.2.2.1 HI.out.2.2.2 rfl (by decide) _ k _ rfl (HOZ.out.alloc _) ⟨w6.heap.size, 0, none⟩ 1 1 (qrys [⟨3, ⟨#[]⟩, ⟨#[]⟩, pa, pb⟩]) rfl rfl ?c1 (qrys_one _) ?c3 ?c4 ?c5 ?_)
              case c1 => exact lit5 (by simp [World.size_setCell])
              case c3 => unfold maxLen; omega
              case c4 => omega
              case c5 => simp; omega
              intro v' wz ho6 hg6 _
              obtain ⟨A6, c6, rfl⟩ := own_slice ho6
              have HO6 := Lib.hid (show wz.ownsRow w.heap.size 59 5 (.slice A6 (k + 1) c6) (k + 1) (qrys (l ++ [⟨3, ⟨#[]⟩, ⟨#[]⟩, pa, pb⟩])) by rw [qrys_app]; exact ho6)
              have hb6 : Below w.heap.size ((w6.setCell ⟨w4.heap.size, 4, none⟩ (.int .i64 pb)).alloc (.cells #[.int .i64 3, .string ⟨#[]⟩, .string ⟨#[]⟩, .int .i64 pa, .int .i64 pb] 59)) wz := (Below.refl _ _).grown hg6 (by simp; omega) (fun k hk => (HOZ.out.lt k hk).1)
              have HC6 := Lib.hid ((HCZ.out.alloc (.cells #[.int .i64 3, .string ⟨#[]⟩, .string ⟨#[]⟩, .int .i64 pa, .int .i64 pb] 59)).below (hb6.mono (by omega)))
              have HW6 := Lib.hid ((HWZ.out.trans (Ch.alloc (w6.setCell ⟨w4.heap.size, 4, none⟩ (.int .i64 pb)) (.cells #[.int .i64 3, .string ⟨#[]⟩, .string ⟨#[]⟩, .int .i64 pa, .int .i64 pb] 59)).zero).growP w.heap.size hb6 (by omega))
              clear ho6 hg6 hb6 HOZ HCZ HWZ
              go_wp2
              go_roundw
              case rel => exact ⟨k + 1, j - 1, A6, c6, _, by have := HKJ.out; omega, by go_num, by omega, rfl, HO6.out, HSM.out.snoc (p := ⟨3, ⟨#[]⟩, ⟨#[]⟩, pa, pb⟩) (by first | assumption | exact Nat.zero_le _) (by first | assumption | exact Nat.zero_le _), HC6.out.more (by omega), HW6.out⟩
              case measure => simp [intOf]; omega
          · skip
            have HCA := Lib.hid (HC4.out.alloc (.cells #[.int .i64 4, .string ⟨#[]⟩, .string ⟨#[]⟩, .int .i64 0, .int .i64 0] 59))
            have HOA := Lib.hid (HO4.out.alloc (.cells #[.int .i64 4, .string ⟨#[]⟩, .string ⟨#[]⟩, .int .i64 0, .int .i64 0] 59))
            have HWA := Lib.hid (HW4.out.trans (Ch.alloc w4 (.cells #[.int .i64 4, .string ⟨#[]⟩, .string ⟨#[]⟩, .int .i64 0, .int .i64 0] 59)).zero)
            have HBA := Lib.hid (Box5.new (w := w4) (t := 59) (v0 := .int .i64 4) (v1 := .string ⟨#[]⟩) (v2 := .string ⟨#[]⟩) (v3 := .int .i64 0) (v4 := .int .i64 0))
            clear HC4 HO4 HW4
            go_wp2_with fail
            refine (pick_any u (m + 6 + 20 * k + 2) k _ HCA.out (by omega) (by omega)).mono ?_
            rintro e w5 ⟨_, rfl, ⟨pa, rfl, _, _⟩, hcu, hch⟩
            have hs5 := hch.size
            simp at hs5
            have HO5 := Lib.hid (own_chP HOA.out hch (by omega))
            have HC5 := Lib.hid hcu
            have HW5 := Lib.hid (HWA.out.trans hch)
            have HB5 := Lib.hid (HBA.out.ch hch (by omega))
            obtain ⟨⟨d0, d1, d2, d3, d4⟩, hfz, hgl⟩ := HB5.out
            have f3 := hfz 3
            clear hcu hch HOA HCA HWA HBA hfz
            have hb5 : Below w4.heap.size w5 (w5.setCell ⟨w4.heap.size, 3, none⟩ (.int .i64 pa)) := (Below.refl _ _).setCell (by simp) _
            have HO5' := Lib.hid (own_set1 HO5.out (p := ⟨w4.heap.size, 3, none⟩) (.int .i64 pa) hOb)
            have HC5' := Lib.hid (HC5.out.below (hb5.mono (by omega)))
            have HW5' := Lib.hid (HW5.out.growP w.heap.size (hb5.mono (by omega)) (Nat.le_refl _))
            have HB5' := Lib.hid (HB5.out.set3 (x := .int .i64 pa))
            clear hb5 HO5 HC5 HW5 HB5
            go_wp2_with fail
            refine (pick_any u (m + 6 + 20 * k + 4) k _ (HC5'.out.more (by omega)) (by omega) (by omega)).mono ?_
            rintro e w6 ⟨_, rfl, ⟨pb, rfl, _, _⟩, hcu, hch⟩
            have hs6 := hch.size
            simp only [World.size_setCell] at hs6
            have HO6' := Lib.hid (own_chP HO5'.out hch (by omega))
            have HC6' := Lib.hid hcu
            have HW6' := Lib.hid (HW5'.out.trans hch)
            have HB6' := Lib.hid (HB5'.out.ch hch (by omega))
            clear d0 d1 d2 d3 d4 f3 hgl
            obtain ⟨⟨d0, d1, d2, d3, d4⟩, hfz, hgl⟩ := HB6'.out
            have f4 := hfz 4
            clear hcu hch HO5' HC5' HW5' HB5' hfz HB6'
            have hb6' : Below w4.heap.size w6 (w6.setCell ⟨w4.heap.size, 4, none⟩ (.int .i64 pb)) := (Below.refl _ _).setCell (by simp) _
            have HOZ := Lib.hid (own_set1 HO6'.out (p := ⟨w4.heap.size, 4, none⟩) (.int .i64 pb) hOb)
            have HCZ := Lib.hid (HC6'.out.below (hb6'.mono (by omega)))
            have HWZ := Lib.hid (HW6'.out.growP w.heap.size (hb6'.mono (by omega)) (Nat.le_refl _))
            clear hb6' HO6' HC6' HW6' hOb
            · skip
              go_wp2_with (at_builtin; refine wpList_append_own _ rfl (.tmp 51) (.tmp 53) 42 rfl w.heap.size 59 i0 (.agg #[.int .i64 0, .string .empty, .string .empty, .int .i64 0, .int .i64 0]) 5 56 Try.underlying42 HI.out.1 HI.out.2.1 HI.out.2.2.1 HI.out.2.2.2 rfl (by decide) _ k _ rfl (HOZ.out.alloc _) ⟨w6.heap.size, 0, none⟩ 1 1 (qrys [⟨4, ⟨#[]⟩, ⟨#[]⟩, pa, pb⟩]) rfl rfl ?c1 (qrys_one _) ?c3 ?c4 ?c5 ?_)
              case c1 => exact lit5 (by simp [World.size_setCell])
              case c3 => unfold maxLen; omega
              case c4 => omega
              case c5 => simp; omega
              intro v' wz ho6 hg6 _
              obtain ⟨A6, c6, rfl⟩ := own_slice ho6
              have HO6 := Lib.hid (show wz.ownsRow w.heap.size 59 5 (.slice A6 (k + 1) c6) (k + 1) (qrys (l ++ [⟨4, ⟨#[]⟩, ⟨#[]⟩, pa, pb⟩])) by rw [qrys_app]; exact ho6)
              have hb6 : Below w.heap.size ((w6.setCell ⟨w4.heap.size, 4, none⟩ (.int .i64 pb)).alloc (.cells #[.int .i64 4, .string ⟨#[]⟩, .string ⟨#[]⟩, .int .i64 pa, .int .i64 pb] 59)) wz := (Below.refl _ _).grown hg6 (by simp; omega) (fun k hk => (HOZ.out.lt k hk).1)
              have HC6 := Lib.hid ((HCZ.out.alloc (.cells #[.int .i64 4, .string ⟨#[]⟩, .string ⟨#[]⟩, .int .i64 pa, .int .i64 pb] 59)).below (hb6.mono (by omega)))
              have HW6 := Lib.hid ((HWZ.out.trans (Ch.alloc (w6.setCell ⟨w4.heap.size, 4, none⟩ (.int .i64 pb)) (.cells #[.int .i64 4, .string ⟨#[]⟩, .string ⟨#[]⟩, .int .i64 pa, .int .i64 pb] 59)).zero).growP w.heap.size hb6 (by omega))
              clear ho6 hg6 hb6 HOZ HCZ HWZ
              go_wp2
              go_roundw
              case rel => exact ⟨k + 1, j - 1, A6, c6, _, by have := HKJ.out; omega, by go_num, by omega, rfl, HO6.out, HSM.out.snoc (p := ⟨4, ⟨#[]⟩, ⟨#[]⟩, pa, pb⟩) (by first | assumption | exact Nat.zero_le _) (by first | assumption | exact Nat.zero_le _), HC6.out.more (by omega), HW6.out⟩
              case measure => simp [intOf]; omega
          · skip
            have HCA := Lib.hid (HC4.out.alloc (.cells #[.int .i64 5, .string ⟨#[]⟩, .string ⟨#[]⟩, .int .i64 0, .int .i64 0] 59))
            have HOA := Lib.hid (HO4.out.alloc (.cells #[.int .i64 5, .string ⟨#[]⟩, .string ⟨#[]⟩, .int .i64 0, .int .i64 0] 59))
            have HWA := Lib.hid (HW4.out.trans (Ch.alloc w4 (.cells #[.int .i64 5, .string ⟨#[]⟩, .string ⟨#[]⟩, .int .i64 0, .int .i64 0] 59)).zero)
            have HBA := Lib.hid (Box5.new (w := w4) (t := 59) (v0 := .int .i64 5) (v1 := .string ⟨#[]⟩) (v2 := .string ⟨#[]⟩) (v3 := .int .i64 0) (v4 := .int .i64 0))
            clear HC4 HO4 HW4
            go_wp2_with fail
            refine (pick_any u (m + 6 + 20 * k + 2) k _ HCA.out (by omega) (by omega)).mono ?_
            rintro e w5 ⟨_, rfl, ⟨pa, rfl, _, _⟩, hcu, hch⟩
            have hs5 := hch.size
            simp at hs5
            have HO5 := Lib.hid (own_chP HOA.out hch (by omega))
            have HC5 := Lib.hid hcu
            have HW5 := Lib.hid (HWA.out.trans hch)
            have HB5 := Lib.hid (HBA.out.ch hch (by omega))
            obtain ⟨⟨d0, d1, d2, d3, d4⟩, hfz, hgl⟩ := HB5.out
            have f3 := hfz 3
            clear hcu hch HOA HCA HWA HBA hfz
            have hb5 : Below w4.heap.size w5 (w5.setCell ⟨w4.heap.size, 3, none⟩ (.int .i64 pa)) := (Below.refl _ _).setCell (by simp) _
            have HO5' := Lib.hid (own_set1 HO5.out (p := ⟨w4.heap.size, 3, none⟩) (.int .i64 pa) hOb)
            have HC5' := Lib.hid (HC5.out.below (hb5.mono (by omega)))
            have HW5' := Lib.hid (HW5.out.growP w.heap.size (hb5.mono (by omega)) (Nat.le_refl _))
            have HB5' := Lib.hid (HB5.out.set3 (x := .int .i64 pa))
            have HOZ := HO5'
            have HCZ := HC5'
            have HWZ := HW5'
            clear hb5 HO5 HC5 HW5 HB5 HB5' hOb HO5' HC5' HW5'
            · skip
              go_wp2_with (at_builtin; refine wpList_append_own _ rfl (.tmp 51) (.tmp 53) 42 rfl w.heap.size 59 i0 (.agg #[.int .i64 0, .string .empty, .string .empty, .int .i64 0, .int .i64 0]) 5 56 Try.underlying42 HI.out.1 HI.out.2.1 HI.out.2.2.1 HI.out.2.2.2 rfl (by decide) _ k _ rfl (HOZ.out.alloc _) ⟨w5.heap.size, 0, none⟩ 1 1 (qrys [⟨5, ⟨#[]⟩, ⟨#[]⟩, pa, 0⟩]) rfl rfl ?c1 (qrys_one _) ?c3 ?c4 ?c5 ?_)
              case c1 => exact lit5 (by simp [World.size_setCell])
              case c3 => unfold maxLen; omega
              case c4 => omega
              case c5 => simp; omega
              intro v' wz ho6 hg6 _
              obtain ⟨A6, c6, rfl⟩ := own_slice ho6
              have HO6 := Lib.hid (show wz.ownsRow w.heap.size 59 5 (.slice A6 (k + 1) c6) (k + 1) (qrys (l ++ [⟨5, ⟨#[]⟩, ⟨#[]⟩, pa, 0⟩])) by rw [qrys_app]; exact ho6)
              have hb6 : Below w.heap.size ((w5.setCell ⟨w4.heap.size, 3, none⟩ (.int .i64 pa)).alloc (.cells #[.int .i64 5, .string ⟨#[]⟩, .string ⟨#[]⟩, .int .i64 pa, .int .i64 0] 59)) wz := (Below.refl _ _).grown hg6 (by simp; omega) (fun k hk => (HOZ.out.lt k hk).1)
              have HC6 := Lib.hid ((HCZ.out.alloc (.cells #[.int .i64 5, .string ⟨#[]⟩, .string ⟨#[]⟩, .int .i64 pa, .int .i64 0] 59)).below (hb6.mono (by omega)))
              have HW6 := Lib.hid ((HWZ.out.trans (Ch.alloc (w5.setCell ⟨w4.heap.size, 3, none⟩ (.int .i64 pa)) (.cells #[.int .i64 5, .string ⟨#[]⟩, .string ⟨#[]⟩, .int .i64 pa, .int .i64 0] 59)).zero).growP w.heap.size hb6 (by omega))
              clear ho6 hg6 hb6 HOZ HCZ HWZ
              go_wp2
              go_roundw
              case rel => exact ⟨k + 1, j - 1, A6, c6, _, by have := HKJ.out; omega, by go_num, by omega, rfl, HO6.out, HSM.out.snoc (p := ⟨5, ⟨#[]⟩, ⟨#[]⟩, pa, 0⟩) (by first | assumption | exact Nat.zero_le _) (by first | assumption | exact Nat.zero_le _), HC6.out.more (by omega), HW6.out⟩
              case measure => simp [intOf]; omega
        · obtain rfl : j = 0 := by omega
          go_wp2_with fail
          refine (one_any u (m + 6 + 20 * k) 20 _ HC.out (by omega) (by omega)).mono ?_
          rintro e w5 ⟨_, rfl, ⟨q, rfl⟩, hcu, hch⟩
          have hs5 := hch.size
          have HO5 := Lib.hid (own_chP HO.out hch (by omega))
          have HC5 := Lib.hid hcu
          have HW5 := Lib.hid (HW.out.trans hch)
          clear hcu hch HO HC HW
          cases q with
          | false =>
            go_wp2
            go_ret
            exact ⟨_, rfl, ⟨A, c, k, l, rfl, by omega, HO5.out, HSM.out⟩, HC5.out.more (by omega), HW5.out⟩
          | true =>
            go_wp2_with fail
            refine (pick_any u (m + 6 + 20 * k + 2) k _ HC5.out (by omega) (by omega)).mono ?_
            rintro e w6 ⟨_, rfl, ⟨r, rfl, hr0, hr⟩, hcu, hch⟩
            obtain ⟨p, rfl⟩ := Int.eq_ofNat_of_zero_le hr0
            have hp : p < k := by omega
            have hs6 := hch.size
            have HO6 := Lib.hid (own_chP HO5.out hch (by omega))
            have HC6 := Lib.hid hcu
            have HW6 := Lib.hid (HW5.out.trans hch)
            clear hcu hch HO5 HC5 HW5 hr0 hr
            go_wp2_with fail
            refine (pick_any u (m + 6 + 20 * k + 4) 9 _ (HC6.out.more (by omega)) (by omega) (by omega)).mono ?_
            rintro e w7 ⟨_, rfl, ⟨r, rfl, hr0, hr⟩, hcu, hch⟩
            have hr9 : r ≤ 8 := by omega
            have hs7 := hch.size
            have ho7 := own_chP HO6.out hch (by omega)
            have HC7 := Lib.hid hcu
            have HW7 := Lib.hid (HW6.out.trans hch)
            clear hcu hch HO6 HC6 HW6 hr
            obtain ⟨g, rfl⟩ := own_casesL ho7 (by omega)
            have hgl := (ho7.lt g rfl)
            have hll := ho7.1
            rw [qrys_len] at hll
            have hf0 := ho7.frozenAt (p * 5 + 3)
            obtain ⟨u0, hu0⟩ : ∃ u, w7.cell? ⟨g, p * 5 + 3, none⟩ = some u := by
              rw [ho7.cellAt (p * 5 + 3) (by omega)]
              exact ⟨_, List.getElem?_eq_getElem (by rw [qrys_len]; omega)⟩
            have s0 := (World.ownsRow.stored ho7 (p * 5 + 3) (.int .i64 (r - 1))).1
            obtain ⟨e5, he5⟩ : ∃ e5, l[p]? = some e5 := ⟨_, List.getElem?_eq_getElem (by omega)⟩
            rw [qrys_set3 l p e5 (r - 1) he5] at s0
            have HS := Lib.hid s0
            have HSM2 := Lib.hid (HSM.out.set (p := { e5 with a := r - 1 }) p (HSM.out e5 (List.mem_of_getElem? he5)).1 (HSM.out e5 (List.mem_of_getElem? he5)).2)
            have hgu : g ≠ u.b := by omega
            have hgX : w.heap.size ≤ g := hgl.1
            clear s0 hll ho7 he5
            go_wp2
            go_ret
            refine ⟨_, rfl, ⟨_, c, k, _, rfl, by omega, HS.out, HSM2.out⟩, ?_, ?_⟩
            · exact (HC7.out.more (by omega)).below ((Below.refl _ _).setCell (by simp; omega) _)
            · exact HW7.out.growP w.heap.size ((Below.refl _ _).setCell (by simpa using hgX) _) (Nat.le_refl _)
/-- Drawn series as a reading. -/
def SerRd (w : World) (A : Option Addr) (k : Nat) (ls : List (List Lab)) : Prop := RdSS w w.heap.size A k ls ∧ k ≤ 61 ∧ serFit ls
theorem SerRd.of {base : Nat} {w : World} {A : Option Addr} {c k : Nat} {ls : List (List Lab)} (h : ToldL 66 base (.slice A k c) k ls w) (hk : k ≤ 61) (hs : ∀ l ∈ ls, l.length ≤ 7 ∧ smallLab l) : SerRd w A k ls :=
  ⟨h.rd fun l hl => by have := (hs l hl).1; omega, hk, fun l hl => ⟨fun p hp => by have := (hs l hl).2 p hp; omega, by have := (hs l hl).1; omega⟩⟩
theorem SerRd.below {w w' : World} {A : Option Addr} {k : Nat} {ls : List (List Lab)} (h : SerRd w A k ls) (hb : Below w.heap.size w w') : SerRd w' A k ls := ⟨(h.1.below hb).more hb.size, h.2⟩
/-- A drawn query as a reading. -/
def QryRd (w : World) (A : Option Addr) (k : Nat) (q : List Qry) : Prop := Rd w w.heap.size 5 A k (qrys q) ∧ k ≤ 21 ∧ qryFitE q
theorem QryRd.below {w w' : World} {A : Option Addr} {k : Nat} {q : List Qry} (h : QryRd w A k q) (hb : Below w.heap.size w w') : QryRd w' A k q := ⟨(h.1.below hb).more hb.size, h.2⟩
theorem QryRd.of {base : Nat} {w : World} {A : Option Addr} {c k : Nat} {q : List Qry} (h : w.ownsRow base 59 5 (.slice A k c) k (qrys q)) (hk : k ≤ 21) (hs : smallQry q) : QryRd w A k q :=
  ⟨Rd.of_own h, hk, fun p hp => by have := hs p hp; omega⟩
def EvlV (w : World) (v : Value) : Prop := ∃ A k c ls A' k' c' q, v = .tuple #[.slice A k c, .slice A' k' c'] ∧ SerRd w A k ls ∧ QryRd w A' k' q
def PofV (w : World) (v : Value) : Prop := ∃ A k c ls x y, v = .tuple #[.slice A k c, .agg #[.string x, .string y]] ∧ SerRd w A k ls ∧ x.size ≤ 16 ∧ y.size ≤ 16
def NqV (w : World) (v : Value) : Prop := ∃ A k c q, v = .slice A k c ∧ QryRd w A k q
set_option maxRecDepth 100000 in
set_option maxHeartbeats 2000000 in
theorem DrawEvalQuery_any (A : Option Addr) (n c : Nat) (l : List UInt8) (w : World) (h : Rd w w.heap.size 1 A n (bys l)) (hn : n ≤ 1048576) : Calls Try.prog 23 #[.slice A n c] w (DrawnP w EvlV) := by
  have HH := Lib.hid (fun t => cur_newP (c := c) (t := t) h hn)
  clear h
  go_enter Try.func23, Try.ntmps23
  go_wp2_with fail
  refine (series_any ⟨w.heap.size, w.heap.size, n, c, A, l⟩ 0 _ (HH.out _) (by omega)).mono ?_
  rintro e w1 ⟨_, rfl, ⟨A1, c1, k1, ls, rfl, hk1, ht1, hsm1⟩, hcu, hch⟩
  have hs1 := hch.size
  simp at hs1
  have HT := Lib.hid ht1
  have HS := Lib.hid hsm1
  have HC := Lib.hid hcu
  have HW := Lib.hid hch
  clear ht1 hsm1 hcu hch
  go_wp2_with fail
  refine (query_any ⟨w.heap.size, w.heap.size, n, c, A, l⟩ 2600 _ (HC.out.more (by omega)) (by omega)).mono ?_
  rintro e w2 ⟨_, rfl, ⟨A2, c2, k2, q, rfl, hk2, ho2, hsm2⟩, hcu, hch⟩
  have HB := Lib.hid (new_belowP (HW.out.trans hch))
  have HS2 := Lib.hid (SerRd.of (HT.out.ch HC.out hch (by simp)) hk1 HS.out)
  have HQ2 := Lib.hid (QryRd.of ho2 hk2 hsm2)
  clear ho2 hsm2 hcu hch
  go_wp2
  go_ret2
  exact ⟨_, rfl, ⟨A1, k1, c1, ls, A2, k2, c2, q, rfl, HS2.out, HQ2.out⟩, HB.out⟩
set_option maxRecDepth 100000 in
set_option maxHeartbeats 2000000 in
theorem DrawGoodQuery_any (A : Option Addr) (n c : Nat) (l : List UInt8) (w : World) (h : Rd w w.heap.size 1 A n (bys l)) (hn : n ≤ 1048576) : Calls Try.prog 58 #[.slice A n c] w (DrawnP w NqV) := by
  have HH := Lib.hid (fun t => cur_newP (c := c) (t := t) h hn)
  clear h
  go_enter Try.func58, Try.ntmps58
  go_wp2_with fail
  refine (query_any ⟨w.heap.size, w.heap.size, n, c, A, l⟩ 0 _ (HH.out _) (by omega)).mono ?_
  rintro e w2 ⟨_, rfl, ⟨A2, c2, k2, q, rfl, hk2, ho2, hsm2⟩, hcu, hch⟩
  have HB := Lib.hid (new_belowP hch)
  have HQ2 := Lib.hid (QryRd.of ho2 hk2 hsm2)
  clear ho2 hsm2 hcu hch
  go_wp2
  go_ret
  exact ⟨_, rfl, ⟨A2, k2, c2, q, rfl, HQ2.out⟩, HB.out⟩
set_option maxRecDepth 100000 in
set_option maxHeartbeats 2000000 in
theorem DrawNotQuery_any (A : Option Addr) (n c : Nat) (l : List UInt8) (w : World) (h : Rd w w.heap.size 1 A n (bys l)) (hn : n ≤ 1048576) : Calls Try.prog 31 #[.slice A n c] w (DrawnP w NqV) := by
  have HH := Lib.hid (DrawGoodQuery_any A n c l w h hn)
  clear h
  go_enter Try.func31, Try.ntmps31
  go_wp2_with fail
  refine HH.out.mono ?_
  rintro e w1 ⟨v, rfl, hp, hb⟩
  have HP := Lib.hid hp
  have HB := Lib.hid hb
  clear hp hb
  go_wp2
  go_ret
  exact ⟨v, rfl, HP.out, HB.out⟩
set_option maxRecDepth 100000 in
set_option maxHeartbeats 2000000 in
theorem DrawPostsOf_any (A : Option Addr) (n c : Nat) (l : List UInt8) (w : World) (h : Rd w w.heap.size 1 A n (bys l)) (hn : n ≤ 1048576) : Calls Try.prog 30 #[.slice A n c] w (DrawnP w PofV) := by
  obtain ⟨w0, hw0⟩ : ∃ w0, w.alloc (.cells #[.string ⟨#[]⟩, .string ⟨#[]⟩] 32) = w0 := ⟨_, rfl⟩
  have hb0 : Below w.heap.size w w0 := by rw [← hw0]; exact (Below.refl _ _).alloc (Nat.le_refl _) _
  have hs0 : w0.heap.size = w.heap.size + 1 := by rw [← hw0]; simp
  have HH := Lib.hid (fun t => cur_newP (w := w0) (c := c) (t := t) ((h.below hb0).more (by omega)) hn)
  have hu0 : w0.cell? ⟨w.heap.size, 0, none⟩ = some (.string ⟨#[]⟩) := by rw [← hw0]; simp
  have hu1 : w0.cell? ⟨w.heap.size, 1, none⟩ = some (.string ⟨#[]⟩) := by rw [← hw0]; simp
  have hv0 : ∀ j, w0.frozen? ⟨w.heap.size, j, none⟩ = false := fun j => by rw [← hw0]; exact World.frozen?_alloc_at _ _ _ _ rfl
  have HU := Lib.hid (And.intro hu0 (And.intro hu1 hv0))
  have HB0 := Lib.hid hb0
  rw [hs0] at HH
  clear h hb0 hu0 hu1 hv0
  go_enter Try.func30, Try.ntmps30
  go_wp2_with fail
  refine (series_any ⟨w.heap.size + 1, w.heap.size + 1, n, c, A, l⟩ 0 _ (HH.out _) (by omega)).mono ?_
  rintro e w1 ⟨_, rfl, ⟨A1, c1, k1, ls, rfl, hk1, ht1, hsm1⟩, hcu, hch⟩
  have hs1 := hch.size
  simp at hs1
  have HT := Lib.hid ht1
  have HS := Lib.hid hsm1
  have HC := Lib.hid hcu
  have HW := Lib.hid hch
  clear ht1 hsm1 hcu hch
  go_wp2_with fail
  refine (label_any ⟨w.heap.size + 1, w.heap.size + 1, n, c, A, l⟩ 2600 _ (HC.out.more (by omega)) (by omega)).mono ?_
  rintro e w2 ⟨_, rfl, ⟨x, y, rfl, hx16, hy16⟩, hcu, hch⟩
  have hW := HW.out.trans hch
  have hblk := hW.block w.heap.size (by simp; omega) (.inl (by simp))
  have hB2 := HB0.out.trans ((new_belowP (by rw [hs0]; exact hW)).mono (show w.heap.size ≤ w0.heap.size by omega))
  have HT2 := Lib.hid (HT.out.ch HC.out hch (by simp; omega))
  have d0 : w2.cell? ⟨w.heap.size, 0, none⟩ = some (.string ⟨#[]⟩) := (cell_same hblk).trans ((World.cell?_alloc_lt _ _ _ (by simp; omega)).trans HU.out.1)
  have d1 : w2.cell? ⟨w.heap.size, 1, none⟩ = some (.string ⟨#[]⟩) := (cell_same hblk).trans ((World.cell?_alloc_lt _ _ _ (by simp; omega)).trans HU.out.2.1)
  have f0 : w2.frozen? ⟨w.heap.size, 0, none⟩ = false := (frz_same hblk).trans ((frz_alloc (by omega)).trans (HU.out.2.2 0))
  have f1 : w2.frozen? ⟨w.heap.size, 1, none⟩ = false := (frz_same hblk).trans ((frz_alloc (by omega)).trans (HU.out.2.2 1))
  have HB2 := Lib.hid hB2
  clear hW hblk hB2 hcu hch
  go_wp2_with fail
  have P := pc_store2 (y := .string x) (s := .string y) d0 d1
  obtain ⟨w9, hw9⟩ : ∃ w9, ((w2.setCell ⟨w.heap.size, 0, none⟩ (.string x)).setCell ⟨w.heap.size, 1, none⟩ (.string y)) = w9 := ⟨_, rfl⟩
  rw [hw9] at P ⊢
  obtain ⟨p0, p1, hg⟩ := P
  have hkeep : SerRd w9 A1 k1 ls := SerRd.of (HT2.out.chB hg (by simp; omega)) hk1 HS.out
  have hg' : Below w.heap.size w2 w9 := hg.below (by have := HB2.out.size; omega) (.inl (Nat.le_refl _))
  clear d0 d1 f0 f1 hw9
  exact bodyPost_ret (v := .tuple #[.slice A1 k1 c1, .agg #[.string x, .string y]]) (by simp [results, Try.results30, go_sem, p0, p1]) rfl ⟨_, rfl, ⟨A1, k1, c1, ls, x, y, rfl, hkeep, hx16, hy16⟩, HB2.out.trans hg'⟩
set_option maxHeartbeats 1000000 in
theorem sameQuery_same (B : Nat) (A A' : Option Addr) (n c c' : Nat) (l : List Qry) (w : World) (h : Rd w B 5 A n (qrys l)) (h' : Rd w B 5 A' n (qrys l)) (hn : n ≤ 1048576) :
    Calls Try.prog 33 #[.slice A n c, .slice A' n c'] w fun e w' => e = .returned (.bool true) ∧ ∃ q, w' = w.drewN q := by
  have H := Lib.hid h
  have H' := Lib.hid h'
  clear h h'
  go_enter Try.func33, Try.ntmps33
  go_wp2
  go_loopw [13] (fun i wr => ∃ k q : Nat, k ≤ n ∧ i = .int .i64 k ∧ wr = w.drewN q) (fun i _ => n - (intOf i).toNat)
  case atStart => exact ⟨0, 0, Nat.zero_le _, rfl, rfl⟩
  case round =>
    obtain ⟨k, q, hk, rfl, rfl⟩ := hrel
    by_cases hlt : k < n
    · obtain ⟨b, off, kd, x, y, a, b2, rfl, hB, hx, hc0, hc1, hc2, hc3, hc4⟩ := H.out.qry_at hlt
      obtain ⟨b', off', kd', x', y', a', b2', rfl, hB', hx', hc0', hc1', hc2', hc3', hc4'⟩ := H'.out.qry_at hlt
      obtain ⟨rfl, rfl, rfl, rfl, rfl⟩ : kd = kd' ∧ x = x' ∧ y = y' ∧ a = a' ∧ b2 = b2' := by rw [hx] at hx'; injection hx' with hx'; injection hx' with h1 h2 h3 h4 h5; exact ⟨h1, h2, h3, h4, h5⟩
      clear hx hx'
      go_wp2
      go_quiet (fail)
      go_wp2
      go_roundw
      case rel => exact ⟨k + 1, q + nq, by omega, by go_num, rfl⟩
      case measure => simp [intOf]; omega
    · go_wp2
      go_ret
      exact ⟨rfl, _, rfl⟩
/-! Plain. -/
theorem evalR_good (ls : List (List Lab)) (q : List Qry) (h : (goodSer ls && goodQry q) = true) : goodPosts (evalR ls q) = true := by
  unfold evalR
  rw [if_pos h]
  rw [Bool.and_eq_true] at h
  exact sel_good (goodSer_len h.1) (sel_eval ls q)
theorem less_lenS (se : Nat) : ∀ (a : List Int), (lessP a []).length = a.length := by intro a; unfold lessP; simp
theorem part_len (p : Int → Bool) (l : List Int) : (l.filter p).length + (l.filter fun x => !p x).length = l.length := by
  induction l with
  | nil => rfl
  | cons x l ih =>
    simp only [List.filter_cons]
    cases h : p x <;> simp [h] <;> omega
/-- A selection and the rest make all. -/
theorem sel_rest {n : Nat} {l : List Int} (h : Sel n l) : l.length + (lessP (allP n) l).length = n := by
  have e : (allP n).filter (fun x => l.contains x) = l := by
    have h1 : Srt ((allP n).filter fun x => l.contains x) := srt_filter (srt_allP n) _
    refine srt_ext _ _ h1 h.1 fun x => ?_
    rw [List.mem_filter, mem_allP]
    constructor
    · rintro ⟨_, h3⟩; simpa using h3
    · intro hx; exact ⟨h.2 x hx, by simpa using hx⟩
  have := part_len (fun x => l.contains x) (allP n)
  rw [e, allP_len] at this
  exact this
theorem not_facts {ls : List (List Lab)} {q : List Qry} (h : (goodSer ls && goodQry q) = true) (hq : okNotQ q = true) :
    (goodSer ls && goodQry (notQL q)) = true ∧ evalR ls (notQL q) = lessP (allP ls.length) (evalL ls q) ∧ goodQry (notQL q) = true := by
  obtain ⟨h1, h2⟩ := (Bool.and_eq_true _ _).mp h
  have hl := goodQ_len h2
  have hn : goodQry (notQL q) = true := by
    rw [notQ_yes hq, goodQ_not h2]
    unfold okNotQ at hq
    rw [Bool.and_eq_true, decide_eq_true_eq] at hq
    exact decide_eq_true (by omega)
  have hg : (goodSer ls && goodQry (notQL q)) = true := by rw [h1, hn]; rfl
  refine ⟨hg, ?_, hn⟩
  unfold evalR
  rw [if_pos hg, notQ_yes hq, eval_not hl.1]
theorem meet_less (a b : List Int) : meetP a (lessP b a) = [] := by
  unfold meetP lessP
  rw [List.filter_eq_nil_iff]
  intro x hx
  simp [hx]
theorem has_one (x y : ByteArray) : goodQry [⟨2, x, y, 0, 0⟩] = labOk (x, y) := by
  unfold goodQry
  simp [allAt, qryAt, qryOk]
theorem eval_has (ls : List (List Lab)) (x y : ByteArray) : evalR ls [⟨2, x, y, 0, 0⟩] = postsR ls (x, y) := by
  unfold evalR postsR
  rw [has_one]
  rfl
end Go.Proofs.Ytpdclppieicaeaa
