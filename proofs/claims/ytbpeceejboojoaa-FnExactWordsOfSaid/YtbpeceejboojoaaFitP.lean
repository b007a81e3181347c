/- Whether a part fits: the program's walk over its table. -/
import Derived.Test.YtbpeceejboojoaaPrts
import Derived.Test.YtbpeceejboojoaaFormPlain
import Derived.Test.YtbpeceejboojoaaFormS
import Derived.Deep.QuietTactic
import Derived.BigQuiet
namespace Go.Proofs.Ytbpeceejboojoaa
set_option linter.unusedVariables false
set_option linter.unusedSimpArgs false
open Go.RowKit

/-- A part's rows from lo on, in blocks from r + 1 to hi. -/
def Rw (w : World) (r N lo hi : Nat) (val : Nat → Nat → Bool) : Prop := ∀ f, lo ≤ f → f < N → ∃ b, w.cell? ⟨r, f, none⟩ = some (.slice (some ⟨b, 0, none⟩) N N) ∧ r < b ∧ b < hi ∧ ∀ t, f ≤ t → t < N → w.cell? ⟨b, t, none⟩ = some (.bool (val f t))
/-- One part's table: its rows from lo on. -/
def Tb (w : World) (T N j lo hi : Nat) (val : Nat → Nat → Bool) : Prop := ∃ r, w.cell? ⟨T, j, none⟩ = some (.slice (some ⟨r, 0, none⟩) N N) ∧ T < r ∧ r < hi ∧ Rw w r N lo hi val
theorem Rw.bel {w w' : World} {r N lo hi B : Nat} {val : Nat → Nat → Bool} (h : Rw w r N lo hi val) (hb : Below B w w') (hr : r < B) (hh : hi ≤ B) : Rw w' r N lo hi val := fun f hf hn => by
  obtain ⟨b, q1, q0, q2, q3⟩ := h f hf hn
  exact ⟨b, (bcell hb _ _ hr).trans q1, q0, q2, fun t ht hn => (bcell hb _ _ (by omega)).trans (q3 t ht hn)⟩
theorem Rw.wide {w : World} {r N lo hi hi' : Nat} {val : Nat → Nat → Bool} (h : Rw w r N lo hi val) (hh : hi ≤ hi') : Rw w r N lo hi' val := fun f hf hn => by
  obtain ⟨b, q1, q0, q2, q3⟩ := h f hf hn
  exact ⟨b, q1, q0, by omega, q3⟩
theorem Tb.bel {w w' : World} {T N j lo hi B : Nat} {val : Nat → Nat → Bool} (h : Tb w T N j lo hi val) (hb : Below B w w') (hT : T < B) (hh : hi ≤ B) : Tb w' T N j lo hi val := by
  obtain ⟨r, h1, h0, h2, h3⟩ := h
  exact ⟨r, (bcell hb _ _ hT).trans h1, h0, h2, h3.bel hb (by omega) hh⟩
theorem Tb.wide {w : World} {T N j lo hi hi' : Nat} {val : Nat → Nat → Bool} (h : Tb w T N j lo hi val) (hh : hi ≤ hi') : Tb w T N j lo hi' val := by
  obtain ⟨r, h1, h0, h2, h3⟩ := h
  exact ⟨r, h1, h0, by omega, h3.wide hh⟩
theorem Tb.setT {w : World} {T N j lo hi k : Nat} {v : Value} {val : Nat → Nat → Bool} (h : Tb w T N j lo hi val) (hk : j ≠ k) : Tb (w.setCell ⟨T, k, none⟩ v) T N j lo hi val := by
  obtain ⟨r, h1, h0, h2, h3⟩ := h
  refine ⟨r, (World.cell?_setCell_other _ _ _ _ (by intro e; injection e; omega)).trans h1, h0, h2, fun f hf hn => ?_⟩
  obtain ⟨b, q1, q0, q2, q3⟩ := h3 f hf hn
  exact ⟨b, (World.cell?_setCell_other _ _ _ _ (by intro e; injection e; omega)).trans q1, q0, q2, fun t ht hn => (World.cell?_setCell_other _ _ _ _ (by intro e; injection e; omega)).trans (q3 t ht hn)⟩
theorem Tb.at_ {w : World} {T N j lo hi f t : Nat} {val : Nat → Nat → Bool} (h : Tb w T N j lo hi val) (h1 : lo ≤ f) (h2 : f ≤ t) (h3 : t < N) :
    ∃ r b, w.cell? ⟨T, j, none⟩ = some (.slice (some ⟨r, 0, none⟩) N N) ∧ w.cell? ⟨r, f, none⟩ = some (.slice (some ⟨b, 0, none⟩) N N) ∧ w.cell? ⟨b, t, none⟩ = some (.bool (val f t)) := by
  obtain ⟨r, q1, _, _, q3⟩ := h
  obtain ⟨b, p1, _, _, p3⟩ := q3 f h1 (by omega)
  exact ⟨r, b, q1, p1, p3 t h2 h3⟩
def vT (l : List Prt) (s : List UInt8) (j f t : Nat) : Bool := mt (tr l j) (seg s f t)
/-- All that the walk of one part needs. -/
structure TabF (w : World) (T N i f : Nat) (l : List Prt) (s : List UInt8) : Prop where
  lt : T < w.heap.size
  old : ∀ j, j < i → Tb w T N j 0 w.heap.size (vT l s j)
  own : Tb w T N i (f + 1) w.heap.size (vT l s i)
theorem TabF.below {w w' : World} {T N i f : Nat} {l : List Prt} {s : List UInt8} (h : TabF w T N i f l s) (hb : Below w.heap.size w w') : TabF w' T N i f l s :=
  ⟨Nat.lt_of_lt_of_le h.lt hb.size, fun j hj => ((h.old j hj).bel hb h.lt (Nat.le_refl _)).wide hb.size, (h.own.bel hb h.lt (Nat.le_refl _)).wide hb.size⟩
theorem seg_one {s : List UInt8} {f t : Nat} (hf : f ≤ t) (ht : t ≤ s.length) : ((seg s f t).length == 1) = decide (t = f + 1) := by
  rw [seg_len ht]
  by_cases h : t = f + 1
  · subst h; simp
  · rw [decide_eq_false h, beq_eq_false_iff_ne]; omega
theorem seg_emp {s : List UInt8} {f t : Nat} (hf : f ≤ t) (ht : t ≤ s.length) : (seg s f t).isEmpty = decide (f = t) := by
  by_cases h : f = t
  · subst h; rw [seg_nil]; simp
  · rw [decide_eq_false h, List.isEmpty_eq_false_iff_exists_mem]
    have hl := seg_len (i := f) ht
    cases e : seg s f t with
    | nil => rw [e] at hl; simp at hl; omega
    | cons a r => exact ⟨a, by simp⟩
set_option maxRecDepth 100000 in
set_option maxHeartbeats 8000000 in
theorem fitsPart_any (T n c N : Nat) (l : List Prt) (s : ByteArray) (i f t : Nat) (p : Prt) (w : World) (hg : goodPrt l = true) (hp : l[i]? = some p) (hN : N = s.size + 1) (hs : s.size ≤ 1000) (hn : i < n) (hn2 : n ≤ 24) (hft : f ≤ t) (htN : t < N) (hT : TabF w T N i f l s.data.toList) :
    Calls Try.prog 43 #[.slice (some ⟨T, 0, none⟩) n c, .int .i64 i, .agg #[.int .i64 p.kind, .string p.text, .int .i64 p.a, .int .i64 p.b], .string s, .int .i64 f, .int .i64 t] w fun e w' => e = .returned (.bool (vT l s.data.toList i f t)) ∧ Below w.heap.size w w' := by
  have hsz : s.data.toList.length = s.size := by simp
  have hb0 : Below w.heap.size w (w.alloc (.cells #[.int .i64 p.kind, .string p.text, .int .i64 p.a, .int .i64 p.b] 50)) := (Below.refl _ _).alloc (Nat.le_refl _) _
  have HTA := Lib.hid (hT.below hb0)
  have HV := Lib.hid (show vT l s.data.toList i f t = mt (mkT p (tr l p.a.toNat) (tr l p.b.toNat)) (seg s.data.toList f t) by unfold vT; rw [tr_eq hg hp])
  have HB := Lib.hid hb0
  have hsh := good_at hg hp
  obtain ⟨V, hV⟩ : ∃ V, vT l s.data.toList i f t = V := ⟨_, rfl⟩
  rw [hV] at HV ⊢
  clear hV
  clear hT hb0
  cases hsh with
  | none =>
    have HR := Lib.hid (show V = false from HV.out)
    go_enter Try.func43, Try.ntmps43
    go_wp2
    go_ret
    rw [HR.out]
    exact ⟨rfl, HB.out⟩
  | empty =>
    have HR := Lib.hid (show V = decide (f = t) by rw [HV.out]; exact seg_emp hft (by omega))
    by_cases h : f = t
    · rw [decide_eq_true h] at HR
      have h' : (f : Int) = (t : Int) := by omega
      go_enter Try.func43, Try.ntmps43
      go_wp2
      go_ret
      rw [HR.out]
      exact ⟨rfl, HB.out⟩
    · rw [decide_eq_false h] at HR
      have h' : ¬ (f : Int) = (t : Int) := by omega
      go_enter Try.func43, Try.ntmps43
      go_wp2
      go_ret
      rw [HR.out]
      exact ⟨by simp [h'], HB.out⟩
  | letter ch h1 h2 =>
    have HR := Lib.hid (show V = (seg s.data.toList f t == [ch]) from HV.out)
    obtain ⟨X, hX⟩ : ∃ X, s.extract f t = X := ⟨_, rfl⟩
    have hXl : X.data.toList = seg s.data.toList f t := by rw [← hX, ByteArray.data_extract, Array.toList_extract]; rfl
    rw [← hXl] at HR
    clear hXl h1 h2
    obtain ⟨z, hz⟩ : ∃ z : ByteArray, (⟨#[ch]⟩ : ByteArray) = z := ⟨_, rfl⟩
    have hzl : z.toList = [ch] := by rw [← hz, ByteArray.toList_eq]
    have hq : (X.data.toList == [ch]) = (X.toList == z.toList) := by rw [hzl, ByteArray.toList_eq]
    rw [hq] at HR
    rw [hz] at HB HTA ⊢
    clear hq hzl hz
    go_enter Try.func43, Try.ntmps43
    go_wp2
    go_quiet (fail)
    go_wp2
    go_ret
    rw [HR.out]
    exact ⟨rfl, Below.drewN HB.out _⟩
  | any =>
    have HR := Lib.hid (show V = decide (t = f + 1) by rw [HV.out]; exact seg_one hft (by omega))
    by_cases h : t = f + 1
    · rw [decide_eq_true h] at HR
      have h' : (t : Int) = (f : Int) + 1 := by omega
      go_enter Try.func43, Try.ntmps43
      go_wp2
      go_ret
      rw [HR.out]
      exact ⟨by simp [h'], HB.out⟩
    · rw [decide_eq_false h] at HR
      have h' : ¬ (t : Int) = (f : Int) + 1 := by omega
      go_enter Try.func43, Try.ntmps43
      go_wp2
      go_ret
      rw [HR.out]
      exact ⟨by simp [h'], HB.out⟩
  | seq a b ha hb =>
    have HR := Lib.hid (show V = someIn (fun k => vT l s.data.toList a f k && vT l s.data.toList b k t) f t by rw [HV.out]; exact mt_seq_seg hft (by omega))
    have han : a < n := by omega
    have hbn : b < n := by omega
    have hfN : f < N := by omega
    obtain ⟨F, hF⟩ : ∃ F : Nat → Bool, (fun k => vT l s.data.toList a f k && vT l s.data.toList b k t) = F := ⟨_, rfl⟩
    rw [hF] at HR
    have HF := Lib.hid (fun k => congrFun hF k)
    obtain ⟨wa, hwa⟩ : ∃ wa, w.alloc (.cells #[.int .i64 5, .string ⟨#[]⟩, .int .i64 (a : Int), .int .i64 (b : Int)] 50) = wa := ⟨_, rfl⟩
    have hx2 : wa.cell? ⟨w.heap.size, 2, none⟩ = some (.int .i64 (a : Int)) := by rw [← hwa]; simp
    have hx3 : wa.cell? ⟨w.heap.size, 3, none⟩ = some (.int .i64 (b : Int)) := by rw [← hwa]; simp
    simp only [hwa] at HTA HB
    have HWA := Lib.hid hwa
    clear hF hwa
    go_enter Try.func43, Try.ntmps43
    go_wp2_with fail
    rw [HWA.out]
    clear HWA
    go_loopw [13] (fun v wr => ∃ k : Nat, f ≤ k ∧ k ≤ t + 1 ∧ v = .int .i64 k ∧ V = someIn F k t ∧ wr = wa) (fun v _ => t + 1 - (intOf v).toNat)
    case atStart => exact ⟨f, Nat.le_refl _, by omega, rfl, HR.out, rfl⟩
    case round =>
      obtain ⟨k, hk0, hk1, rfl, hv, rfl⟩ := hrel
      have HQ := Lib.hid hv
      clear hv
      by_cases hlt : k ≤ t
      · have hst := someIn_step (f := F) hlt
        have hkN : k < N := by omega
        obtain ⟨r1, b1, e1, e2, e3⟩ := (HTA.out.old a ha).at_ (Nat.zero_le _) hk0 (by omega)
        obtain ⟨r2, b2, d1, d2, d3⟩ := (HTA.out.old b hb).at_ (Nat.zero_le _) hlt htN
        have hFk := HF.out k
        obtain ⟨va, hva⟩ : ∃ v, vT l s.data.toList a f k = v := ⟨_, rfl⟩
        obtain ⟨vb, hvb⟩ : ∃ v, vT l s.data.toList b k t = v := ⟨_, rfl⟩
        rw [hva] at e3 hFk
        rw [hvb] at d3 hFk
        rw [← hFk] at hst
        clear hva hvb hFk
        cases va with
        | true =>
          cases vb with
          | true =>
            have HE := Lib.hid (show V = true by rw [HQ.out, hst]; rfl)
            clear hst
            go_wp2
            go_ret
            rw [HE.out]
            exact ⟨rfl, HB.out⟩
          | false =>
            have HE := Lib.hid (show V = someIn F (k + 1) t by rw [HQ.out, hst]; rfl)
            clear hst
            go_wp2
            go_roundw
            case rel => exact ⟨k + 1, by omega, by omega, by go_num, HE.out, by trivial⟩
            case measure => simp [intOf]; omega
        | false =>
          have HE := Lib.hid (show V = someIn F (k + 1) t by rw [HQ.out, hst]; rfl)
          clear hst
          go_wp2
          go_roundw
          case rel => exact ⟨k + 1, by omega, by omega, by go_num, HE.out, by trivial⟩
          case measure => simp [intOf]; omega
      · have HE := Lib.hid (show V = false by rw [HQ.out]; exact someIn_end (by omega))
        go_wp2
        go_ret
        rw [HE.out]
        exact ⟨rfl, HB.out⟩
  | alt a b ha hb =>
    have HR := Lib.hid (show V = (vT l s.data.toList a f t || vT l s.data.toList b f t) from HV.out)
    obtain ⟨r1, b1, e1, e2, e3⟩ := (HTA.out.old a ha).at_ (Nat.zero_le _) hft htN
    obtain ⟨r2, b2, d1, d2, d3⟩ := (HTA.out.old b hb).at_ (Nat.zero_le _) hft htN
    obtain ⟨va, hva⟩ : ∃ v, vT l s.data.toList a f t = v := ⟨_, rfl⟩
    obtain ⟨vb, hvb⟩ : ∃ v, vT l s.data.toList b f t = v := ⟨_, rfl⟩
    rw [hva] at e3 HR
    rw [hvb] at d3 HR
    have han : a < n := by omega
    have hbn : b < n := by omega
    have hfN : f < N := by omega
    clear hva hvb
    go_enter Try.func43, Try.ntmps43
    cases va <;> go_wp2 <;> go_ret <;> rw [HR.out] <;> exact ⟨rfl, HB.out⟩
  | star a ha =>
    have HR := Lib.hid (show V = (someIn (fun k => vT l s.data.toList a f k && vT l s.data.toList i k t) (f + 1) t || decide (f = t)) by
      have e := HV.out
      rw [show mkT ⟨7, ⟨#[]⟩, (a : Int), 0⟩ (tr l ((a : Int)).toNat) (tr l ((0 : Int)).toNat) = Tr.star (tr l a) from rfl, mt_star_seg hft (by omega)] at e
      rw [e]
      have et : tr l i = Tr.star (tr l a) := (tr_eq hg hp)
      unfold vT
      rw [et])
    have han : a < n := by omega
    have hfN : f < N := by omega
    obtain ⟨F, hF⟩ : ∃ F : Nat → Bool, (fun k => vT l s.data.toList a f k && vT l s.data.toList i k t) = F := ⟨_, rfl⟩
    rw [hF] at HR
    have HF := Lib.hid (fun k => congrFun hF k)
    obtain ⟨wa, hwa⟩ : ∃ wa, w.alloc (.cells #[.int .i64 7, .string ⟨#[]⟩, .int .i64 (a : Int), .int .i64 0] 50) = wa := ⟨_, rfl⟩
    have hx2 : wa.cell? ⟨w.heap.size, 2, none⟩ = some (.int .i64 (a : Int)) := by rw [← hwa]; simp
    simp only [hwa] at HTA HB
    have HWA := Lib.hid hwa
    clear hF hwa
    go_enter Try.func43, Try.ntmps43
    go_wp2_with fail
    rw [HWA.out]
    clear HWA
    go_loopw [14] (fun v wr => ∃ k : Nat, f + 1 ≤ k ∧ k ≤ t + 1 ∧ v = .int .i64 k ∧ V = (someIn F k t || decide (f = t)) ∧ wr = wa) (fun v _ => t + 1 - (intOf v).toNat)
    case atStart => exact ⟨f + 1, Nat.le_refl _, by omega, by go_num, HR.out, rfl⟩
    case round =>
      obtain ⟨k, hk0, hk1, rfl, hv, rfl⟩ := hrel
      have HQ := Lib.hid hv
      clear hv
      by_cases hlt : k ≤ t
      · have hst := someIn_step (f := F) hlt
        have hkN : k < N := by omega
        obtain ⟨r1, b1, e1, e2, e3⟩ := (HTA.out.old a ha).at_ (Nat.zero_le _) (show f ≤ k by omega) (by omega)
        obtain ⟨r2, b2, d1, d2, d3⟩ := HTA.out.own.at_ hk0 hlt htN
        have hFk := HF.out k
        obtain ⟨va, hva⟩ : ∃ v, vT l s.data.toList a f k = v := ⟨_, rfl⟩
        obtain ⟨vb, hvb⟩ : ∃ v, vT l s.data.toList i k t = v := ⟨_, rfl⟩
        rw [hva] at e3 hFk
        rw [hvb] at d3 hFk
        rw [← hFk] at hst
        clear hva hvb hFk
        cases va with
        | true =>
          cases vb with
          | true =>
            have HE := Lib.hid (show V = true by rw [HQ.out, hst]; rfl)
            clear hst
            go_wp2
            go_ret
            rw [HE.out]
            exact ⟨rfl, HB.out⟩
          | false =>
            have HE := Lib.hid (show V = (someIn F (k + 1) t || decide (f = t)) by rw [HQ.out, hst]; rfl)
            clear hst
            go_wp2
            go_roundw
            case rel => exact ⟨k + 1, by omega, by omega, by go_num, HE.out, by trivial⟩
            case measure => simp [intOf]; omega
        | false =>
          have HE := Lib.hid (show V = (someIn F (k + 1) t || decide (f = t)) by rw [HQ.out, hst]; rfl)
          clear hst
          go_wp2
          go_roundw
          case rel => exact ⟨k + 1, by omega, by omega, by go_num, HE.out, by trivial⟩
          case measure => simp [intOf]; omega
      · by_cases h : f = t
        · have HE := Lib.hid (show V = true by rw [HQ.out, decide_eq_true h]; simp)
          have h' : (f : Int) = (t : Int) := by omega
          go_wp2
          go_ret
          rw [HE.out]
          exact ⟨by simp [h'], HB.out⟩
        · have HE := Lib.hid (show V = false by rw [HQ.out, decide_eq_false h, someIn_end (by omega)]; rfl)
          have h' : ¬ (f : Int) = (t : Int) := by omega
          go_wp2
          go_ret
          rw [HE.out]
          exact ⟨by simp [h'], HB.out⟩
  | not_ a ha =>
    have HR := Lib.hid (show V = !vT l s.data.toList a f t from HV.out)
    obtain ⟨r1, b1, e1, e2, e3⟩ := (HTA.out.old a ha).at_ (Nat.zero_le _) hft htN
    obtain ⟨va, hva⟩ : ∃ v, vT l s.data.toList a f t = v := ⟨_, rfl⟩
    rw [hva] at e3 HR
    have han : a < n := by omega
    have hfN : f < N := by omega
    clear hva
    go_enter Try.func43, Try.ntmps43
    go_wp2
    go_ret
    rw [HR.out]
    exact ⟨rfl, HB.out⟩
end Go.Proofs.Ytbpeceejboojoaa
