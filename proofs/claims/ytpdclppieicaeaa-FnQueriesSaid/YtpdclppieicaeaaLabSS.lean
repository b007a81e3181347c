/- The laws' helpers on slices of slices of labels: copying, comparing, marking, measuring. -/
import Derived.Test.YtpdclppieicaeaaRowSS
namespace Go.Proofs.Ytpdclppieicaeaa
set_option linter.unusedVariables false
set_option linter.unusedSimpArgs false
open Go.RowKit

theorem infoLabS : (Try.prog.info? 66).map (fun i => (i.zero, i.size, i.bytes)) = some (some (.slice none 0 0), 1, 24) := by kernel_rfl
abbrev RowLL (lo hi : Nat) (A : Option Addr) (n c : Nat) (ls : List (List Lab)) (w : World) : Prop := RowSS 66 32 lo hi A n c ls w
def smallSS (ls : List (List Lab)) : Prop := ∀ l ∈ ls, l.length ≤ 1048576
theorem smallSS.at_ {ls : List (List Lab)} (h : smallSS ls) {k : Nat} {l : List Lab} (e : ls[k]? = some l) : l.length ≤ 1048576 := h l (List.mem_of_getElem? e)
theorem RowLL.rd_ {lo hi : Nat} {A : Option Addr} {n c : Nat} {ls : List (List Lab)} {w : World} (h : RowLL lo hi A n c ls w) (hs : smallSS ls) : RdSS w hi A n ls := RowSS.rd h fun l hl => by have := hs l hl; omega

set_option maxRecDepth 100000 in
set_option maxHeartbeats 4000000 in
theorem to_LabelSS (B : Nat) (A : Option Addr) (n c : Nat) (ls : List (List Lab)) (w : World) (hBw : B ≤ w.heap.size) (h : RdSS w B A n ls) (hn : n ≤ 1048576) (hsm : smallSS ls) :
    Calls Try.prog 9 #[.slice A n c] w fun e w' => ∃ A' c', e = .returned (.slice A' n c') ∧ RowLL w.heap.size w'.heap.size A' n c' ls w' ∧ Ch 0 0 w w' := by
  obtain ⟨i0, hi, hz0, hz1, hz2⟩ := info_parts infoLabS
  have HL := Lib.hid h.len
  have H := Lib.hid h
  clear h
  go_enter Try.func9, Try.ntmps9
  go_wp2_with (at_make; refine wpList_make_full _ rfl (.tmp 6) (.tmp 6) 30 rfl w.heap.size 66 i0 (.slice none 0 0) 1 Try.underlying30 hi hz0 hz1 _ _ _ _ n rfl rfl rfl rfl (by rw [hz2]; omega) (by unfold maxLen; omega) (Nat.le_refl _) ?_; intro w1 hown hgrow)
  have hb1 : Below w.heap.size w w1 := (Below.refl _ _).grown hgrow (Nat.le_refl _) (by simp)
  obtain ⟨Z, hZ⟩ : ∃ Z, Z = (madeCells (Value.cells (.slice none 0 0)) (n * 1)).toList := ⟨_, rfl⟩
  rw [← hZ] at hown
  have HZ := Lib.hid (show Z.length = n by have := hown.1; omega)
  clear hZ
  have hlt1 : w.heap.size < w1.heap.size := by
    rcases hown.2 with ⟨h', _⟩ | ⟨g, cap, cur, hv, hb, hg, _⟩
    · simp at h'
    · injection hv with e
      injection e with e
      injection e with e
      have := (Array.getElem?_eq_some_iff.1 hg).1
      omega
  have HQ := Lib.hid (show BuildSS 66 32 w.heap.size w.heap.size n 0 Z ls w1 from BuildSS.start hown (Nat.le_refl _) hlt1)
  clear hown hgrow hi hz0 hz1 hz2
  have HB := Lib.hid hb1
  clear hb1
  go_loopw [4] (fun i wr => ∃ k : Nat, k ≤ n ∧ i = .int .i64 k ∧ BuildSS 66 32 w.heap.size w.heap.size n k Z ls wr ∧ Below w.heap.size w wr) (fun i _ => n - (intOf i).toNat)
  case atStart => exact ⟨0, Nat.zero_le _, rfl, HQ.out, HB.out⟩
  case round =>
    clear HQ HB
    obtain ⟨k, hk, rfl, hq, hb⟩ := hrel
    have HQ := Lib.hid hq
    have HB := Lib.hid hb
    have hsb := hb.size
    clear hq hb
    by_cases hlt : k < n
    · obtain ⟨b0, off, A', n', c', l, rfl, hbB, hx, hc0, hrd, _⟩ := H.out.at_ hlt
      have hd0 : wr.cell? ⟨b0, off + k, none⟩ = some (.slice A' n' c') := (bcell HB.out _ _ (by omega)).trans hc0
      have hln := hrd.lab_len
      have hsl := hsm.at_ hx
      have HX := Lib.hid hx
      have HR := Lib.hid (hrd.below (HB.out.mono hBw))
      clear hx hc0 hrd hln
      go_wp2_with fail
      refine (toLabelS_any B A' n' c' l _ (by omega) HR.out (by have := HR.out.lab_len; omega)).mono ?_
      rintro e w2 ⟨rfl, ho2, hb2⟩
      have HS := Lib.hid (HQ.out.step hb2 ho2 HX.out hlt HZ.out)
      have HB2 := Lib.hid (HB.out.trans (hb2.mono hsb))
      obtain ⟨u0, hu0⟩ : ∃ u, w2.cell? ⟨w.heap.size, k, none⟩ = some u := HQ.out.cell hb2 hlt HZ.out
      have hf0 : w2.frozen? ⟨w.heap.size, k, none⟩ = false := HQ.out.frz hb2
      clear hb2 ho2
      go_wp2
      go_roundw
      case rel => exact ⟨k + 1, by omega, by go_num, HS.out, HB2.out.setCell (Nat.le_refl _) _⟩
      case measure => simp [intOf]; omega
    · have hk' : k = n := by omega
      subst hk'
      go_wp2
      go_ret
      exact ⟨_, _, rfl, HQ.out.done HZ.out HL.out, Ch.of_below HB.out⟩

set_option maxRecDepth 100000 in
set_option maxHeartbeats 4000000 in
theorem eq_LabelSS (B B' : Nat) (A A' : Option Addr) (n c c' : Nat) (ls : List (List Lab)) (w : World) (hB : B ≤ w.heap.size) (hB' : B' ≤ w.heap.size) (h : RdSS w B A n ls) (h' : RdSS w B' A' n ls) (hn : n ≤ 1048576) (hsm : smallSS ls) :
    Calls Try.prog 13 #[.slice A n c, .slice A' n c'] w fun e w' => e = .returned (.bool true) ∧ Ch 0 0 w w' := by
  have H := Lib.hid h
  have H' := Lib.hid h'
  clear h h'
  go_enter Try.func13, Try.ntmps13
  go_wp2
  go_loopw [5] (fun i wr => ∃ k : Nat, k ≤ n ∧ i = .int .i64 k ∧ Below w.heap.size w wr) (fun i _ => n - (intOf i).toNat)
  case atStart => exact ⟨0, Nat.zero_le _, rfl, Below.refl _ _⟩
  case round =>
    obtain ⟨k, hk, rfl, hb⟩ := hrel
    have HB := Lib.hid hb
    have hsz := hb.size
    clear hb
    by_cases hlt : k < n
    · obtain ⟨b0, off, A1, n1, c1, l, rfl, hbB, hx, hc0, hrd, _⟩ := H.out.at_ hlt
      obtain ⟨b0', off', A2, n2, c2, l', rfl, hbB', hx', hc0', hrd', _⟩ := H'.out.at_ hlt
      obtain rfl : l = l' := by rw [hx] at hx'; injection hx'
      have hl1 := hrd.lab_len
      have hl2 := hrd'.lab_len
      obtain rfl : n1 = n2 := by omega
      have hsl := hsm.at_ hx
      have hn1 : n1 ≤ 1048576 := by omega
      have d0 := beyond_cell (B := wr.heap.size) (W := wr) ((bcell HB.out _ _ (by omega)).trans hc0) (by omega)
      have d1 := beyond_cell (B := wr.heap.size) (W := wr) ((bcell HB.out _ _ (by omega)).trans hc0') (by omega)
      have HR := Lib.hid (((hrd.more hB).below HB.out).more hsz)
      have HR' := Lib.hid (((hrd'.more hB').below HB.out).more hsz)
      have HCQ := Lib.hid (fun (z : Beyond wr.heap.size wr) => eqLabelS_same wr.heap.size A1 A2 n1 c1 c2 l z.1 z.2.size (HR.out.below z.2) (HR'.out.below z.2) hn1)
      clear hx hx' hc0 hc0' hrd hrd' hl1 hl2 hsl
      go_wp2_with fail
      refine wp_region_beyond (B := wr.heap.size) (W := wr) (Below.refl _ _) (by kernel_rfl) (by kernel_rfl) ?_
      repeat (go_big_quiet_step ((go_at_call 42; exact calls_beyond (Nat.le_refl _) (HCQ.out _))))
      refine wpQuiet_nil ?_
      intro _ hw'
      obtain ⟨z, rfl⟩ := hw'
      have HBz := Lib.hid (HB.out.trans (z.2.mono hsz))
      generalize z.1 = wz at HBz ⊢
      clear d0 d1 HR HR'
      go_wp2
      go_roundw
      case rel => exact ⟨k + 1, by omega, by go_num, HBz.out⟩
      case measure => simp [intOf]; omega
    · go_wp2
      go_ret
      exact ⟨rfl, Ch.of_below HB.out⟩

set_option maxRecDepth 100000 in
set_option maxHeartbeats 4000000 in
/-- Marking: the sum is m, whatever the marks. -/
theorem mk_LabelSS (ls : List (List Lab)) (n : Nat) (k : Int) (hn : n ≤ 1048576) (hz : (ls.map List.length).sum ≤ 1048576) (hk0 : 0 ≤ k) (hk1 : k ≤ 549755813888) : ∃ (m : Int), k ≤ m ∧ m ≤ k + 8388608 ∧
    (∀ lo hi A c w, RowLL lo hi A n c ls w → Calls Try.prog 14 #[.slice A n c, .int .i64 k] w fun e w' => e = .returned (.int .i64 m) ∧ True ∧ Ch lo hi w w') := by
  have hall := lblSS_le ls n
  have HW := Lib.hid (fun j => lblSS_le ls j)
  refine ⟨k + 2 * lblSS ls n, by omega, by omega, fun lo hi A c w h => ?_⟩
  obtain ⟨hs, s, h1, h2, h3, h4, h5, h6, h7, h8⟩ := h
  have hm0 : s 0 ≤ s n := steps_mono h5 (by omega)
  have HM := Lib.hid (fun a b (hab : a ≤ b) => steps_mono h5 hab)
  have H5 := Lib.hid h5
  have H1 := Lib.hid h1
  have H8 := Lib.hid h8
  have H3 := Lib.hid h3
  have H2 := Lib.hid h2
  have H6 := Lib.hid h6
  clear h1 h8 h3 h2 h5 h6
  go_enter Try.func14, Try.ntmps14
  go_wp2
  go_loopw [1, 5] (fun m i wr => ∃ j : Nat, j ≤ n ∧ i = .int .i64 j ∧ m = .int .i64 (k + 2 * lblSS ls j) ∧ Row 66 1 lo (s 0) A n c (hds hs) wr ∧ RowsAt 32 s hs ls j wr ∧ Ch (s 0) (s n) w wr) (fun _ i _ => n - (intOf i).toNat)
  case atStart => exact ⟨0, Nat.zero_le _, rfl, by simp [lblSS], H1.out, H8.out, Ch.refl _ _ _⟩
  case round =>
    clear H1 H8
    obtain ⟨j, hj, rfl, rfl, hr, ha, hc⟩ := hrel
    have HA := Lib.hid ha
    have HC := Lib.hid hc
    have HR := Lib.hid hr
    clear ha hc
    have hwj := HW.out j
    by_cases hlt : j < n
    · obtain ⟨b, off, e, hb, hcell⟩ := hr.rd.2 (by omega)
      have hlh : j < hs.length := by rw [H3.out]; exact hlt
      have hll : j < ls.length := by rw [H2.out]; exact hlt
      have hg : hs[j]? = some hs[j] := List.getElem?_eq_getElem hlh
      have hgl : ls[j]? = some ls[j] := List.getElem?_eq_getElem hll
      have d0 := hcell j _ (hds_get hg)
      have hrow := HA.out j _ _ (Nat.le_refl _) hg hgl
      obtain ⟨⟨A', n', c'⟩, hh⟩ : ∃ q, hs[j] = q := ⟨_, rfl⟩
      obtain ⟨l, hl⟩ : ∃ l, ls[j] = l := ⟨_, rfl⟩
      rw [hh] at d0 hrow
      rw [hl] at hrow hgl
      have d0 : wr.cell? ⟨b, off + j, none⟩ = some (.slice A' n' c') := d0
      have hrow : Row 32 2 (s j) (s (j + 1)) A' n' c' (lbls l) wr := hrow
      have hln : l.length = n' := hrow.rd.lab_len
      have hss := lblSS_succ hgl
      have hwj1 := HW.out (j + 1)
      have hsum : lblSS ls (j + 1) = lblSS ls j + n' := by omega
      have HS := Lib.hid hsum
      have HRow := Lib.hid hrow
      subst e
      clear hr hcell hlh hll hg hgl hh hl hrow hln hss
      have hn' : n' ≤ 1048576 := by omega
      go_wp2_with fail
      refine (markLabelS_any (s j) A' n' c' l _ _ HRow.out.1 hn' (by omega) (by omega)).mono ?_
      rintro e w2 ⟨rfl, ho, hg⟩
      have hch : Ch (s j) (s (j + 1)) wr w2 := Ch.of_grown hg fun g hg' => ⟨(HRow.out.1.lt g hg').1, HRow.out.2.2 g hg'⟩
      have q1 := HM.out 0 j (Nat.zero_le _)
      have q2 := HM.out (j + 1) n (by omega)
      have HR2 := Lib.hid (HR.out.keep hch (.inl q1))
      have HA2 := Lib.hid (show RowsAt 32 s hs ls (j + 1) w2 from fun i h' l' hi e e' => (HA.out i h' l' (by omega) e e').keep hch (.inr (HM.out (j + 1) i hi)))
      have HC2 := Lib.hid (HC.out.trans (hch.mono q1 q2))
      clear hch ho hg q1 q2
      go_wp2
      go_roundw
      case rel => exact ⟨j + 1, by omega, by go_num, congrArg (Value.int .i64) (by rw [HS.out]; omega), HR2.out, HA2.out, HC2.out⟩
      case measure => simp [intOf]; omega
    · have hk' : j = n := by omega
      subst hk'
      go_wp2
      go_ret
      exact ⟨rfl, trivial, HC.out.mono h4 (by rw [H6.out]; exact Nat.le_refl _)⟩

def lblSzSS (ls : List (List Lab)) : Nat := ls.length + (ls.map lblSz).sum
def lblSSOk (ls : List (List Lab)) : Prop := ∀ l ∈ ls, ∀ p ∈ l, p.1.size ≤ 9223372036854775807 ∧ p.2.size ≤ 9223372036854775807
theorem sz_LabelSS_ge {w : World} {B n : Nat} {A : Option Addr} {ls : List (List Lab)} (h : RdSS w B A n ls) : n ≤ lblSzSS ls := by have := h.len; unfold lblSzSS; omega
theorem mem_sum_le {L : List Nat} {x : Nat} (h : x ∈ L) : x ≤ L.sum := by
  induction L with
  | nil => simp at h
  | cons y L ih =>
    rcases List.mem_cons.1 h with rfl | h
    · simp
    · have := ih h; simp; omega
theorem smallSS_of {ls : List (List Lab)} {z : Nat} (hz : z = lblSzSS ls) (h : z ≤ 1048576) : smallSS ls := by
  intro l hl
  have h1 : l.length ≤ lblSz l := lblSz_le
  have h2 := mem_sum_le (List.mem_map_of_mem (f := lblSz) hl)
  unfold lblSzSS at hz
  omega
theorem sumSS_of {ls : List (List Lab)} {z : Nat} (hz : z = lblSzSS ls) (h : z ≤ 1048576) : (ls.map List.length).sum ≤ 1048576 := by
  have : (ls.map List.length).sum ≤ (ls.map lblSz).sum := by
    clear hz
    induction ls with
    | nil => exact Nat.le_refl _
    | cons l ls ih => simp only [List.map_cons, List.sum_cons]; have := lblSz_le (l := l); omega
  unfold lblSzSS at hz
  omega
theorem szSS_take {ls : List (List Lab)} {k : Nat} {l : List Lab} (h : ls[k]? = some l) : ((ls.take (k + 1)).map lblSz).sum = ((ls.take k).map lblSz).sum + lblSz l := by rw [take_snoc' ls k l h, List.map_append, List.sum_append]; simp
theorem szSS_pre (ls : List (List Lab)) (k : Nat) : ((ls.take k).map lblSz).sum ≤ (ls.map lblSz).sum := by rw [List.map_take]; exact sum_take_le _ _

set_option maxRecDepth 100000 in
set_option maxHeartbeats 4000000 in
theorem sz_LabelSS_ok (B : Nat) (A : Option Addr) (n c : Nat) (ls : List (List Lab)) (z : Nat) (hz : z = lblSzSS ls) (m : Int) (w : World) (hBw : B ≤ w.heap.size) (h : RdSS w B A n ls) (h0 : (z : Int) ≤ m) (h1 : m ≤ 1048576) :
    Calls Try.prog 6 #[.slice A n c, .int .i64 m] w fun e w' => e = .returned (.int .i64 (m - z)) ∧ Ch 0 0 w w' := by
  have hzl : z = n + (ls.map lblSz).sum := by rw [hz]; unfold lblSzSS; rw [h.len]
  have HL := Lib.hid h.len
  have H := Lib.hid h
  have HZ := Lib.hid hzl
  have hnz : n ≤ z := by omega
  clear h hz hzl
  go_enter Try.func6, Try.ntmps6
  go_wp2
  go_loopw [1, 5] (fun q i wr => ∃ (k s : Nat), k ≤ n ∧ i = .int .i64 k ∧ q = .int .i64 (m - n - s) ∧ s = ((ls.take k).map lblSz).sum ∧ n + s ≤ z ∧ Below w.heap.size w wr) (fun _ i _ => n - (intOf i).toNat)
  case atStart => exact ⟨0, 0, Nat.zero_le _, rfl, by simp, by simp, by omega, Below.refl _ _⟩
  case round =>
    obtain ⟨k, s, hk, rfl, rfl, hs, hsz, hb⟩ := hrel
    have HS := Lib.hid hs
    have HB := Lib.hid hb
    have hsw := hb.size
    clear hs hb
    by_cases hlt : k < n
    · obtain ⟨b0, off, A', n', c', l, rfl, hbB, hx, hc0, hrd, hn'⟩ := H.out.at_ hlt
      have hd0 : wr.cell? ⟨b0, off + k, none⟩ = some (.slice A' n' c') := (bcell HB.out _ _ (by omega)).trans hc0
      have ht := szSS_take hx
      have hp := szSS_pre ls (k + 1)
      have hR := hrd.below (HB.out.mono hBw)
      obtain ⟨x, hxx⟩ : ∃ x, x = lblSz l := ⟨_, rfl⟩
      rw [← hxx] at ht
      have hbd : n + (s + x) ≤ z := by have := HZ.out; have := HS.out; omega
      have HT := Lib.hid (show s + x = ((ls.take (k + 1)).map lblSz).sum by rw [HS.out]; exact ht.symm)
      have HR := Lib.hid hR
      have HX := Lib.hid hxx
      clear ht hp hx hc0 hrd hR hxx
      go_wp2_with fail
      refine (sz_Label_ok B A' n' c' l x HX.out _ _ (by omega) HR.out (by omega) (by omega)).mono ?_
      rintro e w2 ⟨rfl, hb2⟩
      have HB2 := Lib.hid (HB.out.trans (hb2.below0.mono hsw))
      clear hb2
      go_wp2
      go_roundw
      case rel => exact ⟨k + 1, s + x, by omega, by go_num, by go_num, HT.out, by omega, HB2.out⟩
      case measure => simp [intOf]; omega
    · have hk' : k = n := by omega
      have e := HS.out
      rw [List.take_of_length_le (by rw [HL.out]; omega)] at e
      have HE := Lib.hid (show z = n + s by rw [e]; exact HZ.out)
      clear e
      go_wp2
      go_ret
      exact ⟨retI (by have := HE.out; omega), Ch.of_below HB.out⟩
set_option maxRecDepth 100000 in
set_option maxHeartbeats 4000000 in
theorem sz_LabelSS_no (B : Nat) (A : Option Addr) (n c : Nat) (ls : List (List Lab)) (z : Nat) (hz : z = lblSzSS ls) (m : Int) (w : World) (hBw : B ≤ w.heap.size) (h : RdSS w B A n ls) (h0 : m < z) (h1 : 0 ≤ m) (h2 : n ≤ 9223372036854775807) (h3 : m ≤ 1048576) (hok : lblSSOk ls) :
    Calls Try.prog 6 #[.slice A n c, .int .i64 m] w fun e w' => e = .returned (.int .i64 (-1)) ∧ Ch 0 0 w w' := by
  have hzl : z = n + (ls.map lblSz).sum := by rw [hz]; unfold lblSzSS; rw [h.len]
  have HL := Lib.hid h.len
  have H := Lib.hid h
  have HZ := Lib.hid hzl
  have HO := Lib.hid hok
  clear h hz hzl hok
  by_cases hnm : m < n
  · go_enter Try.func6, Try.ntmps6
    go_wp2
    go_ret
    exact ⟨rfl, Ch.refl _ _ _⟩
  go_enter Try.func6, Try.ntmps6
  go_wp2
  go_loopw [1, 5] (fun q i wr => ∃ (k s : Nat), k ≤ n ∧ i = .int .i64 k ∧ q = .int .i64 (m - n - s) ∧ s = ((ls.take k).map lblSz).sum ∧ (n + s : Nat) ≤ m ∧ Below w.heap.size w wr) (fun _ i _ => n - (intOf i).toNat)
  case atStart => exact ⟨0, 0, Nat.zero_le _, rfl, by simp, by simp, by omega, Below.refl _ _⟩
  case round =>
    obtain ⟨k, s, hk, rfl, rfl, hs, hsz, hb⟩ := hrel
    have HS := Lib.hid hs
    have HB := Lib.hid hb
    have hsw := hb.size
    clear hs hb
    by_cases hlt : k < n
    · obtain ⟨b0, off, A', n', c', l, rfl, hbB, hx, hc0, hrd, hn'⟩ := H.out.at_ hlt
      have hd0 : wr.cell? ⟨b0, off + k, none⟩ = some (.slice A' n' c') := (bcell HB.out _ _ (by omega)).trans hc0
      have ht := szSS_take hx
      have hob := HO.out _ (List.mem_of_getElem? hx)
      have hR := hrd.below (HB.out.mono hBw)
      obtain ⟨x, hxx⟩ : ∃ x, x = lblSz l := ⟨_, rfl⟩
      rw [← hxx] at ht
      have HT := Lib.hid (show s + x = ((ls.take (k + 1)).map lblSz).sum by rw [HS.out]; exact ht.symm)
      have HR := Lib.hid hR
      have HX := Lib.hid hxx
      have HOB := Lib.hid (show lblSzOk l from hob)
      clear ht hx hc0 hrd hR hxx hob
      by_cases hov : m < (n + (s + x) : Nat)
      · go_wp2_with fail
        refine (sz_Label_no B A' n' c' l x HX.out _ _ (by omega) HR.out (by omega) (by omega) hn' (by omega) HOB.out).mono ?_
        rintro e w2 ⟨rfl, hb2⟩
        have HB2 := Lib.hid (HB.out.trans (hb2.below0.mono hsw))
        clear hb2
        go_wp2
        go_ret
        exact ⟨rfl, Ch.of_below HB2.out⟩
      · go_wp2_with fail
        refine (sz_Label_ok B A' n' c' l x HX.out _ _ (by omega) HR.out (by omega) (by omega)).mono ?_
        rintro e w2 ⟨rfl, hb2⟩
        have HB2 := Lib.hid (HB.out.trans (hb2.below0.mono hsw))
        clear hb2
        go_wp2
        go_roundw
        case rel => exact ⟨k + 1, s + x, by omega, by go_num, by go_num, HT.out, by omega, HB2.out⟩
        case measure => simp [intOf]; omega
    · exfalso
      have e := HS.out
      rw [List.take_of_length_le (by rw [HL.out]; omega)] at e
      have := HZ.out
      omega
end Go.Proofs.Ytpdclppieicaeaa
