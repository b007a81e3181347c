/- Records: the program's walks. -/
import Derived.Test.YtbpeceejboojoaaRecP
namespace Go.Proofs.Ytbpeceejboojoaa
set_option linter.unusedVariables false
set_option linter.unusedSimpArgs false
open Go.RowKit

theorem infoStrR : (Try.prog.info? 9).map (fun i => (i.zero, i.size, i.bytes)) = some (some (.string .empty), 1, 16) := by kernel_rfl
def cutsV (s : ByteArray) (l : List (Nat × Nat × Nat)) : List Value := l.map fun p => .string (s.extract p.2.1 p.2.2)
theorem cutsV_snoc (s : ByteArray) (l : List (Nat × Nat × Nat)) (a b e : Nat) : cutsV s (l ++ [(a, b, e)]) = cutsV s l ++ [.string (s.extract b e)] := by simp [cutsV]
/-- What a reading of the records hands back. -/
def RcR (s : ByteArray) (w : World) (e : Ending) (w' : World) : Prop :=
  ∃ A c, e = .returned (.tuple #[.slice A (recs s.data.toList 0).length c, .int .i64 (whole s.data.toList 0)]) ∧ w'.ownsRow w.heap.size 9 1 (.slice A (recs s.data.toList 0).length c) (recs s.data.toList 0).length (cutsV s (recs s.data.toList 0)) ∧ Below w.heap.size w w'
theorem RcR.of {s : ByteArray} {t : List UInt8} {done : List (Nat × Nat × Nat)} {pos : Nat} {w w' : World} {A : Option Addr} {c : Nat} (ht : s.data.toList = t) (hr : RdRec t done pos) (hn : rstep t pos = none)
    (ho : w'.ownsRow w.heap.size 9 1 (.slice A done.length c) done.length (cutsV s done)) (hb : Below w.heap.size w w') : RcR s w (.returned (.tuple #[.slice A done.length c, .int .i64 pos])) w' := by
  obtain ⟨e1, e2⟩ := hr.done_ hn
  refine ⟨A, c, ?_, ?_, hb⟩
  · rw [ht, e1, e2]
  · rw [ht, e1]; exact ho
set_option maxRecDepth 100000 in
set_option maxHeartbeats 4000000 in
theorem recordsIn_any (s : ByteArray) (w : World) (hs : s.size ≤ 60) : Calls Try.prog 46 #[.string s] w (RcR s w) := by
  obtain ⟨i0, hi, hi0, hi1, hi2⟩ := info_parts infoStrR
  have HI := Lib.hid (And.intro hi (And.intro hi0 (And.intro hi1 hi2)))
  clear hi hi0 hi1 hi2
  have hlen : s.data.toList.length = s.size := by simp
  obtain ⟨t, ht⟩ : ∃ t, s.data.toList = t := ⟨_, rfl⟩
  rw [ht] at hlen
  have HT := Lib.hid ht
  have HLN := Lib.hid hlen
  clear ht hlen
  go_enter Try.func46, Try.ntmps46
  go_wp2
  go_loopw [4, 5] (fun v i wr => ∃ (pos : Nat) (done : List (Nat × Nat × Nat)) (A : Option Addr) (c : Nat), RdRec t done pos ∧ i = .int .i64 pos ∧ v = .slice A done.length c ∧ wr.ownsRow w.heap.size 9 1 (.slice A done.length c) done.length (cutsV s done) ∧ Below w.heap.size w wr) (fun _ i _ => s.size - (intOf i).toNat)
  case atStart => exact ⟨0, [], none, 0, RdRec.start t, rfl, rfl, World.ownsRow_nil _ _ _ _, Below.refl _ _⟩
  case round =>
    obtain ⟨pos, done, A, c, hr, rfl, rfl, ho, hb⟩ := hrel
    have hsz := hb.size
    have hpl : pos ≤ s.size := by have := hr.le; rw [HLN.out] at this; exact this
    have hdl : done.length ≤ s.size := by have := hr.len; rw [HLN.out] at this; exact this
    have HR := Lib.hid hr
    have HO := Lib.hid ho
    have HB := Lib.hid hb
    clear hr ho hb
    have hx := getVarint_any s pos wr (by omega) (by omega)
    rw [show from_ s pos = t.drop pos by unfold from_; rw [HT.out]] at hx
    cases hg : gv (t.drop pos) with
    | none =>
      have HN := Lib.hid (show rstep t pos = none by unfold rstep; rw [hg])
      rw [hg] at hx
      have HX := Lib.hid hx
      clear hx hg
      go_wp2_with fail
      refine HX.out.mono ?_
      rintro e w1 ⟨rfl, rfl⟩
      simp only [gvI]
      go_wp2
      go_ret2
      exact RcR.of HT.out HR.out HN.out HO.out HB.out
    | some p =>
      obtain ⟨n, k⟩ := p
      have hgb := gv_bd hg
      have hdr : (t.drop pos).length = s.size - pos := by rw [List.length_drop, HLN.out]
      rw [hdr] at hgb
      rw [hg] at hx
      have HX := Lib.hid hx
      have HG := Lib.hid hg
      clear hx hg hdr
      have hnc : ((pos + k : Nat) : Int) = (pos : Int) + (k : Int) := by omega
      by_cases hok : 0 ≤ n ∧ n ≤ 20 ∧ n + ((pos + k : Nat) : Int) ≤ (s.size : Int)
      · have hy := rstep_yes HG.out (by rw [HLN.out]; exact hok)
        have HIN := Lib.hid (show ∀ X : Int, (X = 20 ∨ X = (s.size : Int) - ((pos : Int) + (k : Int))) → inB n 0 X = true from fun X h => inB_t hok.1 (by omega))
        obtain ⟨N, rfl⟩ := Int.eq_ofNat_of_zero_le hok.1
        rw [Int.toNat_natCast] at hy
        have HY := Lib.hid hy
        obtain ⟨ho1, ho2, ho3⟩ := hok
        clear hy
        go_wp2_with fail
        refine HX.out.mono ?_
        rintro e w1 ⟨rfl, rfl⟩
        simp only [gvI]
        go_wp2_with (first | (go_at_call 26; refine (within_any _ _ _ _).mono ?_; rintro e w' ⟨rfl, rfl⟩; rw [HIN.out _ (by first | exact Or.inl rfl | exact Or.inr rfl)]) | (at_builtin; refine wpList_append_own _ rfl (.tmp 30) (.tmp 37) 24 rfl w.heap.size 9 i0 (.string .empty) 1 16 Try.underlying24 HI.out.1 HI.out.2.1 HI.out.2.2.1 HI.out.2.2.2 rfl (by decide) _ _ _ rfl (HO.out.alloc _) ⟨wr.heap.size, 0, none⟩ 1 1 [.string (s.extract (pos + k) (pos + k + N))] rfl rfl (by intro j u hj; cases j with | zero => simp at hj; subst hj; simp [Addr.add] | succ j => simp at hj) (by intro u hu; simp at hu; subst hu; rfl) (by unfold maxLen; omega) (by omega) (by simp; omega) ?_))
        all_goals
          intro v' w2 ho2 hg2 _
          obtain ⟨A2, c2, rfl⟩ := own_slice ho2
          have HR2 := Lib.hid (HR.out.step HY.out)
          have HO2 := Lib.hid (show w2.ownsRow w.heap.size 9 1 (.slice A2 (done ++ [(pos, pos + k, pos + k + N)]).length c2) (done ++ [(pos, pos + k, pos + k + N)]).length (cutsV s (done ++ [(pos, pos + k, pos + k + N)])) by
            rw [cutsV_snoc, show (done ++ [(pos, pos + k, pos + k + N)]).length = done.length + 1 by simp]
            exact ho2)
          have HB2 := Lib.hid ((HB.out.alloc hsz _).grown hg2 (by simp; omega) (fun k hk => (HO.out.lt k hk).1))
          clear ho2 hg2
          go_wp2
          go_roundw
          case rel => exact ⟨pos + k + N, _, A2, c2, HR2.out, by go_num, by simp, HO2.out, HB2.out⟩
          case measure => simp [intOf]; omega
      · have HN := Lib.hid (rstep_no HG.out (fun h => by rw [HLN.out] at h; exact hok h))
        have HIN := Lib.hid (show ∀ X : Int, X ≤ 20 ∧ X ≤ (s.size : Int) - ((pos : Int) + (k : Int)) → inB n 0 X = false from fun X h => by
          cases e : inB n 0 X with
          | false => rfl
          | true => exact absurd (by have := inB_iff.1 e; omega) hok)
        clear hok
        go_wp2_with fail
        refine HX.out.mono ?_
        rintro e w1 ⟨rfl, rfl⟩
        simp only [gvI]
        go_wp2_with (go_at_call 26; refine (within_any _ _ _ _).mono ?_; rintro e w' ⟨rfl, rfl⟩; rw [HIN.out _ (by omega)])
        all_goals (go_ret2; exact RcR.of HT.out HR.out HN.out HO.out HB.out)
theorem str_sz (l : List UInt8) : (str l).size = l.length := str_size l
set_option maxRecDepth 100000 in
set_option maxHeartbeats 4000000 in
theorem recordText_any (r : ByteArray) (w : World) (hr : r.size ≤ 60) : Calls Try.prog 55 #[.string r] w fun e w' => ∃ S : ByteArray, e = .returned (.string S) ∧ S.size = (vz ((r.size : Nat) : Int)).length + r.size ∧ Below w.heap.size w w' := by
  have hv := isV_of (x := (r.size : Int)) (by omega) (by omega)
  have CV := fun w => putVarint_any (r.size : Int) w hv
  have hl := (vz_len hv).2
  have hsz : (⟨(vb (zig (r.size : Int)).toNat).toArray⟩ : ByteArray).size = (vz ((r.size : Nat) : Int)).length := str_sz _
  obtain ⟨S, hS⟩ : ∃ S : ByteArray, (⟨(vb (zig (r.size : Int)).toNat).toArray⟩ : ByteArray) = S := ⟨_, rfl⟩
  rw [hS] at hsz
  simp only [hS] at CV
  obtain ⟨L, hL⟩ : ∃ L, (vz ((r.size : Nat) : Int)).length = L := ⟨_, rfl⟩
  rw [hL] at hsz hl ⊢
  have hcat := fun w => run_string_add_sum (P := Try.prog) (w := w) S r (by omega)
  have HCV := Lib.hid CV
  have HSZ := Lib.hid hsz
  clear CV hsz hS hv
  go_enter Try.func55, Try.ntmps55
  go_wp2_with fail
  refine (HCV.out _).mono ?_
  rintro e w1 ⟨rfl, hb⟩
  have HB := Lib.hid hb
  clear hb
  go_wp2
  go_ret
  exact ⟨_, rfl, by rw [ByteArray.size_append, HSZ.out], HB.out⟩
/-- A block that holds a piece. -/
structure PcB (w : World) (g : Nat) (a b c : Value) : Prop where
  c0 : w.cell? ⟨g, 0, none⟩ = some a
  c1 : w.cell? ⟨g, 1, none⟩ = some b
  c2 : w.cell? ⟨g, 2, none⟩ = some c
  fr : ∀ j, w.frozen? ⟨g, j, none⟩ = false
theorem Ch.wide {a b : Nat} {w w' : World} (h : Ch 0 0 w w') : Ch a b w w' := ⟨h.os, h.tape, h.output, h.size, fun k hk _ => h.block k hk (.inr (Nat.zero_le _))⟩
theorem PcB.below {w w' : World} {g B : Nat} {a b c : Value} (h : PcB w g a b c) (hb : Below B w w') (hg : g < B) : PcB w' g a b c :=
  ⟨(bcell hb _ _ hg).trans h.c0, (bcell hb _ _ hg).trans h.c1, (bcell hb _ _ hg).trans h.c2, fun j => (hb.frozen (p := ⟨g, j, none⟩) hg).trans (h.fr j)⟩
theorem chGrowR {a b : Nat} {u v w : World} (B : Nat) (h : Ch a b u v) (k : Below B v w) (hB : u.heap.size ≤ B) : Ch a b u w :=
  ⟨k.os.trans h.os, k.tape.trans h.tape, k.output.trans h.output, Nat.le_trans h.size k.size, fun i hi ho => (k.block i (by omega)).trans (h.block i hi ho)⟩
theorem cell_chR {w w' : World} {b j lo hi : Nat} {v : Value} (h : w.cell? ⟨b, j, none⟩ = some v) (hc : Ch lo hi w w') (hb : b < w.heap.size) (hd : b < lo ∨ hi ≤ b) : w'.cell? ⟨b, j, none⟩ = some v := by
  have e := hc.block b hb hd
  have e1 : w'.cell? ⟨b, j, none⟩ = w.cell? ⟨b, j, none⟩ := by simp only [World.cell?, e]
  exact e1.trans h
theorem frozen_chR {w w' : World} {b j lo hi : Nat} (hc : Ch lo hi w w') (hb : b < w.heap.size) (hd : b < lo ∨ hi ≤ b) : w'.frozen? ⟨b, j, none⟩ = w.frozen? ⟨b, j, none⟩ := by
  have e := hc.block b hb hd
  simp only [World.frozen?, e]
/-- The place of a record: the beginning of the next one. -/
def AtR (t : List UInt8) (k a : Nat) : Prop := ∀ x b e, (recs t 0)[k]? = some (x, b, e) → x = a
theorem AtR.zero (t : List UInt8) : AtR t 0 0 := fun x b e h => (recs_facts t _ 0 (Nat.le_refl _)).2.2.1 x b e h
theorem AtR.step {t : List UInt8} {k a b e : Nat} (h : (recs t 0)[k]? = some (a, b, e)) : AtR t (k + 1) e := fun x b' e' h' => (recs_facts t _ 0 (Nat.le_refl _)).2.2.2.2 k a b e x b' e' h h'
theorem AtR.bd {t : List UInt8} {k a b e : Nat} (h : (recs t 0)[k]? = some (a, b, e)) : rstep t a = some (b, e) := (recs_facts t _ 0 (Nat.le_refl _)).2.2.2.1 k a b e h
theorem starts_at {t : List UInt8} {k a b e : Nat} (h : (recs t 0)[k]? = some (a, b, e)) : (starts t)[k]? = some (a : Int) := by
  unfold starts; rw [List.getElem?_map, h]; rfl
set_option maxRecDepth 100000 in
set_option maxHeartbeats 4000000 in
theorem pieceOf_any (x : Int) (s : ByteArray) (w : World) (hs : s.size ≤ 60) : Calls Try.prog 47 #[.int .i64 x, .string s] w fun e w' => ∃ v, e = .returned v ∧ PcV w x s (third 0 (starts s.data.toList)) v w' := by
  obtain ⟨i0, hi, hi0, hi1, hi2⟩ := info_parts infoInt
  have HI := Lib.hid (And.intro hi (And.intro hi0 (And.intro hi1 hi2)))
  clear hi hi0 hi1 hi2
  have HC := Lib.hid (fun w => recordsIn_any s w hs)
  have hrl := starts_le s.data.toList
  rw [starts_len] at hrl
  have hln : s.data.toList.length = s.size := by simp
  obtain ⟨t, ht⟩ : ∃ t, s.data.toList = t := ⟨_, rfl⟩
  rw [ht] at hrl hln ⊢
  have HT := Lib.hid ht
  obtain ⟨n, hn⟩ : ∃ n, (recs t 0).length = n := ⟨_, rfl⟩
  rw [hn] at hrl
  rw [hln] at hrl
  have HN := Lib.hid hn
  have HLN := Lib.hid hln
  clear ht hn hln
  go_enter Try.func47, Try.ntmps47
  go_wp2_with fail
  obtain ⟨g0, hg0⟩ : ∃ g0, w.heap.size = g0 := ⟨_, rfl⟩
  obtain ⟨wb, hwb⟩ : ∃ wb, ((w.alloc (.cells #[.int .i64 0, .string ⟨#[]⟩, .slice none 0 0] 36)).alloc (.cells #[.int .i64 x, .string s, .slice none 0 0] 36)) = wb := ⟨_, rfl⟩
  have hb0 : Below w.heap.size w wb := hwb ▸ below2 _ _
  have hsb : wb.heap.size = g0 + 2 := by rw [← hwb, ← hg0]; simp
  have hz0 : wb.cell? ⟨g0, 0, none⟩ = some (.int .i64 0) := by rw [← hwb, ← hg0, World.cell?_alloc_lt _ _ _ (by simp)]; exact World.cell?_alloc_at _ _ _ _ rfl
  have hz1 : wb.cell? ⟨g0, 1, none⟩ = some (.string ⟨#[]⟩) := by rw [← hwb, ← hg0, World.cell?_alloc_lt _ _ _ (by simp)]; exact World.cell?_alloc_at _ _ _ _ rfl
  have hz2 : wb.cell? ⟨g0, 2, none⟩ = some (.slice none 0 0) := by rw [← hwb, ← hg0, World.cell?_alloc_lt _ _ _ (by simp)]; exact World.cell?_alloc_at _ _ _ _ rfl
  have hy0 : wb.cell? ⟨g0 + 1, 0, none⟩ = some (.int .i64 x) := by rw [← hwb, ← hg0]; exact World.cell?_alloc_at _ _ _ _ (by simp)
  have hy1 : wb.cell? ⟨g0 + 1, 1, none⟩ = some (.string s) := by rw [← hwb, ← hg0]; exact World.cell?_alloc_at _ _ _ _ (by simp)
  have hy2 : wb.cell? ⟨g0 + 1, 2, none⟩ = some (.slice none 0 0) := by rw [← hwb, ← hg0]; exact World.cell?_alloc_at _ _ _ _ (by simp)
  have fz : ∀ j, wb.frozen? ⟨g0, j, none⟩ = false := fun j => by rw [← hwb, ← hg0]; exact (((Below.refl _ _).alloc (Nat.le_refl _) _).frozen (p := ⟨w.heap.size, j, none⟩) (by simp)).trans (World.frozen?_alloc_at _ _ _ _ rfl)
  have fy : ∀ j, wb.frozen? ⟨g0 + 1, j, none⟩ = false := fun j => by rw [← hwb, ← hg0]; exact World.frozen?_alloc_at _ _ _ _ (by simp)
  rw [hwb, hg0]
  refine (HC.out wb).mono ?_
  rintro e w1 ⟨A1, c1, rfl, ho1, hb1⟩
  rw [HT.out] at ho1 ⊢
  rw [HN.out] at ho1 ⊢
  have hs1 := hb1.size
  have HZ := Lib.hid (show PcB w1 g0 (.int .i64 0) (.string ⟨#[]⟩) (.slice none 0 0) from ⟨(bcell hb1 _ _ (by omega)).trans hz0, (bcell hb1 _ _ (by omega)).trans hz1, (bcell hb1 _ _ (by omega)).trans hz2, fun j => (hb1.frozen (p := ⟨g0, j, none⟩) (by show g0 < _; omega)).trans (fz j)⟩)
  have HY := Lib.hid (show PcB w1 (g0 + 1) (.int .i64 x) (.string s) (.slice none 0 0) from ⟨(bcell hb1 _ _ (by omega)).trans hy0, (bcell hb1 _ _ (by omega)).trans hy1, (bcell hb1 _ _ (by omega)).trans hy2, fun j => (hb1.frozen (p := ⟨g0 + 1, j, none⟩) (by show g0 + 1 < _; omega)).trans (fy j)⟩)
  have HB1 := Lib.hid (hb0.trans (hb1.mono (by omega)))
  have HO1 := Lib.hid ho1
  have HG0 := Lib.hid hg0
  obtain ⟨B1, hB1⟩ : ∃ B1, w1.heap.size = B1 := ⟨_, rfl⟩
  have HSB := Lib.hid hsb
  have hbd : g0 + 2 ≤ B1 := by omega
  have HB1s := Lib.hid hB1
  clear hwb hb0 hsb hz0 hz1 hz2 hy0 hy1 hy2 fz fy ho1 hb1 hs1 hg0 hB1
  go_wp2
  go_loopw [8, 21] (fun a i wr => ∃ (k p : Nat) (A' : Option Addr) (c' m : Nat), k ≤ n ∧ m ≤ k ∧ p ≤ s.size ∧ i = .int .i64 k ∧ a = .int .i64 p ∧ AtR t k p ∧ PcB wr (g0 + 1) (.int .i64 x) (.string s) (.slice A' m c') ∧ wr.ownsRow B1 3 1 (.slice A' m c') m (ints (third 0 ((starts t).take k))) ∧ Ch (g0 + 1) (g0 + 2) w1 wr) (fun _ i _ => n - (intOf i).toNat)
  case atStart => exact ⟨0, 0, none, 0, 0, Nat.zero_le _, Nat.le_refl _, Nat.zero_le _, rfl, rfl, AtR.zero t, HY.out, World.ownsRow_nil _ _ _ _, (Ch.of_same rfl).wide⟩
  case round =>
    obtain ⟨k, p, A', c', m, hk, hmk, hp, rfl, rfl, hat, hY, ho, hc⟩ := hrel
    have hsz := hc.size
    rw [HB1s.out] at hsz
    have HAT := Lib.hid hat
    have HYR := Lib.hid hY
    have HO := Lib.hid ho
    have HC2 := Lib.hid hc
    clear hat hY ho hc
    by_cases hlt : k < n
    · obtain ⟨⟨a, b, e⟩, hrk⟩ : ∃ q, (recs t 0)[k]? = some q := ⟨_, List.getElem?_eq_getElem (by rw [HN.out]; exact hlt)⟩
      obtain rfl := HAT.out a b e hrk
      have hst := AtR.bd hrk
      have hbd2 := rstep_bd hst
      have hvl := rstep_len hst
      rw [HLN.out] at hbd2
      have hrs : (s.extract b e).size = e - b := by simp; omega
      obtain ⟨r, hr⟩ : ∃ r, s.extract b e = r := ⟨_, rfl⟩
      rw [hr] at hrs
      obtain ⟨b0, off, rfl, hB0, hcr⟩ := (Rd.of_own (own_chR HO1.out HC2.out (by rw [HSB.out]; exact Nat.le_refl _))).2 (by omega)
      have d0 : wr.cell? ⟨b0, off + k, none⟩ = some (.string r) := hcr k (.string r) (by rw [← hr]; simp [cutsV, hrk])
      have CT : ∀ w, Calls Try.prog 55 #[.string r] w fun e' w' => ∃ S : ByteArray, e' = .returned (.string S) ∧ S.size = e - a ∧ Below w.heap.size w w' := fun w => (recordText_any r w (by omega)).mono fun e' w' ⟨S, h1, h2, h3⟩ => ⟨S, h1, by rw [h2, hrs, hvl]; omega, h3⟩
      have HCT := Lib.hid CT
      have HAT2 := Lib.hid (AtR.step hrk)
      have HX := Lib.hid (third_take (starts_at hrk))
      have y2 := HYR.out.c2
      have f2 := HYR.out.fr 2
      have hk3 : ((k : Int) % 3) = ((k % 3 : Nat) : Int) := by omega
      clear hcr hst hvl hrk hr hB0 CT HC
      by_cases h3 : k % 3 = 0
      · rw [h3] at hk3
        have HX2 := Lib.hid (HX.out.trans (by rw [if_pos h3]))
        clear h3 HX
        go_wp2_with (at_builtin; refine wpList_append_own _ rfl (.tmp 30) (.tmp 32) 34 rfl B1 3 i0 (.int .i64 0) 1 8 Try.underlying34 HI.out.1 HI.out.2.1 HI.out.2.2.1 HI.out.2.2.2 rfl (by decide) _ _ _ rfl (HO.out.alloc _) ⟨wr.heap.size, 0, none⟩ 1 1 [.int .i64 a] rfl rfl (by intro j u hj; cases j with | zero => simp at hj; subst hj; simp [Addr.add] | succ j => simp at hj) (by intro u hu; simp at hu; subst hu; rfl) (by unfold maxLen; omega) (by omega) (by simp; omega) ?_)
        intro v' w2 ho2 hg2 _
        obtain ⟨A2, c2, rfl⟩ := own_slice ho2
        have HO2 := Lib.hid (show w2.ownsRow B1 3 1 (.slice A2 (m + 1) c2) (m + 1) (ints (third 0 ((starts t).take (k + 1)))) by
          rw [HX2.out, ints_app]
          exact ho2)
        have hb2 : Below B1 wr w2 := ((Below.refl _ _).alloc hsz _).grown hg2 (by simp; omega) (fun k hk => (HO.out.lt k hk).1)
        have z2 : w2.cell? ⟨g0 + 1, 2, none⟩ = some (.slice A' m c') := (bcell hb2 _ _ (by omega)).trans y2
        have fz2 : w2.frozen? ⟨g0 + 1, 2, none⟩ = false := (hb2.frozen (p := ⟨g0 + 1, 2, none⟩) (by show g0 + 1 < _; omega)).trans f2
        have hw2s := hb2.size
        have HY2 := Lib.hid (show PcB (w2.setCell ⟨g0 + 1, 2, none⟩ (.slice A2 (m + 1) c2)) (g0 + 1) (.int .i64 x) (.string s) (.slice A2 (m + 1) c2) from
          ⟨(World.cell?_setCell_other _ _ _ _ (by simp)).trans ((bcell hb2 _ _ (by omega)).trans HYR.out.c0), (World.cell?_setCell_other _ _ _ _ (by simp)).trans ((bcell hb2 _ _ (by omega)).trans HYR.out.c1), World.cell?_setCell_same _ _ _ z2, fun j => (World.frozen?_setCell ..).trans ((hb2.frozen (p := ⟨g0 + 1, j, none⟩) (by show g0 + 1 < _; omega)).trans (HYR.out.fr j))⟩)
        have hcs : Ch (g0 + 1) (g0 + 2) w2 (w2.setCell ⟨g0 + 1, 2, none⟩ (.slice A2 (m + 1) c2)) := ⟨rfl, rfl, rfl, by simp only [World.size_setCell]; exact Nat.le_refl _, fun k hk ho => by rw [Below.heap_setCell _ _ _ _ (by simp; omega)]⟩
        have HC3 := Lib.hid ((chGrowR B1 HC2.out hb2 (by rw [HB1s.out]; exact Nat.le_refl _)).trans hcs)
        have HO3 := Lib.hid (own_chR HO2.out hcs hbd)
        clear ho2 hg2 hb2 hcs HO2
        go_wp2_with fail
        obtain ⟨w3, hw3⟩ : ∃ w3, w2.setCell ⟨g0 + 1, 2, none⟩ (.slice A2 (m + 1) c2) = w3 := ⟨_, rfl⟩
        have hw3s : B1 ≤ w3.heap.size := by rw [← hw3, World.size_setCell]; omega
        rw [hw3] at HY2 HC3 HO3 ⊢
        clear z2 fz2 hw3
        refine (HCT.out w3).mono ?_
        rintro e' w4 ⟨S, rfl, hS, hb4⟩
        have HY4 := Lib.hid (HY2.out.below hb4 (by omega))
        have HO4 := Lib.hid (own_below HO3.out hb4 (Nat.le_refl _))
        have HC4 := Lib.hid (chGrowR B1 HC3.out (hb4.mono hw3s) (by rw [HB1s.out]; exact Nat.le_refl _))
        clear hb4 HY2 HO3 HC3
        go_wp2
        go_roundw
        case rel => exact ⟨k + 1, e, A2, c2, m + 1, by omega, by omega, by omega, by go_num, by go_num, HAT2.out, HY4.out, HO4.out, HC4.out⟩
        case measure => simp [intOf]; omega
      · have HX2 := Lib.hid (HX.out.trans (by rw [if_neg h3, List.append_nil]))
        have h3b : (((k : Int) % 3) == 0) = false := by simp; omega
        clear hk3 HX
        go_wp2_with fail
        refine (HCT.out wr).mono ?_
        rintro e' w4 ⟨S, rfl, hS, hb4⟩
        have HY4 := Lib.hid (HYR.out.below hb4 (by omega))
        have HO4 := Lib.hid (own_below HO.out hb4 (Nat.le_refl _))
        have HC4 := Lib.hid (chGrowR B1 HC2.out (hb4.mono hsz) (by rw [HB1s.out]; exact Nat.le_refl _))
        clear hb4
        go_wp2
        go_roundw
        case rel => exact ⟨k + 1, e, A', c', m, by omega, by omega, by omega, by go_num, by go_num, HAT2.out, HY4.out, by rw [HX2.out]; exact HO4.out, HC4.out⟩
        case measure => simp [intOf]; omega
    · obtain rfl : k = n := by omega
      have HT2 := Lib.hid (show (starts t).take k = starts t from List.take_of_length_le (by rw [starts_len, HN.out]; exact Nat.le_refl _))
      have y0 := HYR.out.c0
      have y1 := HYR.out.c1
      have y2 := HYR.out.c2
      have e0 := cell_chR HZ.out.c0 HC2.out (by rw [HB1s.out]; omega) (by omega)
      have e1 := cell_chR HZ.out.c1 HC2.out (by rw [HB1s.out]; omega) (by omega)
      have e2 := cell_chR HZ.out.c2 HC2.out (by rw [HB1s.out]; omega) (by omega)
      have f0 := (frozen_chR HC2.out (b := g0) (j := 0) (by rw [HB1s.out]; omega) (by omega)).trans (HZ.out.fr 0)
      have f1 := (frozen_chR HC2.out (b := g0) (j := 1) (by rw [HB1s.out]; omega) (by omega)).trans (HZ.out.fr 1)
      have f2 := (frozen_chR HC2.out (b := g0) (j := 2) (by rw [HB1s.out]; omega) (by omega)).trans (HZ.out.fr 2)
      go_wp2_with fail
      have P := pc_store (y := .int .i64 x) (s := .string s) (z := .slice A' m c') e0 e1 e2
      obtain ⟨w3, hw3⟩ : ∃ w3, (((wr.setCell ⟨g0, 0, none⟩ (.int .i64 x)).setCell ⟨g0, 1, none⟩ (.string s)).setCell ⟨g0, 2, none⟩ (.slice A' m c')) = w3 := ⟨_, rfl⟩
      rw [hw3] at P ⊢
      obtain ⟨p0, p1, p2, hg⟩ := P
      have ho := HO.out
      rw [HT2.out] at ho
      obtain rfl : m = (third 0 (starts t)).length := by have := (Rd.of_own ho).int_len; omega
      have HOO := Lib.hid ho
      have hwg := HG0.out
      clear e0 e1 e2 f0 f1 f2 y0 y1 y2 hw3 ho
      refine bodyPost_ret (v := .agg #[.int .i64 x, .string s, .slice A' (third 0 (starts t)).length c']) (by simp [results, Try.results47, go_sem, p0, p1, p2]) rfl ⟨_, rfl, A', c', rfl, own_mono (own_chR HOO.out hg (by omega)) (by omega), ?_⟩
      exact (HB1.out.trans (HC2.out.below (by rw [HB1s.out]; omega) (.inl (by omega)))).trans (hg.below (by omega) (.inl (by omega)))
set_option maxRecDepth 100000 in
set_option maxHeartbeats 4000000 in
theorem recoverPiece_any (x : Int) (s : ByteArray) (w : World) (hlen : s.size ≤ 60) : Calls Try.prog 32 #[.int .i64 x, .string s] w fun e w' =>
    ∃ v, e = .returned (.tuple #[v, .int .i64 ((s.size : Int) - (whole s.data.toList 0 : Nat))]) ∧ PcV w x (s.extract 0 (whole s.data.toList 0)) (third 0 (starts (s.extract 0 (whole s.data.toList 0)).data.toList)) v w' := by
  have HS := fun w => recordsIn_any s w hlen
  have hwl := whole_le s
  obtain ⟨W, hW⟩ : ∃ W, whole s.data.toList 0 = W := ⟨_, rfl⟩
  rw [hW] at hwl ⊢
  have HWt := Lib.hid hW
  have HC := Lib.hid HS
  have HD := Lib.hid (fun w => pieceOf_any x (s.extract 0 W) w (by simp; omega))
  clear HS hW
  go_enter Try.func32, Try.ntmps32
  go_wp2_with fail
  obtain ⟨wb, hwb⟩ : ∃ wb, w.alloc (.cells #[.int .i64 0, .string ⟨#[]⟩, .slice none 0 0] 36) = wb := ⟨_, rfl⟩
  have hb0 : Below w.heap.size w wb := hwb ▸ (Below.refl _ _).alloc (Nat.le_refl _) _
  have hsb : wb.heap.size = w.heap.size + 1 := by rw [← hwb]; simp
  have d0 : wb.cell? ⟨w.heap.size, 0, none⟩ = some (.int .i64 0) := by rw [← hwb]; exact World.cell?_alloc_at _ _ _ _ rfl
  have d1 : wb.cell? ⟨w.heap.size, 1, none⟩ = some (.string ⟨#[]⟩) := by rw [← hwb]; exact World.cell?_alloc_at _ _ _ _ rfl
  have d2 : wb.cell? ⟨w.heap.size, 2, none⟩ = some (.slice none 0 0) := by rw [← hwb]; exact World.cell?_alloc_at _ _ _ _ rfl
  have f : ∀ j, wb.frozen? ⟨w.heap.size, j, none⟩ = false := fun j => by rw [← hwb]; exact World.frozen?_alloc_at _ _ _ _ rfl
  rw [hwb]
  clear hwb
  refine (HC.out _).mono ?_
  rintro e w1 ⟨A1, c1, rfl, ho1, hb1⟩
  rw [HWt.out]
  have hs1 := hb1.size
  have d0 := (bcell hb1 _ _ (by omega)).trans d0
  have d1 := (bcell hb1 _ _ (by omega)).trans d1
  have d2 := (bcell hb1 _ _ (by omega)).trans d2
  have f : ∀ j, w1.frozen? ⟨w.heap.size, j, none⟩ = false := fun j => (hb1.frozen (p := ⟨w.heap.size, j, none⟩) (by show w.heap.size < _; omega)).trans (f j)
  have HB1 := Lib.hid (hb0.trans (hb1.mono (by omega)))
  clear ho1 hb1 hb0 HC
  go_wp2_with fail
  refine (HD.out w1).mono ?_
  rintro e w2 ⟨v, rfl, A2, c2, rfl, ho2, hb2⟩
  have hs2 := hb2.size
  have d0 := (bcell hb2 _ _ (by omega)).trans d0
  have d1 := (bcell hb2 _ _ (by omega)).trans d1
  have d2 := (bcell hb2 _ _ (by omega)).trans d2
  have f : ∀ j, w2.frozen? ⟨w.heap.size, j, none⟩ = false := fun j => (hb2.frozen (p := ⟨w.heap.size, j, none⟩) (by show w.heap.size < _; omega)).trans (f j)
  have HB2 := Lib.hid (HB1.out.trans (hb2.mono (by omega)))
  have HO := Lib.hid ho2
  obtain ⟨zs, hz⟩ : ∃ zs, third 0 (starts (s.extract 0 W).data.toList) = zs := ⟨_, rfl⟩
  rw [hz] at HO ⊢
  have f0 := f 0
  have f1 := f 1
  have f2 := f 2
  have HZ := Lib.hid hz
  have hiw : IntKind.i64.wrap ((s.size : Int) - (W : Int)) = (s.size : Int) - (W : Int) := IntWalk.i64_in _ (by omega)
  clear hz ho2 hb2 HB1 HD
  go_wp2_with fail
  have P := pc_store (y := .int .i64 x) (s := .string (s.extract 0 W)) (z := .slice A2 zs.length c2) d0 d1 d2
  obtain ⟨w3, hw3⟩ : ∃ w3, (((w2.setCell ⟨w.heap.size, 0, none⟩ (.int .i64 x)).setCell ⟨w.heap.size, 1, none⟩ (.string (s.extract 0 W))).setCell ⟨w.heap.size, 2, none⟩ (.slice A2 zs.length c2)) = w3 := ⟨_, rfl⟩
  rw [hw3] at P ⊢
  obtain ⟨p0, p1, p2, hg⟩ := P
  clear d0 d1 d2 f0 f1 f2 f hw3
  refine bodyPost_ret (v := .tuple #[.agg #[.int .i64 x, .string (s.extract 0 W), .slice A2 zs.length c2], .int .i64 ((s.size : Int) - (W : Int))]) (by simp [results, Try.results32, go_sem, p0, p1, p2]) rfl ⟨_, rfl, ?_⟩
  rw [HZ.out]
  exact ⟨A2, c2, rfl, own_mono (own_chR HO.out hg (by omega)) (by omega), HB2.out.trans (hg.below (by omega) (by omega))⟩
set_option maxRecDepth 100000 in
set_option maxHeartbeats 4000000 in
theorem iRecoverPiece_any (x : Int) (s : ByteArray) (w : World) (hss : s.size ≤ 1048576) : Calls Try.prog 15 #[.int .i64 x, .string s] w (RpR x s w) := by
  obtain ⟨K, hK⟩ : ∃ K, inB x 0 1000 = K := ⟨_, rfl⟩
  have CIN := Lib.hid (fun w => hK ▸ within_any x 0 1000 w)
  have HK := Lib.hid hK
  clear hK
  by_cases hlen : s.size ≤ 60
  · cases K with
    | false =>
      go_enter Try.func15, Try.ntmps15
      go_wp2_with (go_at_call 26; refine (CIN.out _).mono ?_; rintro e w' ⟨rfl, rfl⟩)
      exact bodyPost_ret (v := .tuple #[.agg #[.int .i64 0, .string ⟨#[]⟩, .slice none 0 0], .int .i64 0, .bool false]) (by simp [results, Try.results15, go_sem]) rfl (RpR.no (by rw [HK.out]; simp) ((Below.refl _ _).alloc (Nat.le_refl _) _))
    | true =>
      have HS := fun w => recoverPiece_any x s w hlen
      obtain ⟨W, hW⟩ : ∃ W, whole s.data.toList 0 = W := ⟨_, rfl⟩
      rw [hW] at HS
      have HWt := Lib.hid hW
      obtain ⟨zs, hz⟩ : ∃ zs, third 0 (starts (s.extract 0 W).data.toList) = zs := ⟨_, rfl⟩
      rw [hz] at HS
      have HZ := Lib.hid hz
      have HC := Lib.hid HS
      clear HS hW hz
      go_enter Try.func15, Try.ntmps15
      go_wp2_with (go_at_call 26; refine (CIN.out _).mono ?_; rintro e w' ⟨rfl, rfl⟩)
      obtain ⟨wb, hwb⟩ : ∃ wb, w.alloc (.cells #[.int .i64 0, .string ⟨#[]⟩, .slice none 0 0] 36) = wb := ⟨_, rfl⟩
      have hb0 : Below w.heap.size w wb := hwb ▸ (Below.refl _ _).alloc (Nat.le_refl _) _
      have hsb : wb.heap.size = w.heap.size + 1 := by rw [← hwb]; simp
      have d0 : wb.cell? ⟨w.heap.size, 0, none⟩ = some (.int .i64 0) := by rw [← hwb]; exact World.cell?_alloc_at _ _ _ _ rfl
      have d1 : wb.cell? ⟨w.heap.size, 1, none⟩ = some (.string ⟨#[]⟩) := by rw [← hwb]; exact World.cell?_alloc_at _ _ _ _ rfl
      have d2 : wb.cell? ⟨w.heap.size, 2, none⟩ = some (.slice none 0 0) := by rw [← hwb]; exact World.cell?_alloc_at _ _ _ _ rfl
      have f : ∀ j, wb.frozen? ⟨w.heap.size, j, none⟩ = false := fun j => by rw [← hwb]; exact World.frozen?_alloc_at _ _ _ _ rfl
      rw [hwb]
      clear hwb
      refine (HC.out wb).mono ?_
      rintro e w1 ⟨v, rfl, A2, c2, rfl, ho2, hb2⟩
      have hs2 := hb2.size
      have d0 := (bcell hb2 _ _ (by omega)).trans d0
      have d1 := (bcell hb2 _ _ (by omega)).trans d1
      have d2 := (bcell hb2 _ _ (by omega)).trans d2
      have f : ∀ j, w1.frozen? ⟨w.heap.size, j, none⟩ = false := fun j => (hb2.frozen (p := ⟨w.heap.size, j, none⟩) (by show w.heap.size < _; omega)).trans (f j)
      have HB2 := Lib.hid (hb0.trans (hb2.mono (by omega)))
      have HO := Lib.hid ho2
      have hlt1 : w.heap.size < w1.heap.size := by omega
      have P := pc_store (y := .int .i64 x) (s := .string (s.extract 0 W)) (z := .slice A2 zs.length c2) d0 d1 d2
      have HP := Lib.hid P
      clear P
      have d0 := fun o => (World.cell?_alloc_lt w1 o ⟨w.heap.size, 0, none⟩ hlt1).trans d0
      have d1 := fun o => (World.cell?_alloc_lt w1 o ⟨w.heap.size, 1, none⟩ hlt1).trans d1
      have d2 := fun o => (World.cell?_alloc_lt w1 o ⟨w.heap.size, 2, none⟩ hlt1).trans d2
      have f : ∀ o j, (w1.alloc o).frozen? ⟨w.heap.size, j, none⟩ = false := fun o j => (((Below.refl _ _).alloc (Nat.le_refl _) o).frozen (p := ⟨w.heap.size, j, none⟩) hlt1).trans (f j)
      have f0 := fun o => f o 0
      have f1 := fun o => f o 1
      have f2 := fun o => f o 2
      clear ho2 hb2 HC hb0
      go_wp2_with fail
      have P := HP.out
      obtain ⟨w3, hw3⟩ : ∃ w3, (((w1.setCell ⟨w.heap.size, 0, none⟩ (.int .i64 x)).setCell ⟨w.heap.size, 1, none⟩ (.string (s.extract 0 W))).setCell ⟨w.heap.size, 2, none⟩ (.slice A2 zs.length c2)) = w3 := ⟨_, rfl⟩
      rw [hw3] at P ⊢
      obtain ⟨p0, p1, p2, hg⟩ := P
      have hg3 := hg.size
      obtain ⟨o, hoo⟩ : ∃ o, (Obj.cells #[.int .i64 x, .string (s.extract 0 W), .slice A2 zs.length c2] 36) = o := ⟨_, rfl⟩
      rw [hoo]
      have q0 := (World.cell?_alloc_lt w3 o ⟨w.heap.size, 0, none⟩ (by show w.heap.size < _; omega)).trans p0
      have q1 := (World.cell?_alloc_lt w3 o ⟨w.heap.size, 1, none⟩ (by show w.heap.size < _; omega)).trans p1
      have q2 := (World.cell?_alloc_lt w3 o ⟨w.heap.size, 2, none⟩ (by show w.heap.size < _; omega)).trans p2
      clear d0 d1 d2 f0 f1 f2 f hw3 HP
      refine bodyPost_ret (v := .tuple #[.agg #[.int .i64 x, .string (s.extract 0 W), .slice A2 zs.length c2], .int .i64 ((s.size : Int) - (W : Int)), .bool true]) (by simp [results, Try.results15, go_sem, q0, q1, q2]) rfl ?_
      refine RpR.yes (by rw [HK.out]; exact ⟨rfl, hlen⟩) HWt.out HZ.out ⟨A2, c2, rfl, own_mono ((own_chR HO.out hg (by omega)).alloc _) (by omega), (HB2.out.trans (hg.below (by omega) (by omega))).alloc (by omega) _⟩
  · have hbig : (60 : Int) < (s.size : Int) := by omega
    go_enter Try.func15, Try.ntmps15
    cases K <;> (go_wp2_with (go_at_call 26; refine (CIN.out _).mono ?_; rintro e w' ⟨rfl, rfl⟩))
    all_goals exact bodyPost_ret (v := .tuple #[.agg #[.int .i64 0, .string ⟨#[]⟩, .slice none 0 0], .int .i64 0, .bool false]) (by simp [results, Try.results15, go_sem]) rfl (RpR.no (fun h => hlen h.2) ((Below.refl _ _).alloc (Nat.le_refl _) _))
end Go.Proofs.Ytbpeceejboojoaa
