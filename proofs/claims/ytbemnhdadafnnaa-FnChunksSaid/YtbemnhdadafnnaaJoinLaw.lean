/- The laws AppendChunk and JoinChunks. -/
import Derived.Test.YtbemnhdadafnnaaDecLaw
import Derived.Test.YtbemnhdadafnnaaEncLaw
namespace Go.Proofs.Ytbemnhdadafnnaa
set_option linter.unusedVariables false
set_option linter.unusedSimpArgs false
open Go.RowKit

def encR (l : List (Int × Int)) : ByteArray := if goodSmp l then str (enc l) else str []
def appR (s : List UInt8) (p : Int × Int) : ByteArray := match dec s with | none => str [] | some l => encR (l ++ [p])
def appK (s : List UInt8) (p : Int × Int) : Bool := match dec s with | none => false | some l => goodSmp (l ++ [p])
def joinR (s t : List UInt8) : ByteArray := match dec s, dec t with | some l, some m => encR (l ++ m) | _, _ => str []
def joinK (s t : List UInt8) : Bool := match dec s, dec t with | some l, some m => goodSmp (l ++ m) | _, _ => false

set_option maxRecDepth 100000 in
set_option maxHeartbeats 1000000 in
theorem sAppendChunk_any (s : ByteArray) (x y : Int) (w : World) (hs : s.size ≤ 1048576) :
    Calls Try.prog 12 #[.string s, .agg #[.int .i64 x, .int .i64 y]] w fun e w' => e = .returned (.tuple #[.string (appR s.data.toList (x, y)), .bool (appK s.data.toList (x, y))]) ∧ Below w.heap.size w w' := by
  obtain ⟨j0, hj, hj0, hj1, hj2⟩ := info_parts infoSmp
  have HJ := Lib.hid (And.intro hj (And.intro hj0 (And.intro hj1 hj2)))
  clear hj hj0 hj1 hj2
  have HC := Lib.hid (fun w => sDecodeChunk_any s w hs)
  cases hd : dec s.data.toList with
  | none =>
    rw [hd] at HC
    rw [show appR s.data.toList (x, y) = str [] by unfold appR; rw [hd], show appK s.data.toList (x, y) = false by unfold appK; rw [hd]]
    clear hd
    go_enter Try.func12, Try.ntmps12
    go_wp2_with fail
    refine (HC.out _).mono ?_
    rintro e w1 ⟨h1, _, hb1⟩
    obtain rfl := h1 rfl
    have HB1 := Lib.hid (((Below.refl _ _).alloc (Nat.le_refl _) (.cells #[.int .i64 x, .int .i64 y] 31)).trans (hb1.mono (by simp)) : Below w.heap.size w w1)
    clear h1 hb1
    go_wp2
    go_ret2
    exact ⟨rfl, HB1.out⟩
  | some l =>
    rw [hd] at HC
    have hl := goodSmp_len (dec_some hd).1
    obtain ⟨R, hR⟩ : ∃ R, R = appR s.data.toList (x, y) := ⟨_, rfl⟩
    obtain ⟨K, hK⟩ : ∃ K, K = appK s.data.toList (x, y) := ⟨_, rfl⟩
    rw [← hR, ← hK]
    have hR2 : R = if goodSmp (l ++ [(x, y)]) then str (enc (l ++ [(x, y)])) else str [] := by rw [hR]; unfold appR; rw [hd]; rfl
    have hK2 : K = goodSmp (l ++ [(x, y)]) := by rw [hK]; unfold appK; rw [hd]
    have HE := Lib.hid (fun B A c w hB h => sEncodeChunk_any B A (l.length + 1) c (l ++ [(x, y)]) w hB h (by omega) R K hR2 hK2)
    clear hd hR hK hR2 hK2
    go_enter Try.func12, Try.ntmps12
    go_wp2_with fail
    refine (HC.out _).mono ?_
    rintro e w1 ⟨_, h1, hb1⟩
    obtain ⟨A, c, rfl, ho1⟩ := h1 l rfl
    have HO := Lib.hid (own_mono ho1 (show w.heap.size ≤ _ by simp))
    have hs1 : w.heap.size < w1.heap.size := by have := hb1.size; simp at this; omega
    have hcx : w1.cell? ⟨w.heap.size, 0, none⟩ = some (.int .i64 x) := (hb1.cell (p := ⟨w.heap.size, 0, none⟩) (by simp)).trans (new_cell rfl rfl)
    have hcy : w1.cell? ⟨w.heap.size, 1, none⟩ = some (.int .i64 y) := (hb1.cell (p := ⟨w.heap.size, 1, none⟩) (by simp)).trans (new_cell rfl rfl)
    have HB1 := Lib.hid (((Below.refl _ _).alloc (Nat.le_refl _) (.cells #[.int .i64 x, .int .i64 y] 31)).trans (hb1.mono (by simp)) : Below w.heap.size w w1)
    clear h1 hb1 ho1
    go_wp2_with (at_builtin; refine wpList_append_own _ rfl (.tmp 15) (.tmp 17) 25 rfl w.heap.size 31 j0 (.agg #[.int .i64 0, .int .i64 0]) 2 16 Try.underlying25 HJ.out.1 HJ.out.2.1 HJ.out.2.2.1 HJ.out.2.2.2 rfl (by decide) _ l.length (smps l) rfl (HO.out.alloc _) ⟨w1.heap.size, 0, none⟩ 1 1 [.int .i64 x, .int .i64 y] rfl rfl (World.news_of_block (cs := #[.int .i64 x, .int .i64 y]) (heap_alloc_new _ _)) (by simp [Value.oneCell']) (by unfold maxLen; omega) (by omega) (by simp; omega) ?_)
    intro v' w2 ho2 hg2 _
    obtain ⟨A2, c2, rfl⟩ := own_slice ho2
    have HO2 := Lib.hid (show w2.ownsRow w.heap.size 31 2 (.slice A2 (l.length + 1) c2) (l.length + 1) (smps (l ++ [(x, y)])) by rw [smps_app]; exact ho2)
    have HB2 := Lib.hid ((HB1.out.alloc (by omega) _).grown hg2 (by simp; omega) (fun k hk => (HO.out.lt k hk).1))
    have hs2 := HB2.out.size
    clear ho2 hg2 hcx hcy
    go_wp2_with fail
    refine (HE.out w2.heap.size _ _ _ (Nat.le_refl _) (Rd.of_own HO2.out)).mono ?_
    rintro e w3 ⟨rfl, hb3⟩
    have HB3 := Lib.hid (HB2.out.trans (hb3.mono hs2))
    clear hb3
    go_wp2
    go_ret2
    exact ⟨rfl, HB3.out⟩
set_option maxRecDepth 100000 in
set_option maxHeartbeats 1000000 in
theorem sJoinChunks_any (s t : ByteArray) (w : World) (hs : s.size ≤ 1048576) (ht : t.size ≤ 1048576) :
    Calls Try.prog 15 #[.string s, .string t] w fun e w' => e = .returned (.tuple #[.string (joinR s.data.toList t.data.toList), .bool (joinK s.data.toList t.data.toList)]) ∧ Below w.heap.size w w' := by
  obtain ⟨j0, hj, hj0, hj1, hj2⟩ := info_parts infoSmp
  have HJ := Lib.hid (And.intro hj (And.intro hj0 (And.intro hj1 hj2)))
  clear hj hj0 hj1 hj2
  have HC := Lib.hid (fun w => sDecodeChunk_any s w hs)
  have HD := Lib.hid (fun w => sDecodeChunk_any t w ht)
  cases hd : dec s.data.toList with
  | none =>
    rw [hd] at HC
    rw [show joinR s.data.toList t.data.toList = str [] by unfold joinR; rw [hd], show joinK s.data.toList t.data.toList = false by unfold joinK; rw [hd]]
    clear hd
    cases he : dec t.data.toList with
    | none =>
      rw [he] at HD
      clear he
      go_enter Try.func15, Try.ntmps15
      go_wp2_with fail
      refine (HC.out _).mono ?_
      rintro e w1 ⟨h1, _, hb1⟩
      obtain rfl := h1 rfl
      have HB1 := Lib.hid hb1
      clear h1 hb1
      go_wp2_with fail
      refine (HD.out _).mono ?_
      rintro e w2 ⟨h1, _, hb1⟩
      obtain rfl := h1 rfl
      have HB2 := Lib.hid (HB1.out.trans (hb1.mono HB1.out.size))
      clear h1 hb1
      go_wp2
      go_ret2
      exact ⟨rfl, HB2.out⟩
    | some m =>
      rw [he] at HD
      clear he
      go_enter Try.func15, Try.ntmps15
      go_wp2_with fail
      refine (HC.out _).mono ?_
      rintro e w1 ⟨h1, _, hb1⟩
      obtain rfl := h1 rfl
      have HB1 := Lib.hid hb1
      clear h1 hb1
      go_wp2_with fail
      refine (HD.out _).mono ?_
      rintro e w2 ⟨_, h1, hb1⟩
      obtain ⟨A, c, rfl, ho1⟩ := h1 m rfl
      have HB2 := Lib.hid (HB1.out.trans (hb1.mono HB1.out.size))
      clear h1 hb1 ho1
      go_wp2
      go_ret2
      exact ⟨rfl, HB2.out⟩
  | some l =>
    rw [hd] at HC
    have hl := goodSmp_len (dec_some hd).1
    cases he : dec t.data.toList with
    | none =>
      rw [he] at HD
      rw [show joinR s.data.toList t.data.toList = str [] by unfold joinR; rw [hd, he], show joinK s.data.toList t.data.toList = false by unfold joinK; rw [hd, he]]
      clear hd he
      go_enter Try.func15, Try.ntmps15
      go_wp2_with fail
      refine (HC.out _).mono ?_
      rintro e w1 ⟨_, h1, hb1⟩
      obtain ⟨A, c, rfl, ho1⟩ := h1 l rfl
      have HB1 := Lib.hid hb1
      clear h1 hb1 ho1
      go_wp2_with fail
      refine (HD.out _).mono ?_
      rintro e w2 ⟨h1, _, hb1⟩
      obtain rfl := h1 rfl
      have HB2 := Lib.hid (HB1.out.trans (hb1.mono HB1.out.size))
      clear h1 hb1
      go_wp2
      go_ret2
      exact ⟨rfl, HB2.out⟩
    | some m =>
      rw [he] at HD
      have hm := goodSmp_len (dec_some he).1
      obtain ⟨R, hR⟩ : ∃ R, R = joinR s.data.toList t.data.toList := ⟨_, rfl⟩
      obtain ⟨K, hK⟩ : ∃ K, K = joinK s.data.toList t.data.toList := ⟨_, rfl⟩
      rw [← hR, ← hK]
      have hR2 : R = if goodSmp (l ++ m) then str (enc (l ++ m)) else str [] := by rw [hR]; unfold joinR; rw [hd, he]; rfl
      have hK2 : K = goodSmp (l ++ m) := by rw [hK]; unfold joinK; rw [hd, he]
      have HE := Lib.hid (fun B A c w hB h => sEncodeChunk_any B A (l.length + m.length) c (l ++ m) w hB h (by omega) R K hR2 hK2)
      clear hd he hR hK hR2 hK2
      go_enter Try.func15, Try.ntmps15
      go_wp2_with fail
      refine (HC.out _).mono ?_
      rintro e w1 ⟨_, h1, hb1⟩
      obtain ⟨A, c, rfl, ho1⟩ := h1 l rfl
      have HB1 := Lib.hid hb1
      have HO1 := Lib.hid ho1
      clear h1 hb1 ho1
      go_wp2_with fail
      refine (HD.out _).mono ?_
      rintro e w2 ⟨_, h1, hb1⟩
      obtain ⟨A2, c2, rfl, ho2⟩ := h1 m rfl
      have hs1 := HB1.out.size
      have hs2 := hb1.size
      have HB2 := Lib.hid (HB1.out.trans (hb1.mono HB1.out.size))
      have HO := Lib.hid (own_below HO1.out hb1 (Nat.le_refl _))
      have HO2 := Lib.hid ho2
      clear h1 hb1 ho2 HO1 HB1
      go_wp2_with (at_builtin; refine wpList_append_row rfl (.tmp 26) (.tmp 27) 25 rfl w.heap.size 31 j0 (.agg #[.int .i64 0, .int .i64 0]) 2 16 Try.underlying25 HJ.out.1 HJ.out.2.1 HJ.out.2.2.1 HJ.out.2.2.2 rfl (by decide) _ l.length (smps l) rfl HO.out _ m.length w1.heap.size (smps m) rfl HO2.out (smps_one m) (by unfold maxLen; omega) (by omega) (by omega) ?_)
      intro v' w3 ho3 hg3
      obtain ⟨A3, c3, rfl⟩ := own_slice ho3
      have HO3 := Lib.hid (show w3.ownsRow w.heap.size 31 2 (.slice A3 (l.length + m.length) c3) (l.length + m.length) (smps (l ++ m)) by rw [smps_app]; exact ho3)
      have HB3 := Lib.hid (HB2.out.grown hg3 (by omega) (fun k hk => (HO.out.lt k hk).1))
      have hs3 := HB3.out.size
      clear ho3 hg3
      go_wp2_with fail
      refine (HE.out w3.heap.size _ _ _ (Nat.le_refl _) (Rd.of_own HO3.out)).mono ?_
      rintro e w4 ⟨rfl, hb4⟩
      have HB4 := Lib.hid (HB3.out.trans (hb4.mono hs3))
      clear hb4
      go_wp2
      go_ret2
      exact ⟨rfl, HB4.out⟩
set_option maxRecDepth 100000 in
set_option maxHeartbeats 1000000 in
theorem iAppendChunk_any (s : ByteArray) (x y : Int) (w : World) (hs : s.size ≤ 1048576) :
    Calls Try.prog 11 #[.string s, .agg #[.int .i64 x, .int .i64 y]] w fun e w' => e = .returned (.tuple #[.string (appR s.data.toList (x, y)), .bool (appK s.data.toList (x, y))]) ∧ Below w.heap.size w w' := by
  obtain ⟨j0, hj, hj0, hj1, hj2⟩ := info_parts infoSmp
  have HJ := Lib.hid (And.intro hj (And.intro hj0 (And.intro hj1 hj2)))
  clear hj hj0 hj1 hj2
  have HC := Lib.hid (fun w => decodeChunk_any s w hs)
  cases hd : dec s.data.toList with
  | none =>
    rw [hd] at HC
    rw [show appR s.data.toList (x, y) = str [] by unfold appR; rw [hd], show appK s.data.toList (x, y) = false by unfold appK; rw [hd]]
    clear hd
    go_enter Try.func11, Try.ntmps11
    go_wp2_with fail
    refine (HC.out _).mono ?_
    rintro e w1 ⟨h1, _, hb1⟩
    obtain rfl := h1 rfl
    have HB1 := Lib.hid (((Below.refl _ _).alloc (Nat.le_refl _) (.cells #[.int .i64 x, .int .i64 y] 31)).trans (hb1.mono (by simp)) : Below w.heap.size w w1)
    clear h1 hb1
    go_wp2
    go_ret2
    exact ⟨rfl, HB1.out⟩
  | some l =>
    rw [hd] at HC
    have hl := goodSmp_len (dec_some hd).1
    obtain ⟨R, hR⟩ : ∃ R, R = appR s.data.toList (x, y) := ⟨_, rfl⟩
    obtain ⟨K, hK⟩ : ∃ K, K = appK s.data.toList (x, y) := ⟨_, rfl⟩
    rw [← hR, ← hK]
    have hR2 : R = if goodSmp (l ++ [(x, y)]) then str (enc (l ++ [(x, y)])) else str [] := by rw [hR]; unfold appR; rw [hd]; rfl
    have hK2 : K = goodSmp (l ++ [(x, y)]) := by rw [hK]; unfold appK; rw [hd]
    have HE := Lib.hid (fun B A c w hB h => iEncodeChunk_any B A (l.length + 1) c (l ++ [(x, y)]) w hB h (by omega) R K hR2 hK2)
    clear hd hR hK hR2 hK2
    go_enter Try.func11, Try.ntmps11
    go_wp2_with fail
    refine (HC.out _).mono ?_
    rintro e w1 ⟨_, h1, hb1⟩
    obtain ⟨A, c, rfl, ho1⟩ := h1 l rfl
    have HO := Lib.hid (own_mono ho1 (show w.heap.size ≤ _ by simp))
    have hs1 : w.heap.size < w1.heap.size := by have := hb1.size; simp at this; omega
    have hcx : w1.cell? ⟨w.heap.size, 0, none⟩ = some (.int .i64 x) := (hb1.cell (p := ⟨w.heap.size, 0, none⟩) (by simp)).trans (new_cell rfl rfl)
    have hcy : w1.cell? ⟨w.heap.size, 1, none⟩ = some (.int .i64 y) := (hb1.cell (p := ⟨w.heap.size, 1, none⟩) (by simp)).trans (new_cell rfl rfl)
    have HB1 := Lib.hid (((Below.refl _ _).alloc (Nat.le_refl _) (.cells #[.int .i64 x, .int .i64 y] 31)).trans (hb1.mono (by simp)) : Below w.heap.size w w1)
    clear h1 hb1 ho1
    go_wp2_with (at_builtin; refine wpList_append_own _ rfl (.tmp 15) (.tmp 17) 25 rfl w.heap.size 31 j0 (.agg #[.int .i64 0, .int .i64 0]) 2 16 Try.underlying25 HJ.out.1 HJ.out.2.1 HJ.out.2.2.1 HJ.out.2.2.2 rfl (by decide) _ l.length (smps l) rfl (HO.out.alloc _) ⟨w1.heap.size, 0, none⟩ 1 1 [.int .i64 x, .int .i64 y] rfl rfl (World.news_of_block (cs := #[.int .i64 x, .int .i64 y]) (heap_alloc_new _ _)) (by simp [Value.oneCell']) (by unfold maxLen; omega) (by omega) (by simp; omega) ?_)
    intro v' w2 ho2 hg2 _
    obtain ⟨A2, c2, rfl⟩ := own_slice ho2
    have HO2 := Lib.hid (show w2.ownsRow w.heap.size 31 2 (.slice A2 (l.length + 1) c2) (l.length + 1) (smps (l ++ [(x, y)])) by rw [smps_app]; exact ho2)
    have HB2 := Lib.hid ((HB1.out.alloc (by omega) _).grown hg2 (by simp; omega) (fun k hk => (HO.out.lt k hk).1))
    have hs2 := HB2.out.size
    clear ho2 hg2 hcx hcy
    go_wp2_with fail
    refine (HE.out w2.heap.size _ _ _ (Nat.le_refl _) (Rd.of_own HO2.out)).mono ?_
    rintro e w3 ⟨rfl, hb3⟩
    have HB3 := Lib.hid (HB2.out.trans (hb3.mono hs2))
    clear hb3
    go_wp2
    go_ret2
    exact ⟨rfl, HB3.out⟩
set_option maxRecDepth 100000 in
set_option maxHeartbeats 1000000 in
theorem iJoinChunks_any (s t : ByteArray) (w : World) (hs : s.size ≤ 1048576) (ht : t.size ≤ 1048576) :
    Calls Try.prog 14 #[.string s, .string t] w fun e w' => e = .returned (.tuple #[.string (joinR s.data.toList t.data.toList), .bool (joinK s.data.toList t.data.toList)]) ∧ Below w.heap.size w w' := by
  obtain ⟨j0, hj, hj0, hj1, hj2⟩ := info_parts infoSmp
  have HJ := Lib.hid (And.intro hj (And.intro hj0 (And.intro hj1 hj2)))
  clear hj hj0 hj1 hj2
  have HC := Lib.hid (fun w => decodeChunk_any s w hs)
  have HD := Lib.hid (fun w => decodeChunk_any t w ht)
  cases hd : dec s.data.toList with
  | none =>
    rw [hd] at HC
    rw [show joinR s.data.toList t.data.toList = str [] by unfold joinR; rw [hd], show joinK s.data.toList t.data.toList = false by unfold joinK; rw [hd]]
    clear hd
    cases he : dec t.data.toList with
    | none =>
      rw [he] at HD
      clear he
      go_enter Try.func14, Try.ntmps14
      go_wp2_with fail
      refine (HC.out _).mono ?_
      rintro e w1 ⟨h1, _, hb1⟩
      obtain rfl := h1 rfl
      have HB1 := Lib.hid hb1
      clear h1 hb1
      go_wp2_with fail
      refine (HD.out _).mono ?_
      rintro e w2 ⟨h1, _, hb1⟩
      obtain rfl := h1 rfl
      have HB2 := Lib.hid (HB1.out.trans (hb1.mono HB1.out.size))
      clear h1 hb1
      go_wp2
      go_ret2
      exact ⟨rfl, HB2.out⟩
    | some m =>
      rw [he] at HD
      clear he
      go_enter Try.func14, Try.ntmps14
      go_wp2_with fail
      refine (HC.out _).mono ?_
      rintro e w1 ⟨h1, _, hb1⟩
      obtain rfl := h1 rfl
      have HB1 := Lib.hid hb1
      clear h1 hb1
      go_wp2_with fail
      refine (HD.out _).mono ?_
      rintro e w2 ⟨_, h1, hb1⟩
      obtain ⟨A, c, rfl, ho1⟩ := h1 m rfl
      have HB2 := Lib.hid (HB1.out.trans (hb1.mono HB1.out.size))
      clear h1 hb1 ho1
      go_wp2
      go_ret2
      exact ⟨rfl, HB2.out⟩
  | some l =>
    rw [hd] at HC
    have hl := goodSmp_len (dec_some hd).1
    cases he : dec t.data.toList with
    | none =>
      rw [he] at HD
      rw [show joinR s.data.toList t.data.toList = str [] by unfold joinR; rw [hd, he], show joinK s.data.toList t.data.toList = false by unfold joinK; rw [hd, he]]
      clear hd he
      go_enter Try.func14, Try.ntmps14
      go_wp2_with fail
      refine (HC.out _).mono ?_
      rintro e w1 ⟨_, h1, hb1⟩
      obtain ⟨A, c, rfl, ho1⟩ := h1 l rfl
      have HB1 := Lib.hid hb1
      clear h1 hb1 ho1
      go_wp2_with fail
      refine (HD.out _).mono ?_
      rintro e w2 ⟨h1, _, hb1⟩
      obtain rfl := h1 rfl
      have HB2 := Lib.hid (HB1.out.trans (hb1.mono HB1.out.size))
      clear h1 hb1
      go_wp2
      go_ret2
      exact ⟨rfl, HB2.out⟩
    | some m =>
      rw [he] at HD
      have hm := goodSmp_len (dec_some he).1
      obtain ⟨R, hR⟩ : ∃ R, R = joinR s.data.toList t.data.toList := ⟨_, rfl⟩
      obtain ⟨K, hK⟩ : ∃ K, K = joinK s.data.toList t.data.toList := ⟨_, rfl⟩
      rw [← hR, ← hK]
      have hR2 : R = if goodSmp (l ++ m) then str (enc (l ++ m)) else str [] := by rw [hR]; unfold joinR; rw [hd, he]; rfl
      have hK2 : K = goodSmp (l ++ m) := by rw [hK]; unfold joinK; rw [hd, he]
      have HE := Lib.hid (fun B A c w hB h => iEncodeChunk_any B A (l.length + m.length) c (l ++ m) w hB h (by omega) R K hR2 hK2)
      clear hd he hR hK hR2 hK2
      go_enter Try.func14, Try.ntmps14
      go_wp2_with fail
      refine (HC.out _).mono ?_
      rintro e w1 ⟨_, h1, hb1⟩
      obtain ⟨A, c, rfl, ho1⟩ := h1 l rfl
      have HB1 := Lib.hid hb1
      have HO1 := Lib.hid ho1
      clear h1 hb1 ho1
      go_wp2_with fail
      refine (HD.out _).mono ?_
      rintro e w2 ⟨_, h1, hb1⟩
      obtain ⟨A2, c2, rfl, ho2⟩ := h1 m rfl
      have hs1 := HB1.out.size
      have hs2 := hb1.size
      have HB2 := Lib.hid (HB1.out.trans (hb1.mono HB1.out.size))
      have HO := Lib.hid (own_below HO1.out hb1 (Nat.le_refl _))
      have HO2 := Lib.hid ho2
      clear h1 hb1 ho2 HO1 HB1
      go_wp2_with (at_builtin; refine wpList_append_row rfl (.tmp 26) (.tmp 27) 25 rfl w.heap.size 31 j0 (.agg #[.int .i64 0, .int .i64 0]) 2 16 Try.underlying25 HJ.out.1 HJ.out.2.1 HJ.out.2.2.1 HJ.out.2.2.2 rfl (by decide) _ l.length (smps l) rfl HO.out _ m.length w1.heap.size (smps m) rfl HO2.out (smps_one m) (by unfold maxLen; omega) (by omega) (by omega) ?_)
      intro v' w3 ho3 hg3
      obtain ⟨A3, c3, rfl⟩ := own_slice ho3
      have HO3 := Lib.hid (show w3.ownsRow w.heap.size 31 2 (.slice A3 (l.length + m.length) c3) (l.length + m.length) (smps (l ++ m)) by rw [smps_app]; exact ho3)
      have HB3 := Lib.hid (HB2.out.grown hg3 (by omega) (fun k hk => (HO.out.lt k hk).1))
      have hs3 := HB3.out.size
      clear ho3 hg3
      go_wp2_with fail
      refine (HE.out w3.heap.size _ _ _ (Nat.le_refl _) (Rd.of_own HO3.out)).mono ?_
      rintro e w4 ⟨rfl, hb4⟩
      have HB4 := Lib.hid (HB3.out.trans (hb4.mono hs3))
      clear hb4
      go_wp2
      go_ret2
      exact ⟨rfl, HB4.out⟩
theorem both_AppendChunk (s : ByteArray) (x y : Int) (hs : s.size ≤ 1048576) : ∃ (r0 : ByteArray) (r1 : Bool),
    (∀ w, Calls Try.prog 12 #[.string s, .agg #[.int .i64 x, .int .i64 y]] w fun e w' => e = .returned (.tuple #[.string r0, .bool r1]) ∧ Ch 0 0 w w') ∧
    (∀ w, Calls Try.prog 11 #[.string s, .agg #[.int .i64 x, .int .i64 y]] w fun e w' => e = .returned (.tuple #[.string r0, .bool r1]) ∧ Ch 0 0 w w') :=
  ⟨_, _, fun w => (sAppendChunk_any s x y w hs).mono fun _ _ ⟨he, hb⟩ => ⟨he, Ch.of_below hb⟩, fun w => (iAppendChunk_any s x y w hs).mono fun _ _ ⟨he, hb⟩ => ⟨he, Ch.of_below hb⟩⟩
theorem both_JoinChunks (s t : ByteArray) (hs : s.size ≤ 1048576) (ht : t.size ≤ 1048576) : ∃ (r0 : ByteArray) (r1 : Bool),
    (∀ w, Calls Try.prog 15 #[.string s, .string t] w fun e w' => e = .returned (.tuple #[.string r0, .bool r1]) ∧ Ch 0 0 w w') ∧
    (∀ w, Calls Try.prog 14 #[.string s, .string t] w fun e w' => e = .returned (.tuple #[.string r0, .bool r1]) ∧ Ch 0 0 w w') :=
  ⟨_, _, fun w => (sJoinChunks_any s t w hs ht).mono fun _ _ ⟨he, hb⟩ => ⟨he, Ch.of_below hb⟩, fun w => (iJoinChunks_any s t w hs ht).mono fun _ _ ⟨he, hb⟩ => ⟨he, Ch.of_below hb⟩⟩
end Go.Proofs.Ytbemnhdadafnnaa
