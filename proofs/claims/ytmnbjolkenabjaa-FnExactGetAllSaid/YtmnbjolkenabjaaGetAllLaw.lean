/- GetAll of the reference and of the program, and the law. -/
import Derived.Test.YtmnbjolkenabjaaGetAll
namespace Go.Proofs.Ytmnbjolkenabjaa
open Go.RowKit

/-- A list of numbers in new memory, and a bool. -/
def GotU (w : World) (n : Nat) (l : List Int) (K : Bool) (e : Ending) (w' : World) : Prop :=
  ∃ A c, e = .returned (.tuple #[.slice A n c, .bool K]) ∧ w'.ownsRow w.heap.size 3 1 (.slice A n c) n (ints l) ∧ Below w.heap.size w w'
theorem GotU.nil_ {w w' : World} (hb : Below w.heap.size w w') : GotU w 0 [] false (.returned (.tuple #[.slice none 0 0, .bool false])) w' := ⟨none, 0, rfl, World.ownsRow_nil _ _ _ _, hb⟩

set_option maxHeartbeats 1000000 in
theorem sGetAll_f (s : ByteArray) (w : World) (hs : s.size ≤ 1048576) (h : 600 < s.size ∨ rd s.data.toList = none ∨ ∃ l, rd s.data.toList = some l ∧ 60 < l.length) :
    Calls Try.prog 35 #[.string s] w (GotU w 0 [] false) := by
  by_cases h6 : 600 < s.size
  · clear h
    go_enter Try.func35, Try.ntmps35
    go_wp2
    go_ret2
    exact GotU.nil_ (Below.refl _ _)
  · have hg := Lib.hid (l1GetAll_any s w hs)
    rcases h with h | h | ⟨l, h, hl⟩
    · exact absurd h h6
    · have H := Lib.hid h
      clear h
      go_enter Try.func35, Try.ntmps35
      go_wp2_with fail
      refine hg.out.mono ?_
      rintro e w1 ⟨h1, _, hb⟩
      rw [h1 H.out]
      have HB := Lib.hid hb
      clear h1 hb
      go_wp2
      go_ret2
      exact GotU.nil_ HB.out
    · have H := Lib.hid h
      clear h
      go_enter Try.func35, Try.ntmps35
      go_wp2_with fail
      refine hg.out.mono ?_
      rintro e w1 ⟨_, h2, hb⟩
      obtain ⟨A, c, rfl, ho⟩ := h2 l H.out
      have HB := Lib.hid hb
      clear h2 hb ho
      go_wp2
      go_ret2
      exact GotU.nil_ HB.out
set_option maxHeartbeats 1000000 in
theorem sGetAll_t (s : ByteArray) (w : World) (hs : s.size ≤ 600) (l : List Int) (h : rd s.data.toList = some l) (hl : l.length ≤ 60) :
    Calls Try.prog 35 #[.string s] w (GotU w l.length l true) := by
  have hg := Lib.hid (l1GetAll_any s w (by omega))
  have H := Lib.hid h
  clear h
  go_enter Try.func35, Try.ntmps35
  go_wp2_with fail
  refine hg.out.mono ?_
  rintro e w1 ⟨_, h2, hb⟩
  obtain ⟨A, c, rfl, ho⟩ := h2 l H.out
  have HB := Lib.hid hb
  have HO := Lib.hid ho
  clear h2 hb ho
  go_wp2
  go_ret2
  exact ⟨A, c, rfl, HO.out, HB.out⟩
set_option maxHeartbeats 1000000 in
theorem iGetAll_f (s : ByteArray) (w : World) (hs : s.size ≤ 1048576) (h : 600 < s.size ∨ rd s.data.toList = none ∨ ∃ l, rd s.data.toList = some l ∧ 60 < l.length) :
    Calls Try.prog 36 #[.string s] w (GotU w 0 [] false) := by
  by_cases h6 : 600 < s.size
  · clear h
    go_enter Try.func36, Try.ntmps36
    go_wp2
    go_ret2
    exact GotU.nil_ (Below.refl _ _)
  · have hg := Lib.hid (getAll_any s w hs)
    rcases h with h | h | ⟨l, h, hl⟩
    · exact absurd h h6
    · have H := Lib.hid h
      clear h
      go_enter Try.func36, Try.ntmps36
      go_wp2_with fail
      refine hg.out.mono ?_
      rintro e w1 ⟨h1, _, hb⟩
      rw [h1 H.out]
      have HB := Lib.hid hb
      clear h1 hb
      go_wp2
      go_ret2
      exact GotU.nil_ HB.out
    · have H := Lib.hid h
      clear h
      go_enter Try.func36, Try.ntmps36
      go_wp2_with fail
      refine hg.out.mono ?_
      rintro e w1 ⟨_, h2, hb⟩
      obtain ⟨A, c, rfl, ho⟩ := h2 l H.out
      have HB := Lib.hid hb
      clear h2 hb ho
      go_wp2
      go_ret2
      exact GotU.nil_ HB.out
set_option maxHeartbeats 1000000 in
theorem iGetAll_t (s : ByteArray) (w : World) (hs : s.size ≤ 600) (l : List Int) (h : rd s.data.toList = some l) (hl : l.length ≤ 60) :
    Calls Try.prog 36 #[.string s] w (GotU w l.length l true) := by
  have hg := Lib.hid (getAll_any s w (by omega))
  have H := Lib.hid h
  clear h
  go_enter Try.func36, Try.ntmps36
  go_wp2_with fail
  refine hg.out.mono ?_
  rintro e w1 ⟨_, h2, hb⟩
  obtain ⟨A, c, rfl, ho⟩ := h2 l H.out
  have HB := Lib.hid hb
  have HO := Lib.hid ho
  clear h2 hb ho
  go_wp2
  go_ret2
  exact ⟨A, c, rfl, HO.out, HB.out⟩

theorem getAll_both (s : ByteArray) (hs : s.size ≤ 1048576) : ∃ (n : Nat) (l : List Int) (K : Bool), n ≤ 60 ∧
    (∀ w, Calls Try.prog 35 #[.string s] w (GotU w n l K)) ∧ (∀ w, Calls Try.prog 36 #[.string s] w (GotU w n l K)) := by
  by_cases h : 600 < s.size ∨ rd s.data.toList = none ∨ ∃ l, rd s.data.toList = some l ∧ 60 < l.length
  · exact ⟨0, [], false, by simp, fun w => sGetAll_f s w hs h, fun w => iGetAll_f s w hs h⟩
  · cases e : rd s.data.toList with
    | none => exact absurd (.inr (.inl e)) h
    | some l =>
      have h6 : s.size ≤ 600 := by
        rcases Nat.lt_or_ge 600 s.size with h' | h'
        · exact absurd (.inl h') h
        · exact h'
      have hl : l.length ≤ 60 := by
        rcases Nat.lt_or_ge 60 l.length with h' | h'
        · exact absurd (.inr (.inr ⟨l, e, h'⟩)) h
        · exact h'
      exact ⟨l.length, l, true, hl, fun w => sGetAll_t s w h6 l e hl, fun w => iGetAll_t s w h6 l e hl⟩

set_option maxHeartbeats 2000000 in
theorem law_GetAll (s : ByteArray) (w : World) : Calls Try.prog 13 #[.string s] w fun e w' => e = .returned (.bool true) ∧ Below w.heap.size w w' := by
  by_cases hs : s.size ≤ 1048576
  · obtain ⟨n, l, K, hn, hS, hI⟩ := getAll_both s hs
    have HS := Lib.hid hS
    have HI := Lib.hid hI
    clear hS hI
    go_enter Try.func13, Try.ntmps13
    go_wp2_with fail
    refine (HS.out _).mono ?_
    rintro e w1 ⟨A1, c1, rfl, ho1, hb1⟩
    have HO1 := Lib.hid ho1
    have HB1 := Lib.hid hb1
    clear ho1 hb1
    go_wp2_with fail
    refine (HI.out _).mono ?_
    rintro e w2 ⟨A2, c2, rfl, ho2, hb2⟩
    have HO2 := Lib.hid ho2
    have HB2 := Lib.hid hb2
    clear ho2 hb2
    go_wp2_with fail
    refine (eqIntS_same _ _ n _ _ _ l _ (Rd.of_own HO2.out) ((Rd.of_own (own_below HO1.out HB2.out (Nat.le_refl _)))) (by omega)).mono ?_
    rintro e w' ⟨rfl, q1, rfl⟩
    go_wp2_with fail
    refine (markIntS_any w1.heap.size _ n _ l _ _ (own_drewN HO2.out q1) (by omega) (by omega) (by omega)).mono ?_
    rintro e w3 ⟨rfl, ho3, hg3⟩
    have HO3 := Lib.hid ho3
    have HB3 := Lib.hid (show Below w1.heap.size w2 w3 from (Below.drewN (Below.refl _ _) q1).grown hg3 HB2.out.size (fun k hk => ((own_drewN HO2.out q1).lt k hk).1))
    clear ho3 hg3
    go_wp2_with fail
    refine (heldIntS_any _ _ n _ _ _ (Rd.of_own HO3.out) (by omega) (by omega) (by omega)).mono ?_
    rintro e w' ⟨rfl, rfl⟩
    go_wp2_with fail
    refine (HI.out _).mono ?_
    rintro e w4 ⟨A4, c4, rfl, ho4, hb4⟩
    have HO4 := Lib.hid ho4
    have HB4 := Lib.hid hb4
    clear ho4 hb4
    go_wp2_with fail
    have HR1 := Lib.hid ((((Rd.of_own HO1.out).below (HB2.out.trans HB3.out)).more (HB2.out.trans HB3.out).size).below HB4.out)
    refine (eqIntS_same _ _ n _ _ w4.heap.size l _ (Rd.of_own HO4.out) (HR1.out.more HB4.out.size) (by omega)).mono ?_
    rintro e w' ⟨rfl, q2, rfl⟩
    go_wp2_with fail
    refine (heldIntS_any w3.heap.size _ n _ _ _ (((Rd.of_own HO3.out).below HB4.out).drewN q2) (by omega) (by omega) (by omega)).mono ?_
    rintro e w' ⟨rfl, rfl⟩
    have HBL := Lib.hid (Below.drewN ((HB1.out.trans ((HB2.out.trans HB3.out).mono HB1.out.size)).trans (HB4.out.mono (HB1.out.trans ((HB2.out.trans HB3.out).mono HB1.out.size)).size)) q2)
    go_wp2
    go_ret
    exact ⟨rfl, HBL.out⟩
  · go_enter Try.func13, Try.ntmps13
    go_wp2
    go_ret
    exact ⟨rfl, Below.refl _ _⟩
end Go.Proofs.Ytmnbjolkenabjaa
