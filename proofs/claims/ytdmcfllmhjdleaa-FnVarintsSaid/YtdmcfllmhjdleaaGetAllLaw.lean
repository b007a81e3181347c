/- GetAll of the reference and of the program, and the law. -/
import Derived.Test.YtdmcfllmhjdleaaGetAll
namespace Go.Proofs.Ytdmcfllmhjdleaa
set_option linter.unusedVariables false
set_option linter.unusedSimpArgs false
open Go.RowKit

/-- A list of numbers in new memory, and a bool. -/
def GotU (w : World) (n : Nat) (l : List Int) (K : Bool) (e : Ending) (w' : World) : Prop :=
  ∃ A c, e = .returned (.tuple #[.slice A n c, .bool K]) ∧ w'.ownsRow w.heap.size 3 1 (.slice A n c) n (ints l) ∧ Below w.heap.size w w'
theorem GotU.nil_ {w w' : World} (hb : Below w.heap.size w w') : GotU w 0 [] false (.returned (.tuple #[.slice none 0 0, .bool false])) w' := ⟨none, 0, rfl, World.ownsRow_nil _ _ _ _, hb⟩

set_option maxHeartbeats 1000000 in
theorem sGetAll_f (s : ByteArray) (w : World) (hs : s.size ≤ 1048576) (h : 600 < s.size ∨ rd s.data.toList = none ∨ ∃ l, rd s.data.toList = some l ∧ 60 < l.length) :
    Calls Try.prog 59 #[.string s] w (GotU w 0 [] false) := by
  by_cases h6 : 600 < s.size
  · clear h
    go_enter Try.func59, Try.ntmps59
    go_wp2
    go_ret2
    exact GotU.nil_ (Below.refl _ _)
  · have hg := Lib.hid (l1GetAll_any s w hs)
    rcases h with h | h | ⟨l, h, hl⟩
    · exact absurd h h6
    · have H := Lib.hid h
      clear h
      go_enter Try.func59, Try.ntmps59
      go_wp2_with fail
      refine hg.out.mono ?_
      rintro e w1 ⟨h1, _, hb⟩
      rw [h1 H.out]
      have HB := Lib.hid hb
      clear h1 hb
      go_wp2
      go_ret2
      exact GotU.nil_ HB.out
    · have H := Lib.hid h
      clear h
      go_enter Try.func59, Try.ntmps59
      go_wp2_with fail
      refine hg.out.mono ?_
      rintro e w1 ⟨_, h2, hb⟩
      obtain ⟨A, c, rfl, ho⟩ := h2 l H.out
      have HB := Lib.hid hb
      clear h2 hb ho
      go_wp2
      go_ret2
      exact GotU.nil_ HB.out
set_option maxHeartbeats 1000000 in
theorem sGetAll_t (s : ByteArray) (w : World) (hs : s.size ≤ 600) (l : List Int) (h : rd s.data.toList = some l) (hl : l.length ≤ 60) :
    Calls Try.prog 59 #[.string s] w (GotU w l.length l true) := by
  have hg := Lib.hid (l1GetAll_any s w (by omega))
  have H := Lib.hid h
  clear h
  go_enter Try.func59, Try.ntmps59
  go_wp2_with fail
  refine hg.out.mono ?_
  rintro e w1 ⟨_, h2, hb⟩
  obtain ⟨A, c, rfl, ho⟩ := h2 l H.out
  have HB := Lib.hid hb
  have HO := Lib.hid ho
  clear h2 hb ho
  go_wp2
  go_ret2
  exact ⟨A, c, rfl, HO.out, HB.out⟩
set_option maxHeartbeats 1000000 in
theorem iGetAll_f (s : ByteArray) (w : World) (hs : s.size ≤ 1048576) (h : 600 < s.size ∨ rd s.data.toList = none ∨ ∃ l, rd s.data.toList = some l ∧ 60 < l.length) :
    Calls Try.prog 58 #[.string s] w (GotU w 0 [] false) := by
  by_cases h6 : 600 < s.size
  · clear h
    go_enter Try.func58, Try.ntmps58
    go_wp2
    go_ret2
    exact GotU.nil_ (Below.refl _ _)
  · have hg := Lib.hid (getAll_any s w hs)
    rcases h with h | h | ⟨l, h, hl⟩
    · exact absurd h h6
    · have H := Lib.hid h
      clear h
      go_enter Try.func58, Try.ntmps58
      go_wp2_with fail
      refine hg.out.mono ?_
      rintro e w1 ⟨h1, _, hb⟩
      rw [h1 H.out]
      have HB := Lib.hid hb
      clear h1 hb
      go_wp2
      go_ret2
      exact GotU.nil_ HB.out
    · have H := Lib.hid h
      clear h
      go_enter Try.func58, Try.ntmps58
      go_wp2_with fail
      refine hg.out.mono ?_
      rintro e w1 ⟨_, h2, hb⟩
      obtain ⟨A, c, rfl, ho⟩ := h2 l H.out
      have HB := Lib.hid hb
      clear h2 hb ho
      go_wp2
      go_ret2
      exact GotU.nil_ HB.out
set_option maxHeartbeats 1000000 in
theorem iGetAll_t (s : ByteArray) (w : World) (hs : s.size ≤ 600) (l : List Int) (h : rd s.data.toList = some l) (hl : l.length ≤ 60) :
    Calls Try.prog 58 #[.string s] w (GotU w l.length l true) := by
  have hg := Lib.hid (getAll_any s w (by omega))
  have H := Lib.hid h
  clear h
  go_enter Try.func58, Try.ntmps58
  go_wp2_with fail
  refine hg.out.mono ?_
  rintro e w1 ⟨_, h2, hb⟩
  obtain ⟨A, c, rfl, ho⟩ := h2 l H.out
  have HB := Lib.hid hb
  have HO := Lib.hid ho
  clear h2 hb ho
  go_wp2
  go_ret2
  exact ⟨A, c, rfl, HO.out, HB.out⟩

theorem getAll_both (s : ByteArray) (hs : s.size ≤ 1048576) : ∃ (n : Nat) (l : List Int) (K : Bool), n ≤ 60 ∧
    (∀ w, Calls Try.prog 59 #[.string s] w (GotU w n l K)) ∧ (∀ w, Calls Try.prog 58 #[.string s] w (GotU w n l K)) := by
  by_cases h : 600 < s.size ∨ rd s.data.toList = none ∨ ∃ l, rd s.data.toList = some l ∧ 60 < l.length
  · exact ⟨0, [], false, by simp, fun w => sGetAll_f s w hs h, fun w => iGetAll_f s w hs h⟩
  · cases e : rd s.data.toList with
    | none => exact absurd (.inr (.inl e)) h
    | some l =>
      have h6 : s.size ≤ 600 := by
        rcases Nat.lt_or_ge 600 s.size with h' | h'
        · exact absurd (.inl h') h
        · exact h'
      have hl : l.length ≤ 60 := by
        rcases Nat.lt_or_ge 60 l.length with h' | h'
        · exact absurd (.inr (.inr ⟨l, e, h'⟩)) h
        · exact h'
      exact ⟨l.length, l, true, hl, fun w => sGetAll_t s w h6 l e hl, fun w => iGetAll_t s w h6 l e hl⟩

end Go.Proofs.Ytdmcfllmhjdleaa
