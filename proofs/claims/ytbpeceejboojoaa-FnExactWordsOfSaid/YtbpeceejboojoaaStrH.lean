/- The contracts of the laws' helpers on slices of texts: comparing, marking, holding. -/
import Derived.Test.YtbpeceejboojoaaRowInts
import Derived.Test.YtbpeceejboojoaaBeyond
import Derived.Test.YtbpeceejboojoaaMark
namespace Go.Proofs.Ytbpeceejboojoaa
set_option linter.unusedVariables false
set_option linter.unusedSimpArgs false
open Go.RowKit

theorem infoStr : (Try.prog.info? 9).map (fun i => (i.zero, i.size, i.bytes)) = some (some (.string .empty), 1, 16) := by kernel_rfl
def strs (l : List ByteArray) : List Value := l.map Value.string
theorem strs_len (l : List ByteArray) : (strs l).length = l.length := List.length_map ..
theorem strs_get {l : List ByteArray} {k : Nat} {x : ByteArray} (e : l[k]? = some x) : (strs l)[k]? = some (.string x) := by simp [strs, e]
theorem strs_app (a b : List ByteArray) : strs (a ++ b) = strs a ++ strs b := List.map_append
theorem strs_one (l : List ByteArray) : ∀ u ∈ strs l, u.oneCell' = true := by
  intro u hu
  obtain ⟨x, _, rfl⟩ := List.mem_map.1 hu
  rfl
theorem Rd.str_at {w : World} {B n : Nat} {A : Option Addr} {l : List ByteArray} {k : Nat} (h : Rd w B 1 A n (strs l)) (hk : k < n) : ∃ b off x, A = some ⟨b, off, none⟩ ∧ b < B ∧ l[k]? = some x ∧ w.cell? ⟨b, off + k, none⟩ = some (.string x) := by
  obtain ⟨b, off, e, hb, hc⟩ := h.2 (by omega)
  have hl : k < l.length := by have := h.1; rw [strs_len] at this; omega
  exact ⟨b, off, l[k], e, hb, List.getElem?_eq_getElem hl, hc k _ (strs_get (List.getElem?_eq_getElem hl))⟩
theorem Rd.str_len {w : World} {B n : Nat} {A : Option Addr} {l : List ByteArray} (h : Rd w B 1 A n (strs l)) : l.length = n := by have := h.1; rw [strs_len] at this; omega
set_option maxRecDepth 100000 in
set_option maxHeartbeats 1000000 in
theorem eqStringS_same (A A' : Option Addr) (n c c' B : Nat) (l : List ByteArray) (w : World) (h : Rd w B 1 A n (strs l)) (h' : Rd w B 1 A' n (strs l)) (hn : n ≤ 1048576) :
    Calls Try.prog 9 #[.slice A n c, .slice A' n c'] w fun e w' => e = .returned (.bool true) ∧ ∃ q, w' = w.drewN q := by
  have H := Lib.hid h
  have H' := Lib.hid h'
  clear h h'
  go_enter Try.func9, Try.ntmps9
  go_wp2
  go_loopw [5] (fun i wr => ∃ k q : Nat, k ≤ n ∧ i = .int .i64 k ∧ wr = w.drewN q) (fun i _ => n - (intOf i).toNat)
  case atStart => exact ⟨0, 0, Nat.zero_le _, rfl, rfl⟩
  case round =>
    obtain ⟨k, q, hk, rfl, rfl⟩ := hrel
    by_cases hlt : k < n
    · obtain ⟨b, off, x, rfl, hB, hx, hc⟩ := H.out.str_at hlt
      obtain ⟨b', off', x', rfl, hB', hx', hc'⟩ := H'.out.str_at hlt
      obtain rfl : x = x' := by rw [hx] at hx'; injection hx'
      clear hx hx'
      go_wp2
      go_quiet (fail)
      go_wp2
      go_roundw
      case rel => exact ⟨k + 1, q + nq, by omega, by go_num, rfl⟩
      case measure => simp [intOf]; omega
    · go_wp2
      go_ret
      exact ⟨rfl, q, rfl⟩
theorem eq_String (B B' : Nat) (A A' : Option Addr) (n c c' : Nat) (l : List ByteArray) (w : World) (hB : B ≤ w.heap.size) (hB' : B' ≤ w.heap.size) (h : Rd w B 1 A n (strs l)) (h' : Rd w B' 1 A' n (strs l)) (hn : n ≤ 1048576) :
    Calls Try.prog 9 #[.slice A n c, .slice A' n c'] w fun e w' => e = .returned (.bool true) ∧ Ch 0 0 w w' :=
  (eqStringS_same A A' n c c' (max B B') l w (h.more (Nat.le_max_left ..)) (h'.more (Nat.le_max_right ..)) hn).mono fun _ _ ⟨he, hq⟩ => ⟨he, Ch.of_drewN hq⟩
/-- What marking writes. -/
def marksString (k : Int) (n : Nat) : List ByteArray := (List.range n).map fun (i : Nat) => markS (k + (i : Int))
theorem marksString_len (k : Int) (n : Nat) : (marksString k n).length = n := by simp [marksString]
theorem marksString_get (k : Int) (n i : Nat) (h : i < n) : (marksString k n)[i]? = some (markS (k + (i : Int))) := by simp [marksString, h]
set_option maxRecDepth 100000 in
set_option maxHeartbeats 4000000 in
theorem markStringS_any (base : Nat) (A : Option Addr) (n c : Nat) (l : List ByteArray) (k : Int) (w : World) (h : w.ownsRow base 9 1 (.slice A n c) n (strs l)) (hn : n ≤ 1048576) (hk0 : 0 ≤ k) (hk1 : k ≤ 1099511627776) :
    Calls Try.prog 12 #[.slice A n c, .int .i64 k] w fun e w' => e = .returned (.int .i64 (k + n)) ∧
      w'.ownsRow base 9 1 (.slice A n c) n (strs (marksString k n)) ∧ w.grownBy w' (Value.slice A n c).ownBlock := by
  have hlen : (strs l).length = n := by have := h.1; omega
  have HL := Lib.hid (show (strs (marksString k n)).length = (strs l).length by rw [hlen, strs_len, marksString_len])
  have HN := Lib.hid hlen
  have H := Lib.hid h
  clear h hlen
  go_enter Try.func12, Try.ntmps12
  go_wp2
  go_loopw [1, 5] (fun m i wr => ∃ j : Nat, j ≤ n ∧ i = .int .i64 j ∧ m = .int .i64 (k + j) ∧ wr.ownsRow base 9 1 (.slice A n c) n (mixV (strs (marksString k n)) (strs l) j) ∧ w.grownBy wr (Value.slice A n c).ownBlock) (fun _ i _ => n - (intOf i).toNat)
  case atStart => exact ⟨0, Nat.zero_le _, rfl, by simp, by rw [mixV_zero]; exact H.out, World.grownBy.refl _ _⟩
  case round =>
    obtain ⟨j, hj, rfl, rfl, ho, hb⟩ := hrel
    by_cases hlt : j < n
    · obtain ⟨g, cap, hv, hbg, hgl, _, _⟩ := own_form ho (by omega)
      obtain ⟨rfl, rfl⟩ : A = some ⟨g, 0, none⟩ ∧ c = cap := by simpa using hv
      clear hv
      have HG := Lib.hid hbg
      have HX := Lib.hid (strs_get (marksString_get k n j hlt))
      have HO1 := Lib.hid ho
      have HQ1 := Lib.hid hb
      clear ho hb
      go_wp2_with fail
      refine (markText_any _ _ (by omega) (by omega)).mono ?_
      rintro e v1 ⟨rfl, hbt1⟩
      have oa1 := grown_text HO1.out hbt1
      have qa1 := text_grown HQ1.out hbt1
      have hsv1 := hbt1.size
      clear hbt1
      have hml := mixV_len (k := j) HL.out
      have hf1 := oa1.frozenAt j
      obtain ⟨u1, hu1⟩ : ∃ u, v1.cell? ⟨g, j, none⟩ = some u := by
        rw [World.ownsRow.cellAt oa1 j (by omega)]
        exact ⟨_, List.getElem?_eq_getElem (by rw [hml, HN.out]; omega)⟩
      have ob1 := (World.ownsRow.stored oa1 j (.string (markS (k + j)))).1
      have qb1 := (qa1).trans (World.ownsRow.stored oa1 j (.string (markS (k + j)))).2
      rw [mixV_set HL.out HX.out] at ob1
      have HOz := Lib.hid ob1
      have HQz := Lib.hid qb1
      clear oa1 qa1 ob1 qb1 hml
      go_wp2
      go_roundw
      case rel => exact ⟨j + 1, by omega, by go_num, by go_num, HOz.out, HQz.out⟩
      case measure => simp [intOf]; omega
    · have hk' : j = n := by omega
      subst hk'
      go_wp2
      go_ret
      refine ⟨rfl, ?_, hb⟩
      rwa [mixV_all HL.out (by rw [HL.out, HN.out]; exact Nat.le_refl _)] at ho
set_option maxRecDepth 100000 in
set_option maxHeartbeats 4000000 in
theorem heldStringS_any (B : Nat) (A : Option Addr) (n c : Nat) (k : Int) (w : World) (hBw : B ≤ w.heap.size) (h : Rd w B 1 A n (strs (marksString k n))) (hn : n ≤ 1048576) (hk0 : 0 ≤ k) (hk1 : k ≤ 1099511627776) :
    Calls Try.prog 13 #[.slice A n c, .int .i64 k] w fun e w' => e = .returned (.int .i64 (k + n)) ∧ Below w.heap.size w w' := by
  have H := Lib.hid h
  clear h
  go_enter Try.func13, Try.ntmps13
  go_wp2
  go_loopw [1, 5] (fun m i wr => ∃ j : Nat, j ≤ n ∧ i = .int .i64 j ∧ m = .int .i64 (k + j) ∧ Below w.heap.size w wr) (fun _ i _ => n - (intOf i).toNat)
  case atStart => exact ⟨0, Nat.zero_le _, rfl, by simp, Below.refl _ _⟩
  case round =>
    obtain ⟨j, hj, rfl, rfl, hb⟩ := hrel
    have HB := Lib.hid hb
    have hsz := hb.size
    clear hb
    by_cases hlt : j < n
    · obtain ⟨b0, off, x, rfl, hbB, hx, hc0⟩ := H.out.str_at hlt
      obtain rfl : x = markS (k + j) := by rw [marksString_get k n j hlt] at hx; simp at hx; exact hx.symm
      clear hx
      have he0 := (bcell HB.out _ _ (by omega)).trans hc0
      clear hc0
      go_wp2_with fail
      have d1 := beyond_cell (B := wr.heap.size) (W := wr) he0 (by omega)
      refine wp_region_beyond (B := wr.heap.size) (W := wr) (Below.refl _ _) (by kernel_rfl) (by kernel_rfl) ?_
      repeat (go_big_quiet_step ((go_at_call 29; exact calls_beyond (Nat.le_refl _) (markText_any _ _ (by omega) (by omega)))))
      refine wpQuiet_nil ?_
      intro _ hw'
      obtain ⟨z, rfl⟩ := hw'
      have HZ1 := Lib.hid z.2
      generalize z.1 = wz1 at HZ1 ⊢
      have hzswz1 := HZ1.out.size
      clear d1
      go_wp2
      go_roundw
      case rel => exact ⟨j + 1, by omega, by go_num, by go_num, HB.out.trans (HZ1.out.mono hsz)⟩
      case measure => simp [intOf]; omega
    · have hk' : j = n := by omega
      subst hk'
      go_wp2
      go_ret
      exact ⟨rfl, HB.out⟩
theorem mh_String (n : Nat) (k : Int) (hn : n ≤ 1048576) (hk0 : 0 ≤ k) (hk1 : k ≤ 1099511627776) : ∃ (m : Int) (ms : List Value), k ≤ m ∧ m ≤ k + 8388608 ∧
    (∀ lo hi A c l w, Row 9 1 lo hi A n c (strs l) w → Calls Try.prog 12 #[.slice A n c, .int .i64 k] w fun e w' => e = .returned (.int .i64 m) ∧ Row 9 1 lo hi A n c ms w' ∧ Ch lo hi w w') ∧
    (∀ B A c w, B ≤ w.heap.size → Rd w B 1 A n ms → Calls Try.prog 13 #[.slice A n c, .int .i64 k] w fun e w' => e = .returned (.int .i64 m) ∧ Ch 0 0 w w') := by
  refine ⟨k + n, strs (marksString k n), by omega, by omega, fun lo hi A c l w h => ?_, fun B A c w hB h => ?_⟩
  · refine (markStringS_any lo A n c l k w h.1 hn hk0 hk1).mono fun e w' ⟨he, ho, hg⟩ => ⟨he, ⟨ho, Nat.le_trans h.2.1 hg.size, h.2.2⟩, Ch.of_grown hg fun g hg' => ⟨(h.1.lt g hg').1, h.2.2 g hg'⟩⟩
  · exact (heldStringS_any B A n c k w hB h hn hk0 hk1).mono fun e w' ⟨he, hw⟩ => ⟨he, Ch.of_below hw⟩
end Go.Proofs.Ytbpeceejboojoaa
