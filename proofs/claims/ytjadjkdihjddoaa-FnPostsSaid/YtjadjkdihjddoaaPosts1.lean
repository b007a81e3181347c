/- The contracts of the tests on posting lists (spec.GoodPosts, impl.arePosts), and the laws GoodPosts, LeapFrom. -/
import Derived.Test.YtjadjkdihjddoaaInts
import Derived.Test.YtjadjkdihjddoaaAllAt
namespace Go.Proofs.Ytjadjkdihjddoaa
set_option linter.unusedVariables false
set_option linter.unusedSimpArgs false
open Go.RowKit

def postAt (zs : List Int) (k : Nat) : Bool := inB (zs.getD k 0) 0 9999 && (k == 0 || decide (zs.getD (k - 1) 0 < zs.getD k 0))
def goodPosts (zs : List Int) : Bool := allAt (postAt zs) zs.length && decide (zs.length ≤ 60)
theorem postAt_zero {zs : List Int} {x : Int} (h : zs[0]? = some x) : postAt zs 0 = inB x 0 9999 := by unfold postAt; simp [List.getD, h]
theorem postAt_succ {zs : List Int} {k : Nat} {p x : Int} (hp : zs[k]? = some p) (h : zs[k + 1]? = some x) : postAt zs (k + 1) = (inB x 0 9999 && decide (p < x)) := by unfold postAt; simp [List.getD, h, hp]

set_option maxHeartbeats 1000000 in
theorem sGoodPosts_any (B : Nat) (A : Option Addr) (n c : Nat) (zs : List Int) (w : World) (h : Rd w B 1 A n (ints zs)) (hn : n ≤ 1048576) :
    Calls Try.prog 44 #[.slice A n c] w fun e w' => e = .returned (.bool (goodPosts zs)) ∧ w = w' := by
  have hlen := h.int_len
  have HL := Lib.hid hlen
  have H := Lib.hid h
  clear h hlen
  go_enter Try.func44, Try.ntmps44
  go_wp2
  go_loop [7] (fun i => ∃ k : Nat, k ≤ n ∧ i = .int .i64 k ∧ ∀ j, j < k → postAt zs j = true) (fun i => n - (intOf i).toNat)
  case atStart => exact ⟨0, Nat.zero_le _, rfl, fun j hj => absurd hj (by omega)⟩
  case round =>
    obtain ⟨k, hk, rfl, hok⟩ := hrel
    have HK := Lib.hid hok
    clear hok
    by_cases hlt : k < n
    · obtain ⟨b, off, x, rfl, hB, hx, hc⟩ := H.out.int_at hlt
      have HX := Lib.hid hx
      clear hx
      by_cases hin : inB x 0 9999 = true
      · rcases k with _ | j
        · have hc0 : w.cell? ⟨b, off, none⟩ = some (.int .i64 x) := hc
          go_wp2_with (go_at_call 59; refine (l1In_any _ _ _ _).mono ?_; rintro e w' ⟨rfl, rfl⟩)
          go_round
          case rel => exact ⟨1, by omega, rfl, fun i hi => by obtain rfl : i = 0 := by omega
                                                              exact (postAt_zero HX.out).trans hin⟩
          case measure => simp [intOf]; omega
        · obtain ⟨b', off', p, he, hB', hp, hcp⟩ := H.out.int_at (k := j) (by omega)
          obtain ⟨rfl, rfl⟩ : b = b' ∧ off = off' := by simpa using he
          have HP := Lib.hid hp
          clear hp he
          by_cases hlt2 : p < x
          · go_wp2_with (go_at_call 59; refine (l1In_any _ _ _ _).mono ?_; rintro e w' ⟨rfl, rfl⟩)
            go_round
            case rel => exact ⟨j + 1 + 1, by omega, by go_num, fun i hi => by
                                by_cases h : i < j + 1
                                · exact HK.out i h
                                · obtain rfl : i = j + 1 := by omega
                                  rw [postAt_succ HP.out HX.out, hin]; simpa using hlt2⟩
            case measure => simp [intOf]; omega
          · have hge : x ≤ p := by omega
            go_wp2_with (go_at_call 59; refine (l1In_any _ _ _ _).mono ?_; rintro e w' ⟨rfl, rfl⟩)
            go_ret
            refine ⟨retB ?_, rfl⟩
            unfold goodPosts
            rw [allAt_f (j + 1) (by have := HL.out; omega) (by rw [postAt_succ HP.out HX.out]; simp; intro _; omega)]
            rfl
      · replace hin : inB x 0 9999 = false := by simpa using hin
        go_wp2_with (go_at_call 59; refine (l1In_any _ _ _ _).mono ?_; rintro e w' ⟨rfl, rfl⟩)
        go_ret
        refine ⟨retB ?_, rfl⟩
        unfold goodPosts
        rw [allAt_f k (by have := HL.out; omega) (by unfold postAt; rw [show zs.getD k 0 = x from by simp [List.getD, HX.out], hin]; rfl)]
        rfl
    · have hk' : k = n := by omega
      subst hk'
      go_wp2
      go_ret
      refine ⟨retB ?_, rfl⟩
      unfold goodPosts
      rw [allAt_t (by rw [HL.out]; exact HK.out), HL.out]
      simp
      omega
set_option maxHeartbeats 1000000 in
theorem arePosts_any (B : Nat) (A : Option Addr) (n c : Nat) (zs : List Int) (w : World) (h : Rd w B 1 A n (ints zs)) (hn : n ≤ 1048576) :
    Calls Try.prog 54 #[.slice A n c] w fun e w' => e = .returned (.bool (goodPosts zs)) ∧ w = w' := by
  have hlen := h.int_len
  have HL := Lib.hid hlen
  have H := Lib.hid h
  clear h hlen
  go_enter Try.func54, Try.ntmps54
  go_wp2
  go_loop [7] (fun i => ∃ k : Nat, k ≤ n ∧ i = .int .i64 k ∧ ∀ j, j < k → postAt zs j = true) (fun i => n - (intOf i).toNat)
  case atStart => exact ⟨0, Nat.zero_le _, rfl, fun j hj => absurd hj (by omega)⟩
  case round =>
    obtain ⟨k, hk, rfl, hok⟩ := hrel
    have HK := Lib.hid hok
    clear hok
    by_cases hlt : k < n
    · obtain ⟨b, off, x, rfl, hB, hx, hc⟩ := H.out.int_at hlt
      have HX := Lib.hid hx
      clear hx
      by_cases hin : inB x 0 9999 = true
      · rcases k with _ | j
        · have hc0 : w.cell? ⟨b, off, none⟩ = some (.int .i64 x) := hc
          go_wp2_with (go_at_call 80; refine (within_any _ _ _ _).mono ?_; rintro e w' ⟨rfl, rfl⟩)
          go_round
          case rel => exact ⟨1, by omega, rfl, fun i hi => by obtain rfl : i = 0 := by omega
                                                              exact (postAt_zero HX.out).trans hin⟩
          case measure => simp [intOf]; omega
        · obtain ⟨b', off', p, he, hB', hp, hcp⟩ := H.out.int_at (k := j) (by omega)
          obtain ⟨rfl, rfl⟩ : b = b' ∧ off = off' := by simpa using he
          have HP := Lib.hid hp
          clear hp he
          by_cases hlt2 : p < x
          · go_wp2_with (go_at_call 80; refine (within_any _ _ _ _).mono ?_; rintro e w' ⟨rfl, rfl⟩)
            go_round
            case rel => exact ⟨j + 1 + 1, by omega, by go_num, fun i hi => by
                                by_cases h : i < j + 1
                                · exact HK.out i h
                                · obtain rfl : i = j + 1 := by omega
                                  rw [postAt_succ HP.out HX.out, hin]; simpa using hlt2⟩
            case measure => simp [intOf]; omega
          · have hge : x ≤ p := by omega
            go_wp2_with (go_at_call 80; refine (within_any _ _ _ _).mono ?_; rintro e w' ⟨rfl, rfl⟩)
            go_ret
            refine ⟨retB ?_, rfl⟩
            unfold goodPosts
            rw [allAt_f (j + 1) (by have := HL.out; omega) (by rw [postAt_succ HP.out HX.out]; simp; intro _; omega)]
            rfl
      · replace hin : inB x 0 9999 = false := by simpa using hin
        go_wp2_with (go_at_call 80; refine (within_any _ _ _ _).mono ?_; rintro e w' ⟨rfl, rfl⟩)
        go_ret
        refine ⟨retB ?_, rfl⟩
        unfold goodPosts
        rw [allAt_f k (by have := HL.out; omega) (by unfold postAt; rw [show zs.getD k 0 = x from by simp [List.getD, HX.out], hin]; rfl)]
        rfl
    · have hk' : k = n := by omega
      subst hk'
      go_wp2
      go_ret
      refine ⟨retB ?_, rfl⟩
      unfold goodPosts
      rw [allAt_t (by rw [HL.out]; exact HK.out), HL.out]
      simp
      omega

set_option maxHeartbeats 400000 in
theorem iGoodPosts_any (B : Nat) (A : Option Addr) (n c : Nat) (zs : List Int) (w : World) (h : Rd w B 1 A n (ints zs)) (hn : n ≤ 1048576) :
    Calls Try.prog 43 #[.slice A n c] w fun e w' => e = .returned (.bool (goodPosts zs)) ∧ w = w' := by
  have H := Lib.hid h
  clear h
  go_enter Try.func43, Try.ntmps43
  go_wp2_with (go_at_call 54; refine (arePosts_any B A n c zs _ H.out hn).mono ?_; rintro e w' ⟨rfl, rfl⟩)
  go_ret
  exact ⟨rfl, rfl⟩


/-- The first place from i on at which the number is at least x. -/
def leap (zs : List Int) (x : Int) : Nat → Nat → Nat
  | 0, i => i
  | f + 1, i => if i < zs.length ∧ zs.getD i 0 < x then leap zs x f (i + 1) else i
theorem leap_go {zs : List Int} {x y : Int} {f i : Nat} (h : zs[i]? = some y) (hy : y < x) : leap zs x (f + 1) i = leap zs x f (i + 1) := by
  have := (List.getElem?_eq_some_iff.1 h).1
  rw [leap, if_pos ⟨this, by simpa [List.getD, h] using hy⟩]
theorem leap_stop {zs : List Int} {x y : Int} {f i : Nat} (h : zs[i]? = some y) (hy : ¬ y < x) : leap zs x f i = i := by
  cases f with
  | zero => rfl
  | succ f => rw [leap, if_neg (fun h' => hy (by simpa [List.getD, h] using h'.2))]
theorem leap_end {zs : List Int} {x : Int} {f i : Nat} (h : zs.length ≤ i) : leap zs x f i = i := by
  cases f with
  | zero => rfl
  | succ f => rw [leap, if_neg (fun h' => by omega)]

set_option maxHeartbeats 1000000 in
theorem sLeapFrom_t (B : Nat) (A : Option Addr) (n c : Nat) (zs : List Int) (fr : Nat) (x : Int) (w : World) (h : Rd w B 1 A n (ints zs)) (hn : n ≤ 1048576) (hg : goodPosts zs = true) (hf : fr ≤ n) :
    Calls Try.prog 47 #[.slice A n c, .int .i64 fr, .int .i64 x] w fun e w' => e = .returned (.tuple #[.int .i64 (leap zs x (n - fr) fr : Nat), .bool true]) ∧ w = w' := by
  have hlen := h.int_len
  have HL := Lib.hid hlen
  have H := Lib.hid h
  clear h hlen
  have hin : inB fr 0 n = true := inB_t (by omega) (by omega)
  obtain ⟨r, hr⟩ : ∃ r, r = leap zs x (n - fr) fr := ⟨_, rfl⟩
  have HR := Lib.hid hr
  rw [← hr]
  clear hr
  go_enter Try.func47, Try.ntmps47
  go_wp2_with (first | (go_at_call 44; refine (sGoodPosts_any B A n c zs _ H.out hn).mono ?_; rintro e w' ⟨rfl, rfl⟩) | (go_at_call 59; refine (l1In_any _ _ _ _).mono ?_; rintro e w' ⟨rfl, rfl⟩))
  go_loop [1] (fun i => ∃ k : Nat, fr ≤ k ∧ k ≤ n ∧ i = .int .i64 k ∧ r = leap zs x (n - k) k) (fun i => n - (intOf i).toNat)
  case atStart => exact ⟨fr, Nat.le_refl _, hf, rfl, HR.out⟩
  case round =>
    clear HR
    obtain ⟨k, hfk, hk, rfl, hr⟩ := hrel
    have HR := Lib.hid hr
    clear hr
    by_cases hlt : k < n
    · obtain ⟨b, off, y, rfl, hB, hx, hc⟩ := H.out.int_at hlt
      have HX := Lib.hid hx
      clear hx
      by_cases hyx : y < x
      · go_wp2
        go_round
        case rel => exact ⟨k + 1, by omega, by omega, by go_num, by rw [HR.out, show n - k = (n - (k + 1)) + 1 from by omega, leap_go HX.out hyx]⟩
        case measure => simp [intOf]; omega
      · have e := HR.out.trans (leap_stop HX.out hyx)
        clear HR
        subst e
        go_wp2
        go_ret2
        exact ⟨rfl, rfl⟩
    · have hk' : k = n := by omega
      have e := HR.out.trans (leap_end (by have := HL.out; omega))
      clear HR
      subst e
      subst hk'
      go_wp2
      go_ret2
      exact ⟨rfl, rfl⟩
set_option maxHeartbeats 1000000 in
theorem sLeapFrom_g (B : Nat) (A : Option Addr) (n c : Nat) (zs : List Int) (fr x : Int) (w : World) (h : Rd w B 1 A n (ints zs)) (hn : n ≤ 1048576) (hg : goodPosts zs = false) :
    Calls Try.prog 47 #[.slice A n c, .int .i64 fr, .int .i64 x] w fun e w' => e = .returned (.tuple #[.int .i64 0, .bool false]) ∧ w = w' := by
  have H := Lib.hid h
  clear h
  go_enter Try.func47, Try.ntmps47
  go_wp2_with (first | (go_at_call 44; refine (sGoodPosts_any B A n c zs _ H.out hn).mono ?_; rintro e w' ⟨rfl, rfl⟩) | (go_at_call 59; refine (l1In_any _ _ _ _).mono ?_; rintro e w' ⟨rfl, rfl⟩))
  go_ret2
  exact ⟨rfl, rfl⟩
set_option maxHeartbeats 1000000 in
theorem sLeapFrom_f (B : Nat) (A : Option Addr) (n c : Nat) (zs : List Int) (fr x : Int) (w : World) (h : Rd w B 1 A n (ints zs)) (hn : n ≤ 1048576) (hg : goodPosts zs = true) (hf : inB fr 0 n = false) :
    Calls Try.prog 47 #[.slice A n c, .int .i64 fr, .int .i64 x] w fun e w' => e = .returned (.tuple #[.int .i64 0, .bool false]) ∧ w = w' := by
  have H := Lib.hid h
  clear h
  go_enter Try.func47, Try.ntmps47
  go_wp2_with (first | (go_at_call 44; refine (sGoodPosts_any B A n c zs _ H.out hn).mono ?_; rintro e w' ⟨rfl, rfl⟩) | (go_at_call 59; refine (l1In_any _ _ _ _).mono ?_; rintro e w' ⟨rfl, rfl⟩))
  go_ret2
  exact ⟨rfl, rfl⟩
/-- What LeapFrom hands back. -/
theorem sLeapFrom_any (B : Nat) (A : Option Addr) (n c : Nat) (zs : List Int) (fr x : Int) (w : World) (h : Rd w B 1 A n (ints zs)) (hn : n ≤ 1048576) :
    Calls Try.prog 47 #[.slice A n c, .int .i64 fr, .int .i64 x] w fun e w' => e = .returned (.tuple #[.int .i64 (if goodPosts zs && inB fr 0 n then (leap zs x (n - fr.toNat) fr.toNat : Nat) else 0), .bool (goodPosts zs && inB fr 0 n)]) ∧ w = w' := by
  by_cases hg : goodPosts zs = true
  · by_cases hf : inB fr 0 n = true
    · obtain ⟨h0, h1⟩ := inB_iff.1 hf
      obtain ⟨k, rfl⟩ := Int.eq_ofNat_of_zero_le h0
      refine (sLeapFrom_t B A n c zs k x w h hn hg (by omega)).mono fun e w' ⟨he, hw⟩ => ⟨?_, hw⟩
      rw [he, hg, hf]; rfl
    · replace hf : inB fr 0 n = false := by simpa using hf
      refine (sLeapFrom_f B A n c zs fr x w h hn hg hf).mono fun e w' ⟨he, hw⟩ => ⟨?_, hw⟩
      rw [he, hg, hf]; rfl
  · replace hg : goodPosts zs = false := by simpa using hg
    refine (sLeapFrom_g B A n c zs fr x w h hn hg).mono fun e w' ⟨he, hw⟩ => ⟨?_, hw⟩
    rw [he, hg]; rfl
set_option maxHeartbeats 1000000 in
theorem iLeapFrom_t (B : Nat) (A : Option Addr) (n c : Nat) (zs : List Int) (fr : Nat) (x : Int) (w : World) (h : Rd w B 1 A n (ints zs)) (hn : n ≤ 1048576) (hg : goodPosts zs = true) (hf : fr ≤ n) :
    Calls Try.prog 46 #[.slice A n c, .int .i64 fr, .int .i64 x] w fun e w' => e = .returned (.tuple #[.int .i64 (leap zs x (n - fr) fr : Nat), .bool true]) ∧ w = w' := by
  have hlen := h.int_len
  have HL := Lib.hid hlen
  have H := Lib.hid h
  clear h hlen
  have hin : inB fr 0 n = true := inB_t (by omega) (by omega)
  obtain ⟨r, hr⟩ : ∃ r, r = leap zs x (n - fr) fr := ⟨_, rfl⟩
  have HR := Lib.hid hr
  rw [← hr]
  clear hr
  go_enter Try.func46, Try.ntmps46
  go_wp2_with (first | (go_at_call 54; refine (arePosts_any B A n c zs _ H.out hn).mono ?_; rintro e w' ⟨rfl, rfl⟩) | (go_at_call 80; refine (within_any _ _ _ _).mono ?_; rintro e w' ⟨rfl, rfl⟩))
  go_loop [1] (fun i => ∃ k : Nat, fr ≤ k ∧ k ≤ n ∧ i = .int .i64 k ∧ r = leap zs x (n - k) k) (fun i => n - (intOf i).toNat)
  case atStart => exact ⟨fr, Nat.le_refl _, hf, rfl, HR.out⟩
  case round =>
    clear HR
    obtain ⟨k, hfk, hk, rfl, hr⟩ := hrel
    have HR := Lib.hid hr
    clear hr
    by_cases hlt : k < n
    · obtain ⟨b, off, y, rfl, hB, hx, hc⟩ := H.out.int_at hlt
      have HX := Lib.hid hx
      clear hx
      by_cases hyx : y < x
      · go_wp2
        go_round
        case rel => exact ⟨k + 1, by omega, by omega, by go_num, by rw [HR.out, show n - k = (n - (k + 1)) + 1 from by omega, leap_go HX.out hyx]⟩
        case measure => simp [intOf]; omega
      · have e := HR.out.trans (leap_stop HX.out hyx)
        clear HR
        subst e
        go_wp2
        go_ret2
        exact ⟨rfl, rfl⟩
    · have hk' : k = n := by omega
      have e := HR.out.trans (leap_end (by have := HL.out; omega))
      clear HR
      subst e
      subst hk'
      go_wp2
      go_ret2
      exact ⟨rfl, rfl⟩
set_option maxHeartbeats 1000000 in
theorem iLeapFrom_g (B : Nat) (A : Option Addr) (n c : Nat) (zs : List Int) (fr x : Int) (w : World) (h : Rd w B 1 A n (ints zs)) (hn : n ≤ 1048576) (hg : goodPosts zs = false) :
    Calls Try.prog 46 #[.slice A n c, .int .i64 fr, .int .i64 x] w fun e w' => e = .returned (.tuple #[.int .i64 0, .bool false]) ∧ w = w' := by
  have H := Lib.hid h
  clear h
  go_enter Try.func46, Try.ntmps46
  go_wp2_with (first | (go_at_call 54; refine (arePosts_any B A n c zs _ H.out hn).mono ?_; rintro e w' ⟨rfl, rfl⟩) | (go_at_call 80; refine (within_any _ _ _ _).mono ?_; rintro e w' ⟨rfl, rfl⟩))
  go_ret2
  exact ⟨rfl, rfl⟩
set_option maxHeartbeats 1000000 in
theorem iLeapFrom_f (B : Nat) (A : Option Addr) (n c : Nat) (zs : List Int) (fr x : Int) (w : World) (h : Rd w B 1 A n (ints zs)) (hn : n ≤ 1048576) (hg : goodPosts zs = true) (hf : inB fr 0 n = false) :
    Calls Try.prog 46 #[.slice A n c, .int .i64 fr, .int .i64 x] w fun e w' => e = .returned (.tuple #[.int .i64 0, .bool false]) ∧ w = w' := by
  have H := Lib.hid h
  clear h
  go_enter Try.func46, Try.ntmps46
  go_wp2_with (first | (go_at_call 54; refine (arePosts_any B A n c zs _ H.out hn).mono ?_; rintro e w' ⟨rfl, rfl⟩) | (go_at_call 80; refine (within_any _ _ _ _).mono ?_; rintro e w' ⟨rfl, rfl⟩))
  go_ret2
  exact ⟨rfl, rfl⟩
/-- What LeapFrom hands back. -/
theorem iLeapFrom_any (B : Nat) (A : Option Addr) (n c : Nat) (zs : List Int) (fr x : Int) (w : World) (h : Rd w B 1 A n (ints zs)) (hn : n ≤ 1048576) :
    Calls Try.prog 46 #[.slice A n c, .int .i64 fr, .int .i64 x] w fun e w' => e = .returned (.tuple #[.int .i64 (if goodPosts zs && inB fr 0 n then (leap zs x (n - fr.toNat) fr.toNat : Nat) else 0), .bool (goodPosts zs && inB fr 0 n)]) ∧ w = w' := by
  by_cases hg : goodPosts zs = true
  · by_cases hf : inB fr 0 n = true
    · obtain ⟨h0, h1⟩ := inB_iff.1 hf
      obtain ⟨k, rfl⟩ := Int.eq_ofNat_of_zero_le h0
      refine (iLeapFrom_t B A n c zs k x w h hn hg (by omega)).mono fun e w' ⟨he, hw⟩ => ⟨?_, hw⟩
      rw [he, hg, hf]; rfl
    · replace hf : inB fr 0 n = false := by simpa using hf
      refine (iLeapFrom_f B A n c zs fr x w h hn hg hf).mono fun e w' ⟨he, hw⟩ => ⟨?_, hw⟩
      rw [he, hg, hf]; rfl
  · replace hg : goodPosts zs = false := by simpa using hg
    refine (iLeapFrom_g B A n c zs fr x w h hn hg).mono fun e w' ⟨he, hw⟩ => ⟨?_, hw⟩
    rw [he, hg]; rfl
end Go.Proofs.Ytjadjkdihjddoaa
