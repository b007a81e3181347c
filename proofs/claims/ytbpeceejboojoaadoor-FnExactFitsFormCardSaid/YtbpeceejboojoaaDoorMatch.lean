/- Whether a tree fits a text: the reference's walk. -/
import Derived.Test.YtbpeceejboojoaaDoorTreeM
import Derived.Test.YtbpeceejboojoaaDoorFormPlain
import Derived.Deep.QuietTactic
import Derived.BigQuiet
namespace Go.Proofs.YtbpeceejboojoaaDoor
set_option linter.unusedVariables false
set_option linter.unusedSimpArgs false
open Go.RowKit

/-- What a call at some tree and some text hands back. -/
structure MG (w : World) (p : Nat) (S : ByteArray) (v : Bool) : Prop where
  run : ∀ q, Calls Tryd.prog 12 #[.pointer (some ⟨p, 0, none⟩), .string S] (w.drewN q) fun e w' => e = .returned (.bool v) ∧ ∃ m, w' = (w.drewN q).drewN m
theorem TAt.drewN {w : World} {lo hi b q : Nat} {t : Tr} (h : TAt w lo hi t b) : TAt (w.drewN q) lo hi t b := TAt.keep (w := w) (w' := w.drewN q) (Nat.le_refl _) (Nat.le_refl _) (fun _ _ _ => rfl) h
theorem nil_strM {X : ByteArray} (h : X.size = 0) : X = ⟨#[]⟩ := by
  obtain ⟨⟨l⟩⟩ := X
  have : l = [] := List.eq_nil_of_length_eq_zero (by simpa [ByteArray.size] using h)
  subst this
  rfl
theorem ne_strM {X : ByteArray} (h : 0 < X.size) : X.toList.isEmpty = false := by
  rw [ByteArray.toList_eq]
  have hl : X.data.toList.length = X.size := by simp
  cases e : X.data.toList with
  | nil => rw [e] at hl; simp at hl; omega
  | cons c r => rfl
theorem seg_pre (s : ByteArray) (k : Nat) : (s.extract 0 k).data.toList = seg s.data.toList 0 k := by
  rw [ByteArray.data_extract, Array.toList_extract]; rfl
theorem seg_suf (s : ByteArray) (k : Nat) : (s.extract k s.size).data.toList = seg s.data.toList k s.size := by
  rw [ByteArray.data_extract, Array.toList_extract]; rfl
theorem seg_tot (s : ByteArray) : seg s.data.toList 0 s.size = s.data.toList := by
  have h : s.data.toList.length = s.size := by simp
  rw [← h]; unfold seg; rw [List.drop_zero, Nat.sub_zero, List.take_length]
def MT (t : Tr) : Prop := ∀ (lo hi b : Nat) (s : ByteArray) (w : World), TAt w lo hi t b → s.size ≤ 12 → Calls Tryd.prog 12 #[.pointer (some ⟨b, 0, none⟩), .string s] w fun e w' => e = .returned (.bool (mt t s.data.toList)) ∧ ∃ q, w' = w.drewN q
theorem MT.mg {t : Tr} (h : MT t) {w : World} {lo hi p : Nat} {S : ByteArray} (ht : TAt w lo hi t p) (hs : S.size ≤ 12) : MG w p S (mt t S.data.toList) := ⟨fun q => h lo hi p S (w.drewN q) ht.drewN hs⟩
set_option maxRecDepth 100000 in
set_option maxHeartbeats 8000000 in
theorem l5Match_any (t : Tr) : MT t := by
  induction t with
  | none =>
    rintro lo hi b s w ⟨_, _, h⟩ hs
    have h0 := h.c0
    clear h
    go_enter Tryd.func12, Tryd.ntmps12
    go_wp2
    go_ret
    exact ⟨rfl, 0, rfl⟩
  | empty =>
    rintro lo hi b s w ⟨_, _, h⟩ hs
    have h0 := h.c0
    clear h
    by_cases hz : s.size = 0
    · obtain rfl := nil_strM hz
      go_enter Tryd.func12, Tryd.ntmps12
      go_wp2
      go_ret
      exact ⟨rfl, 0, rfl⟩
    · have hne := ne_strM (X := s) (by omega)
      have HE := Lib.hid (show mt .empty s.data.toList = false by show s.data.toList.isEmpty = false; rw [← ByteArray.toList_eq]; exact hne)
      go_enter Tryd.func12, Tryd.ntmps12
      go_wp2
      go_ret
      rw [HE.out]
      exact ⟨rfl, 0, rfl⟩
  | any =>
    rintro lo hi b s w ⟨_, _, h⟩ hs
    have h0 := h.c0
    clear h
    have HE := Lib.hid (show mt .any s.data.toList = decide (s.size = 1) by
      show (s.data.toList.length == 1) = _
      rw [show s.data.toList.length = s.size by simp]
      by_cases h : s.size = 1
      · rw [h]; rfl
      · rw [decide_eq_false h, beq_eq_false_iff_ne]; exact h)
    by_cases h1 : s.size = 1
    · have h1' : (s.size : Int) = 1 := by omega
      rw [decide_eq_true h1] at HE
      go_enter Tryd.func12, Tryd.ntmps12
      go_wp2
      go_ret
      rw [HE.out]
      exact ⟨by simp [h1'], 0, rfl⟩
    · have h1' : ¬ (s.size : Int) = 1 := by omega
      rw [decide_eq_false h1] at HE
      go_enter Tryd.func12, Tryd.ntmps12
      go_wp2
      go_ret
      rw [HE.out]
      exact ⟨by simp [h1'], 0, rfl⟩
  | letter c =>
    rintro lo hi b s w ⟨_, _, h⟩ hs
    have h0 := h.c0
    have h1 := h.c1
    clear h
    obtain ⟨z, hz⟩ : ∃ z : ByteArray, (⟨#[c]⟩ : ByteArray) = z := ⟨_, rfl⟩
    have hzl : z.toList = [c] := by rw [← hz, ByteArray.toList_eq]
    have HE := Lib.hid (show mt (.letter c) s.data.toList = (s.toList == z.toList) by rw [hzl, ByteArray.toList_eq]; rfl)
    rw [hz] at h1
    clear hz hzl
    go_enter Tryd.func12, Tryd.ntmps12
    go_wp2
    try go_quiet (fail)
    go_wp2
    go_ret
    rw [HE.out]
    first | exact ⟨rfl, 0, rfl⟩ | exact ⟨rfl, _, rfl⟩
  | seq x y ihx ihy =>
    rintro lo hi b s w ⟨_, _, p, q, h, hx, hy⟩ hs
    have h0 := h.c0
    have h2 := h.c2
    have h3 := h.c3
    have hsz : s.data.toList.length = s.size := by simp
    obtain ⟨V, hV⟩ : ∃ V, mt (.seq x y) s.data.toList = V := ⟨_, rfl⟩
    obtain ⟨F, hF⟩ : ∃ F : Nat → Bool, (fun k => mt x (seg s.data.toList 0 k) && mt y (seg s.data.toList k s.size)) = F := ⟨_, rfl⟩
    have HV := Lib.hid (show V = someIn F 0 s.size by
      have e := mt_seq_seg (a := x) (b := y) (s := s.data.toList) (i := 0) (j := s.size) (Nat.zero_le _) (by omega)
      rw [seg_tot] at e
      rw [← hV, e, ← hF])
    have HF := Lib.hid (fun k => congrFun hF k)
    have HMX := Lib.hid (fun (m : Nat) (S : ByteArray) (h : S.size ≤ 12) => ihx.mg (S := S) (hx.drewN (q := m)) h)
    have HMY := Lib.hid (fun (m : Nat) (S : ByteArray) (h : S.size ≤ 12) => ihy.mg (S := S) (hy.drewN (q := m)) h)
    rw [hV]
    clear h hx hy ihx ihy hV hF hsz
    go_enter Tryd.func12, Tryd.ntmps12
    go_wp2_with fail
    go_loopw [5] (fun v wr => ∃ k m : Nat, k ≤ s.size + 1 ∧ v = .int .i64 k ∧ V = someIn F k s.size ∧ wr = w.drewN m) (fun v _ => s.size + 1 - (intOf v).toNat)
    case atStart => exact ⟨0, 0, Nat.zero_le _, rfl, HV.out, rfl⟩
    case round =>
      obtain ⟨k, m, hk, rfl, hv, hu⟩ := hrel
      have HQ := Lib.hid hv
      have HU := Lib.hid hu
      have u0 : wr.cell? ⟨b, 0, none⟩ = some (.int .i64 5) := by rw [hu]; exact h0
      have u2 : wr.cell? ⟨b, 2, none⟩ = some (.pointer (some ⟨p, 0, none⟩)) := by rw [hu]; exact h2
      have u3 : wr.cell? ⟨b, 3, none⟩ = some (.pointer (some ⟨q, 0, none⟩)) := by rw [hu]; exact h3
      clear hv
      by_cases hlt : k ≤ s.size
      · have hst := someIn_step (f := F) hlt
        have hFk := HF.out k
        obtain ⟨S1, hS1⟩ : ∃ S, s.extract 0 k = S := ⟨_, rfl⟩
        obtain ⟨S2, hS2⟩ : ∃ S, s.extract k s.size = S := ⟨_, rfl⟩
        have z1 : S1.size ≤ 12 := by rw [← hS1]; simp; omega
        have z2 : S2.size ≤ 12 := by rw [← hS2]; simp; omega
        have g1 := HMX.out m S1 z1
        rw [← hu] at g1
        have g2 := HMY.out m S2 z2
        rw [← hu] at g2
        rw [show S1.data.toList = seg s.data.toList 0 k by rw [← hS1, seg_pre]] at g1
        rw [show S2.data.toList = seg s.data.toList k s.size by rw [← hS2, seg_suf]] at g2
        obtain ⟨va, hva⟩ : ∃ v, mt x (seg s.data.toList 0 k) = v := ⟨_, rfl⟩
        obtain ⟨vb, hvb⟩ : ∃ v, mt y (seg s.data.toList k s.size) = v := ⟨_, rfl⟩
        rw [hva] at g1 hFk
        rw [hvb] at g2 hFk
        rw [← hFk] at hst
        clear hva hvb hFk z1 z2 hu
        cases va with
        | true =>
          cases vb with
          | true =>
            have HE := Lib.hid (show V = true by rw [HQ.out, hst]; rfl)
            clear hst
            go_wp2_with fail
            go_quiet ((go_at_call 12; exact Calls.quiet_of (MG.run (by assumption) _)))
            go_wp2
            go_ret
            rw [HE.out]
            exact ⟨rfl, _, by rw [HU.out, World.drewN_drewN]⟩
          | false =>
            have HE := Lib.hid (show V = someIn F (k + 1) s.size by rw [HQ.out, hst]; rfl)
            clear hst
            go_wp2_with fail
            go_quiet ((go_at_call 12; exact Calls.quiet_of (MG.run (by assumption) _)))
            go_wp2
            go_roundw
            case rel => exact ⟨k + 1, _, by omega, by go_num, HE.out, by rw [HU.out, World.drewN_drewN]⟩
            case measure => simp [intOf]; omega
        | false =>
          have HE := Lib.hid (show V = someIn F (k + 1) s.size by rw [HQ.out, hst]; rfl)
          clear hst
          go_wp2_with fail
          go_quiet ((go_at_call 12; exact Calls.quiet_of (MG.run (by assumption) _)))
          go_wp2
          go_roundw
          case rel => exact ⟨k + 1, _, by omega, by go_num, HE.out, by rw [HU.out, World.drewN_drewN]⟩
          case measure => simp [intOf]; omega
      · have HE := Lib.hid (show V = false by rw [HQ.out]; exact someIn_end (by omega))
        clear hu
        go_wp2
        go_ret
        rw [HE.out]
        exact ⟨rfl, _, HU.out⟩
  | alt x y ihx ihy =>
    rintro lo hi b s w ⟨_, _, p, q, h, hx, hy⟩ hs
    have h0 := h.c0
    have h2 := h.c2
    have h3 := h.c3
    have HMX := Lib.hid (ihx.mg hx hs)
    have HMY := Lib.hid (fun m => ihy.mg (hy.drewN (q := m)) hs)
    show Calls _ _ _ _ fun e w' => e = .returned (.bool (mt x s.data.toList || mt y s.data.toList)) ∧ ∃ q, w' = w.drewN q
    obtain ⟨va, hva⟩ : ∃ v, mt x s.data.toList = v := ⟨_, rfl⟩
    obtain ⟨vb, hvb⟩ : ∃ v, mt y s.data.toList = v := ⟨_, rfl⟩
    rw [hva] at HMX ⊢
    rw [hvb] at HMY ⊢
    clear h hx hy ihx ihy hva hvb
    cases va with
    | true =>
      go_enter Tryd.func12, Tryd.ntmps12
      go_wp2_with fail
      refine (HMX.out.run 0).mono ?_
      rintro e w' ⟨rfl, m, rfl⟩
      go_wp2
      go_ret
      exact ⟨rfl, _, rfl⟩
    | false =>
      go_enter Tryd.func12, Tryd.ntmps12
      go_wp2_with fail
      refine (HMX.out.run 0).mono ?_
      rintro e w' ⟨rfl, m, rfl⟩
      go_wp2_with fail
      refine ((HMY.out m).run 0).mono ?_
      rintro e w' ⟨rfl, m2, rfl⟩
      go_wp2
      go_ret
      exact ⟨by cases vb <;> rfl, m + m2, rfl⟩
  | star x ihx =>
    intro lo hi b s
    obtain ⟨z, hz⟩ : ∃ z, s.size = z := ⟨_, rfl⟩
    induction z using Nat.strongRecOn generalizing s with
    | _ z ihz =>
      rintro w ht hs
      have ht0 := ht
      obtain ⟨_, _, p, h, hx⟩ := ht
      have h0 := h.c0
      have h2 := h.c2
      have hsz : s.data.toList.length = s.size := by simp
      by_cases hs0 : s.size = 0
      · obtain rfl := nil_strM hs0
        clear h hx ht0 ihz ihx
        go_enter Tryd.func12, Tryd.ntmps12
        go_wp2
        go_ret
        exact ⟨rfl, 0, rfl⟩
      · have hne := ne_strM (X := s) (by omega)
        obtain ⟨V, hV⟩ : ∃ V, mt (.star x) s.data.toList = V := ⟨_, rfl⟩
        obtain ⟨F, hF⟩ : ∃ F : Nat → Bool, (fun k => mt x (seg s.data.toList 0 k) && mt (.star x) (seg s.data.toList k s.size)) = F := ⟨_, rfl⟩
        have HV := Lib.hid (show V = someIn F 1 s.size by
          have e := mt_star_seg (a := x) (s := s.data.toList) (i := 0) (j := s.size) (Nat.zero_le _) (by omega)
          rw [seg_tot, decide_eq_false (show ¬ 0 = s.size by omega), Bool.or_false] at e
          rw [← hV, e, ← hF])
        have HF := Lib.hid (fun k => congrFun hF k)
        have HMX := Lib.hid (fun (m : Nat) (S : ByteArray) (h : S.size ≤ 12) => ihx.mg (S := S) (hx.drewN (q := m)) h)
        have HMY := Lib.hid (show ∀ (m : Nat) (S : ByteArray), S.size < z → S.size ≤ 12 → MG (w.drewN m) b S (mt (.star x) S.data.toList) from fun m S hS h => ⟨fun q => ihz S.size hS S rfl _ (ht0.drewN.drewN) h⟩)
        rw [hV]
        have HZ := Lib.hid hz
        clear h hx ht0 ihx ihz hV hF hsz hz
        go_enter Tryd.func12, Tryd.ntmps12
        go_wp2_with fail
        go_loopw [6] (fun v wr => ∃ k m : Nat, 1 ≤ k ∧ k ≤ s.size + 1 ∧ v = .int .i64 k ∧ V = someIn F k s.size ∧ wr = w.drewN m) (fun v _ => s.size + 1 - (intOf v).toNat)
        case atStart => exact ⟨1, 0, Nat.le_refl _, by omega, rfl, HV.out, rfl⟩
        case round =>
          obtain ⟨k, m, hk1, hk, rfl, hv, hu⟩ := hrel
          have HQ := Lib.hid hv
          have HU := Lib.hid hu
          have u0 : wr.cell? ⟨b, 0, none⟩ = some (.int .i64 7) := by rw [hu]; exact h0
          have u2 : wr.cell? ⟨b, 2, none⟩ = some (.pointer (some ⟨p, 0, none⟩)) := by rw [hu]; exact h2
          clear hv
          by_cases hlt : k ≤ s.size
          · have hst := someIn_step (f := F) hlt
            have hFk := HF.out k
            obtain ⟨S1, hS1⟩ : ∃ S, s.extract 0 k = S := ⟨_, rfl⟩
            obtain ⟨S2, hS2⟩ : ∃ S, s.extract k s.size = S := ⟨_, rfl⟩
            have z1 : S1.size ≤ 12 := by rw [← hS1]; simp; omega
            have z2 : S2.size < z := by have := HZ.out; rw [← hS2]; simp; omega
            have z3 : S2.size ≤ 12 := by have := HZ.out; omega
            have g1 := HMX.out m S1 z1
            rw [← hu] at g1
            have g2 := HMY.out m S2 z2 z3
            rw [← hu] at g2
            rw [show S1.data.toList = seg s.data.toList 0 k by rw [← hS1, seg_pre]] at g1
            rw [show S2.data.toList = seg s.data.toList k s.size by rw [← hS2, seg_suf]] at g2
            obtain ⟨va, hva⟩ : ∃ v, mt x (seg s.data.toList 0 k) = v := ⟨_, rfl⟩
            obtain ⟨vb, hvb⟩ : ∃ v, mt (.star x) (seg s.data.toList k s.size) = v := ⟨_, rfl⟩
            rw [hva] at g1 hFk
            rw [hvb] at g2 hFk
            rw [← hFk] at hst
            clear hva hvb hFk z1 z2 z3 hu
            cases va with
            | true =>
              cases vb with
              | true =>
                have HE := Lib.hid (show V = true by rw [HQ.out, hst]; rfl)
                clear hst
                go_wp2_with fail
                go_quiet ((go_at_call 12; exact Calls.quiet_of (MG.run (by assumption) _)))
                go_wp2
                go_ret
                rw [HE.out]
                exact ⟨rfl, _, by rw [HU.out, World.drewN_drewN]⟩
              | false =>
                have HE := Lib.hid (show V = someIn F (k + 1) s.size by rw [HQ.out, hst]; rfl)
                clear hst
                go_wp2_with fail
                go_quiet ((go_at_call 12; exact Calls.quiet_of (MG.run (by assumption) _)))
                go_wp2
                go_roundw
                case rel => exact ⟨k + 1, _, by omega, by omega, by go_num, HE.out, by rw [HU.out, World.drewN_drewN]⟩
                case measure => simp [intOf]; omega
            | false =>
              have HE := Lib.hid (show V = someIn F (k + 1) s.size by rw [HQ.out, hst]; rfl)
              clear hst
              go_wp2_with fail
              go_quiet ((go_at_call 12; exact Calls.quiet_of (MG.run (by assumption) _)))
              go_wp2
              go_roundw
              case rel => exact ⟨k + 1, _, by omega, by omega, by go_num, HE.out, by rw [HU.out, World.drewN_drewN]⟩
              case measure => simp [intOf]; omega
          · have HE := Lib.hid (show V = false by rw [HQ.out]; exact someIn_end (by omega))
            clear hu
            go_wp2
            go_ret
            rw [HE.out]
            exact ⟨rfl, _, HU.out⟩
  | not_ x ihx =>
    rintro lo hi b s w ⟨_, _, p, h, hx⟩ hs
    have h0 := h.c0
    have h2 := h.c2
    have HMX := Lib.hid (ihx.mg hx hs)
    show Calls _ _ _ _ fun e w' => e = .returned (.bool (!mt x s.data.toList)) ∧ ∃ q, w' = w.drewN q
    obtain ⟨va, hva⟩ : ∃ v, mt x s.data.toList = v := ⟨_, rfl⟩
    rw [hva] at HMX ⊢
    clear h hx ihx hva
    go_enter Tryd.func12, Tryd.ntmps12
    go_wp2_with fail
    refine (HMX.out.run 0).mono ?_
    rintro e w' ⟨rfl, m, rfl⟩
    go_wp2
    go_ret
    exact ⟨rfl, _, rfl⟩
end Go.Proofs.YtbpeceejboojoaaDoor
