/- The program's test on queries. -/
import Derived.Test.YtpdclppieicaeaaGoodQry
namespace Go.Proofs.Ytpdclppieicaeaa
set_option linter.unusedVariables false
set_option linter.unusedSimpArgs false
open Go.RowKit
set_option maxRecDepth 100000 in
set_option maxHeartbeats 8000000 in
theorem isQuery_any (B : Nat) (A : Option Addr) (n c : Nat) (l : List Qry) (w : World) (hBw : B ≤ w.heap.size) (h : Rd w B 5 A n (qrys l)) (hn : n ≤ 1048576) (hok : ∀ p ∈ l, p.name.size ≤ 1048576 ∧ p.value.size ≤ 1048576) :
    Calls Try.prog 47 #[.slice A n c] w fun e w' => e = .returned (.bool (goodQry l)) ∧ Below w.heap.size w w' := by
  have hlen := h.qry_len
  have HL := Lib.hid hlen
  have H := Lib.hid h
  have HO := Lib.hid hok
  clear h hlen hok
  go_enter Try.func47, Try.ntmps47
  go_wp2
  go_loopw [9] (fun i wr => ∃ k : Nat, k ≤ n ∧ i = .int .i64 k ∧ (∀ j, j < k → qryAt l j = true) ∧ Below w.heap.size w wr) (fun i _ => n - (intOf i).toNat)
  case atStart => exact ⟨0, Nat.zero_le _, rfl, fun j hj => absurd hj (by omega), Below.refl _ _⟩
  case round =>
    obtain ⟨k, hk, rfl, hok, hb⟩ := hrel
    have HK := Lib.hid hok
    have HB := Lib.hid hb
    have hsz := hb.size
    clear hok hb
    by_cases hlt : k < n
    · skip
      obtain ⟨b0, off, kd, x, y, a, b, rfl, hbB, hx, hc0, hc1, hc2, hc3, hc4⟩ := H.out.qry_at hlt
      have hd0 : wr.cell? ⟨b0, off + k * 5, none⟩ = some (.int .i64 kd) := (bcell HB.out _ _ (by omega)).trans hc0
      have hd1 : wr.cell? ⟨b0, off + k * 5 + 1, none⟩ = some (.string x) := (bcell HB.out _ _ (by omega)).trans hc1
      have hd2 : wr.cell? ⟨b0, off + k * 5 + 2, none⟩ = some (.string y) := (bcell HB.out _ _ (by omega)).trans hc2
      have hd3 : wr.cell? ⟨b0, off + k * 5 + 3, none⟩ = some (.int .i64 a) := (bcell HB.out _ _ (by omega)).trans hc3
      have hd4 : wr.cell? ⟨b0, off + k * 5 + 4, none⟩ = some (.int .i64 b) := (bcell HB.out _ _ (by omega)).trans hc4
      have HX := Lib.hid hx
      have hoS := HO.out _ (List.mem_of_getElem? hx)
      have HS := Lib.hid hoS
      clear hx hc0 hc1 hc2 hc3 hc4 hoS
      have HA := Lib.hid (fun e : qryOk ⟨kd, x, y, a, b⟩ k = true => ((fun j hj => by
        rcases (show j < k ∨ j = k by omega) with h | rfl
        · exact HK.out j h
        · rw [qryAt_eq HX.out]; exact e) : ∀ j, j < k + 1 → qryAt l j = true))
      have HF := Lib.hid (fun e : qryOk ⟨kd, x, y, a, b⟩ k = false => retB (goodQ_bad (k := k) (by have := HL.out; omega) ((qryAt_eq HX.out).trans e)).symm)
      obtain ⟨v, hv⟩ : ∃ v, labOk (x, y) = v := ⟨_, rfl⟩
      have CV := Lib.hid (fun w' : World => isLabel_any x y w' HS.out.1 HS.out.2)
      rw [hv] at CV
      obtain ⟨pa, hpa⟩ : ∃ pa, inB a 0 ((k : Int) - 1) = pa := ⟨_, rfl⟩
      have CA := Lib.hid (fun w' : World => within_any a 0 ((k : Int) - 1) w')
      rw [hpa] at CA
      obtain ⟨pb, hpb⟩ : ∃ pb, inB b 0 ((k : Int) - 1) = pb := ⟨_, rfl⟩
      have CB := Lib.hid (fun w' : World => within_any b 0 ((k : Int) - 1) w')
      rw [hpb] at CB
      have HPA := Lib.hid hpa
      have HPB := Lib.hid hpb
      have HV := Lib.hid hv
      clear hpa hpb hv
      by_cases h1 : kd = 1
      · subst h1
        clear CV CA CB
        go_wp2
        all_goals first
            | (go_ret; exact ⟨HF.out (by (first | exact q0_f (by omega) (by omega) (by omega) (by omega) (by omega) | exact q1_f (.inl (by assumption)) | exact q1_f (.inr (.inl (by assumption))) | exact q1_f (.inr (.inr (.inl (by assumption)))) | exact q1_f (.inr (.inr (.inr (by assumption)))) | exact q2_f (.inl (by assumption)) | exact q2_f (.inr (.inl (by assumption))) | exact q2_f (.inr (.inr (by assumption))) | exact q3_f (by omega) (.inl (by assumption)) | exact q3_f (by omega) (.inr (.inl (by assumption))) | exact q3_f (by omega) (.inr (.inr (.inl (by assumption)))) | exact q3_f (by omega) (.inr (.inr (.inr (by assumption)))) | exact q5_f (.inl (by assumption)) | exact q5_f (.inr (.inl (by assumption))) | exact q5_f (.inr (.inr (.inl (by assumption)))) | exact q5_f (.inr (.inr (.inr (by assumption)))))), (HB.out.alloc hsz _).alloc (by simp; omega) _⟩)
            | (go_roundw; (case rel => exact ⟨k + 1, by omega, rfl, HA.out (by (first | exact q1_t (by (first | assumption | rfl)) (by (first | assumption | rfl)) (by (first | assumption | rfl)) (by (first | assumption | rfl)) | exact q2_t (by (first | assumption | rfl)) (by (first | assumption | rfl)) (by (first | assumption | rfl)) | exact q3_t (by omega) (by (first | assumption | rfl)) (by (first | assumption | rfl)) (by (first | assumption | rfl)) (by (first | assumption | rfl)) | exact q5_t (by (first | assumption | rfl)) (by (first | assumption | rfl)) (by (first | assumption | rfl)) (by (first | assumption | rfl)))), (HB.out.alloc hsz _).alloc (by simp; omega) _⟩); (case measure => simp [intOf]; omega))
      by_cases h2 : kd = 2
      · subst h2
        clear CA CB
        have HV := HV.out
        cases v
        all_goals
          go_wp2_with fail
          refine (CV.out _).mono ?_
          rintro e w2 ⟨rfl, hb2⟩
          have cn : ∀ (k : Nat) (v : Value), (#[Value.int .i64 0, .string x, .string y, .int .i64 a, .int .i64 b] : Array Value)[k]? = some v → w2.cell? ⟨wr.heap.size + 1, k, none⟩ = some v := fun k v h => (hb2.cell (p := ⟨wr.heap.size + 1, k, none⟩) (by simp)).trans ((World.cell?_alloc_at _ _ _ _ (by simp)).trans h)
          have c0 := cn 0 _ rfl
          have c1 := cn 1 _ rfl
          have c2 := cn 2 _ rfl
          have c3 := cn 3 _ rfl
          have c4 := cn 4 _ rfl
          have fz : ∀ k, w2.frozen? ⟨wr.heap.size + 1, k, none⟩ = false := fun k => (hb2.frozen (p := ⟨wr.heap.size + 1, k, none⟩) (by simp)).trans (World.frozen?_alloc_at _ _ _ _ (by simp))
          have HB2 := Lib.hid (((HB.out.alloc hsz _).alloc (by simp; omega) _).trans (hb2.mono (by simp; omega)))
          clear hb2 cn
          go_wp2
        all_goals first
            | (go_ret; exact ⟨HF.out (by (first | exact q0_f (by omega) (by omega) (by omega) (by omega) (by omega) | exact q1_f (.inl (by assumption)) | exact q1_f (.inr (.inl (by assumption))) | exact q1_f (.inr (.inr (.inl (by assumption)))) | exact q1_f (.inr (.inr (.inr (by assumption)))) | exact q2_f (.inl (by assumption)) | exact q2_f (.inr (.inl (by assumption))) | exact q2_f (.inr (.inr (by assumption))) | exact q3_f (by omega) (.inl (by assumption)) | exact q3_f (by omega) (.inr (.inl (by assumption))) | exact q3_f (by omega) (.inr (.inr (.inl (by assumption)))) | exact q3_f (by omega) (.inr (.inr (.inr (by assumption)))) | exact q5_f (.inl (by assumption)) | exact q5_f (.inr (.inl (by assumption))) | exact q5_f (.inr (.inr (.inl (by assumption)))) | exact q5_f (.inr (.inr (.inr (by assumption)))))), (HB2.out.setCell (p := ⟨wr.heap.size + 1, _, none⟩) (by simp; omega) _).setCell (p := ⟨wr.heap.size + 1, _, none⟩) (by simp; omega) _⟩)
            | (go_roundw; (case rel => exact ⟨k + 1, by omega, rfl, HA.out (by (first | exact q1_t (by (first | assumption | rfl)) (by (first | assumption | rfl)) (by (first | assumption | rfl)) (by (first | assumption | rfl)) | exact q2_t (by (first | assumption | rfl)) (by (first | assumption | rfl)) (by (first | assumption | rfl)) | exact q3_t (by omega) (by (first | assumption | rfl)) (by (first | assumption | rfl)) (by (first | assumption | rfl)) (by (first | assumption | rfl)) | exact q5_t (by (first | assumption | rfl)) (by (first | assumption | rfl)) (by (first | assumption | rfl)) (by (first | assumption | rfl)))), (HB2.out.setCell (p := ⟨wr.heap.size + 1, _, none⟩) (by simp; omega) _).setCell (p := ⟨wr.heap.size + 1, _, none⟩) (by simp; omega) _⟩); (case measure => simp [intOf]; omega))
      by_cases h3 : kd = 3
      · subst h3
        clear CV
        have HPA := HPA.out
        have HPB := HPB.out
        cases pa
        · go_wp2_with fail
          refine (CA.out _).mono ?_
          rintro e w' ⟨rfl, rfl⟩
          go_wp2_with fail
          all_goals first
            | (go_ret; exact ⟨HF.out (by (first | exact q0_f (by omega) (by omega) (by omega) (by omega) (by omega) | exact q1_f (.inl (by assumption)) | exact q1_f (.inr (.inl (by assumption))) | exact q1_f (.inr (.inr (.inl (by assumption)))) | exact q1_f (.inr (.inr (.inr (by assumption)))) | exact q2_f (.inl (by assumption)) | exact q2_f (.inr (.inl (by assumption))) | exact q2_f (.inr (.inr (by assumption))) | exact q3_f (by omega) (.inl (by assumption)) | exact q3_f (by omega) (.inr (.inl (by assumption))) | exact q3_f (by omega) (.inr (.inr (.inl (by assumption)))) | exact q3_f (by omega) (.inr (.inr (.inr (by assumption)))) | exact q5_f (.inl (by assumption)) | exact q5_f (.inr (.inl (by assumption))) | exact q5_f (.inr (.inr (.inl (by assumption)))) | exact q5_f (.inr (.inr (.inr (by assumption)))))), (HB.out.alloc hsz _).alloc (by simp; omega) _⟩)
            | (go_roundw; (case rel => exact ⟨k + 1, by omega, rfl, HA.out (by (first | exact q1_t (by (first | assumption | rfl)) (by (first | assumption | rfl)) (by (first | assumption | rfl)) (by (first | assumption | rfl)) | exact q2_t (by (first | assumption | rfl)) (by (first | assumption | rfl)) (by (first | assumption | rfl)) | exact q3_t (by omega) (by (first | assumption | rfl)) (by (first | assumption | rfl)) (by (first | assumption | rfl)) (by (first | assumption | rfl)) | exact q5_t (by (first | assumption | rfl)) (by (first | assumption | rfl)) (by (first | assumption | rfl)) (by (first | assumption | rfl)))), (HB.out.alloc hsz _).alloc (by simp; omega) _⟩); (case measure => simp [intOf]; omega))
        · cases pb
          all_goals
            go_wp2_with fail
            refine (CA.out _).mono ?_
            rintro e w' ⟨rfl, rfl⟩
            go_wp2_with fail
            refine (CB.out _).mono ?_
            rintro e w' ⟨rfl, rfl⟩
            go_wp2_with fail
          all_goals first
            | (go_ret; exact ⟨HF.out (by (first | exact q0_f (by omega) (by omega) (by omega) (by omega) (by omega) | exact q1_f (.inl (by assumption)) | exact q1_f (.inr (.inl (by assumption))) | exact q1_f (.inr (.inr (.inl (by assumption)))) | exact q1_f (.inr (.inr (.inr (by assumption)))) | exact q2_f (.inl (by assumption)) | exact q2_f (.inr (.inl (by assumption))) | exact q2_f (.inr (.inr (by assumption))) | exact q3_f (by omega) (.inl (by assumption)) | exact q3_f (by omega) (.inr (.inl (by assumption))) | exact q3_f (by omega) (.inr (.inr (.inl (by assumption)))) | exact q3_f (by omega) (.inr (.inr (.inr (by assumption)))) | exact q5_f (.inl (by assumption)) | exact q5_f (.inr (.inl (by assumption))) | exact q5_f (.inr (.inr (.inl (by assumption)))) | exact q5_f (.inr (.inr (.inr (by assumption)))))), (HB.out.alloc hsz _).alloc (by simp; omega) _⟩)
            | (go_roundw; (case rel => exact ⟨k + 1, by omega, rfl, HA.out (by (first | exact q1_t (by (first | assumption | rfl)) (by (first | assumption | rfl)) (by (first | assumption | rfl)) (by (first | assumption | rfl)) | exact q2_t (by (first | assumption | rfl)) (by (first | assumption | rfl)) (by (first | assumption | rfl)) | exact q3_t (by omega) (by (first | assumption | rfl)) (by (first | assumption | rfl)) (by (first | assumption | rfl)) (by (first | assumption | rfl)) | exact q5_t (by (first | assumption | rfl)) (by (first | assumption | rfl)) (by (first | assumption | rfl)) (by (first | assumption | rfl)))), (HB.out.alloc hsz _).alloc (by simp; omega) _⟩); (case measure => simp [intOf]; omega))
      by_cases h4 : kd = 4
      · subst h4
        clear CV
        have HPA := HPA.out
        have HPB := HPB.out
        cases pa
        · go_wp2_with fail
          refine (CA.out _).mono ?_
          rintro e w' ⟨rfl, rfl⟩
          go_wp2_with fail
          all_goals first
            | (go_ret; exact ⟨HF.out (by (first | exact q0_f (by omega) (by omega) (by omega) (by omega) (by omega) | exact q1_f (.inl (by assumption)) | exact q1_f (.inr (.inl (by assumption))) | exact q1_f (.inr (.inr (.inl (by assumption)))) | exact q1_f (.inr (.inr (.inr (by assumption)))) | exact q2_f (.inl (by assumption)) | exact q2_f (.inr (.inl (by assumption))) | exact q2_f (.inr (.inr (by assumption))) | exact q3_f (by omega) (.inl (by assumption)) | exact q3_f (by omega) (.inr (.inl (by assumption))) | exact q3_f (by omega) (.inr (.inr (.inl (by assumption)))) | exact q3_f (by omega) (.inr (.inr (.inr (by assumption)))) | exact q5_f (.inl (by assumption)) | exact q5_f (.inr (.inl (by assumption))) | exact q5_f (.inr (.inr (.inl (by assumption)))) | exact q5_f (.inr (.inr (.inr (by assumption)))))), (HB.out.alloc hsz _).alloc (by simp; omega) _⟩)
            | (go_roundw; (case rel => exact ⟨k + 1, by omega, rfl, HA.out (by (first | exact q1_t (by (first | assumption | rfl)) (by (first | assumption | rfl)) (by (first | assumption | rfl)) (by (first | assumption | rfl)) | exact q2_t (by (first | assumption | rfl)) (by (first | assumption | rfl)) (by (first | assumption | rfl)) | exact q3_t (by omega) (by (first | assumption | rfl)) (by (first | assumption | rfl)) (by (first | assumption | rfl)) (by (first | assumption | rfl)) | exact q5_t (by (first | assumption | rfl)) (by (first | assumption | rfl)) (by (first | assumption | rfl)) (by (first | assumption | rfl)))), (HB.out.alloc hsz _).alloc (by simp; omega) _⟩); (case measure => simp [intOf]; omega))
        · cases pb
          all_goals
            go_wp2_with fail
            refine (CA.out _).mono ?_
            rintro e w' ⟨rfl, rfl⟩
            go_wp2_with fail
            refine (CB.out _).mono ?_
            rintro e w' ⟨rfl, rfl⟩
            go_wp2_with fail
          all_goals first
            | (go_ret; exact ⟨HF.out (by (first | exact q0_f (by omega) (by omega) (by omega) (by omega) (by omega) | exact q1_f (.inl (by assumption)) | exact q1_f (.inr (.inl (by assumption))) | exact q1_f (.inr (.inr (.inl (by assumption)))) | exact q1_f (.inr (.inr (.inr (by assumption)))) | exact q2_f (.inl (by assumption)) | exact q2_f (.inr (.inl (by assumption))) | exact q2_f (.inr (.inr (by assumption))) | exact q3_f (by omega) (.inl (by assumption)) | exact q3_f (by omega) (.inr (.inl (by assumption))) | exact q3_f (by omega) (.inr (.inr (.inl (by assumption)))) | exact q3_f (by omega) (.inr (.inr (.inr (by assumption)))) | exact q5_f (.inl (by assumption)) | exact q5_f (.inr (.inl (by assumption))) | exact q5_f (.inr (.inr (.inl (by assumption)))) | exact q5_f (.inr (.inr (.inr (by assumption)))))), (HB.out.alloc hsz _).alloc (by simp; omega) _⟩)
            | (go_roundw; (case rel => exact ⟨k + 1, by omega, rfl, HA.out (by (first | exact q1_t (by (first | assumption | rfl)) (by (first | assumption | rfl)) (by (first | assumption | rfl)) (by (first | assumption | rfl)) | exact q2_t (by (first | assumption | rfl)) (by (first | assumption | rfl)) (by (first | assumption | rfl)) | exact q3_t (by omega) (by (first | assumption | rfl)) (by (first | assumption | rfl)) (by (first | assumption | rfl)) (by (first | assumption | rfl)) | exact q5_t (by (first | assumption | rfl)) (by (first | assumption | rfl)) (by (first | assumption | rfl)) (by (first | assumption | rfl)))), (HB.out.alloc hsz _).alloc (by simp; omega) _⟩); (case measure => simp [intOf]; omega))
      by_cases h5 : kd = 5
      · subst h5
        clear CV CB
        have HPA := HPA.out
        cases pa
        all_goals
          go_wp2_with fail
          refine (CA.out _).mono ?_
          rintro e w' ⟨rfl, rfl⟩
          go_wp2_with fail
        all_goals first
            | (go_ret; exact ⟨HF.out (by (first | exact q0_f (by omega) (by omega) (by omega) (by omega) (by omega) | exact q1_f (.inl (by assumption)) | exact q1_f (.inr (.inl (by assumption))) | exact q1_f (.inr (.inr (.inl (by assumption)))) | exact q1_f (.inr (.inr (.inr (by assumption)))) | exact q2_f (.inl (by assumption)) | exact q2_f (.inr (.inl (by assumption))) | exact q2_f (.inr (.inr (by assumption))) | exact q3_f (by omega) (.inl (by assumption)) | exact q3_f (by omega) (.inr (.inl (by assumption))) | exact q3_f (by omega) (.inr (.inr (.inl (by assumption)))) | exact q3_f (by omega) (.inr (.inr (.inr (by assumption)))) | exact q5_f (.inl (by assumption)) | exact q5_f (.inr (.inl (by assumption))) | exact q5_f (.inr (.inr (.inl (by assumption)))) | exact q5_f (.inr (.inr (.inr (by assumption)))))), (HB.out.alloc hsz _).alloc (by simp; omega) _⟩)
            | (go_roundw; (case rel => exact ⟨k + 1, by omega, rfl, HA.out (by (first | exact q1_t (by (first | assumption | rfl)) (by (first | assumption | rfl)) (by (first | assumption | rfl)) (by (first | assumption | rfl)) | exact q2_t (by (first | assumption | rfl)) (by (first | assumption | rfl)) (by (first | assumption | rfl)) | exact q3_t (by omega) (by (first | assumption | rfl)) (by (first | assumption | rfl)) (by (first | assumption | rfl)) (by (first | assumption | rfl)) | exact q5_t (by (first | assumption | rfl)) (by (first | assumption | rfl)) (by (first | assumption | rfl)) (by (first | assumption | rfl)))), (HB.out.alloc hsz _).alloc (by simp; omega) _⟩); (case measure => simp [intOf]; omega))
      · clear CA CB CV
        go_wp2
        all_goals first
            | (go_ret; exact ⟨HF.out (by (first | exact q0_f (by omega) (by omega) (by omega) (by omega) (by omega) | exact q1_f (.inl (by assumption)) | exact q1_f (.inr (.inl (by assumption))) | exact q1_f (.inr (.inr (.inl (by assumption)))) | exact q1_f (.inr (.inr (.inr (by assumption)))) | exact q2_f (.inl (by assumption)) | exact q2_f (.inr (.inl (by assumption))) | exact q2_f (.inr (.inr (by assumption))) | exact q3_f (by omega) (.inl (by assumption)) | exact q3_f (by omega) (.inr (.inl (by assumption))) | exact q3_f (by omega) (.inr (.inr (.inl (by assumption)))) | exact q3_f (by omega) (.inr (.inr (.inr (by assumption)))) | exact q5_f (.inl (by assumption)) | exact q5_f (.inr (.inl (by assumption))) | exact q5_f (.inr (.inr (.inl (by assumption)))) | exact q5_f (.inr (.inr (.inr (by assumption)))))), (HB.out.alloc hsz _).alloc (by simp; omega) _⟩)
            | (go_roundw; (case rel => exact ⟨k + 1, by omega, rfl, HA.out (by (first | exact q1_t (by (first | assumption | rfl)) (by (first | assumption | rfl)) (by (first | assumption | rfl)) (by (first | assumption | rfl)) | exact q2_t (by (first | assumption | rfl)) (by (first | assumption | rfl)) (by (first | assumption | rfl)) | exact q3_t (by omega) (by (first | assumption | rfl)) (by (first | assumption | rfl)) (by (first | assumption | rfl)) (by (first | assumption | rfl)) | exact q5_t (by (first | assumption | rfl)) (by (first | assumption | rfl)) (by (first | assumption | rfl)) (by (first | assumption | rfl)))), (HB.out.alloc hsz _).alloc (by simp; omega) _⟩); (case measure => simp [intOf]; omega))
    · have hk' : k = n := by omega
      subst hk'
      have e := HL.out
      have HE := Lib.hid ((goodQ_all (by rw [HL.out]; exact HK.out) : goodQry l = inB l.length 1 20))
      clear HK e
      go_wp2_with fail
      refine (within_any _ _ _ _).mono ?_
      rintro e w' ⟨rfl, rfl⟩
      go_wp2
      go_ret
      exact ⟨retB (by rw [HE.out, HL.out]), HB.out⟩
end Go.Proofs.Ytpdclppieicaeaa
