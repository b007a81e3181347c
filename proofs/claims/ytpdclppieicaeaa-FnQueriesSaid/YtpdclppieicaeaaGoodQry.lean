/- The tests on queries of the reference and of the program. -/
import Derived.Test.YtpdclppieicaeaaQrys
import Derived.Test.YtpdclppieicaeaaGoodLab
namespace Go.Proofs.Ytpdclppieicaeaa
set_option linter.unusedVariables false
set_option linter.unusedSimpArgs false
open Go.RowKit

theorem empS_iff {x : ByteArray} : empS x = true ↔ x.toList = [] := by
  rw [ByteArray.toList_eq]; unfold empS; exact List.isEmpty_iff
theorem empS_no {x : ByteArray} (h : ¬ x.toList = []) : empS x = false := by
  rw [← Bool.not_eq_true, empS_iff]; exact h
theorem qryAt_eq {l : List Qry} {k : Nat} {p : Qry} (h : l[k]? = some p) : qryAt l k = qryOk p k := by unfold qryAt; rw [List.getD, h]; rfl
theorem goodQ_bad {l : List Qry} {k : Nat} (hk : k < l.length) (h : qryAt l k = false) : goodQry l = false := by unfold goodQry; rw [allAt_f k hk h]; rfl
theorem goodQ_all {l : List Qry} (h : ∀ k, k < l.length → qryAt l k = true) : goodQry l = inB l.length 1 20 := by
  unfold goodQry inB
  rw [allAt_t h, Bool.eq_iff_iff]
  simp
  omega
set_option maxRecDepth 100000 in
set_option maxHeartbeats 1000000 in
theorem l4Label_any (x y : ByteArray) (w : World) (hx : x.size ≤ 1048576) (hy : y.size ≤ 1048576) :
    Calls Try.prog 36 #[.agg #[.string x, .string y]] w fun e w' => e = .returned (.bool (labOk (x, y))) ∧ Below w.heap.size w w' := by
  have C1 := Lib.hid (fun w => l3Name_any x false w hx)
  have C2 := Lib.hid (fun w => l3Name_any y true w hy)
  obtain ⟨R, hR⟩ : ∃ R, R = labOk (x, y) := ⟨_, rfl⟩
  have HR := Lib.hid (show R = (wordOk false x && wordOk true y) from hR)
  rw [← hR]
  clear hR
  generalize wordOk false x = p at C1 HR
  generalize wordOk true y = q at C2 HR
  cases p with
  | true =>
    have e := HR.out
    rw [Bool.true_and] at e
    subst e
    go_enter Try.func36, Try.ntmps36
    go_wp2_with fail
    refine (C1.out _).mono ?_
    rintro e w' ⟨rfl, rfl⟩
    go_wp2_with fail
    refine (C2.out _).mono ?_
    rintro e w' ⟨rfl, rfl⟩
    go_wp2
    go_ret
    exact ⟨rfl, (Below.refl _ _).alloc (Nat.le_refl _) _⟩
  | false =>
    have e := HR.out
    rw [Bool.false_and] at e
    subst e
    go_enter Try.func36, Try.ntmps36
    go_wp2_with fail
    refine (C1.out _).mono ?_
    rintro e w' ⟨rfl, rfl⟩
    go_wp2
    go_ret
    exact ⟨rfl, (Below.refl _ _).alloc (Nat.le_refl _) _⟩
section
variable {x y : ByteArray} {a b : Int} {k : Nat}
theorem q1_t (hx : x.toList = []) (hy : y.toList = []) (ha : a = 0) (hb : b = 0) : qryOk ⟨1, x, y, a, b⟩ k = true := by subst ha; subst hb; simp [qryOk, empS_iff.2 hx, empS_iff.2 hy]
theorem q1_f (h : ¬ x.toList = [] ∨ ¬ y.toList = [] ∨ a ≠ 0 ∨ b ≠ 0) : qryOk ⟨1, x, y, a, b⟩ k = false := by
  unfold qryOk
  rcases h with h | h | h | h <;> simp [h, empS_no]
theorem q2_t (h : labOk (x, y) = true) (ha : a = 0) (hb : b = 0) : qryOk ⟨2, x, y, a, b⟩ k = true := by subst ha; subst hb; simp [qryOk, h]
theorem q2_f (h : labOk (x, y) = false ∨ a ≠ 0 ∨ b ≠ 0) : qryOk ⟨2, x, y, a, b⟩ k = false := by
  unfold qryOk
  rcases h with h | h | h <;> simp [h]
theorem q3_t {kd : Int} (hk : kd = 3 ∨ kd = 4) (hx : x.toList = []) (hy : y.toList = []) (ha : inB a 0 ((k : Int) - 1) = true) (hb : inB b 0 ((k : Int) - 1) = true) : qryOk ⟨kd, x, y, a, b⟩ k = true := by
  rcases hk with rfl | rfl <;> simp [qryOk, empS_iff.2 hx, empS_iff.2 hy, ha, hb]
theorem q3_f {kd : Int} (hk : kd = 3 ∨ kd = 4) (h : ¬ x.toList = [] ∨ ¬ y.toList = [] ∨ inB a 0 ((k : Int) - 1) = false ∨ inB b 0 ((k : Int) - 1) = false) : qryOk ⟨kd, x, y, a, b⟩ k = false := by
  unfold qryOk
  rcases hk with rfl | rfl <;> rcases h with h | h | h | h <;> simp [h, empS_no]
theorem q5_t (hx : x.toList = []) (hy : y.toList = []) (ha : inB a 0 ((k : Int) - 1) = true) (hb : b = 0) : qryOk ⟨5, x, y, a, b⟩ k = true := by
  subst hb; simp [qryOk, empS_iff.2 hx, empS_iff.2 hy, ha]
theorem q5_f (h : ¬ x.toList = [] ∨ ¬ y.toList = [] ∨ inB a 0 ((k : Int) - 1) = false ∨ b ≠ 0) : qryOk ⟨5, x, y, a, b⟩ k = false := by
  unfold qryOk
  rcases h with h | h | h | h <;> simp [h, empS_no]
theorem q0_f {kd : Int} (h1 : kd ≠ 1) (h2 : kd ≠ 2) (h3 : kd ≠ 3) (h4 : kd ≠ 4) (h5 : kd ≠ 5) : qryOk ⟨kd, x, y, a, b⟩ k = false := by
  simp [qryOk, h1, h2, h3, h4, h5]
end

set_option maxRecDepth 100000 in
set_option maxHeartbeats 8000000 in
theorem sGoodQuery_any (B : Nat) (A : Option Addr) (n c : Nat) (l : List Qry) (w : World) (hBw : B ≤ w.heap.size) (h : Rd w B 5 A n (qrys l)) (hn : n ≤ 1048576) (hok : ∀ p ∈ l, p.name.size ≤ 1048576 ∧ p.value.size ≤ 1048576) :
    Calls Try.prog 26 #[.slice A n c] w fun e w' => e = .returned (.bool (goodQry l)) ∧ Below w.heap.size w w' := by
  have hlen := h.qry_len
  have HL := Lib.hid hlen
  have H := Lib.hid h
  have HO := Lib.hid hok
  clear h hlen hok
  go_enter Try.func26, Try.ntmps26
  go_wp2
  go_loopw [8] (fun i wr => ∃ k : Nat, k ≤ n ∧ i = .int .i64 k ∧ (∀ j, j < k → qryAt l j = true) ∧ Below w.heap.size w wr) (fun i _ => n - (intOf i).toNat)
  case atStart => exact ⟨0, Nat.zero_le _, rfl, fun j hj => absurd hj (by omega), Below.refl _ _⟩
  case round =>
    obtain ⟨k, hk, rfl, hok, hb⟩ := hrel
    have HK := Lib.hid hok
    have HB := Lib.hid hb
    have hsz := hb.size
    clear hok hb
    by_cases hlt : k < n
    · skip
      obtain ⟨b0, off, kd, x, y, a, b, rfl, hbB, hx, hc0, hc1, hc2, hc3, hc4⟩ := H.out.qry_at hlt
      have hd0 : wr.cell? ⟨b0, off + k * 5, none⟩ = some (.int .i64 kd) := (bcell HB.out _ _ (by omega)).trans hc0
      have hd1 : wr.cell? ⟨b0, off + k * 5 + 1, none⟩ = some (.string x) := (bcell HB.out _ _ (by omega)).trans hc1
      have hd2 : wr.cell? ⟨b0, off + k * 5 + 2, none⟩ = some (.string y) := (bcell HB.out _ _ (by omega)).trans hc2
      have hd3 : wr.cell? ⟨b0, off + k * 5 + 3, none⟩ = some (.int .i64 a) := (bcell HB.out _ _ (by omega)).trans hc3
      have hd4 : wr.cell? ⟨b0, off + k * 5 + 4, none⟩ = some (.int .i64 b) := (bcell HB.out _ _ (by omega)).trans hc4
      have HX := Lib.hid hx
      have hoS := HO.out _ (List.mem_of_getElem? hx)
      have HS := Lib.hid hoS
      clear hx hc0 hc1 hc2 hc3 hc4 hoS
      have HA := Lib.hid (fun e : qryOk ⟨kd, x, y, a, b⟩ k = true => ((fun j hj => by
        rcases (show j < k ∨ j = k by omega) with h | rfl
        · exact HK.out j h
        · rw [qryAt_eq HX.out]; exact e) : ∀ j, j < k + 1 → qryAt l j = true))
      have HF := Lib.hid (fun e : qryOk ⟨kd, x, y, a, b⟩ k = false => retB (goodQ_bad (k := k) (by have := HL.out; omega) ((qryAt_eq HX.out).trans e)).symm)
      obtain ⟨v, hv⟩ : ∃ v, labOk (x, y) = v := ⟨_, rfl⟩
      have CV := Lib.hid (fun w' : World => l4Label_any x y w' HS.out.1 HS.out.2)
      rw [hv] at CV
      obtain ⟨pa, hpa⟩ : ∃ pa, inB a 0 ((k : Int) - 1) = pa := ⟨_, rfl⟩
      have CA := Lib.hid (fun w' : World => l1In_any a 0 ((k : Int) - 1) w')
      rw [hpa] at CA
      obtain ⟨pb, hpb⟩ : ∃ pb, inB b 0 ((k : Int) - 1) = pb := ⟨_, rfl⟩
      have CB := Lib.hid (fun w' : World => l1In_any b 0 ((k : Int) - 1) w')
      rw [hpb] at CB
      have HPA := Lib.hid hpa
      have HPB := Lib.hid hpb
      have HV := Lib.hid hv
      clear hpa hpb hv
      by_cases h1 : kd = 1
      · subst h1
        clear CV CA CB
        go_wp2
        all_goals first
          | (go_ret; exact ⟨HF.out (by (first | exact q0_f (by omega) (by omega) (by omega) (by omega) (by omega) | exact q1_f (.inl (by assumption)) | exact q1_f (.inr (.inl (by assumption))) | exact q1_f (.inr (.inr (.inl (by assumption)))) | exact q1_f (.inr (.inr (.inr (by assumption)))) | exact q2_f (.inl (by assumption)) | exact q2_f (.inr (.inl (by assumption))) | exact q2_f (.inr (.inr (by assumption))) | exact q3_f (by omega) (.inl (by assumption)) | exact q3_f (by omega) (.inr (.inl (by assumption))) | exact q3_f (by omega) (.inr (.inr (.inl (by assumption)))) | exact q3_f (by omega) (.inr (.inr (.inr (by assumption)))) | exact q5_f (.inl (by assumption)) | exact q5_f (.inr (.inl (by assumption))) | exact q5_f (.inr (.inr (.inl (by assumption)))) | exact q5_f (.inr (.inr (.inr (by assumption)))))), HB.out.alloc hsz _⟩)
          | (go_roundw; (case rel => exact ⟨k + 1, by omega, rfl, HA.out (by (first | exact q1_t (by (first | assumption | rfl)) (by (first | assumption | rfl)) (by (first | assumption | rfl)) (by (first | assumption | rfl)) | exact q2_t (by (first | assumption | rfl)) (by (first | assumption | rfl)) (by (first | assumption | rfl)) | exact q3_t (by omega) (by (first | assumption | rfl)) (by (first | assumption | rfl)) (by (first | assumption | rfl)) (by (first | assumption | rfl)) | exact q5_t (by (first | assumption | rfl)) (by (first | assumption | rfl)) (by (first | assumption | rfl)) (by (first | assumption | rfl)))), HB.out.alloc hsz _⟩); (case measure => simp [intOf]; omega))
      by_cases h2 : kd = 2
      · subst h2
        clear CA CB
        have HV := HV.out
        cases v <;> by_cases ha : a = 0 <;> by_cases hb : b = 0
        all_goals
          (try subst ha) <;> (try subst hb)
          try (have ha' : (a == 0) = false := by simpa using ha)
          try (have hb' : (b == 0) = false := by simpa using hb)
          go_wp2_with fail
          refine (CV.out _).mono ?_
          rintro e w2 ⟨rfl, hb2⟩
          have e3 := (hb2.cell (p := ⟨wr.heap.size, 2 + 1, none⟩) (by simp)).trans (World.cell?_alloc_at _ _ _ _ rfl)
          have e4 := (hb2.cell (p := ⟨wr.heap.size, 2 + 1 + 1, none⟩) (by simp)).trans (World.cell?_alloc_at _ _ _ _ rfl)
          have HB2 := Lib.hid ((HB.out.alloc hsz _).trans (hb2.mono (by simp; omega)))
          clear hb2
          simp at e3 e4
          go_wp2
        all_goals first
          | (go_ret; exact ⟨HF.out (by (first | exact q0_f (by omega) (by omega) (by omega) (by omega) (by omega) | exact q1_f (.inl (by assumption)) | exact q1_f (.inr (.inl (by assumption))) | exact q1_f (.inr (.inr (.inl (by assumption)))) | exact q1_f (.inr (.inr (.inr (by assumption)))) | exact q2_f (.inl (by assumption)) | exact q2_f (.inr (.inl (by assumption))) | exact q2_f (.inr (.inr (by assumption))) | exact q3_f (by omega) (.inl (by assumption)) | exact q3_f (by omega) (.inr (.inl (by assumption))) | exact q3_f (by omega) (.inr (.inr (.inl (by assumption)))) | exact q3_f (by omega) (.inr (.inr (.inr (by assumption)))) | exact q5_f (.inl (by assumption)) | exact q5_f (.inr (.inl (by assumption))) | exact q5_f (.inr (.inr (.inl (by assumption)))) | exact q5_f (.inr (.inr (.inr (by assumption)))))), HB2.out⟩)
          | (go_roundw; (case rel => exact ⟨k + 1, by omega, rfl, HA.out (by (first | exact q1_t (by (first | assumption | rfl)) (by (first | assumption | rfl)) (by (first | assumption | rfl)) (by (first | assumption | rfl)) | exact q2_t (by (first | assumption | rfl)) (by (first | assumption | rfl)) (by (first | assumption | rfl)) | exact q3_t (by omega) (by (first | assumption | rfl)) (by (first | assumption | rfl)) (by (first | assumption | rfl)) (by (first | assumption | rfl)) | exact q5_t (by (first | assumption | rfl)) (by (first | assumption | rfl)) (by (first | assumption | rfl)) (by (first | assumption | rfl)))), HB2.out⟩); (case measure => simp [intOf]; omega))
      by_cases h3 : kd = 3
      · subst h3
        clear CV
        have HPA := HPA.out
        have HPB := HPB.out
        cases pa
        · go_wp2_with fail
          refine (CA.out _).mono ?_
          rintro e w' ⟨rfl, rfl⟩
          go_wp2_with fail
          all_goals first
            | (go_ret; exact ⟨HF.out (by (first | exact q0_f (by omega) (by omega) (by omega) (by omega) (by omega) | exact q1_f (.inl (by assumption)) | exact q1_f (.inr (.inl (by assumption))) | exact q1_f (.inr (.inr (.inl (by assumption)))) | exact q1_f (.inr (.inr (.inr (by assumption)))) | exact q2_f (.inl (by assumption)) | exact q2_f (.inr (.inl (by assumption))) | exact q2_f (.inr (.inr (by assumption))) | exact q3_f (by omega) (.inl (by assumption)) | exact q3_f (by omega) (.inr (.inl (by assumption))) | exact q3_f (by omega) (.inr (.inr (.inl (by assumption)))) | exact q3_f (by omega) (.inr (.inr (.inr (by assumption)))) | exact q5_f (.inl (by assumption)) | exact q5_f (.inr (.inl (by assumption))) | exact q5_f (.inr (.inr (.inl (by assumption)))) | exact q5_f (.inr (.inr (.inr (by assumption)))))), HB.out.alloc hsz _⟩)
            | (go_roundw; (case rel => exact ⟨k + 1, by omega, rfl, HA.out (by (first | exact q1_t (by (first | assumption | rfl)) (by (first | assumption | rfl)) (by (first | assumption | rfl)) (by (first | assumption | rfl)) | exact q2_t (by (first | assumption | rfl)) (by (first | assumption | rfl)) (by (first | assumption | rfl)) | exact q3_t (by omega) (by (first | assumption | rfl)) (by (first | assumption | rfl)) (by (first | assumption | rfl)) (by (first | assumption | rfl)) | exact q5_t (by (first | assumption | rfl)) (by (first | assumption | rfl)) (by (first | assumption | rfl)) (by (first | assumption | rfl)))), HB.out.alloc hsz _⟩); (case measure => simp [intOf]; omega))
        · cases pb
          all_goals
            go_wp2_with fail
            refine (CA.out _).mono ?_
            rintro e w' ⟨rfl, rfl⟩
            go_wp2_with fail
            refine (CB.out _).mono ?_
            rintro e w' ⟨rfl, rfl⟩
            go_wp2_with fail
          all_goals first
            | (go_ret; exact ⟨HF.out (by (first | exact q0_f (by omega) (by omega) (by omega) (by omega) (by omega) | exact q1_f (.inl (by assumption)) | exact q1_f (.inr (.inl (by assumption))) | exact q1_f (.inr (.inr (.inl (by assumption)))) | exact q1_f (.inr (.inr (.inr (by assumption)))) | exact q2_f (.inl (by assumption)) | exact q2_f (.inr (.inl (by assumption))) | exact q2_f (.inr (.inr (by assumption))) | exact q3_f (by omega) (.inl (by assumption)) | exact q3_f (by omega) (.inr (.inl (by assumption))) | exact q3_f (by omega) (.inr (.inr (.inl (by assumption)))) | exact q3_f (by omega) (.inr (.inr (.inr (by assumption)))) | exact q5_f (.inl (by assumption)) | exact q5_f (.inr (.inl (by assumption))) | exact q5_f (.inr (.inr (.inl (by assumption)))) | exact q5_f (.inr (.inr (.inr (by assumption)))))), HB.out.alloc hsz _⟩)
            | (go_roundw; (case rel => exact ⟨k + 1, by omega, rfl, HA.out (by (first | exact q1_t (by (first | assumption | rfl)) (by (first | assumption | rfl)) (by (first | assumption | rfl)) (by (first | assumption | rfl)) | exact q2_t (by (first | assumption | rfl)) (by (first | assumption | rfl)) (by (first | assumption | rfl)) | exact q3_t (by omega) (by (first | assumption | rfl)) (by (first | assumption | rfl)) (by (first | assumption | rfl)) (by (first | assumption | rfl)) | exact q5_t (by (first | assumption | rfl)) (by (first | assumption | rfl)) (by (first | assumption | rfl)) (by (first | assumption | rfl)))), HB.out.alloc hsz _⟩); (case measure => simp [intOf]; omega))
      by_cases h4 : kd = 4
      · subst h4
        clear CV
        have HPA := HPA.out
        have HPB := HPB.out
        cases pa
        · go_wp2_with fail
          refine (CA.out _).mono ?_
          rintro e w' ⟨rfl, rfl⟩
          go_wp2_with fail
          all_goals first
            | (go_ret; exact ⟨HF.out (by (first | exact q0_f (by omega) (by omega) (by omega) (by omega) (by omega) | exact q1_f (.inl (by assumption)) | exact q1_f (.inr (.inl (by assumption))) | exact q1_f (.inr (.inr (.inl (by assumption)))) | exact q1_f (.inr (.inr (.inr (by assumption)))) | exact q2_f (.inl (by assumption)) | exact q2_f (.inr (.inl (by assumption))) | exact q2_f (.inr (.inr (by assumption))) | exact q3_f (by omega) (.inl (by assumption)) | exact q3_f (by omega) (.inr (.inl (by assumption))) | exact q3_f (by omega) (.inr (.inr (.inl (by assumption)))) | exact q3_f (by omega) (.inr (.inr (.inr (by assumption)))) | exact q5_f (.inl (by assumption)) | exact q5_f (.inr (.inl (by assumption))) | exact q5_f (.inr (.inr (.inl (by assumption)))) | exact q5_f (.inr (.inr (.inr (by assumption)))))), HB.out.alloc hsz _⟩)
            | (go_roundw; (case rel => exact ⟨k + 1, by omega, rfl, HA.out (by (first | exact q1_t (by (first | assumption | rfl)) (by (first | assumption | rfl)) (by (first | assumption | rfl)) (by (first | assumption | rfl)) | exact q2_t (by (first | assumption | rfl)) (by (first | assumption | rfl)) (by (first | assumption | rfl)) | exact q3_t (by omega) (by (first | assumption | rfl)) (by (first | assumption | rfl)) (by (first | assumption | rfl)) (by (first | assumption | rfl)) | exact q5_t (by (first | assumption | rfl)) (by (first | assumption | rfl)) (by (first | assumption | rfl)) (by (first | assumption | rfl)))), HB.out.alloc hsz _⟩); (case measure => simp [intOf]; omega))
        · cases pb
          all_goals
            go_wp2_with fail
            refine (CA.out _).mono ?_
            rintro e w' ⟨rfl, rfl⟩
            go_wp2_with fail
            refine (CB.out _).mono ?_
            rintro e w' ⟨rfl, rfl⟩
            go_wp2_with fail
          all_goals first
            | (go_ret; exact ⟨HF.out (by (first | exact q0_f (by omega) (by omega) (by omega) (by omega) (by omega) | exact q1_f (.inl (by assumption)) | exact q1_f (.inr (.inl (by assumption))) | exact q1_f (.inr (.inr (.inl (by assumption)))) | exact q1_f (.inr (.inr (.inr (by assumption)))) | exact q2_f (.inl (by assumption)) | exact q2_f (.inr (.inl (by assumption))) | exact q2_f (.inr (.inr (by assumption))) | exact q3_f (by omega) (.inl (by assumption)) | exact q3_f (by omega) (.inr (.inl (by assumption))) | exact q3_f (by omega) (.inr (.inr (.inl (by assumption)))) | exact q3_f (by omega) (.inr (.inr (.inr (by assumption)))) | exact q5_f (.inl (by assumption)) | exact q5_f (.inr (.inl (by assumption))) | exact q5_f (.inr (.inr (.inl (by assumption)))) | exact q5_f (.inr (.inr (.inr (by assumption)))))), HB.out.alloc hsz _⟩)
            | (go_roundw; (case rel => exact ⟨k + 1, by omega, rfl, HA.out (by (first | exact q1_t (by (first | assumption | rfl)) (by (first | assumption | rfl)) (by (first | assumption | rfl)) (by (first | assumption | rfl)) | exact q2_t (by (first | assumption | rfl)) (by (first | assumption | rfl)) (by (first | assumption | rfl)) | exact q3_t (by omega) (by (first | assumption | rfl)) (by (first | assumption | rfl)) (by (first | assumption | rfl)) (by (first | assumption | rfl)) | exact q5_t (by (first | assumption | rfl)) (by (first | assumption | rfl)) (by (first | assumption | rfl)) (by (first | assumption | rfl)))), HB.out.alloc hsz _⟩); (case measure => simp [intOf]; omega))
      by_cases h5 : kd = 5
      · subst h5
        clear CV CB
        have HPA := HPA.out
        cases pa <;> by_cases hb : b = 0
        all_goals
          (try subst hb)
          try (have hb' : (b == 0) = false := by simpa using hb)
          go_wp2_with fail
          refine (CA.out _).mono ?_
          rintro e w' ⟨rfl, rfl⟩
          go_wp2_with fail
        all_goals first
            | (go_ret; exact ⟨HF.out (by (first | exact q0_f (by omega) (by omega) (by omega) (by omega) (by omega) | exact q1_f (.inl (by assumption)) | exact q1_f (.inr (.inl (by assumption))) | exact q1_f (.inr (.inr (.inl (by assumption)))) | exact q1_f (.inr (.inr (.inr (by assumption)))) | exact q2_f (.inl (by assumption)) | exact q2_f (.inr (.inl (by assumption))) | exact q2_f (.inr (.inr (by assumption))) | exact q3_f (by omega) (.inl (by assumption)) | exact q3_f (by omega) (.inr (.inl (by assumption))) | exact q3_f (by omega) (.inr (.inr (.inl (by assumption)))) | exact q3_f (by omega) (.inr (.inr (.inr (by assumption)))) | exact q5_f (.inl (by assumption)) | exact q5_f (.inr (.inl (by assumption))) | exact q5_f (.inr (.inr (.inl (by assumption)))) | exact q5_f (.inr (.inr (.inr (by assumption)))))), HB.out.alloc hsz _⟩)
            | (go_roundw; (case rel => exact ⟨k + 1, by omega, rfl, HA.out (by (first | exact q1_t (by (first | assumption | rfl)) (by (first | assumption | rfl)) (by (first | assumption | rfl)) (by (first | assumption | rfl)) | exact q2_t (by (first | assumption | rfl)) (by (first | assumption | rfl)) (by (first | assumption | rfl)) | exact q3_t (by omega) (by (first | assumption | rfl)) (by (first | assumption | rfl)) (by (first | assumption | rfl)) (by (first | assumption | rfl)) | exact q5_t (by (first | assumption | rfl)) (by (first | assumption | rfl)) (by (first | assumption | rfl)) (by (first | assumption | rfl)))), HB.out.alloc hsz _⟩); (case measure => simp [intOf]; omega))
      · clear CA CB CV
        go_wp2
        all_goals first
          | (go_ret; exact ⟨HF.out (by (first | exact q0_f (by omega) (by omega) (by omega) (by omega) (by omega) | exact q1_f (.inl (by assumption)) | exact q1_f (.inr (.inl (by assumption))) | exact q1_f (.inr (.inr (.inl (by assumption)))) | exact q1_f (.inr (.inr (.inr (by assumption)))) | exact q2_f (.inl (by assumption)) | exact q2_f (.inr (.inl (by assumption))) | exact q2_f (.inr (.inr (by assumption))) | exact q3_f (by omega) (.inl (by assumption)) | exact q3_f (by omega) (.inr (.inl (by assumption))) | exact q3_f (by omega) (.inr (.inr (.inl (by assumption)))) | exact q3_f (by omega) (.inr (.inr (.inr (by assumption)))) | exact q5_f (.inl (by assumption)) | exact q5_f (.inr (.inl (by assumption))) | exact q5_f (.inr (.inr (.inl (by assumption)))) | exact q5_f (.inr (.inr (.inr (by assumption)))))), HB.out.alloc hsz _⟩)
          | (go_roundw; (case rel => exact ⟨k + 1, by omega, rfl, HA.out (by (first | exact q1_t (by (first | assumption | rfl)) (by (first | assumption | rfl)) (by (first | assumption | rfl)) (by (first | assumption | rfl)) | exact q2_t (by (first | assumption | rfl)) (by (first | assumption | rfl)) (by (first | assumption | rfl)) | exact q3_t (by omega) (by (first | assumption | rfl)) (by (first | assumption | rfl)) (by (first | assumption | rfl)) (by (first | assumption | rfl)) | exact q5_t (by (first | assumption | rfl)) (by (first | assumption | rfl)) (by (first | assumption | rfl)) (by (first | assumption | rfl)))), HB.out.alloc hsz _⟩); (case measure => simp [intOf]; omega))
    · have hk' : k = n := by omega
      subst hk'
      have e := HL.out
      have HE := Lib.hid ((goodQ_all (by rw [HL.out]; exact HK.out) : goodQry l = inB l.length 1 20))
      clear HK e
      go_wp2_with fail
      refine (l1In_any _ _ _ _).mono ?_
      rintro e w' ⟨rfl, rfl⟩
      go_wp2
      go_ret
      exact ⟨retB (by rw [HE.out, HL.out]), HB.out⟩
end Go.Proofs.Ytpdclppieicaeaa
