/- The numbers of the series that have a label: the reference's and the program's walks, and the law PostsOf. -/
import Derived.Test.YtpdclppieicaeaaSeries
import Derived.Test.YtpdclppieicaeaaPutI
import Derived.Test.YtpdclppieicaeaaMergePlain
namespace Go.Proofs.Ytpdclppieicaeaa
set_option linter.unusedVariables false
set_option linter.unusedSimpArgs false
open Go.RowKit

theorem eqSL {a b : ByteArray} : (a.toList == b.toList) = decide (a = b) := by
  rw [Bool.eq_iff_iff]
  simp only [beq_iff_eq, decide_eq_true_eq]
  constructor
  · intro h; rw [ByteArray.toList_eq, ByteArray.toList_eq] at h; exact bytes_ext h
  · intro h; rw [h]
theorem toList_ne {a b : ByteArray} (h : ¬ a = b) : ¬ a.toList = b.toList := by
  intro e
  rw [ByteArray.toList_eq, ByteArray.toList_eq] at e
  exact h (bytes_ext e)
/-- How often a list has a label. -/
def cntLab (l : List Lab) (x : Lab) : Nat := l.countP fun y => decide (y = x)
theorem cntLab_snoc {l : List Lab} {k : Nat} {y : Lab} (h : l[k]? = some y) (x : Lab) : cntLab (l.take (k + 1)) x = cntLab (l.take k) x + if y = x then 1 else 0 := by
  unfold cntLab
  rw [take_snoc' l k y h, List.countP_append]
  by_cases e : y = x <;> simp [e]
theorem cntLab_le (l : List Lab) (x : Lab) (k : Nat) : cntLab (l.take k) x ≤ k := by
  unfold cntLab
  exact Nat.le_trans (List.countP_le_length) (by rw [List.length_take]; exact Nat.min_le_left _ _)
theorem cntLab_all {l : List Lab} (h : goodLab l = true) (x : Lab) : cntLab l x = if hasLab l x then 1 else 0 := by
  have hp : l.Pairwise fun a b => lessS a.1 b.1 = true := (goodLab_iff.1 h).1
  unfold cntLab hasLab
  clear h
  induction l with
  | nil => rfl
  | cons y l ih =>
    obtain ⟨h1, h2⟩ := List.pairwise_cons.1 hp
    have ih := ih h2
    rw [List.countP_cons, List.any_cons]
    by_cases e : y = x
    · have h0 : l.countP (fun y => decide (y = x)) = 0 := by
        rw [List.countP_eq_zero]
        intro z hz
        simp only [decide_eq_true_eq]
        intro ez
        have := h1 z hz
        rw [ez, e, lessS_irrefl] at this
        cases this
      rw [h0]; simp [e]
    · simp only [e, decide_false, Bool.false_or, Bool.false_eq_true, if_false, Nat.add_zero]
      exact ih
/-- What a round of the reference's outer loop adds. -/
theorem posts_round {se : List (List Lab)} {x : Lab} {k : Nat} {l : List Lab} (h : se[k]? = some l) (hg : goodLab l = true) : postsK se x (k + 1) = postsK se x k ++ List.replicate (cntLab l x) (k : Int) := by
  rw [postsK_succ se x k l h, cntLab_all hg]
  cases hasLab l x <;> simp
theorem postsK_len (se : List (List Lab)) (x : Lab) (k : Nat) : (postsK se x k).length ≤ k := by
  unfold postsK
  exact Nat.le_trans (List.length_filter_le _ _) (by rw [allP_len]; exact Nat.le_refl _)
set_option maxRecDepth 100000 in
set_option maxHeartbeats 8000000 in
theorem l4Posts_any (B : Nat) (A : Option Addr) (n c : Nat) (ls : List (List Lab)) (x y : ByteArray) (w : World) (hBw : B ≤ w.heap.size) (h : RdSS w B A n ls) (hg : goodSer ls = true) :
    Calls Try.prog 37 #[.slice A n c, .agg #[.string x, .string y]] w (OwnV w.heap.size w (postsL ls (x, y))) := by
  obtain ⟨i0, hi, hi0, hi1, hi2⟩ := info_parts infoInt
  have HI := Lib.hid (And.intro hi (And.intro hi0 (And.intro hi1 hi2)))
  clear hi hi0 hi1 hi2
  have hn := goodSer_len hg
  rw [h.len] at hn
  have HL := Lib.hid h.len
  have HG := Lib.hid hg
  obtain ⟨wb, hwb⟩ : ∃ wb, wb = w.alloc (.cells #[.string x, .string y] 32) := ⟨_, rfl⟩
  have hb0 : Below w.heap.size w wb := hwb ▸ (Below.refl _ _).alloc (Nat.le_refl _) _
  obtain ⟨g, hgg⟩ : ∃ g, w.heap.size = g := ⟨_, rfl⟩
  have hsb : g < wb.heap.size := by rw [hwb, ← hgg]; simp
  have hx0 : wb.cell? ⟨g, 0, none⟩ = some (.string x) := by rw [hwb, ← hgg]; exact World.cell?_alloc_at _ _ _ _ rfl
  have hx1 : wb.cell? ⟨g, 1, none⟩ = some (.string y) := by rw [hwb, ← hgg]; exact World.cell?_alloc_at _ _ _ _ rfl
  have HW := Lib.hid (show w.alloc (.cells #[.string x, .string y] 32) = wb from hwb.symm)
  have HGG := Lib.hid hgg
  have HB0 := Lib.hid hb0
  have HX0 := Lib.hid hx0
  have HX1 := Lib.hid hx1
  have H := Lib.hid (h.below (hb0.mono hBw))
  have hBb : B ≤ wb.heap.size := Nat.le_trans hBw hb0.size
  obtain ⟨B0, hB0⟩ : ∃ B0, wb.heap.size = B0 := ⟨_, rfl⟩
  have HB00 := Lib.hid hB0
  rw [hB0] at hsb hBb
  clear h hg hwb hb0 hx0 hx1 hgg hBw hB0
  go_enter Try.func37, Try.ntmps37
  go_wp2_with fail
  rw [HW.out, HGG.out]
  go_loopw [5, 12] (fun v i wr => ∃ (k : Nat) (A' : Option Addr) (c' : Nat), k ≤ n ∧ i = .int .i64 k ∧ v = .slice A' (postsK ls (x, y) k).length c' ∧ wr.ownsRow B0 3 1 (.slice A' (postsK ls (x, y) k).length c') (postsK ls (x, y) k).length (ints (postsK ls (x, y) k)) ∧ Below B0 wb wr) (fun _ i _ => n - (intOf i).toNat)
  case atStart => exact ⟨0, none, 0, Nat.zero_le _, rfl, rfl, World.ownsRow_nil _ _ _ _, Below.refl _ _⟩
  case round =>
    obtain ⟨k, A', c', hk, rfl, rfl, ho, hb⟩ := hrel
    have hsz := hb.size
    rw [HB00.out] at hsz
    have hpl := postsK_len ls (x, y) k
    obtain ⟨P, hP⟩ : ∃ P, postsK ls (x, y) k = P := ⟨_, rfl⟩
    rw [hP] at ho hpl ⊢
    have HP := Lib.hid hP
    have HO := Lib.hid ho
    have HB := Lib.hid hb
    clear ho hb hP
    by_cases hlt : k < n
    · obtain ⟨b0, off, A1, n1, c1, l, rfl, hbB, hx, hc0, hrd, hn1⟩ := H.out.at_ hlt
      have hd0 : wr.cell? ⟨b0, off + k, none⟩ = some (.slice A1 n1 c1) := (bcell HB.out _ _ (by omega)).trans hc0
      have hgl := goodSer_at HG.out hx
      have hn40 : n1 ≤ 40 := by have := hrd.lab_len; have := goodLab_len hgl; omega
      have HRD := Lib.hid (hrd.more hBb)
      have HRND := Lib.hid (posts_round (x := (x, y)) hx hgl)
      clear hx hc0 hrd hgl
      go_wp2_with fail
      go_loopw [5, 19] (fun v i wr2 => ∃ (m q : Nat) (A2 : Option Addr) (c2 : Nat), m ≤ n1 ∧ q ≤ m ∧ q = cntLab (l.take m) (x, y) ∧ i = .int .i64 m ∧ v = .slice A2 (P.length + q) c2 ∧ wr2.ownsRow B0 3 1 (.slice A2 (P.length + q) c2) (P.length + q) (ints (P ++ List.replicate q (k : Int))) ∧ Below B0 wb wr2) (fun _ i _ => n1 - (intOf i).toNat)
      case atStart => exact ⟨0, 0, A', c', Nat.zero_le _, Nat.le_refl _, by simp [cntLab], rfl, by simp, by simpa using HO.out, HB.out⟩
      case round =>
        obtain ⟨m, q, A2, c2, hm, hqm, hq, rfl, rfl, ho2, hb2⟩ := hrel
        have hsz2 := hb2.size
        rw [HB00.out] at hsz2
        have HQ := Lib.hid hq
        have HO2 := Lib.hid ho2
        have HB2 := Lib.hid hb2
        clear ho2 hb2 hq
        by_cases hlt2 : m < n1
        · obtain ⟨b1, off1, x1, y1, rfl, hbB1, hx1, hd1, hd2⟩ := HRD.out.lab_at hlt2
          have hd1 : wr.cell? ⟨b1, off1 + m * 2, none⟩ = some (.string x1) := (bcell HB2.out _ _ hbB1).trans hd1
          have hd2 : wr.cell? ⟨b1, off1 + m * 2 + 1, none⟩ = some (.string y1) := (bcell HB2.out _ _ hbB1).trans hd2
          have hx0 : ∀ o, (wr.alloc o).cell? ⟨g, 0, none⟩ = some (.string x) := fun o => (World.cell?_alloc_lt wr o ⟨g, 0, none⟩ (by show g < _; omega)).trans ((bcell HB2.out _ _ (by omega)).trans HX0.out)
          have hx1' : ∀ o, (wr.alloc o).cell? ⟨g, 1, none⟩ = some (.string y) := fun o => (World.cell?_alloc_lt wr o ⟨g, 1, none⟩ (by show g < _; omega)).trans ((bcell HB2.out _ _ (by omega)).trans HX1.out)
          have HC := Lib.hid (cntLab_snoc hx1 (x, y))
          clear hx1 hbB1
          by_cases ex : x = x1
          · subst ex
            by_cases ey : y = y1
            · subst ey
              have HQ2 := Lib.hid (show q + 1 = cntLab (l.take (m + 1)) (x, y) by rw [HC.out, if_pos rfl, ← HQ.out])
              clear HC
              go_wp2_with (at_builtin; refine wpList_append_own _ rfl (.tmp 26) (.tmp 28) 27 rfl B0 3 i0 (.int .i64 0) 1 8 Try.underlying27 HI.out.1 HI.out.2.1 HI.out.2.2.1 HI.out.2.2.2 rfl (by decide) _ _ _ rfl ((HO2.out.alloc _).alloc _) ⟨wr.heap.size + 1, 0, none⟩ 1 1 [.int .i64 k] rfl rfl (by intro j u hj; cases j with | zero => simp at hj; subst hj; simp [Addr.add] | succ j => simp at hj) (by intro u hu; simp at hu; subst hu; rfl) (by unfold maxLen; omega) (by omega) (by simp; omega) ?_)
              intro v' w2 ho2 hg2 _
              obtain ⟨A3, c3, rfl⟩ := own_slice ho2
              have HO3 := Lib.hid (show w2.ownsRow B0 3 1 (.slice A3 (P.length + (q + 1)) c3) (P.length + (q + 1)) (ints (P ++ List.replicate (q + 1) (k : Int))) by
                rw [List.replicate_succ', ← List.append_assoc, ints_app]
                exact ho2)
              have HB3 := Lib.hid (((HB2.out.alloc hsz2 _).alloc (by simp; omega) _).grown hg2 (by simp; omega) (fun k hk => (HO2.out.lt k hk).1))
              clear ho2 hg2
              go_wp2
              go_roundw
              case rel => exact ⟨m + 1, q + 1, A3, c3, by omega, by omega, HQ2.out, by go_num, rfl, HO3.out, HB3.out⟩
              case measure => simp [intOf]; omega
            · have hne := toList_ne ey
              have HQ2 := Lib.hid (show q = cntLab (l.take (m + 1)) (x, y) by rw [HC.out, if_neg (fun e => ey (by injection e with _ e; exact e.symm)), ← HQ.out]; rfl)
              clear HC ey
              go_wp2
              go_roundw
              case rel => exact ⟨m + 1, q, A2, c2, by omega, by omega, HQ2.out, by go_num, rfl, HO2.out.alloc _, HB2.out.alloc hsz2 _⟩
              case measure => simp [intOf]; omega
          · have hne := toList_ne ex
            have HQ2 := Lib.hid (show q = cntLab (l.take (m + 1)) (x, y) by rw [HC.out, if_neg (fun e => ex (by injection e with e _; exact e.symm)), ← HQ.out]; rfl)
            clear HC ex
            go_wp2
            go_roundw
            case rel => exact ⟨m + 1, q, A2, c2, by omega, by omega, HQ2.out, by go_num, rfl, HO2.out.alloc _, HB2.out.alloc hsz2 _⟩
            case measure => simp [intOf]; omega
        · obtain rfl : m = n1 := by omega
          have HT := Lib.hid (show l.take m = l from List.take_of_length_le (by have := HRD.out.lab_len; omega))
          have HE := Lib.hid (show postsK ls (x, y) (k + 1) = P ++ List.replicate q (k : Int) by
            have e := HQ.out
            rw [HT.out] at e
            rw [HRND.out, HP.out, e])
          have HO3 := Lib.hid (show wr.ownsRow B0 3 1 (.slice A2 (postsK ls (x, y) (k + 1)).length c2) (postsK ls (x, y) (k + 1)).length (ints (postsK ls (x, y) (k + 1))) by
            rw [HE.out, List.length_append, List.length_replicate]; exact HO2.out)
          have HV := Lib.hid (show P.length + q = (postsK ls (x, y) (k + 1)).length by rw [HE.out, List.length_append, List.length_replicate])
          go_wp2
          go_roundw
          case rel => exact ⟨k + 1, A2, c2, by omega, by go_num, by rw [HV.out], HO3.out, HB2.out⟩
          case measure => simp [intOf]; omega
    · obtain rfl : k = n := by omega
      have HV := Lib.hid (show P = postsL ls (x, y) by unfold postsL; rw [HL.out, HP.out])
      go_wp2
      go_ret
      have ho := HO.out
      rw [HV.out] at ho ⊢
      exact ⟨A', c', rfl, own_mono ho (by rw [HGG.out]; omega), HB0.out.trans (HB.out.mono (by rw [HGG.out]; omega))⟩
theorem fst_step {l : List Lab} {k : Nat} {z : Lab} {p : Lab → Bool} (h : ∀ j z, j < k → l[j]? = some z → p z = false) (e : l[k]? = some z) (hz : p z = false) : ∀ j z, j < k + 1 → l[j]? = some z → p z = false := by
  intro j z' hj hz'
  by_cases hjk : j < k
  · exact h j z' hjk hz'
  · obtain rfl : j = k := by omega
    rw [e] at hz'
    injection hz' with hz'
    rw [← hz']; exact hz
def isLb (x : Lab) (y : Lab) : Bool := decide (y = x)
theorem has_labB {l : List Lab} {x : Lab} : decide (0 ≤ idxZ (fstAt (isLb x) l)) = hasLab l x := idx_geS (isLb x) l
set_option maxRecDepth 100000 in
set_option maxHeartbeats 4000000 in
theorem idxLab_any (B : Nat) (A : Option Addr) (n c : Nat) (l : List Lab) (x y : ByteArray) (w : World) (hBw : B ≤ w.heap.size) (h : Rd w B 2 A n (lbls l)) (hn : n ≤ 1048576) :
    Calls Try.prog 81 #[.slice A n c, .agg #[.string x, .string y]] w fun e w' => e = .returned (.int .i64 (idxZ (fstAt (isLb (x, y)) l))) ∧ Below w.heap.size w w' := by
  obtain ⟨R, hR⟩ : ∃ R, R = fstAt (isLb (x, y)) l := ⟨_, rfl⟩
  have HR := Lib.hid hR
  rw [← hR]
  clear hR
  have HL := Lib.hid h.lab_len
  obtain ⟨wb, hwb⟩ : ∃ wb, wb = w.alloc (.cells #[.string x, .string y] 32) := ⟨_, rfl⟩
  have hb0 : Below w.heap.size w wb := hwb ▸ (Below.refl _ _).alloc (Nat.le_refl _) _
  obtain ⟨g, hgg⟩ : ∃ g, w.heap.size = g := ⟨_, rfl⟩
  have hsb : g < wb.heap.size := by rw [hwb, ← hgg]; simp
  have hx0 : wb.cell? ⟨g, 0, none⟩ = some (.string x) := by rw [hwb, ← hgg]; exact World.cell?_alloc_at _ _ _ _ rfl
  have hx1 : wb.cell? ⟨g, 1, none⟩ = some (.string y) := by rw [hwb, ← hgg]; exact World.cell?_alloc_at _ _ _ _ rfl
  have HW := Lib.hid (show w.alloc (.cells #[.string x, .string y] 32) = wb from hwb.symm)
  have HGG := Lib.hid hgg
  have HB0 := Lib.hid hb0
  have HRD := Lib.hid (h.below (hb0.mono hBw))
  have hBb : B ≤ wb.heap.size := Nat.le_trans hBw hb0.size
  clear h hwb hb0 hgg hBw
  go_enter Try.func81, Try.ntmps81
  go_wp2_with fail
  rw [HW.out, HGG.out]
  go_loopw [8] (fun i wr => ∃ k q : Nat, k ≤ n ∧ i = .int .i64 k ∧ (∀ j z, j < k → l[j]? = some z → isLb (x, y) z = false) ∧ wr = wb.drewN q) (fun i _ => n - (intOf i).toNat)
  case atStart => exact ⟨0, 0, Nat.zero_le _, rfl, fun j z hj => absurd hj (by omega), rfl⟩
  case round =>
    obtain ⟨k, q, hk, rfl, hok, rfl⟩ := hrel
    have HK := Lib.hid hok
    clear hok
    by_cases hlt : k < n
    · obtain ⟨b1, off1, x1, y1, rfl, hbB1, hx1', hd1, hd2⟩ := HRD.out.lab_at hlt
      have HX := Lib.hid hx1'
      clear hx1'
      by_cases ex : x = x1
      · subst ex
        by_cases ey : y = y1
        · subst ey
          have e : R = some k := HR.out.trans (fstAt_hit HX.out (by simp [isLb]) HK.out)
          subst e
          clear HR HK
          go_wp2
          go_quiet (fail)
          go_wp2
          go_ret
          exact ⟨rfl, Below.drewN (Below.drewN HB0.out q) nq⟩
        · have hne := toList_ne ey
          have hd : (y.toList == y1.toList) = false := by simpa using hne
          have HS := Lib.hid (fst_step HK.out HX.out (show isLb (x, y) (x, y1) = false by unfold isLb; simp; exact fun e => ey e.symm))
          clear ey
          go_wp2
          go_quiet (fail)
          go_wp2
          go_roundw
          case rel => exact ⟨k + 1, q + nq, by omega, by go_num, HS.out, rfl⟩
          case measure => simp [intOf]; omega
      · have hne := toList_ne ex
        have hd : (x.toList == x1.toList) = false := by simpa using hne
        have HS := Lib.hid (fst_step HK.out HX.out (show isLb (x, y) (x1, y1) = false by unfold isLb; simp; exact fun e => absurd e.symm ex))
        clear ex
        go_wp2
        go_quiet (fail)
        go_wp2
        go_roundw
        case rel => exact ⟨k + 1, q + nq, by omega, by go_num, HS.out, rfl⟩
        case measure => simp [intOf]; omega
    · have e : R = none := HR.out.trans (fstAt_none fun j z hz => HK.out j z (by have := (List.getElem?_eq_some_iff.1 hz).1; have := HL.out; omega) hz)
      subst e
      clear HR HK
      go_wp2
      go_ret
      exact ⟨rfl, HB0.out.trans (Below.drewN (Below.refl _ _) _)⟩
theorem hasLab_any (B : Nat) (A : Option Addr) (n c : Nat) (l : List Lab) (x y : ByteArray) (w : World) (hBw : B ≤ w.heap.size) (h : Rd w B 2 A n (lbls l)) (hn : n ≤ 1048576) :
    Calls Try.prog 65 #[.slice A n c, .agg #[.string x, .string y]] w fun e w' => e = .returned (.bool (hasLab l (x, y))) ∧ Below w.heap.size w w' := by
  have HC := Lib.hid (fun o => idxLab_any B A n c l x y (w.alloc o) (by simp; omega) (h.below (((Below.refl _ _).alloc (Nat.le_refl _) o).mono hBw)) hn)
  have he := @has_labB l (x, y)
  generalize hasLab l (x, y) = r at he ⊢
  generalize idxZ (fstAt (isLb (x, y)) l) = k at HC he
  have HE := Lib.hid he
  clear h he
  go_enter Try.func65, Try.ntmps65
  go_wp2_with fail
  refine (HC.out _).mono ?_
  rintro e w' ⟨rfl, hb⟩
  have HB := Lib.hid (((Below.refl _ _).alloc (Nat.le_refl _) _ : Below w.heap.size w _).trans (hb.mono (by simp)))
  clear hb
  go_wp2
  go_ret
  exact ⟨retB (by rw [← HE.out]), HB.out⟩
set_option maxRecDepth 100000 in
set_option maxHeartbeats 8000000 in
theorem postsOf_any (B : Nat) (A : Option Addr) (n c : Nat) (ls : List (List Lab)) (x y : ByteArray) (w : World) (hBw : B ≤ w.heap.size) (h : RdSS w B A n ls) (hg : goodSer ls = true) :
    Calls Try.prog 41 #[.slice A n c, .agg #[.string x, .string y]] w (OwnV w.heap.size w (postsL ls (x, y))) := by
  obtain ⟨i0, hi, hi0, hi1, hi2⟩ := info_parts infoInt
  have HI := Lib.hid (And.intro hi (And.intro hi0 (And.intro hi1 hi2)))
  clear hi hi0 hi1 hi2
  have hn := goodSer_len hg
  rw [h.len] at hn
  have HL := Lib.hid h.len
  have HG := Lib.hid hg
  obtain ⟨wb, hwb⟩ : ∃ wb, wb = w.alloc (.cells #[.string x, .string y] 32) := ⟨_, rfl⟩
  have hb0 : Below w.heap.size w wb := hwb ▸ (Below.refl _ _).alloc (Nat.le_refl _) _
  obtain ⟨g, hgg⟩ : ∃ g, w.heap.size = g := ⟨_, rfl⟩
  have hsb : g < wb.heap.size := by rw [hwb, ← hgg]; simp
  have hx0 : wb.cell? ⟨g, 0, none⟩ = some (.string x) := by rw [hwb, ← hgg]; exact World.cell?_alloc_at _ _ _ _ rfl
  have hx1 : wb.cell? ⟨g, 1, none⟩ = some (.string y) := by rw [hwb, ← hgg]; exact World.cell?_alloc_at _ _ _ _ rfl
  have HW := Lib.hid (show w.alloc (.cells #[.string x, .string y] 32) = wb from hwb.symm)
  have HGG := Lib.hid hgg
  have HB0 := Lib.hid hb0
  have HX0 := Lib.hid hx0
  have HX1 := Lib.hid hx1
  have H := Lib.hid (h.below (hb0.mono hBw))
  have hBb : B ≤ wb.heap.size := Nat.le_trans hBw hb0.size
  obtain ⟨B0, hB0⟩ : ∃ B0, wb.heap.size = B0 := ⟨_, rfl⟩
  have HB00 := Lib.hid hB0
  rw [hB0] at hsb hBb
  clear h hg hwb hb0 hx0 hx1 hgg hBw hB0
  go_enter Try.func41, Try.ntmps41
  go_wp2_with fail
  rw [HW.out, HGG.out]
  go_loopw [5, 10] (fun v i wr => ∃ (k : Nat) (A' : Option Addr) (c' : Nat), k ≤ n ∧ i = .int .i64 k ∧ v = .slice A' (postsK ls (x, y) k).length c' ∧ wr.ownsRow B0 3 1 (.slice A' (postsK ls (x, y) k).length c') (postsK ls (x, y) k).length (ints (postsK ls (x, y) k)) ∧ Below B0 wb wr) (fun _ i _ => n - (intOf i).toNat)
  case atStart => exact ⟨0, none, 0, Nat.zero_le _, rfl, rfl, World.ownsRow_nil _ _ _ _, Below.refl _ _⟩
  case round =>
    obtain ⟨k, A', c', hk, rfl, rfl, ho, hb⟩ := hrel
    have hsz := hb.size
    rw [HB00.out] at hsz
    have hpl := postsK_len ls (x, y) k
    obtain ⟨P, hP⟩ : ∃ P, postsK ls (x, y) k = P := ⟨_, rfl⟩
    rw [hP] at ho hpl ⊢
    have HP := Lib.hid hP
    have HO := Lib.hid ho
    have HB := Lib.hid hb
    clear ho hb hP
    by_cases hlt : k < n
    · obtain ⟨b0, off, A1, n1, c1, l, rfl, hbB, hx, hc0, hrd, hn1⟩ := H.out.at_ hlt
      have hd0 : wr.cell? ⟨b0, off + k, none⟩ = some (.slice A1 n1 c1) := (bcell HB.out _ _ (by omega)).trans hc0
      have hgl := goodSer_at HG.out hx
      have hn40 : n1 ≤ 40 := by have := hrd.lab_len; have := goodLab_len hgl; omega
      have hps := postsK_succ ls (x, y) k l hx
      have HC := Lib.hid (hasLab_any B A1 n1 c1 l x y wr (Nat.le_trans hBb hsz) (hrd.below (HB.out.mono hBb)) (by omega))
      have hx0 : wr.cell? ⟨g, 0, none⟩ = some (.string x) := (bcell HB.out _ _ (by omega)).trans HX0.out
      have hx1 : wr.cell? ⟨g, 1, none⟩ = some (.string y) := (bcell HB.out _ _ (by omega)).trans HX1.out
      obtain ⟨q, hq⟩ : ∃ q, hasLab l (x, y) = q := ⟨_, rfl⟩
      rw [hq] at HC hps
      rw [HP.out] at hps
      clear hx hc0 hrd hgl hq
      cases q with
      | true =>
        have HS := Lib.hid (show postsK ls (x, y) (k + 1) = P ++ [(k : Int)] by rw [hps, if_pos rfl])
        clear hps
        go_wp2_with (first | (go_at_call 65; refine HC.out.mono ?_; rintro e w1 ⟨rfl, hb1⟩; have HB1 := Lib.hid (HB.out.trans (hb1.mono hsz)); have hs1 := hb1.size; have HO1 := Lib.hid (own_below HO.out hb1 (Nat.le_refl _)); clear hb1) | (at_builtin; refine wpList_append_own _ rfl (.tmp 18) (.tmp 20) 27 rfl B0 3 i0 (.int .i64 0) 1 8 Try.underlying27 HI.out.1 HI.out.2.1 HI.out.2.2.1 HI.out.2.2.2 rfl (by decide) _ _ _ rfl (HO1.out.alloc _) ⟨w1.heap.size, 0, none⟩ 1 1 [.int .i64 k] rfl rfl (by intro j u hj; cases j with | zero => simp at hj; subst hj; simp [Addr.add] | succ j => simp at hj) (by intro u hu; simp at hu; subst hu; rfl) (by unfold maxLen; omega) (by omega) (by simp; omega) ?_))
        intro v' w2 ho2 hg2 _
        obtain ⟨A3, c3, rfl⟩ := own_slice ho2
        have HO3 := Lib.hid (show w2.ownsRow B0 3 1 (.slice A3 (P.length + 1) c3) (P.length + 1) (ints (P ++ [(k : Int)])) by
          rw [ints_app]
          exact ho2)
        have HB3 := Lib.hid ((HB1.out.alloc (Nat.le_trans hsz hs1) _).grown hg2 (by simp; omega) (fun k hk => (HO1.out.lt k hk).1))
        clear ho2 hg2
        go_wp2
        go_roundw
        case rel => exact ⟨k + 1, A3, c3, by omega, by go_num, by rw [HS.out]; simp, by rw [HS.out]; simpa using HO3.out, HB3.out⟩
        case measure => simp [intOf]; omega
      | false =>
        have HS := Lib.hid (show postsK ls (x, y) (k + 1) = P by rw [hps]; simp)
        clear hps
        go_wp2_with fail
        refine HC.out.mono ?_
        rintro e w1 ⟨rfl, hb1⟩
        have HB1 := Lib.hid (HB.out.trans (hb1.mono hsz))
        have HO1 := Lib.hid (own_below HO.out hb1 (Nat.le_refl _))
        clear hb1
        go_wp2
        go_roundw
        case rel => exact ⟨k + 1, A', c', by omega, by go_num, by rw [HS.out], by rw [HS.out]; exact HO1.out, HB1.out⟩
        case measure => simp [intOf]; omega
    · obtain rfl : k = n := by omega
      have HV := Lib.hid (show P = postsL ls (x, y) by unfold postsL; rw [HL.out, HP.out])
      go_wp2
      go_ret
      have ho := HO.out
      rw [HV.out] at ho ⊢
      exact ⟨A', c', rfl, own_mono ho (by rw [HGG.out]; omega), HB0.out.trans (HB.out.mono (by rw [HGG.out]; omega))⟩
theorem serFit_of {ls : List (List Lab)} (h : lblSzSS ls ≤ 1048576) : serFit ls := fun l hl => by
  have h2 := mem_sum_le (List.mem_map_of_mem (f := lblSz) hl)
  have h3 : l.length ≤ lblSz l := lblSz_le
  unfold lblSzSS at h
  exact ⟨lblFit_of (by omega), by omega⟩
def postsR (ls : List (List Lab)) (x : Lab) : List Int := if goodSer ls && labOk x then postsL ls x else []
theorem postsR_len (ls : List (List Lab)) (x : Lab) : (postsR ls x).length ≤ 1048576 := by
  unfold postsR
  split
  · rename_i h
    rw [Bool.and_eq_true] at h
    have := goodSer_len h.1
    have := postsK_len ls x ls.length
    unfold postsL; omega
  · simp
set_option maxRecDepth 100000 in
set_option maxHeartbeats 4000000 in
theorem sPostsOf_any (B : Nat) (A : Option Addr) (n c : Nat) (ls : List (List Lab)) (x y : ByteArray) (w : World) (hBw : B ≤ w.heap.size) (h : RdSS w B A n ls) (hn : n ≤ 1048576) (hf : serFit ls) (hx : x.size ≤ 1048576) (hy : y.size ≤ 1048576) :
    Calls Try.prog 8 #[.slice A n c, .agg #[.string x, .string y]] w (GotR 3 1 w (postsR ls (x, y)).length (ints (postsR ls (x, y))) (goodSer ls && labOk (x, y))) := by
  obtain ⟨wb, hwb⟩ : ∃ wb, wb = w.alloc (.cells #[.string x, .string y] 32) := ⟨_, rfl⟩
  have hb0 : Below w.heap.size w wb := hwb ▸ (Below.refl _ _).alloc (Nat.le_refl _) _
  have hsb : w.heap.size < wb.heap.size := by rw [hwb]; simp
  have hx0 : wb.cell? ⟨w.heap.size, 0, none⟩ = some (.string x) := by rw [hwb]; exact World.cell?_alloc_at _ _ _ _ rfl
  have hx1 : wb.cell? ⟨w.heap.size, 1, none⟩ = some (.string y) := by rw [hwb]; exact World.cell?_alloc_at _ _ _ _ rfl
  have HW := Lib.hid (show w.alloc (.cells #[.string x, .string y] 32) = wb from hwb.symm)
  have HRD := Lib.hid (h.below (hb0.mono hBw))
  have HC := l4Series_any B A n c ls wb (Nat.le_trans hBw hb0.size) HRD.out hn hf
  obtain ⟨q, hq⟩ : ∃ q, goodSer ls = q := ⟨_, rfl⟩
  rw [hq] at HC
  have HC1 := Lib.hid HC
  have HQ := Lib.hid hq
  have HB0 := Lib.hid hb0
  have HL := Lib.hid (fun w => l4Label_any x y w hx hy)
  obtain ⟨r, hr⟩ : ∃ r, labOk (x, y) = r := ⟨_, rfl⟩
  rw [hr] at HL
  have HR := Lib.hid hr
  have HNO := Lib.hid (show ¬ (q = true ∧ r = true) → postsR ls (x, y) = [] ∧ (goodSer ls && labOk (x, y)) = false from fun hh => by
    have e : (goodSer ls && labOk (x, y)) = false := by rw [hq, hr]; cases q <;> cases r <;> simp_all
    exact ⟨by unfold postsR; rw [e]; rfl, e⟩)
  have hBb := Nat.le_trans hBw hb0.size
  clear h HC hwb hb0 hq hr hf
  cases q with
  | false =>
    go_enter Try.func8, Try.ntmps8
    go_wp2_with fail
    rw [HW.out]
    refine HC1.out.mono ?_
    rintro e w1 ⟨rfl, hb1⟩
    have HB1 := Lib.hid (HB0.out.trans (hb1.mono (by omega)))
    clear hb1
    go_wp2
    go_ret2
    obtain ⟨e1, e2⟩ := HNO.out (by simp)
    rw [e1, e2]
    exact GotR.no_ HB1.out
  | true =>
    cases r with
    | false =>
      go_enter Try.func8, Try.ntmps8
      go_wp2_with fail
      rw [HW.out]
      refine HC1.out.mono ?_
      rintro e w1 ⟨rfl, hb1⟩
      have HB1 := Lib.hid (HB0.out.trans (hb1.mono (by omega)))
      have hs1 := HB1.out.size
      have hx0 := (bcell hb1 _ _ hsb).trans hx0
      have hx1 := (bcell hb1 _ _ hsb).trans hx1
      clear hb1
      go_wp2_with (go_at_call 36; refine (HL.out _).mono ?_; rintro e w2 ⟨rfl, hb2⟩; have HB2 := Lib.hid (HB1.out.trans (hb2.mono hs1)); clear hb2)
      go_ret2
      obtain ⟨e1, e2⟩ := HNO.out (by simp)
      rw [e1, e2]
      exact GotR.no_ HB2.out
    | true =>
      have HOK := Lib.hid (show postsR ls (x, y) = postsL ls (x, y) ∧ (goodSer ls && labOk (x, y)) = true from by
        have e : (goodSer ls && labOk (x, y)) = true := by rw [HQ.out, HR.out]; rfl
        exact ⟨by unfold postsR; rw [e]; rfl, e⟩)
      go_enter Try.func8, Try.ntmps8
      go_wp2_with fail
      rw [HW.out]
      refine HC1.out.mono ?_
      rintro e w1 ⟨rfl, hb1⟩
      have HB1 := Lib.hid (HB0.out.trans (hb1.mono (by omega)))
      have hs1 := HB1.out.size
      have hx0 := (bcell hb1 _ _ hsb).trans hx0
      have hx1 := (bcell hb1 _ _ hsb).trans hx1
      have HRD1 := Lib.hid (HRD.out.below (hb1.mono hBb))
      have hB1 := Nat.le_trans hBb hb1.size
      have hs2 := Nat.lt_of_lt_of_le hsb hb1.size
      clear hb1
      go_wp2_with (go_at_call 36; refine (HL.out _).mono ?_; rintro e w2 ⟨rfl, hb2⟩; have HB2 := Lib.hid (HB1.out.trans (hb2.mono hs1)); have HRD2 := Lib.hid (HRD1.out.below (hb2.mono hB1)); have hx0 := (bcell hb2 _ _ hs2).trans hx0; have hx1 := (bcell hb2 _ _ hs2).trans hx1; have hB2 := Nat.le_trans hB1 hb2.size; clear hb2)
      refine (l4Posts_any B A n c ls x y w2 hB2 HRD2.out HQ.out).mono ?_
      rintro e w3 ⟨A3, c3, rfl, ho, hb⟩
      have HO := Lib.hid (own_mono ho HB2.out.size)
      have HB3 := Lib.hid (HB2.out.trans (hb.mono HB2.out.size))
      clear ho hb
      go_wp2
      go_ret2
      rw [HOK.out.1, HOK.out.2]
      exact GotR.own_ HO.out HB3.out
set_option maxRecDepth 100000 in
set_option maxHeartbeats 4000000 in
theorem iPostsOf_any (B : Nat) (A : Option Addr) (n c : Nat) (ls : List (List Lab)) (x y : ByteArray) (w : World) (hBw : B ≤ w.heap.size) (h : RdSS w B A n ls) (hn : n ≤ 1048576) (hf : serFit ls) (hx : x.size ≤ 1048576) (hy : y.size ≤ 1048576) :
    Calls Try.prog 11 #[.slice A n c, .agg #[.string x, .string y]] w (GotR 3 1 w (postsR ls (x, y)).length (ints (postsR ls (x, y))) (goodSer ls && labOk (x, y))) := by
  obtain ⟨wb, hwb⟩ : ∃ wb, wb = w.alloc (.cells #[.string x, .string y] 32) := ⟨_, rfl⟩
  have hb0 : Below w.heap.size w wb := hwb ▸ (Below.refl _ _).alloc (Nat.le_refl _) _
  have hsb : w.heap.size < wb.heap.size := by rw [hwb]; simp
  have hx0 : wb.cell? ⟨w.heap.size, 0, none⟩ = some (.string x) := by rw [hwb]; exact World.cell?_alloc_at _ _ _ _ rfl
  have hx1 : wb.cell? ⟨w.heap.size, 1, none⟩ = some (.string y) := by rw [hwb]; exact World.cell?_alloc_at _ _ _ _ rfl
  have HW := Lib.hid (show w.alloc (.cells #[.string x, .string y] 32) = wb from hwb.symm)
  have HRD := Lib.hid (h.below (hb0.mono hBw))
  have HC := areSeries_any B A n c ls wb (Nat.le_trans hBw hb0.size) HRD.out hn hf
  obtain ⟨q, hq⟩ : ∃ q, goodSer ls = q := ⟨_, rfl⟩
  rw [hq] at HC
  have HC1 := Lib.hid HC
  have HQ := Lib.hid hq
  have HB0 := Lib.hid hb0
  have HL := Lib.hid (fun w => isLabel_any x y w hx hy)
  obtain ⟨r, hr⟩ : ∃ r, labOk (x, y) = r := ⟨_, rfl⟩
  rw [hr] at HL
  have HR := Lib.hid hr
  have HNO := Lib.hid (show ¬ (q = true ∧ r = true) → postsR ls (x, y) = [] ∧ (goodSer ls && labOk (x, y)) = false from fun hh => by
    have e : (goodSer ls && labOk (x, y)) = false := by rw [hq, hr]; cases q <;> cases r <;> simp_all
    exact ⟨by unfold postsR; rw [e]; rfl, e⟩)
  have hBb := Nat.le_trans hBw hb0.size
  clear h HC hwb hb0 hq hr hf
  cases q with
  | false =>
    go_enter Try.func11, Try.ntmps11
    go_wp2_with fail
    rw [HW.out]
    refine HC1.out.mono ?_
    rintro e w1 ⟨rfl, hb1⟩
    have HB1 := Lib.hid (HB0.out.trans (hb1.mono (by omega)))
    clear hb1
    go_wp2
    go_ret2
    obtain ⟨e1, e2⟩ := HNO.out (by simp)
    rw [e1, e2]
    exact GotR.no_ HB1.out
  | true =>
    cases r with
    | false =>
      go_enter Try.func11, Try.ntmps11
      go_wp2_with fail
      rw [HW.out]
      refine HC1.out.mono ?_
      rintro e w1 ⟨rfl, hb1⟩
      have HB1 := Lib.hid (HB0.out.trans (hb1.mono (by omega)))
      have hs1 := HB1.out.size
      have hx0 := (bcell hb1 _ _ hsb).trans hx0
      have hx1 := (bcell hb1 _ _ hsb).trans hx1
      clear hb1
      go_wp2_with (go_at_call 40; refine (HL.out _).mono ?_; rintro e w2 ⟨rfl, hb2⟩; have HB2 := Lib.hid (HB1.out.trans (hb2.mono hs1)); clear hb2)
      go_ret2
      obtain ⟨e1, e2⟩ := HNO.out (by simp)
      rw [e1, e2]
      exact GotR.no_ HB2.out
    | true =>
      have HOK := Lib.hid (show postsR ls (x, y) = postsL ls (x, y) ∧ (goodSer ls && labOk (x, y)) = true from by
        have e : (goodSer ls && labOk (x, y)) = true := by rw [HQ.out, HR.out]; rfl
        exact ⟨by unfold postsR; rw [e]; rfl, e⟩)
      go_enter Try.func11, Try.ntmps11
      go_wp2_with fail
      rw [HW.out]
      refine HC1.out.mono ?_
      rintro e w1 ⟨rfl, hb1⟩
      have HB1 := Lib.hid (HB0.out.trans (hb1.mono (by omega)))
      have hs1 := HB1.out.size
      have hx0 := (bcell hb1 _ _ hsb).trans hx0
      have hx1 := (bcell hb1 _ _ hsb).trans hx1
      have HRD1 := Lib.hid (HRD.out.below (hb1.mono hBb))
      have hB1 := Nat.le_trans hBb hb1.size
      have hs2 := Nat.lt_of_lt_of_le hsb hb1.size
      clear hb1
      go_wp2_with (go_at_call 40; refine (HL.out _).mono ?_; rintro e w2 ⟨rfl, hb2⟩; have HB2 := Lib.hid (HB1.out.trans (hb2.mono hs1)); have HRD2 := Lib.hid (HRD1.out.below (hb2.mono hB1)); have hx0 := (bcell hb2 _ _ hs2).trans hx0; have hx1 := (bcell hb2 _ _ hs2).trans hx1; have hB2 := Nat.le_trans hB1 hb2.size; clear hb2)
      refine (postsOf_any B A n c ls x y w2 hB2 HRD2.out HQ.out).mono ?_
      rintro e w3 ⟨A3, c3, rfl, ho, hb⟩
      have HO := Lib.hid (own_mono ho HB2.out.size)
      have HB3 := Lib.hid (HB2.out.trans (hb.mono HB2.out.size))
      clear ho hb
      go_wp2
      go_ret2
      rw [HOK.out.1, HOK.out.2]
      exact GotR.own_ HO.out HB3.out
theorem both_PostsOf (n : Nat) (ls : List (List Lab)) (x y : ByteArray) (hn : n ≤ 1048576) (hz : lblSzSS ls ≤ 1048576) (hq : x.size + y.size ≤ 1048576) : ∃ (nr : Nat) (lr : List Int) (r1 : Bool), nr ≤ 1048576 ∧
    (∀ B A c w, B ≤ w.heap.size → RdSS w B A n ls → Calls Try.prog 8 #[.slice A n c, .agg #[.string x, .string y]] w (GotR 3 1 w nr (ints lr) r1)) ∧
    (∀ B A c w, B ≤ w.heap.size → RdSS w B A n ls → Calls Try.prog 11 #[.slice A n c, .agg #[.string x, .string y]] w (GotR 3 1 w nr (ints lr) r1)) :=
  ⟨(postsR ls (x, y)).length, postsR ls (x, y), _, postsR_len ls (x, y), fun B A c w hB h => sPostsOf_any B A n c ls x y w hB h hn (serFit_of hz) (by omega) (by omega), fun B A c w hB h => iPostsOf_any B A n c ls x y w hB h hn (serFit_of hz) (by omega) (by omega)⟩
end Go.Proofs.Ytpdclppieicaeaa
