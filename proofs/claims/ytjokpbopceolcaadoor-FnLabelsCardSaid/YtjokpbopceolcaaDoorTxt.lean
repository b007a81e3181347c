/- LabelsText: plain law, the reference's and the program's walks. -/
import Derived.Test.YtjokpbopceolcaaDoorShTxt
import Derived.Test.YtjokpbopceolcaaDoorAreLab
import Derived.Test.YtjokpbopceolcaaDoorMergePlain
import Derived.Test.YtjokpbopceolcaaDoorLabs
import Derived.Shelf.Strings.OnBuilder
namespace Go.Proofs.YtjokpbopceolcaaDoor
set_option linter.unusedVariables false
set_option linter.unusedSimpArgs false
open Go.RowKit

theorem Tryd.joinExtra : Builder.Extra Tryd.prog Tryd.joinS_ren where
  sizeBuilder := by kernel_rfl
  liesBuilder := by kernel_rfl
  t5 := by kernel_rfl
  a5 := Tryd.isAgg5
  z5 := Tryd.sizeOf5
  v5 := Tryd.zeroValue5
  infoByte := by kernel_rfl
  cellsByte := by kernel_rfl
  sizeByte := by kernel_rfl
  neB5 := by decide
theorem infoStr : (Tryd.prog.info? 9).map (fun i => (i.zero, i.size, i.bytes)) = some (some (.string .empty), 1, 16) := by kernel_rfl
def strs (l : List ByteArray) : List Value := l.map Value.string
theorem strs_len (l : List ByteArray) : (strs l).length = l.length := List.length_map ..
/-- A label as text. -/
def labB (p : Lab) : ByteArray := p.1 ++ ⟨#[61]⟩ ++ p.2
def labJ (l : List Lab) : List UInt8 := Lib.join ((l.map labB).map (·.data.toList)) [44]
def labTxt (l : List Lab) : ByteArray := ⟨(123 :: (labJ l ++ [125])).toArray⟩
theorem labB_size (p : Lab) : (labB p).size = p.1.size + 1 + p.2.size := by
  unfold labB; rw [ByteArray.size_append, ByteArray.size_append]; rfl
theorem join_snoc (xs : List (List UInt8)) (x sep : List UInt8) : Lib.join (xs ++ [x]) sep = if xs = [] then x else Lib.join xs sep ++ sep ++ x := by
  cases xs with
  | nil => simp [Lib.join_one]
  | cons y r =>
    rw [List.cons_append, Lib.join_cons, Lib.join_cons, if_neg (by simp)]
    unfold Lib.joinTail
    simp
theorem labJ_snoc (l : List Lab) (p : Lab) : labJ (l ++ [p]) = if l = [] then (labB p).data.toList else labJ l ++ [44] ++ (labB p).data.toList := by
  unfold labJ
  rw [List.map_append, List.map_append, List.map_singleton, List.map_singleton, join_snoc]
  cases l <;> simp
theorem labJ_take {l : List Lab} {k : Nat} {p : Lab} (h : l[k]? = some p) : labJ (l.take (k + 1)) = if k = 0 then (labB p).data.toList else labJ (l.take k) ++ [44] ++ (labB p).data.toList := by
  rw [take_snoc' _ _ _ h, labJ_snoc]
  cases k with
  | zero => simp
  | succ k =>
    rw [if_neg (Nat.succ_ne_zero k), if_neg]
    cases l with
    | nil => simp at h
    | cons y r => simp
theorem ba_list {a b : ByteArray} (h : a.data.toList = b.data.toList) : a = b := bytes_ext h
theorem app_list (a b : ByteArray) : (a ++ b).data.toList = a.data.toList ++ b.data.toList := by simp
theorem labJ_len : ∀ (n : Nat) (l : List Lab), l.length = n → (∀ p ∈ l, p.1.size ≤ 8 ∧ p.2.size ≤ 8) → (labJ l).length ≤ 18 * n
  | 0, l, hl, _ => by
    obtain rfl : l = [] := List.eq_nil_of_length_eq_zero hl
    simp [labJ, Lib.join_nil]
  | n + 1, l, hl, h => by
    rcases List.eq_nil_or_concat l with rfl | ⟨r, p, rfl⟩
    · simp at hl
    · rw [List.concat_eq_append] at *
      have hr : r.length = n := by simpa using hl
      have h1 := h p (by simp)
      have h2 := labJ_len n r hr fun q hq => h q (by simp [hq])
      have h3 := labB_size p
      have h4 : (labB p).data.toList.length = (labB p).size := by rw [Array.length_toList]; rfl
      rw [labJ_snoc]
      split
      · omega
      · simp only [List.length_append, List.length_singleton]
        omega
theorem good_small {l : List Lab} (h : goodLab l = true) : ∀ p ∈ l, p.1.size ≤ 8 ∧ p.2.size ≤ 8 := by
  intro p hp
  obtain ⟨k, hk⟩ := List.mem_iff_getElem?.1 hp
  have := goodLab_ok h hk
  obtain ⟨x, y⟩ := p
  obtain ⟨h1, h2⟩ := labOk_t this
  exact ⟨(wordOk_len h1).2, (wordOk_len h2).2⟩
/-! The reference's text. -/
set_option maxRecDepth 100000 in
set_option maxHeartbeats 4000000 in
theorem l3Text_any (B : Nat) (A : Option Addr) (n c : Nat) (l : List Lab) (w : World) (hBw : B ≤ w.heap.size) (h : Rd w B 2 A n (lbls l)) (hn : n ≤ 6) (hs : ∀ p ∈ l, p.1.size ≤ 8 ∧ p.2.size ≤ 8) :
    Calls Tryd.prog 44 #[.slice A n c] w fun e w' => e = .returned (.string (labTxt l)) ∧ Below w.heap.size w w' := by
  have HL := Lib.hid h.lab_len
  have HS := Lib.hid hs
  have HJL := Lib.hid (fun k => labJ_len _ (l.take k) rfl (fun p hp => hs p (List.mem_of_mem_take hp)))
  have H := Lib.hid h
  clear h hs
  go_enter Tryd.func44, Tryd.ntmps44
  go_wp2
  go_loopw [3, 8] (fun s i wr => ∃ (k : Nat) (S : ByteArray), k ≤ n ∧ i = .int .i64 k ∧ s = .string S ∧ S.data.toList = 123 :: labJ (l.take k) ∧ S.size ≤ 1 + 18 * k ∧ Below w.heap.size w wr) (fun _ i _ => n - (intOf i).toNat)
  case atStart => exact ⟨0, ⟨#[123]⟩, Nat.zero_le _, rfl, rfl, by simp [labJ, Lib.join_nil], by decide, Below.refl _ _⟩
  case round =>
    obtain ⟨k, S, hk, rfl, rfl, hS, hSs, hb⟩ := hrel
    have HSS := Lib.hid hS
    have HB := Lib.hid hb
    have hsz := hb.size
    clear hS hb
    by_cases hlt : k < n
    · obtain ⟨b, off, x, y, rfl, hbB, hx, hc0, hc1⟩ := H.out.lab_at hlt
      have hc0' : wr.cell? ⟨b, off + k * 2, none⟩ = some (.string x) := (bcell HB.out _ _ (by omega)).trans hc0
      have hc1' : wr.cell? ⟨b, off + k * 2 + 1, none⟩ = some (.string y) := (bcell HB.out _ _ (by omega)).trans hc1
      obtain ⟨hsx, hsy⟩ := HS.out _ (List.mem_of_getElem? hx)
      simp only at hsx hsy
      have HJ := Lib.hid (labJ_take hx)
      obtain ⟨L, hL⟩ : ∃ L, x ++ ⟨#[61]⟩ = L := ⟨_, rfl⟩
      have hLs : L.size ≤ 9 := by rw [← hL, ByteArray.size_append]; show x.size + 1 ≤ 9; omega
      obtain ⟨M, hM⟩ : ∃ M, L ++ y = M := ⟨_, rfl⟩
      have hMs : M.size ≤ 17 := by rw [← hM, ByteArray.size_append]; omega
      have HMM := Lib.hid (show M = labB (x, y) by rw [← hM, ← hL]; rfl)
      obtain ⟨C, hC⟩ : ∃ C, S ++ ⟨#[44]⟩ = C := ⟨_, rfl⟩
      have hCs : C.size = S.size + 1 := by rw [← hC, ByteArray.size_append]; rfl
      have hcat1 : ∀ w, (Op.stringOp .add x ⟨#[61]⟩).run Tryd.prog w = .ok (.string L) w := fun w => hL ▸ run_string_add_sum w x ⟨#[61]⟩ (by show x.size + 1 ≤ _; omega)
      have hcat2 : ∀ w, (Op.stringOp .add L y).run Tryd.prog w = .ok (.string M) w := fun w => hM ▸ run_string_add_sum w L y (by omega)
      have hcat3 : ∀ w, (Op.stringOp .add S M).run Tryd.prog w = .ok (.string (S ++ M)) w := fun w => run_string_add_sum w S M (by omega)
      have hcat4 : ∀ w, (Op.stringOp .add C M).run Tryd.prog w = .ok (.string (C ++ M)) w := fun w => run_string_add_sum w C M (by omega)
      have hcat5 : ∀ w, (Op.stringOp .add S ⟨#[44]⟩).run Tryd.prog w = .ok (.string C) w := fun w => hC ▸ run_string_add_sum w S ⟨#[44]⟩ (by show S.size + 1 ≤ _; omega)
      have HCC := Lib.hid hC
      clear hx hc0 hc1 hL hM hC
      rcases k with _ | j
      · simp only [Nat.zero_mul, Nat.add_zero] at hc0' hc1'
        have HE := Lib.hid (show (S ++ M).data.toList = 123 :: labJ (l.take 1) by
          have e := HJ.out
          rw [if_pos rfl] at e
          rw [e, app_list, HSS.out, HMM.out]; simp [labJ, Lib.join_nil])
        clear hcat4 hcat5
        go_wp2
        go_roundw
        case rel => exact ⟨1, S ++ M, by omega, by go_num, rfl, HE.out, by rw [ByteArray.size_append]; omega, HB.out.alloc hsz _⟩
        case measure => simp [intOf]; omega
      · have HE := Lib.hid (show (C ++ M).data.toList = 123 :: labJ (l.take (j + 1 + 1)) by
          have e := HJ.out
          rw [if_neg (Nat.succ_ne_zero j)] at e
          rw [e, app_list, ← HCC.out, app_list, HSS.out, HMM.out]; simp)
        clear hcat3
        go_wp2
        go_roundw
        case rel => exact ⟨j + 1 + 1, C ++ M, by omega, by go_num, rfl, HE.out, by rw [ByteArray.size_append]; omega, HB.out.alloc hsz _⟩
        case measure => simp [intOf]; omega
    · have ht : l.take k = l := List.take_of_length_le (by rw [HL.out]; omega)
      obtain ⟨F, hF⟩ : ∃ F, S ++ ⟨#[125]⟩ = F := ⟨_, rfl⟩
      have hcat : ∀ w, (Op.stringOp .add S ⟨#[125]⟩).run Tryd.prog w = .ok (.string F) w := fun w => hF ▸ run_string_add_sum w S ⟨#[125]⟩ (by show S.size + 1 ≤ _; omega)
      have HF := Lib.hid (show F = labTxt l by
        refine ba_list ?_
        rw [← hF, app_list, HSS.out, ht]
        simp [labTxt])
      clear hF ht
      go_wp2
      go_ret
      rw [HF.out]
      exact ⟨rfl, HB.out⟩
/-! The program's text. -/
def partlyS (l : List Lab) (k : Nat) : List Value := strs ((l.map labB).take k) ++ List.replicate (l.length - k) (.string .empty)
theorem partlyS_len (l : List Lab) (k : Nat) (h : k ≤ l.length) : (partlyS l k).length = l.length := by
  unfold partlyS; rw [List.length_append, strs_len, List.length_take, List.length_map, List.length_replicate]; omega
theorem partlyS_set (l : List Lab) (k : Nat) (p : Lab) (h : l[k]? = some p) : (partlyS l k).set k (.string (labB p)) = partlyS l (k + 1) := by
  have hk := (List.getElem?_eq_some_iff.1 h).1
  unfold partlyS
  rw [List.set_append_right _ _ (by rw [strs_len, List.length_take, List.length_map]; omega), strs_len, List.length_take, List.length_map, Nat.min_eq_left (by omega), Nat.sub_self,
    show l.length - k = (l.length - (k + 1)) + 1 by omega, List.replicate_succ, List.set_cons_zero, take_snoc' (l.map labB) k (labB p) (by simp [h])]
  unfold strs
  rw [List.map_append, List.append_assoc]
  rfl
set_option maxRecDepth 100000 in
set_option maxHeartbeats 4000000 in
theorem labelsText_any (B : Nat) (A : Option Addr) (n c : Nat) (l : List Lab) (w : World) (hBw : B ≤ w.heap.size) (h : Rd w B 2 A n (lbls l)) (hn : n ≤ 6) (hs : ∀ p ∈ l, p.1.size ≤ 8 ∧ p.2.size ≤ 8) :
    Calls Tryd.prog 43 #[.slice A n c] w fun e w' => e = .returned (.string (labTxt l)) ∧ Below w.heap.size w w' := by
  have hlen := h.lab_len
  have HL := Lib.hid hlen
  have HS := Lib.hid hs
  have HJL := Lib.hid (labJ_len _ l rfl hs)
  have H := Lib.hid h
  obtain ⟨i0, hi, hz0, hz1, hz2⟩ := info_parts infoStr
  clear h hs hlen
  go_enter Tryd.func43, Tryd.ntmps43
  go_wp2_with (at_make; refine wpList_make_full _ rfl (.tmp 7) (.tmp 7) 45 rfl w.heap.size 9 i0 (.string .empty) 1 Tryd.underlying45 hi hz0 hz1 _ _ _ _ n rfl rfl rfl rfl (by rw [hz2]; omega) (by unfold maxLen; omega) (Nat.le_refl _) ?_; intro w1 hown hgrow)
  have hb1 : Below w.heap.size w w1 := (Below.refl _ _).grown hgrow (Nat.le_refl _) (by simp)
  have hown1 : w1.ownsRow w.heap.size 9 1 (.slice (some ⟨w.heap.size, 0, none⟩) n n) n (partlyS l 0) := by
    have e : partlyS l 0 = List.replicate n (.string .empty) := by simp [partlyS, strs, HL.out]
    rw [e, ← toList_madeCells_one]
    simpa [Value.cells] using hown
  clear hown hgrow hi hz0 hz1 hz2
  have HB := Lib.hid hb1
  have HO := Lib.hid hown1
  clear hb1 hown1
  go_wp2
  go_loopw [11] (fun i wr => ∃ k : Nat, k ≤ n ∧ i = .int .i64 k ∧ wr.ownsRow w.heap.size 9 1 (.slice (some ⟨w.heap.size, 0, none⟩) n n) n (partlyS l k) ∧ Below w.heap.size w wr) (fun i _ => n - (intOf i).toNat)
  case atStart => exact ⟨0, Nat.zero_le _, rfl, HO.out, HB.out⟩
  case round =>
    clear HO HB
    obtain ⟨k, hk, rfl, ho, hb⟩ := hrel
    have hsz := hb.size
    by_cases hlt : k < n
    · obtain ⟨b, off, x, y, rfl, hbB, hx, hc0, hc1⟩ := H.out.lab_at hlt
      have hc0' : wr.cell? ⟨b, off + k * 2, none⟩ = some (.string x) := (bcell hb _ _ (by omega)).trans hc0
      have hc1' : wr.cell? ⟨b, off + k * 2 + 1, none⟩ = some (.string y) := (bcell hb _ _ (by omega)).trans hc1
      obtain ⟨hsx, hsy⟩ := HS.out _ (List.mem_of_getElem? hx)
      simp only at hsx hsy
      obtain ⟨L, hL⟩ : ∃ L, x ++ ⟨#[61]⟩ = L := ⟨_, rfl⟩
      have hLs : L.size ≤ 9 := by rw [← hL, ByteArray.size_append]; show x.size + 1 ≤ 9; omega
      obtain ⟨M, hM⟩ : ∃ M, L ++ y = M := ⟨_, rfl⟩
      have hMM : labB (x, y) = M := by rw [← hM, ← hL]; rfl
      have hcat1 : ∀ w, (Op.stringOp .add x ⟨#[61]⟩).run Tryd.prog w = .ok (.string L) w := fun w => hL ▸ run_string_add_sum w x ⟨#[61]⟩ (by show x.size + 1 ≤ _; omega)
      have hcat2 : ∀ w, (Op.stringOp .add L y).run Tryd.prog w = .ok (.string M) w := fun w => hM ▸ run_string_add_sum w L y (by omega)
      have hob := ho.alloc (.cells #[.string x, .string y] 48)
      have hs := hob.stored k (.string M)
      rw [← hMM, partlyS_set l k _ hx, hMM] at hs
      have hf : (wr.alloc (.cells #[.string x, .string y] 48)).frozen? ⟨w.heap.size, k, none⟩ = false := hob.frozenAt k
      obtain ⟨z, hz⟩ : ∃ z, (wr.alloc (.cells #[.string x, .string y] 48)).cell? ⟨w.heap.size, k, none⟩ = some z := by
        rw [hob.cellAt k (by omega)]
        exact ⟨_, List.getElem?_eq_getElem (by rw [partlyS_len _ _ (by have := HL.out; omega)]; have := HL.out; omega)⟩
      have HSS := Lib.hid hs
      have HBB := Lib.hid (hb.alloc hsz (.cells #[.string x, .string y] 48))
      clear hx hs hb ho hc0 hc1 hL hM hMM hob
      go_wp2
      go_roundw
      case rel => exact ⟨k + 1, by omega, by go_num, HSS.out.1, HBB.out.setCell (Nat.le_refl _) _⟩
      case measure => simp [intOf]; omega
    · have hk' : k = n := by omega
      subst hk'
      have e : partlyS l k = strs (l.map labB) := by
        have := HL.out
        unfold partlyS
        rw [List.take_of_length_le (by simp; omega), show l.length - k = 0 by omega]; simp
      rw [e] at ho
      have hJ := HJL.out
      have hll := HL.out
      have HO := Lib.hid ho
      have HB := Lib.hid hb
      have HJn := Lib.hid (Any.strings_Join Tryd.joinS Tryd.joinExtra w.heap.size 0 k (l.map labB) ⟨#[44]⟩ wr
        (fun j x hx => by
          have hj : j < k := by have := (List.getElem?_eq_some_iff.1 hx).1; simp at this; omega
          rw [Nat.zero_add, ho.cellAt j (by omega)]
          simpa [strs] using hx)
        (ho.lt _ rfl).2 (by simp; omega) (by simp; omega) (by show (labJ l).length ≤ _; omega))
      have hml : (l.map labB).length = k := by simp; omega
      rw [hml] at HJn
      obtain ⟨J, hJJ⟩ : ∃ J : ByteArray, (⟨(Lib.join ((l.map labB).map (·.data.toList)) [44]).toArray⟩ : ByteArray) = J := ⟨_, rfl⟩
      have hjs : J.size = (labJ l).length := by rw [← hJJ]; simp [ByteArray.size, labJ]
      obtain ⟨G, hG⟩ : ∃ G, (⟨#[123]⟩ : ByteArray) ++ J = G := ⟨_, rfl⟩
      have hgs : G.size = 1 + J.size := by rw [← hG, ByteArray.size_append]; rfl
      obtain ⟨F, hF⟩ : ∃ F, G ++ ⟨#[125]⟩ = F := ⟨_, rfl⟩
      have hcat1 : ∀ w, (Op.stringOp .add ⟨#[123]⟩ J).run Tryd.prog w = .ok (.string G) w := fun w => hG ▸ run_string_add_sum w ⟨#[123]⟩ J (by show 1 + J.size ≤ _; omega)
      have hcat2 : ∀ w, (Op.stringOp .add G ⟨#[125]⟩).run Tryd.prog w = .ok (.string F) w := fun w => hF ▸ run_string_add_sum w G ⟨#[125]⟩ (by show G.size + 1 ≤ _; omega)
      have HF := Lib.hid (show F = labTxt l by
        refine ba_list ?_
        rw [← hF, ← hG, app_list, app_list, ← hJJ]
        simp [labTxt, labJ])
      have HJ2 := Lib.hid (show Calls Tryd.prog 74 #[.slice (some ⟨w.heap.size, 0, none⟩) k k, .string ⟨#[44]⟩] wr (fun e w' => e = .returned (.string J) ∧ Below wr.heap.size wr w') from HJn.out.mono fun e w' ⟨he, hw⟩ => ⟨he.trans (congrArg (fun s => Ending.returned (.string s)) hJJ), hw⟩)
      clear ho hb e hJ hJJ hG hF hjs hgs HJn hml
      go_wp2_with fail
      refine HJ2.out.mono ?_
      rintro e w2 ⟨rfl, hb2⟩
      have HB2 := Lib.hid (HB.out.trans (hb2.mono hsz))
      clear hb2
      go_wp2
      go_ret
      rw [HF.out]
      exact ⟨rfl, HB2.out⟩
def txtR (l : List Lab) : ByteArray := if goodLab l then labTxt l else ⟨#[]⟩
theorem txt_no {l : List Lab} (h : goodLab l = false) : txtR l = ⟨#[]⟩ := by unfold txtR; rw [h]; rfl
theorem txt_yes {l : List Lab} (h : goodLab l = true) : txtR l = labTxt l := by unfold txtR; rw [h]; rfl
set_option maxRecDepth 100000 in
set_option maxHeartbeats 2000000 in
theorem sLabelsText_any (B : Nat) (A : Option Addr) (n c : Nat) (l : List Lab) (w : World) (hBw : B ≤ w.heap.size) (h : Rd w B 2 A n (lbls l)) (hn : n ≤ 1048576) (hf : lblFit l) :
    Calls Tryd.prog 18 #[.slice A n c] w fun e w' => e = .returned (.tuple #[.string (txtR l), .bool (goodLab l)]) ∧ Ch 0 0 w w' := by
  have C1 := Lib.hid (sGoodLabels_any B A n c l w hBw h hn hf)
  cases hg : goodLab l with
  | false =>
    have HT := Lib.hid (txt_no hg)
    rw [hg] at C1
    clear hg h hf
    go_enter Tryd.func18, Tryd.ntmps18
    go_wp2_with fail
    refine C1.out.mono ?_
    rintro e w1 ⟨rfl, hb1⟩
    have HB := Lib.hid hb1
    clear hb1
    go_wp2
    go_ret2
    rw [HT.out]
    exact ⟨rfl, Ch.of_below HB.out⟩
  | true =>
    have HT := Lib.hid (txt_yes hg)
    rw [hg] at C1
    have hl := goodLab_len hg
    have hlen := h.lab_len
    have C2 := Lib.hid (fun w1 (hb : Below w.heap.size w w1) => l3Text_any B A n c l w1 (Nat.le_trans hBw hb.size) (h.below (hb.mono hBw)) (by omega) (good_small hg))
    clear hg h hf hl hlen
    go_enter Tryd.func18, Tryd.ntmps18
    go_wp2_with fail
    refine C1.out.mono ?_
    rintro e w1 ⟨rfl, hb1⟩
    have HB := Lib.hid hb1
    clear hb1
    go_wp2_with fail
    refine (C2.out _ HB.out).mono ?_
    rintro e w2 ⟨rfl, hb2⟩
    have HB2 := Lib.hid (HB.out.trans (hb2.mono HB.out.size))
    clear hb2
    go_wp2
    go_ret2
    rw [HT.out]
    exact ⟨rfl, Ch.of_below HB2.out⟩
set_option maxRecDepth 100000 in
set_option maxHeartbeats 2000000 in
theorem iLabelsText_any (B : Nat) (A : Option Addr) (n c : Nat) (l : List Lab) (w : World) (hBw : B ≤ w.heap.size) (h : Rd w B 2 A n (lbls l)) (hn : n ≤ 1048576) (hf : lblFit l) :
    Calls Tryd.prog 17 #[.slice A n c] w fun e w' => e = .returned (.tuple #[.string (txtR l), .bool (goodLab l)]) ∧ Ch 0 0 w w' := by
  have C1 := Lib.hid (areLabels_any B A n c l w hBw h hn hf)
  cases hg : goodLab l with
  | false =>
    have HT := Lib.hid (txt_no hg)
    rw [hg] at C1
    clear hg h hf
    go_enter Tryd.func17, Tryd.ntmps17
    go_wp2_with fail
    refine C1.out.mono ?_
    rintro e w1 ⟨rfl, hb1⟩
    have HB := Lib.hid hb1
    clear hb1
    go_wp2
    go_ret2
    rw [HT.out]
    exact ⟨rfl, Ch.of_below HB.out⟩
  | true =>
    have HT := Lib.hid (txt_yes hg)
    rw [hg] at C1
    have hl := goodLab_len hg
    have hlen := h.lab_len
    have C2 := Lib.hid (fun w1 (hb : Below w.heap.size w w1) => labelsText_any B A n c l w1 (Nat.le_trans hBw hb.size) (h.below (hb.mono hBw)) (by omega) (good_small hg))
    clear hg h hf hl hlen
    go_enter Tryd.func17, Tryd.ntmps17
    go_wp2_with fail
    refine C1.out.mono ?_
    rintro e w1 ⟨rfl, hb1⟩
    have HB := Lib.hid hb1
    clear hb1
    go_wp2_with fail
    refine (C2.out _ HB.out).mono ?_
    rintro e w2 ⟨rfl, hb2⟩
    have HB2 := Lib.hid (HB.out.trans (hb2.mono HB.out.size))
    clear hb2
    go_wp2
    go_ret2
    rw [HT.out]
    exact ⟨rfl, Ch.of_below HB2.out⟩
theorem both_LabelsText (n : Nat) (l : List Lab) (hn : n ≤ 1048576) (hz : lblSz l ≤ 1048576) : ∃ (S : ByteArray) (K : Bool),
    (∀ B A c w, B ≤ w.heap.size → Rd w B 2 A n (lbls l) → Calls Tryd.prog 18 #[.slice A n c] w fun e w' => e = .returned (.tuple #[.string S, .bool K]) ∧ Ch 0 0 w w') ∧
    (∀ B A c w, B ≤ w.heap.size → Rd w B 2 A n (lbls l) → Calls Tryd.prog 17 #[.slice A n c] w fun e w' => e = .returned (.tuple #[.string S, .bool K]) ∧ Ch 0 0 w w') :=
  ⟨txtR l, goodLab l, fun B A c w hB h => sLabelsText_any B A n c l w hB h hn (lblFit_of hz), fun B A c w hB h => iLabelsText_any B A n c l w hB h hn (lblFit_of hz)⟩
end Go.Proofs.YtjokpbopceolcaaDoor
