/- The contract of spec.l2Parts: the times and the values of samples. -/
import Derived.Test.YtbemnhdadafnnaaTwo
import Derived.Test.YtbemnhdadafnnaaSeq
import Derived.Test.YtbemnhdadafnnaaChunkPlain
namespace Go.Proofs.Ytbemnhdadafnnaa
set_option linter.unusedVariables false
set_option linter.unusedSimpArgs false
open Go.RowKit

theorem fst_at {l : List (Int × Int)} {k : Nat} {x y : Int} (h : l[k]? = some (x, y)) : ints ((l.map Prod.fst).take (k + 1)) = ints ((l.map Prod.fst).take k) ++ [.int .i64 x] := by
  rw [take_snoc' (l.map Prod.fst) k x (by rw [List.getElem?_map, h]; rfl), ints_app]; rfl
theorem snd_at {l : List (Int × Int)} {k : Nat} {x y : Int} (h : l[k]? = some (x, y)) : ints ((l.map Prod.snd).take (k + 1)) = ints ((l.map Prod.snd).take k) ++ [.int .i64 y] := by
  rw [take_snoc' (l.map Prod.snd) k y (by rw [List.getElem?_map, h]; rfl), ints_app]; rfl

set_option maxRecDepth 100000 in
set_option maxHeartbeats 2000000 in
theorem l2Parts_any (B : Nat) (A : Option Addr) (n c : Nat) (l : List (Int × Int)) (w : World) (hBw : B ≤ w.heap.size) (h : Rd w B 2 A n (smps l)) (hn : n ≤ 1000) :
    Calls Try.prog 59 #[.slice A n c] w fun e w' => ∃ A1 c1 A2 c2, e = .returned (.tuple #[.slice A1 n c1, .slice A2 n c2]) ∧
      Own w.heap.size A1 n c1 (l.map Prod.fst) w' ∧ Own w.heap.size A2 n c2 (l.map Prod.snd) w' ∧ Below w.heap.size w w' := by
  obtain ⟨i0, hi, hi0, hi1, hi2⟩ := info_parts infoInt
  have HI := Lib.hid (And.intro hi (And.intro hi0 (And.intro hi1 hi2)))
  clear hi hi0 hi1 hi2
  have hlen := h.smp_len
  have HL := Lib.hid hlen
  have H := Lib.hid h
  clear h hlen
  go_enter Try.func59, Try.ntmps59
  go_wp2
  go_loopw [4, 5, 10] (fun v1 v2 i wr => ∃ k : Nat, k ≤ n ∧ i = .int .i64 k ∧ Two w 3 1 3 1 v1 k (ints ((l.map Prod.fst).take k)) v2 k (ints ((l.map Prod.snd).take k)) wr) (fun _ _ i _ => n - (intOf i).toNat)
  case atStart => exact ⟨0, Nat.zero_le _, rfl, Two.nil_⟩
  case round =>
    obtain ⟨k, hk, rfl, ht⟩ := hrel
    have HT := Lib.hid ht
    have hsz := ht.2.2.2.size
    clear ht
    by_cases hlt : k < n
    · obtain ⟨b, off, x, y, rfl, hbB, hx, hc0, hc1⟩ := H.out.smp_at hlt
      have hc0' : wr.cell? ⟨b, off + k * 2, none⟩ = some (.int .i64 x) := (bcell HT.out.2.2.2 _ _ (by omega)).trans hc0
      have hc1' : wr.cell? ⟨b, off + k * 2 + 1, none⟩ = some (.int .i64 y) := (bcell HT.out.2.2.2 _ _ (by omega)).trans hc1
      have HX := Lib.hid hx
      clear hx hc0 hc1
      go_wp2_with (at_builtin; refine wpList_append_lies _ rfl (.tmp 14) (.tmp 17) 47 rfl w.heap.size 3 i0 (.int .i64 0) 1 8 Try.underlying47 HI.out.1 HI.out.2.1 HI.out.2.2.1 HI.out.2.2.2 rfl (by decide) _ k _ rfl ((HT.out.alloc _).alloc _).1 ⟨wr.heap.size + 1, 0, none⟩ 1 1 [.int .i64 x] rfl rfl ?c1 ?c2 (by decide) ?c3 ?c4 ?c5 (wr.heap.size + 2) ?c6 ?_)
      case c1 =>
        intro j u hj
        match j, hj with
        | 0, hj => simp at hj; subst hj; simp [Addr.add]
      case c2 => intro u hu; simp at hu; subst hu; rfl
      case c3 => unfold maxLen; omega
      case c4 => omega
      case c5 => simp; omega
      case c6 => simp
      intro g1 cap1 w1 ho1 hg1 hat1 hlt1
      have hcy : w1.cell? ⟨wr.heap.size, 1, none⟩ = some (.int .i64 y) := grown_cell hg1 (by simp) (by simp; omega) (fun g e => by have := (HT.out.1.lt g e).2; omega)
      have T1 := Lib.hid (((HT.out.alloc _).alloc _).app1 ho1 hg1 hat1 (by simp))
      have hs1 := hg1.size
      clear ho1 hg1 hat1 hlt1
      go_wp2_with (at_builtin; refine wpList_append_lies _ rfl (.tmp 19) (.tmp 22) 47 rfl w.heap.size 3 i0 (.int .i64 0) 1 8 Try.underlying47 HI.out.1 HI.out.2.1 HI.out.2.2.1 HI.out.2.2.2 rfl (by decide) _ k _ rfl (T1.out.alloc _).2.1 ⟨w1.heap.size, 0, none⟩ 1 1 [.int .i64 y] rfl rfl ?c1 ?c2 (by decide) ?c3 ?c4 ?c5 (w1.heap.size + 1) ?c6 ?_)
      case c1 =>
        intro j u hj
        match j, hj with
        | 0, hj => simp at hj; subst hj; simp [Addr.add]
      case c2 => intro u hu; simp at hu; subst hu; rfl
      case c3 => unfold maxLen; omega
      case c4 => omega
      case c5 => simp at hs1 ⊢; omega
      case c6 => simp
      intro g2 cap2 w2 ho2 hg2 hat2 hlt2
      have T2 := Lib.hid ((T1.out.alloc _).app2 ho2 hg2 hat2 (by simp))
      clear ho2 hg2 hat2 hlt2 hcy
      go_wp2
      go_roundw
      case rel => exact ⟨k + 1, by omega, by go_num, by rw [fst_at HX.out, snd_at HX.out]; exact T2.out⟩
      case measure => simp [intOf]; omega
    · have hkn : k = n := by omega
      subst hkn
      have ht := HT.out
      obtain ⟨A1, c1, rfl⟩ := own_slice ht.1
      obtain ⟨A2, c2, rfl⟩ := own_slice ht.2.1
      clear ht
      go_wp2
      go_ret2
      have ht := HT.out
      rw [List.take_of_length_le (by rw [List.length_map]; have := HL.out; omega), List.take_of_length_le (by rw [List.length_map]; have := HL.out; omega)] at ht
      exact ⟨A1, c1, A2, c2, rfl, ht.1, ht.2.1, ht.2.2.2⟩
end Go.Proofs.Ytbemnhdadafnnaa
