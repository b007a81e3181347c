/- The contract of the laws' markText: a number's text, an 'm' ahead. -/
import Derived.Test.YtbpeceejboojoaaNum
import Derived.Test.YtbpeceejboojoaaMem
import Derived.Laws.Concat
import Derived.Laws.BitsAllLaws
import Derived.Lib.SmallJoins
import Derived.Lib.AppendStr
import Derived.Outline
namespace Go.Proofs.Ytbpeceejboojoaa
set_option linter.unusedVariables false
set_option linter.unusedSimpArgs false
open Go.RowKit

def dgF : Nat → Nat → List UInt8 → List UInt8
  | 0, _, acc => acc
  | f + 1, k, acc => if k = 0 then acc else dgF f (k / 10) (UInt8.ofNat (48 + k % 10) :: acc)
theorem dgF_eq : ∀ (f g k : Nat) (acc : List UInt8), k ≤ f → k ≤ g → dgF f k acc = dgF g k acc
  | 0, 0, _, _, _, _ => rfl
  | 0, g + 1, k, acc, h, _ => by obtain rfl : k = 0 := by omega
                                 simp [dgF]
  | f + 1, 0, k, acc, _, h => by obtain rfl : k = 0 := by omega
                                 simp [dgF]
  | f + 1, g + 1, k, acc, h, h' => by
    rw [dgF, dgF]
    split
    · rfl
    · exact dgF_eq f g _ _ (by omega) (by omega)
def dg (k : Nat) (acc : List UInt8) : List UInt8 := dgF k k acc
theorem dg_zero (acc : List UInt8) : dg 0 acc = acc := rfl
theorem dg_step {k : Nat} (h : 0 < k) (acc : List UInt8) : dg k acc = dg (k / 10) (UInt8.ofNat (48 + k % 10) :: acc) := by
  unfold dg
  obtain ⟨j, rfl⟩ : ∃ j, k = j + 1 := ⟨k - 1, by omega⟩
  rw [dgF, if_neg (by omega)]
  exact dgF_eq _ _ _ _ (by omega) (Nat.le_refl _)
/-- The text of a mark. -/
def markS (k : Int) : ByteArray := ⟨(if k ≤ 0 then [109, 48] else 109 :: dg k.toNat []).toArray⟩
/-- What an 'own' row keeps behind a call that only makes memory. -/
theorem grown_text {w1 w' : World} {base : Nat} {e : TypeId} {size n : Nat} {v : Value} {xs : List Value} (ho : w1.ownsRow base e size v n xs) (hb : Below w1.heap.size w1 w') : w'.ownsRow base e size v n xs := own_below ho hb (Nat.le_refl _)
theorem text_grown {w w1 w' : World} {row : Option Nat} (hg : w.grownBy w1 row) (hb : Below w1.heap.size w1 w') : w.grownBy w' row :=
  hg.trans ⟨hb.os, hb.tape, hb.output, hb.size, fun k hk _ => hb.block k hk⟩

set_option maxRecDepth 100000 in
set_option maxHeartbeats 1000000 in
theorem markText_any (k : Int) (w : World) (h0 : 0 ≤ k) (h1 : k ≤ 4398046511104) :
    Calls Try.prog 29 #[.int .i64 k] w fun e w' => e = .returned (.string (markS k)) ∧ Below w.heap.size w w' := by
  by_cases hk : k ≤ 0
  · obtain rfl : k = 0 := by omega
    go_enter Try.func29, Try.ntmps29
    go_wp2
    go_ret
    exact ⟨rfl, Below.refl _ _⟩
  · obtain ⟨m, rfl⟩ := Int.eq_ofNat_of_zero_le h0
    have hm : 0 < m := by omega
    have HR := Lib.hid (show markS (m : Int) = ⟨(109 :: dg m []).toArray⟩ by unfold markS; rw [if_neg hk, Int.toNat_natCast])
    go_enter Try.func29, Try.ntmps29
    go_wp2
    go_loopw [0, 3] (fun k s wr => ∃ (j : Nat) (S : ByteArray), j ≤ m ∧ k = .int .i64 j ∧ s = .string S ∧ S.size + j ≤ m ∧ dg m [] = dg j S.data.toList ∧ Below w.heap.size w wr) (fun k _ _ => (intOf k).toNat)
    case atStart => exact ⟨m, ⟨#[]⟩, Nat.le_refl _, rfl, rfl, by simp [ByteArray.size], rfl, Below.refl _ _⟩
    case round =>
      obtain ⟨j, S, hj, rfl, rfl, hs, hd, hb⟩ := hrel
      have HD := Lib.hid hd
      have HB := Lib.hid hb
      have hsz := hb.size
      clear hd hb
      by_cases hlt : 0 < j
      · have hcat := fun (w : World) (c : UInt8) => run_string_add_sum (P := Try.prog) (w := w) ⟨#[c]⟩ S (by have : (⟨#[c]⟩ : ByteArray).size = 1 := rfl; omega)
        obtain ⟨c, hc⟩ : ∃ c : UInt8, c = UInt8.ofNat (48 + j % 10) := ⟨_, rfl⟩
        have ec : (c.toNat : Int) = 48 + (j : Int) % 10 := by rw [hc, UInt8.toNat_ofNat']; omega
        have HC := Lib.hid hc
        clear hc
        have hcv : (convert 73 9 (.slice (some ⟨wr.heap.size, 0, none⟩) 1 1)).run Try.prog (wr.alloc (.cells #[.int .u8 (48 + (j : Int) % 10)] 5)) = .ok (.string ⟨#[c]⟩) (wr.alloc (.cells #[.int .u8 (48 + (j : Int) % 10)] 5)) := by
          refine run_convert_bytes_back (P := Try.prog) _ 73 9 5 ⟨wr.heap.size, 0, none⟩ 1 [c] Try.underlying73 Try.underlying5 Try.underlying9 ?_
          intro i hi
          obtain rfl : i = 0 := by simpa using hi
          simp [Addr.add, ec]
        clear ec
        go_wp2
        go_roundw
        case rel =>
          refine ⟨j / 10, ⟨#[c]⟩ ++ S, by omega, by go_num, rfl, ?_, ?_, HB.out.alloc hsz _⟩
          · have : (⟨#[c]⟩ : ByteArray).size = 1 := rfl
            rw [ByteArray.size_append]; omega
          · rw [HD.out, dg_step hlt, Joins.data_append, HC.out]; rfl
        case measure => simp [intOf]; omega
      · obtain rfl : j = 0 := by omega
        have hcat := fun (w : World) => run_string_add_sum (P := Try.prog) (w := w) ⟨#[109]⟩ S (by have : (⟨#[109]⟩ : ByteArray).size = 1 := rfl; omega)
        go_wp2
        go_ret
        refine ⟨?_, HB.out⟩
        rw [HR.out, HD.out, dg_zero]
        refine congrArg (fun s => Ending.returned (Value.string s)) ?_
        cases S
        rfl
end Go.Proofs.Ytbpeceejboojoaa
