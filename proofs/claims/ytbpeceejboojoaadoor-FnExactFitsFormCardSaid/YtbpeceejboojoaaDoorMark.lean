/- The contract of the laws' markText: a number's text, an 'm' ahead. -/
import Derived.Test.YtbpeceejboojoaaDoorNum
import Derived.Test.YtbpeceejboojoaaDoorMem
import Derived.Laws.Concat
import Derived.Laws.BitsAllLaws
import Derived.Lib.SmallJoins
import Derived.Lib.AppendStr
import Derived.Outline
namespace Go.Proofs.YtbpeceejboojoaaDoor
set_option linter.unusedVariables false
set_option linter.unusedSimpArgs false
open Go.RowKit

def dgF : Nat → Nat → List UInt8 → List UInt8
  | 0, _, acc => acc
  | f + 1, k, acc => if k = 0 then acc else dgF f (k / 10) (UInt8.ofNat (48 + k % 10) :: acc)
theorem dgF_eq : ∀ (f g k : Nat) (acc : List UInt8), k ≤ f → k ≤ g → dgF f k acc = dgF g k acc
  | 0, 0, _, _, _, _ => rfl
  | 0, g + 1, k, acc, h, _ => by obtain rfl : k = 0 := by omega
                                 simp [dgF]
  | f + 1, 0, k, acc, _, h => by obtain rfl : k = 0 := by omega
                                 simp [dgF]
  | f + 1, g + 1, k, acc, h, h' => by
    rw [dgF, dgF]
    split
    · rfl
    · exact dgF_eq f g _ _ (by omega) (by omega)
def dg (k : Nat) (acc : List UInt8) : List UInt8 := dgF k k acc
theorem dg_zero (acc : List UInt8) : dg 0 acc = acc := rfl
theorem dg_step {k : Nat} (h : 0 < k) (acc : List UInt8) : dg k acc = dg (k / 10) (UInt8.ofNat (48 + k % 10) :: acc) := by
  unfold dg
  obtain ⟨j, rfl⟩ : ∃ j, k = j + 1 := ⟨k - 1, by omega⟩
  rw [dgF, if_neg (by omega)]
  exact dgF_eq _ _ _ _ (by omega) (Nat.le_refl _)
/-- The text of a mark. -/
def markS (k : Int) : ByteArray := ⟨(if k ≤ 0 then [109, 48] else 109 :: dg k.toNat []).toArray⟩
/-- What an 'own' row keeps behind a call that only makes memory. -/
theorem grown_text {w1 w' : World} {base : Nat} {e : TypeId} {size n : Nat} {v : Value} {xs : List Value} (ho : w1.ownsRow base e size v n xs) (hb : Below w1.heap.size w1 w') : w'.ownsRow base e size v n xs := own_below ho hb (Nat.le_refl _)
theorem text_grown {w w1 w' : World} {row : Option Nat} (hg : w.grownBy w1 row) (hb : Below w1.heap.size w1 w') : w.grownBy w' row :=
  hg.trans ⟨hb.os, hb.tape, hb.output, hb.size, fun k hk _ => hb.block k hk⟩

end Go.Proofs.YtbpeceejboojoaaDoor
