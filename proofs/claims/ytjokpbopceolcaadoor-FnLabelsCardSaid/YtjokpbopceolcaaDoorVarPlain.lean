/- The plain law of the variable-length encoding: digits in base 128. No program in sight. -/
import Derived.Test.YtjokpbopceolcaaDoorMem
import Derived.Laws.BitsAllLaws
namespace Go.Proofs.YtjokpbopceolcaaDoor
set_option linter.unusedVariables false
set_option linter.unusedSimpArgs false
open Go.RowKit

def vbF : Nat → Nat → List UInt8
  | 0, z => [UInt8.ofNat z]
  | f + 1, z => if z < 128 then [UInt8.ofNat z] else UInt8.ofNat (128 + z % 128) :: vbF f (z / 128)
/-- The digits of z in base 128, the least one first. -/
def vb (z : Nat) : List UInt8 := vbF z z
theorem vbF_eq : ∀ (f z : Nat), z ≤ f → ∀ g, z ≤ g → vbF f z = vbF g z
  | 0, z, h, 0, h' => rfl
  | 0, z, h, g + 1, h' => by obtain rfl : z = 0 := by omega
                             rfl
  | f + 1, z, h, 0, h' => by obtain rfl : z = 0 := by omega
                             rfl
  | f + 1, z, h, g + 1, h' => by
    rw [vbF, vbF]
    split
    · rfl
    · rw [vbF_eq f (z / 128) (by omega) g (by omega)]
theorem vb_small {z : Nat} (h : z < 128) : vb z = [UInt8.ofNat z] := by
  unfold vb
  cases z with
  | zero => rfl
  | succ z => rw [vbF, if_pos h]
theorem vb_step {z : Nat} (h : 128 ≤ z) : vb z = UInt8.ofNat (128 + z % 128) :: vb (z / 128) := by
  unfold vb
  cases z with
  | zero => omega
  | succ z => rw [vbF, if_neg (by omega), vbF_eq z ((z + 1) / 128) (by omega) ((z + 1) / 128) (by omega)]
theorem vb_pos (z : Nat) : 0 < (vb z).length := by
  by_cases h : z < 128
  · rw [vb_small h]; simp
  · rw [vb_step (by omega)]; simp
theorem vb_len1 {z : Nat} (h : z < 128) : (vb z).length = 1 := by rw [vb_small h]; rfl
theorem vb_lenS {z n : Nat} (h : (vb (z / 128)).length ≤ n) : (vb z).length ≤ n + 1 := by
  by_cases hz : z < 128
  · rw [vb_len1 hz]; omega
  · rw [vb_step (by omega)]; simpa using h
theorem vb_len6 {z : Nat} (h : z ≤ 2000000000000) : (vb z).length ≤ 6 :=
  vb_lenS (vb_lenS (vb_lenS (vb_lenS (vb_lenS (by rw [vb_len1 (by omega)]; omega)))))

theorem vb_last {pre w : List UInt8} {k : Nat} (hp : pre ++ vb k = w) (h : k < 128) : pre ++ [UInt8.ofNat k] = w := by rw [← hp, vb_small h]
theorem vb_more {pre w : List UInt8} {k : Nat} (hp : pre ++ vb k = w) (h : 128 ≤ k) : (pre ++ [UInt8.ofNat (128 + (k : Int) % 128).toNat]) ++ vb (k / 128) = w := by
  rw [← hp, vb_step h, List.append_assoc, show (128 + (k : Int) % 128).toNat = 128 + k % 128 from by omega]; rfl

def bys (l : List UInt8) : List Value := l.map fun b => .int .u8 (b.toNat : Int)
theorem bys_len (l : List UInt8) : (bys l).length = l.length := List.length_map ..
theorem bys_app (a b : List UInt8) : bys (a ++ b) = bys a ++ bys b := List.map_append
theorem byte_cell {m : Int} (h0 : 0 ≤ m) (h1 : m < 256) : [Value.int .u8 m] = bys [UInt8.ofNat m.toNat] := by
  obtain ⟨k, rfl⟩ := Int.eq_ofNat_of_zero_le h0
  have : k % 256 = k := by omega
  simp [bys, this]
theorem or128 : ∀ a, a < 256 → a ||| 128 = 128 + a % 128 := by decide +kernel
theorem or_128 (k : Nat) : bits .or .u8 ((k : Int) % 256) 128 = 128 + (k : Int) % 128 := by
  have h := u8_or_nat (k % 256) 128 (by omega) (by omega)
  rw [or128 _ (by omega)] at h
  have e1 : (((k % 256 : Nat) : Int)) = (k : Int) % 256 := by omega
  have e2 : ((128 : Nat) : Int) = 128 := rfl
  rw [e1, e2] at h
  rw [h]
  omega
/-- The string of bytes that a row of the call's own holds. -/
theorem conv_own {P : Program} {w : World} {base src dst e e' n c : Nat} {A : Option Addr} {l : List UInt8} (hs : P.underlying src = some (.slice e)) (he : P.underlying e = some (.int .u8)) (hd : P.underlying dst = some .string)
    (h : w.ownsRow base e' 1 (.slice A n c) n (bys l)) (hn : 0 < n) : (convert src dst (.slice A n c)).run P w = .ok (.string ⟨l.toArray⟩) w := by
  have hl : l.length = n := by have := h.1; rw [bys_len] at this; omega
  obtain ⟨g, cap, hv, _, hlt, _⟩ := own_form h hn
  obtain ⟨rfl, rfl⟩ : A = some ⟨g, 0, none⟩ ∧ c = cap := by simpa using hv
  subst hl
  refine run_convert_bytes_back w src dst e _ _ l hs he hd fun j hj => ?_
  exact h.cells (g := g) rfl j _ (by simp [bys, hj])
end Go.Proofs.YtjokpbopceolcaaDoor
