/- How an argument that is a slice of bytes reads. No program in sight. -/
import Derived.Test.YtjokpbopceolcaaDoorOpen
import Derived.Test.YtjokpbopceolcaaDoorVarPlain
import Derived.SizedLaws
import Derived.ChangeMaps
namespace Go.Proofs.YtjokpbopceolcaaDoor
set_option linter.unusedVariables false
set_option linter.unusedSimpArgs false
open Go.RowKit Go.ChangeShapes Go.WideShapes Go.Deep

section
variable {H : Type} {enc : TypeId × Value → H} {P : Program} {w : World}
theorem bys_flat (l : List UInt8) : (l.flatMap fun x => [Value.int .u8 ((x : UInt8).toNat : Int)]) = bys l := by induction l <;> simp_all [bys]
theorem elem_byte {tb : Nat} (hi : P.underlying tb = some (.int .u8)) (fuel : Nat) (cs : List Value) (y : DataW H × List MemPlace) (h : DataW.trod enc P w 0 (fun _ => true) true fuel tb cs = some y) : ∃ x : UInt8, cs = [Value.int .u8 (x.toNat : Int)] := by
  obtain ⟨n, hn, _, hw⟩ := DataW.trod_int hi h
  have hb : 0 ≤ n ∧ n < 256 := by
    simp [Lit.wf, IntKind.min, IntKind.max] at hw
    first | omega | (simp [IntKind.signed, IntKind.bits] at hw; omega)
  refine ⟨UInt8.ofNat n.toNat, ?_⟩
  rw [hn, UInt8.toNat_ofNat']
  congr 2
  omega
theorem open_bytes {t e : Nat} {A : Option Addr} {n cp : Nat} {d : DataW H} {p : List MemPlace} (ht : P.underlying t = some (.slice e)) (he : P.underlying e = some (.int .u8)) (hs : P.cellsOf e = 1)
    (h : DataW.Trod enc P w 0 (fun _ => true) true t (.slice A n cp) d p) : ∃ l : List UInt8, Rd w w.heap.size 1 A n (bys l) ∧ (n = 0 ∨ ∃ el sp, d = .slice el sp ∧ el.length = n) := by
  obtain ⟨l, hr, _⟩ := open_rows (c := fun x : UInt8 => [Value.int .u8 (x.toNat : Int)]) (s := 1) ht hs (by omega) (fun _ => rfl) (elem_byte he) h
  rw [bys_flat] at hr
  refine ⟨l, hr, ?_⟩
  obtain ⟨fuel, hf⟩ := h
  rcases open_slice ht hf with ⟨hcs, _⟩ | ⟨a, len, cap, m, k, D, Pl, hcs, _, hl, hm, hmm, hx, hi⟩
  · simp [Value.cells] at hcs
    exact .inl hcs.2.1
  · simp [Value.cells] at hcs
    obtain ⟨rfl, rfl, rfl⟩ := hcs
    refine .inr ⟨(List.range n).map D, (List.range (m - n)).map fun j => D (n + j), ?_, by simp⟩
    exact congrArg Prod.fst hx
/-- The reach of such an argument. -/
theorem bytes_reach {ts : List TypeId} {ds : List (DataW H)} (hsz : (DataW.weightsEach P ts ds).all (· ≤ reachBytes) = true) {j t e n : Nat} {d : DataW H} (ht : ts[j]? = some t) (hd : ds[j]? = some d) (hu : P.underlying t = some (.slice e)) (hb : P.bytesOf e = 1)
    (h : n = 0 ∨ ∃ el sp, d = .slice el sp ∧ el.length = n) : n ≤ 140737488355328 := by
  rcases h with rfl | ⟨el, sp, rfl, rfl⟩
  · omega
  · have := sized_slice hsz ht hd hu
    rw [hb] at this
    unfold reachBytes at this
    omega
end
end Go.Proofs.YtjokpbopceolcaaDoor
