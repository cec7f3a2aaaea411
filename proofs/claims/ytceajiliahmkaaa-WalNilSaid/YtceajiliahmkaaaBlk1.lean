/- Layer 6: the small functions. -/
import Derived.Test.YtceajiliahmkaaaNum8
import Derived.Test.YtceajiliahmkaaaGetN
import Derived.Test.YtceajiliahmkaaaRdr
import Derived.Test.YtceajiliahmkaaaCrcX
import Derived.Test.YtceajiliahmkaaaAppZ
namespace Go.Proofs.Ytceajiliahmkaaa
set_option linter.unusedVariables false
set_option linter.unusedSimpArgs false
set_option maxRecDepth 100000
open Go.RowKit

def rowsN (n : Nat) : Nat := (n + 2) / 3
def needI (n : Int) : Int := if n < 1 ∨ n > 256 then 0 else 19 + 2 * (rowsN n.toNat : Int)
def n8 (ns : List Int) : List Int := ns.flatMap (be 8)
theorem n8_length (ns : List Int) : (n8 ns).length = 8 * ns.length := by
  induction ns with
  | nil => rfl
  | cons n ns ih => simp only [n8, List.flatMap_cons, List.length_append, be_length, List.length_cons] at ih ⊢; omega
theorem n8_isB (ns : List Int) : isB (n8 ns) := by
  intro x hx
  obtain ⟨n, _, hn⟩ := List.mem_flatMap.1 hx
  exact be_isB 8 n x hn
theorem n8_snoc (ns : List Int) (k : Nat) (h : k < ns.length) : n8 (ns.take (k + 1)) = n8 (ns.take k) ++ be 8 ns[k] := by
  simp only [n8]
  rw [List.take_succ_eq_append_getElem h, List.flatMap_append]
  simp

def sealL (l : List Int) : List Int := be 4 (crc l) ++ l
theorem sealL_length (l : List Int) : (sealL l).length = l.length + 4 := by simp [sealL, be_length]; omega
theorem sealL_isB {l : List Int} (h : isB l) : isB (sealL l) := (be_isB 4 _).append h

end Go.Proofs.Ytceajiliahmkaaa
