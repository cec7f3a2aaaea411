/- What abides the turn of blocks that are no cells. No program in sight. -/
import Derived.Test.YtceajiliahmkaaaBase
import Derived.RangeFuncFrom
namespace Go.Proofs.Ytceajiliahmkaaa
set_option linter.unusedVariables false
open Go.RowKit

theorem own_cellsB {w : World} {base : Nat} {e : TypeId} {size n m c : Nat} {A : Option Addr} {xs : List Value} (h : w.ownsRow base e size (.slice A n c) m xs) {b : Nat} (hb : Blo A b) {o : Obj} (ho : w.heap[b]? = some o) : o.isCells = true := by
  rcases h.2 with ⟨h1, h2⟩ | ⟨g, cap, cur, h1, _, hg, _⟩
  · injection h1 with h1
    subst h1
    exact (Blo.none b hb).elim
  · injection h1 with h1
    subst h1
    have e := (Blo.some_iff _ _).1 hb
    simp at e
    subst e
    have := hg.symm.trans ho
    injection this with this
    subst this
    rfl
theorem keeps_tr {F : Nat → Prop} {w w' : World} (ht : Tr F w w') (hF : ∀ b, F b → ∀ o, w.heap[b]? = some o → o.isCells = true) : KeepsOthers w w' :=
  ⟨ht.size, fun k o hk ho => by
    refine (ht.block k (Array.getElem?_eq_some_iff.1 hk).1 (fun h => ?_)).trans hk
    rw [hF k h o hk] at ho
    cases ho⟩
section
variable {W W' : World} {row : Option Nat} {B : Nat}
def Turn (W W' : World) : Prop := Tr (fun b => ∃ o, W.heap[b]? = some o ∧ o.isCells = false) W W'
theorem turn_of (hg : W.grownBy W' row) (hr : ∀ r, row = some r → B ≤ r ∧ ∃ o : Obj, W.heap[r]? = some o ∧ o.isCells = false) : Turn W W' := Tr.of_grown hg (fun b hb _ => (hr b hb).2)
theorem Blk.turn {g : Nat} {t : TypeId} {cs : Array Value} (h : Blk W g t cs) (ht : Turn W W') : Blk W' g t cs := ht.blk h (fun ⟨o, ho, hc⟩ => by
  have := h.symm.trans ho
  injection this with this
  subst this
  cases hc)
theorem own_turn {base : Nat} {e : TypeId} {size n m c : Nat} {A : Option Addr} {xs : List Value} (h : W.ownsRow base e size (.slice A n c) m xs) (ht : Turn W W') : W'.ownsRow base e size (.slice A n c) m xs :=
  ownsRow_tr h ht (fun g hg ⟨o, ho, hc⟩ => by
    rw [ownBlock_slice] at hg
    rw [own_cellsB h hg ho] at hc
    cases hc)
theorem below_turn {n₀ : Nat} {w : World} (h : Below n₀ w W) (hn : n₀ ≤ W.heap.size) (hg : W.grownBy W' row) (hr : ∀ r, row = some r → B ≤ r ∧ ∃ o : Obj, W.heap[r]? = some o ∧ o.isCells = false) (hB : n₀ ≤ B) : Below n₀ w W' := h.grown hg hn (fun k e => Nat.le_trans hB (hr k e).1)
end
end Go.Proofs.Ytceajiliahmkaaa
