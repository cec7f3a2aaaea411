/- Layer 4: what must come of fixed calls. -/
import Derived.Test.YtceajiliahmkaaaWalS
import Derived.Test.YtceajiliahmkaaaDisk1
namespace Go.Proofs.Ytceajiliahmkaaa
set_option linter.unusedVariables false
set_option linter.unusedSimpArgs false
set_option maxRecDepth 1000000
open Go.RowKit

def knD : DS := newD (List.replicate (10 * 256) 0)
def kn1 : OpenR := openR knD 0 2 4
def knA : Nat → AppR
  | 0 => ⟨kn1.x, kn1.D, 0, 0⟩
  | i + 1 => (knA i).x.app (knA i).D [97]
def kn5 : OpR := (knA 4).x.drop (knA 4).D 3
def kn6 : OpR := kn5.x.set kn5.D 5 2
def kn7 : OpenR := openR kn6.D 0 2 4
/-- The conditions of the calls, to be decided. -/
def LG.okB (x : LG) (D : DS) : Bool :=
  decide (2 ≤ x.segs) && decide (x.segs ≤ 64) && decide (2 ≤ x.per) && decide (x.per ≤ 64) && decide (x.from_ + 2 + x.segs * x.per ≤ D.n) && decide (D.n ≤ 4096) && decide (D.gs.length < 1000)
  && decide (0 ≤ x.lastL ∧ x.lastL ≤ 1000) && decide (0 ≤ x.next ∧ x.next ≤ 1000) && decide (0 ≤ x.epoch ∧ x.epoch ≤ 1000) && decide (0 ≤ x.lastE ∧ x.lastE ≤ 1000) && decide (x.at_ ≤ 100) && (x.fresh || !x.chain.isEmpty) && (x.chain.isEmpty || decide (1 ≤ x.lastL))
  && decide (0 ≤ x.term ∧ x.term ≤ 1000) && decide (-1 ≤ x.vote ∧ x.vote ≤ 100) && decide (0 ≤ x.base ∧ x.base ≤ 1000) && decide (x.from_ ≤ 1000)
structure LG.OkS (x : LG) (D : DS) : Prop where
  geo : x.Geo D.n
  small : x.Small
  few : D.gs.length < 999990
  term : 0 ≤ x.term ∧ x.term ≤ 1152921504606846976
  vote : -1 ≤ x.vote ∧ x.vote ≤ 100
  base : 0 ≤ x.base ∧ x.base ≤ 1152921504606846976
  from_ : x.from_ ≤ 100000
theorem LG.OkS.of {x : LG} {D : DS} (h : x.okB D = true) : x.OkS D := by
  unfold LG.okB at h
  simp only [Bool.and_eq_true, Bool.or_eq_true, decide_eq_true_eq] at h
  obtain ⟨⟨⟨⟨⟨⟨⟨⟨⟨⟨⟨⟨⟨⟨⟨⟨⟨h1, h2⟩, h3⟩, h4⟩, h5⟩, h6⟩, h7⟩, h8⟩, h9⟩, h10⟩, h11⟩, h12⟩, h13⟩, h14⟩, h15⟩, h16⟩, h17⟩, h18⟩ := h
  refine ⟨⟨h1, h2, h3, h4, h5, h6⟩, ⟨⟨h8.1, by omega⟩, ⟨h9.1, by omega⟩, ⟨h10.1, by omega⟩, ⟨h11.1, by omega⟩, h12, fun hf hc => ?_, fun hc => ?_⟩, by omega, ⟨h15.1, by omega⟩, h16, ⟨h17.1, by omega⟩, by omega⟩
  · rw [hf, hc] at h13
    simp at h13
  · rcases h14 with h | h
    · exact absurd (List.isEmpty_iff.1 h) hc
    · exact h
theorem kn_1 : kn1.err = 0 ∧ kn1.out = [] ∧ kn1.x.vote = -1 := by decide +kernel
theorem kn_a : (knA 0).x.okB (knA 0).D = true ∧ ((knA 1).err = 0 ∧ (knA 1).n = 1 ∧ (knA 1).x.okB (knA 1).D = true) ∧ ((knA 2).err = 0 ∧ (knA 2).n = 2 ∧ (knA 2).x.okB (knA 2).D = true) ∧ ((knA 3).err = 0 ∧ (knA 3).n = 3 ∧ (knA 3).x.okB (knA 3).D = true) ∧ (knA 4).err = 0 ∧ (knA 4).n = 4 ∧ (knA 4).x.okB (knA 4).D = true ∧ (knA 4).x.chain.length = 2 := by decide +kernel
theorem kn_5 : kn5.err = 0 ∧ kn5.x.okB kn5.D = true ∧ kn5.x.chain.length = 1 ∧ kn6.x.chain.length = 1 ∧ kn6.D.n = 10 ∧ kn6.D.gs.length < 1000 := by decide +kernel
theorem kn_7 : kn7.err = 0 ∧ kn7.out = [[97]] ∧ kn7.x.term = 5 ∧ kn7.x.vote = 2 ∧ kn7.x.base = 3 := by decide +kernel
end Go.Proofs.Ytceajiliahmkaaa
