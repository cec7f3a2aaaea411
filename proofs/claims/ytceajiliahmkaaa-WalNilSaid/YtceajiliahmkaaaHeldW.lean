/- A drawn region under what is held of the worlds (for seats without ranges over functions). -/
import Derived.Test.YtceajiliahmkaaaInRound
import Derived.Test.YtceajiliahmkaaaTurned
namespace Go.Proofs.Ytceajiliahmkaaa
set_option linter.unusedVariables false
set_option linter.unusedSimpArgs false
set_option maxRecDepth 100000
open Go.RowKit

theorem held_startB {P : Program} {ops : Array Oper} {Q : Exit → Act → World → Prop} {S : World → Prop} {id : Nat} {a : Act} {w : World} (hm : P.follows .mixedOrders = true)
    (h : wpAnyH P .any ops Q S ops.size (Array.replicate ops.size false) a w.drew) : (Code.region id ops true).wp P Q a w := wp_region_held hm h
section
variable {P : Program} {ops : Array Oper} {Q : Exit → Act → World → Prop} {md : Region.Mode} {S : World → Prop}
theorem held_take {i : Nat} {rs : List Oper} {oi : Oper} {v : Value} {fuel : Nat} {listed : Array Bool} {a : Act} {w : World} (hw : S w) (hi : ops.toList.drop i = oi :: rs)
    (hs : Region.noSelect ops = true) (hf : Region.free md ops listed i = true) (hr : (Region.ready md ops listed).contains i = true)
    (hQ : ∀ c a w, Q (.panic c) (a.put oi.dst v) w → Q (.panic c) a w) (hy : YieldsIf P ops S oi v a)
    (h : wpAnyH P md ops Q S fuel (listed.setIfInBounds i true) (a.put oi.dst v) w) : wpAnyH P md ops Q S (fuel + 1) listed a w :=
  wpAnyH_take (drop_at hi) hs hf hr hQ hy hw h
theorem held_call {i : Nat} {rs : List Oper} {oi : Oper} {fuel : Nat} {listed : Array Bool} {a : Act} {w : World} (hr : Region.ready md ops listed = [i]) (hi : ops.toList.drop i = oi :: rs)
    (h : ∀ K' : Act → World → Prop, Shut (∀ a w', S w' → wpAnyH P md ops Q S fuel (listed.setIfInBounds i true) a w' → K' a w') →
      if Region.wanted oi (yielded ops a.tmps) = true then Oper.wp P oi a w K' Q else K' (a.put oi.dst undef) w) : wpAnyH P md ops Q S (fuel + 1) listed a w := by
  refine wpAnyH_ready (rs := [i]) hr (by simp) ?_
  refine AllReadyH.cons (drop_at hi) (fun K hK => ?_) AllReadyH.nil
  exact h K (fun a w' hb hW => hK a w' hb (fun _ => hW))
/-- Two operations are ready. -/
theorem held_call2 {i j : Nat} {rs rs' : List Oper} {oi oj : Oper} {fuel : Nat} {listed : Array Bool} {a : Act} {w : World} (hr : Region.ready md ops listed = [i, j]) (hi : ops.toList.drop i = oi :: rs) (hj : ops.toList.drop j = oj :: rs')
    (h1 : ∀ K' : Act → World → Prop, Shut (∀ a w', S w' → wpAnyH P md ops Q S fuel (listed.setIfInBounds i true) a w' → K' a w') →
      if Region.wanted oi (yielded ops a.tmps) = true then Oper.wp P oi a w K' Q else K' (a.put oi.dst undef) w)
    (h2 : ∀ K' : Act → World → Prop, Shut (∀ a w', S w' → wpAnyH P md ops Q S fuel (listed.setIfInBounds j true) a w' → K' a w') →
      if Region.wanted oj (yielded ops a.tmps) = true then Oper.wp P oj a w K' Q else K' (a.put oj.dst undef) w) : wpAnyH P md ops Q S (fuel + 1) listed a w := by
  refine wpAnyH_ready (rs := [i, j]) hr (by simp) ?_
  refine AllReadyH.cons (drop_at hi) (fun K hK => ?_) (AllReadyH.cons (drop_at hj) (fun K hK => ?_) AllReadyH.nil)
  · exact h1 K (fun a w' hb hW => hK a w' hb (fun _ => hW))
  · exact h2 K (fun a w' hb hW => hK a w' hb (fun _ => hW))
end
end Go.Proofs.Ytceajiliahmkaaa
