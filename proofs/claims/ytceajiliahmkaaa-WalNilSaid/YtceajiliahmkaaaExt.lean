/- A region that draws its order, op by op: what only reads is taken first, under 'the world extends the last one'. -/
import Derived.Test.YtceajiliahmkaaaBase
import Derived.Deep.RegionHeld3
namespace Go.Proofs.Ytceajiliahmkaaa
set_option linter.unusedVariables false
open Go.RowKit

/-- The world extends w0. -/
def Ext (w0 : World) : World → Prop := fun W => Below w0.heap.size w0 W
theorem Ext.refl (w : World) : Ext w w := Below.refl _ _

section
variable {P : Program} {ops : Array Oper} {Q : Exit → Act → World → Prop} {md : Region.Mode} {S S' : World → Prop}
theorem wpAnyH_mono (hS : ∀ w, S w → S' w) : ∀ (fuel : Nat) (listed : Array Bool) (a : Act) (w : World), wpAnyH P md ops Q S fuel listed a w → wpAnyH P md ops Q S' fuel listed a w
  | 0, _, _, _, h => h
  | fuel + 1, _, _, _, h => ⟨h.1, fun i hi => wpOp_mono (fun a' w' h' => ⟨hS _ h'.1, wpAnyH_mono hS fuel _ a' w' h'.2⟩) (h.2 i hi)⟩

theorem ext_start {id : Nat} {a : Act} {w : World} (hm : P.follows .mixedOrders = true)
    (h : wpAnyH P .any ops Q (Ext w.drew) ops.size (Array.replicate ops.size false) a w.drew) : (Code.region id ops true).wp P Q a w :=
  wp_region_held hm h
theorem drop_at {α : Type} {ops : Array α} {i : Nat} {o : α} {r : List α} (h : ops.toList.drop i = o :: r) : ops[i]? = some o := by
  have h1 : (ops.toList.drop i)[0]? = some o := by rw [h]; rfl
  rw [List.getElem?_drop] at h1
  simpa using h1
theorem ext_take {i : Nat} {rs : List Oper} {oi : Oper} {v : Value} {fuel : Nat} {listed : Array Bool} {a : Act} {w : World} (hi : ops.toList.drop i = oi :: rs)
    (hs : Region.noSelect ops = true) (hf : Region.free md ops listed i = true) (hr : (Region.ready md ops listed).contains i = true)
    (hQ : ∀ c a w, Q (.panic c) (a.put oi.dst v) w → Q (.panic c) a w) (hy : YieldsIf P ops (Ext w) oi v a)
    (h : wpAnyH P md ops Q (Ext w) fuel (listed.setIfInBounds i true) (a.put oi.dst v) w) : wpAnyH P md ops Q (Ext w) (fuel + 1) listed a w :=
  wpAnyH_take (drop_at hi) hs hf hr hQ hy (Ext.refl w) h
theorem ext_call {i : Nat} {rs : List Oper} {oi : Oper} {fuel : Nat} {listed : Array Bool} {a : Act} {w : World} (hr : Region.ready md ops listed = [i]) (hi : ops.toList.drop i = oi :: rs)
    (h : ∀ K' : Act → World → Prop, Shut (∀ a w', Below w.heap.size w w' → wpAnyH P md ops Q (Ext w') fuel (listed.setIfInBounds i true) a w' → K' a w') →
      if Region.wanted oi (yielded ops a.tmps) = true then Oper.wp P oi a w K' Q else K' (a.put oi.dst undef) w) : wpAnyH P md ops Q (Ext w) (fuel + 1) listed a w := by
  refine wpAnyH_ready (rs := [i]) hr (by simp) ?_
  refine AllReadyH.cons (drop_at hi) (fun K hK => ?_) AllReadyH.nil
  refine h K (fun a w' hb hW => hK a w' hb (fun _ => ?_))
  exact wpAnyH_mono (fun W hw => bl_chain hb hw) _ _ _ _ hW
/-- A call's way that may write what lies above w0. -/
theorem ext_call0 {i : Nat} {rs : List Oper} {oi : Oper} {fuel : Nat} {listed : Array Bool} {a : Act} {w0 w : World} (hr : Region.ready md ops listed = [i]) (hi : ops.toList.drop i = oi :: rs)
    (h : ∀ K' : Act → World → Prop, Shut (∀ a w', Below w0.heap.size w0 w' → wpAnyH P md ops Q (Ext w0) fuel (listed.setIfInBounds i true) a w' → K' a w') →
      if Region.wanted oi (yielded ops a.tmps) = true then Oper.wp P oi a w K' Q else K' (a.put oi.dst undef) w) : wpAnyH P md ops Q (Ext w0) (fuel + 1) listed a w := by
  refine wpAnyH_ready (rs := [i]) hr (by simp) ?_
  refine AllReadyH.cons (drop_at hi) (fun K hK => ?_) AllReadyH.nil
  exact h K (fun a w' hb hW => hK a w' hb (fun _ => hW))
theorem ext_start0 {id : Nat} {a : Act} {w0 w : World} (hm : P.follows .mixedOrders = true)
    (h : wpAnyH P .any ops Q (Ext w0) ops.size (Array.replicate ops.size false) a w.drew) : (Code.region id ops true).wp P Q a w :=
  wp_region_held hm h
theorem ext_take0 {i : Nat} {rs : List Oper} {oi : Oper} {v : Value} {fuel : Nat} {listed : Array Bool} {a : Act} {w0 w : World} (hw : Ext w0 w) (hi : ops.toList.drop i = oi :: rs)
    (hs : Region.noSelect ops = true) (hf : Region.free md ops listed i = true) (hr : (Region.ready md ops listed).contains i = true)
    (hQ : ∀ c a w, Q (.panic c) (a.put oi.dst v) w → Q (.panic c) a w) (hy : YieldsIf P ops (Ext w0) oi v a)
    (h : wpAnyH P md ops Q (Ext w0) fuel (listed.setIfInBounds i true) (a.put oi.dst v) w) : wpAnyH P md ops Q (Ext w0) (fuel + 1) listed a w :=
  wpAnyH_take (drop_at hi) hs hf hr hQ hy hw h
theorem ext_rebase {w0 W : World} (hb : Below w0.heap.size w0 W) {fuel : Nat} {listed : Array Bool} {a : Act} (h : wpAnyH P md ops Q (Ext W) fuel listed a W) : wpAnyH P md ops Q (Ext w0) fuel listed a W :=
  wpAnyH_mono (fun _ hw => bl_chain hb hw) _ _ _ _ h
end
end Go.Proofs.Ytceajiliahmkaaa
