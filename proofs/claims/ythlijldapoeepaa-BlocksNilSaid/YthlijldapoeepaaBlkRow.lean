/- The arguments of the statements of 06 opened: calls (law06.Op), by value and in slices. -/
import Derived.Test.YthlijldapoeepaaExtRowC
namespace Go.Proofs.Ythlijldapoeepaa
set_option linter.unusedVariables false
set_option maxRecDepth 100000
open Go.Joins Go.ChangeShapes Go.WideShapes Go.RowKit Go.Deep

/-- A call as it came in. -/
structure OpB where
  kind : Int
  n : Int
  A : Option Addr
  c : Nat
  l : List ChS
  B : Option Addr
  d : Nat
  ks : List Int
def OpB.cells (y : OpB) : List Value := [.int .i64 y.kind, .int .i64 y.n, .slice y.A y.l.length y.c, .slice y.B y.ks.length y.d]
structure OpB.In (w : World) (y : OpB) : Prop where
  k : -9223372036854775808 ≤ y.kind ∧ y.kind ≤ 9223372036854775807
  nb : -9223372036854775808 ≤ y.n ∧ y.n ≤ 9223372036854775807
  rl : ChsAt w y.A y.l
  ll : y.l.length ≤ 4398046510976
  rk : Rd w y.B (y.ks.map (Value.int .i64))
  wk : ∀ x ∈ y.ks, -9223372036854775808 ≤ x ∧ x ≤ 9223372036854775807
  lk : y.ks.length ≤ 17592186043904
  kd : y.ks.length ≤ y.d
theorem OpB.In.below {w w' : World} {y : OpB} (h : y.In w) (hb : Below w.heap.size w w') : y.In w' := ⟨h.k, h.nb, h.rl.below hb, h.ll, h.rk.below hb, h.wk, h.lk, h.kd⟩
section
variable {H : Type} {enc : TypeId × Value → H} {w : World} {base : Nat} {spare : Nat → Bool} {held : Bool}
theorem opb_trod {n : Nat} {cs : List Value} {x : DataW H × List MemPlace} (h : DataW.trod enc Try.prog w base spare held n 36 cs = some x) (hs : ∀ m ∈ x.1.weights Try.prog 36, m ≤ reachBytes) :
    ∃ y : OpB, cs = y.cells ∧ y.In w := by
  obtain ⟨xs, n', _, hx, hlen, hxl, hf⟩ := DataW.trod_struct Try.underlying36 h
  have hc4 : Try.prog.cellsOf 36 = 4 := by kernel_rfl
  rw [hc4] at hlen
  match cs, hlen with
  | [v0, v1, v2, v3], _ =>
    match xs, hxl with
    | [y0, y1, y2, y3], _ =>
      have g0 := hf 0 _ rfl
      have g1 := hf 1 _ rfl
      have g2 := hf 2 _ rfl
      have g3 := hf 3 _ rfl
      have k0 : Try.prog.cellsOf 3 = 1 := by kernel_rfl
      have k1 : Try.prog.cellsOf 2 = 1 := by kernel_rfl
      have k2 : Try.prog.cellsOf 33 = 1 := by kernel_rfl
      have k3 : Try.prog.cellsOf 34 = 1 := by kernel_rfl
      simp [k0, k1, k2, k3] at g0 g1 g2 g3
      obtain ⟨a0, e0, _, w0⟩ := DataW.trod_int Try.underlying3 g0
      obtain ⟨a1, e1, _, w1⟩ := DataW.trod_int Try.underlying2 g1
      have hw : ∀ (j : Nat) (d : DataW H) (t : TypeId), ([y0.1, y1.1, y2.1, y3.1] : List (DataW H))[j]? = some d → ([3, 2, 33, 34] : List TypeId)[j]? = some t → ∀ m ∈ DataW.weights Try.prog t d, m ≤ reachBytes := fun j d t hd ht m hm => by
        refine hs m ?_
        rw [hx]
        simp only [DataW.weights, Try.underlying36]
        exact DataW.weights_mem_each ht hd m hm
      obtain ⟨A, c, l, rfl, hll, hrl⟩ := chs_trod g2 (hw 2 y2.1 _ rfl rfl)
      obtain ⟨B, d, ks, rfl, hkd, hrk, hwk, hlk⟩ := slice_trod (by_ := 8) Try.underlying34 Try.underlying3 (by kernel_rfl) (by kernel_rfl) g3 (hw 3 y3.1 _ rfl rfl)
      simp at e0 e1
      subst e0
      subst e1
      exact ⟨⟨a0, a1, A, c, l, B, d, ks⟩, rfl, ⟨wf_i64 w0, wf_i64 w1, hrl, hll, hrk, fun x hx => wf_i64 (hwk x hx), by show ks.length ≤ _; omega, hkd⟩⟩
/-- A call by value. -/
theorem open_opb {r : Reach} {b0 : Nat} {v : Value} {d : DataW H} {p : List MemPlace} (hs : ∀ m ∈ d.weights Try.prog 36, m ≤ reachBytes)
    (hv : Value.okWide Try.prog w r b0 36 v) (h : DataW.Trod enc Try.prog w base spare held 36 v d p) : ∃ y : OpB, v = .agg y.cells.toArray ∧ y.In w := by
  obtain ⟨cs, rfl, hsz⟩ := okWide_struct Try.underlying36 hv
  obtain ⟨fuel, hf⟩ := h
  obtain ⟨y, e, hy⟩ := opb_trod hf hs
  refine ⟨y, ?_, hy⟩
  rw [← e]
  simp [Value.cells]
end
end Go.Proofs.Ythlijldapoeepaa
