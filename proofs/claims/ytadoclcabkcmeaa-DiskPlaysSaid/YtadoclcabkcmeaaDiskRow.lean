/- The arguments of the disk's statements opened: calls of a disk (ref.Op), by value and in a slice. -/
import Derived.Test.YtadoclcabkcmeaaRow0
import Derived.Test.YtadoclcabkcmeaaDisk8
import Derived.Lib.SmallJoins
import Derived.Deep.Slices
import Derived.Deep.Fields
namespace Go.Proofs.Ytadoclcabkcmeaa
set_option linter.unusedVariables false
open Go.Joins Go.ChangeShapes Go.WideShapes Go.RowKit Go.Deep

/-- A call as it came in. -/
structure OpArg where
  A : Option Addr
  B : Option Addr
  c : Nat
  d : Nat
  o : OpS
def OpArg.cells (y : OpArg) : List Value := [.int .i64 y.o.kind, .int .i64 y.o.n, .slice y.A y.o.b.length y.c, .slice y.B y.o.l.length y.d]
structure OpArg.In (w : World) (y : OpArg) : Prop where
  ok : y.o.Ok
  rb : Rd w y.A (by8 y.o.b)
  rl : Rd w y.B (byI y.o.l)
theorem OpArg.In.below {w w' : World} {y : OpArg} (h : y.In w) (hb : Below w.heap.size w w') : y.In w' := ⟨h.ok, h.rb.below hb, h.rl.below hb⟩

section
variable {H : Type} {enc : TypeId × Value → H} {w : World} {base : Nat} {spare : Nat → Bool} {held : Bool}
theorem slice_trod {n by_ : Nat} {t e : TypeId} {k : IntKind} {v : Value} {y : DataW H × List MemPlace}
    (ht : Try.prog.underlying t = some (.slice e)) (he : Try.prog.underlying e = some (.int k)) (hc : Try.prog.cellsOf e = 1) (hby : Try.prog.bytesOf e = by_)
    (h : DataW.trod enc Try.prog w base spare held n t [v] = some y) (hs : ∀ m ∈ y.1.weights Try.prog t, m ≤ reachBytes) :
    ∃ (A : Option Addr) (c : Nat) (l : List Int), v = .slice A l.length c ∧ Rd w A (l.map (Value.int k)) ∧ (∀ n ∈ l, (Lit.int k n).wf = true) ∧ l.length * by_ ≤ 140737488351232 := by
  subst hby
  rcases open_ints ht he hc h with ⟨hcs, _⟩ | ⟨x, len, c, zs, hcs, _, hl, hm, hz, hx, hcell, hwz⟩
  · injection hcs with hcs
    subst hcs
    exact ⟨none, 0, [], rfl, Rd.nil, by simp, by simp⟩
  · injection hcs with hcs
    subst hcs
    have hzl : len ≤ zs.length := by
      rw [hz]; split <;> omega
    have hlen : (zs.take len).length = len := by rw [List.length_take]; omega
    refine ⟨some x, c, zs.take len, by rw [hlen], fun j u hj => ⟨x, rfl, ?_⟩, fun n hn => hwz n (List.mem_of_mem_take hn), ?_⟩
    · rw [List.getElem?_map, List.getElem?_take] at hj
      split at hj
      · rename_i hjl
        have hjz : j < zs.length := by omega
        rw [List.getElem?_eq_getElem hjz] at hj
        injection hj with hj
        rw [hcell j hjz, ← hj]
        simp [List.getD, List.getElem?_eq_getElem hjz]
      · cases hj
    · have := hs ((lits (H := H) k (zs.take len)).length * Try.prog.bytesOf e + (lits (H := H) k (zs.drop len)).length * Try.prog.bytesOf e) (by
        rw [hx, ← Nat.add_mul]
        simp [DataW.weights, ht])
      simp only [lits, List.length_map, List.length_take, List.length_drop, reachBytes] at this
      rw [hlen]
      have h2 : min len zs.length = len := Nat.min_eq_left hzl
      rw [h2] at this
      omega

theorem weightsAll_mem {P : Program} {e : TypeId} {d : DataW H} : ∀ {l : List (DataW H)} {q : Nat}, d ∈ l → q ∈ d.weights P e → q ∈ DataW.weightsAll P e l
  | x :: l, q, hd, hq => by
    simp only [DataW.weightsAll, List.mem_append]
    rcases List.mem_cons.1 hd with rfl | hd
    · exact .inl hq
    · exact .inr (weightsAll_mem hd hq)
theorem op_trod {n : Nat} {cs : List Value} {x : DataW H × List MemPlace} (h : DataW.trod enc Try.prog w base spare held n 31 cs = some x) (hs : ∀ m ∈ x.1.weights Try.prog 31, m ≤ reachBytes) :
    ∃ y : OpArg, cs = y.cells ∧ y.In w := by
  obtain ⟨xs, n', _, hx, hlen, hxl, hf⟩ := DataW.trod_struct Try.underlying31 h
  have hc4 : Try.prog.cellsOf 31 = 4 := by kernel_rfl
  rw [hc4] at hlen
  match cs, hlen with
  | [v0, v1, v2, v3], _ =>
    match xs, hxl with
    | [y0, y1, y2, y3], _ =>
      have g0 := hf 0 _ rfl
      have g1 := hf 1 _ rfl
      have g2 := hf 2 _ rfl
      have g3 := hf 3 _ rfl
      have k0 : Try.prog.cellsOf 3 = 1 := by kernel_rfl
      have k1 : Try.prog.cellsOf 29 = 1 := by kernel_rfl
      have k2 : Try.prog.cellsOf 23 = 1 := by kernel_rfl
      simp [k0, k1, k2] at g0 g1 g2 g3
      obtain ⟨a0, e0, _, w0⟩ := DataW.trod_int Try.underlying3 g0
      obtain ⟨a1, e1, _, w1⟩ := DataW.trod_int Try.underlying3 g1
      have hw : ∀ (j : Nat) (d : DataW H) (t : TypeId), ([y0.1, y1.1, y2.1, y3.1] : List (DataW H))[j]? = some d → ([3, 3, 29, 23] : List TypeId)[j]? = some t → ∀ m ∈ DataW.weights Try.prog t d, m ≤ reachBytes := fun j d t hd ht m hm => by
        refine hs m ?_
        rw [hx]
        simp only [DataW.weights, Try.underlying31]
        exact DataW.weights_mem_each ht hd m hm
      obtain ⟨A, c, b, rfl, hrb, hwb, hlb⟩ := slice_trod (by_ := 1) Try.underlying29 Try.underlying5 (by kernel_rfl) (by kernel_rfl) g2 (hw 2 y2.1 _ rfl rfl)
      obtain ⟨B, d, l, rfl, hrl, hwl, hll⟩ := slice_trod (by_ := 8) Try.underlying23 Try.underlying3 (by kernel_rfl) (by kernel_rfl) g3 (hw 3 y3.1 _ rfl rfl)
      simp at e0 e1
      subst e0
      subst e1
      exact ⟨⟨A, B, c, d, ⟨a0, a1, b, l⟩⟩, rfl, ⟨⟨wf_i64 w0, wf_i64 w1, isB_of hwb, by show b.length ≤ _; omega, i64_of hwl, by show l.length ≤ _; omega⟩, hrb, hrl⟩⟩

/-- A call by value. -/
theorem open_op {r : Reach} {b0 : Nat} {v : Value} {d : DataW H} {p : List MemPlace} (hs : ∀ m ∈ d.weights Try.prog 31, m ≤ reachBytes)
    (hv : Value.okWide Try.prog w r b0 31 v) (h : DataW.Trod enc Try.prog w base spare held 31 v d p) : ∃ y : OpArg, v = .agg y.cells.toArray ∧ y.In w := by
  obtain ⟨cs, rfl, hsz⟩ := okWide_struct Try.underlying31 hv
  obtain ⟨fuel, hf⟩ := h
  obtain ⟨y, e, hy⟩ := op_trod hf hs
  refine ⟨y, ?_, hy⟩
  rw [← e]
  simp [Value.cells]

/-- The cells of calls. -/
def opCells (l : List OpArg) : List Value := l.flatMap OpArg.cells
theorem opCells_length (l : List OpArg) : (opCells l).length = l.length * 4 := by
  induction l with
  | nil => rfl
  | cons y l ih => show (y.cells ++ opCells l).length = _; rw [List.length_append, ih]; simp [OpArg.cells]; omega
/-- Calls in a slice. -/
theorem open_ops {r : Reach} {b0 : Nat} {v : Value} {d : DataW H} {p : List MemPlace} (hs : ∀ m ∈ d.weights Try.prog 22, m ≤ reachBytes)
    (hv : Value.okWide Try.prog w r b0 22 v) (h : DataW.Trod enc Try.prog w base spare held 22 v d p) :
    ∃ (A : Option Addr) (c : Nat) (l : List OpArg), v = .slice A l.length c ∧ l.length ≤ 140737488351232 ∧
      ∀ i (h : i < l.length), l[i].In w ∧ ∃ b o, A = some ⟨b, o, none⟩ ∧ ∀ j u, l[i].cells[j]? = some u → w.cell? ⟨b, o + (i * 4 + j), none⟩ = some u := by
  obtain ⟨a0, len0, cap0, rfl⟩ := okWide_slice Try.underlying22 hv
  obtain ⟨fuel, hf⟩ := h
  have hc4 : Try.prog.cellsOf 31 = 4 := by kernel_rfl
  rcases open_slice Try.underlying22 hf with ⟨hcs, _⟩ | ⟨a, len, cap, m, n, D, Pl, hcs, _, hl, hm, hmm, hx, hi⟩
  · simp [Value.cells] at hcs
    obtain ⟨rfl, rfl, rfl⟩ := hcs
    exact ⟨none, 0, [], rfl, by simp, fun i h => by cases h⟩
  · simp [Value.cells] at hcs
    obtain ⟨rfl, rfl, rfl⟩ := hcs
    have hlm : len0 ≤ m := by rw [hmm]; split <;> omega
    have hd : d = .slice ((List.range len0).map D) ((List.range (m - len0)).map fun j => D (len0 + j)) := by injection hx
    have each : ∀ i, i < len0 → ∃ y : OpArg, y.In w ∧ ∀ j u, y.cells[j]? = some u → w.cell? (a.add (i * 4 + j)) = some u := fun i hil => by
      obtain ⟨cs', hc, ht'⟩ := hi i (by omega)
      rw [hc4] at hc
      obtain ⟨y, e, hy⟩ := op_trod ht' (fun q hq => by
        refine hs q ?_
        rw [hd]
        simp only [DataW.weights, Try.underlying22, List.mem_cons, List.mem_append]
        refine .inr (.inl ?_)
        exact weightsAll_mem (d := D i) (List.mem_map.2 ⟨i, List.mem_range.2 hil, rfl⟩) hq)
      obtain ⟨_, hcl, hat⟩ := World.cells?_some hc
      refine ⟨y, hy, fun j u hj => ?_⟩
      rw [← e] at hj
      have hjl := (List.getElem?_eq_some_iff.1 hj).1
      rw [← Go.Deep.add_add, hat j (by omega), hj]
    have hex : ∃ l : List OpArg, l.length = len0 ∧ ∀ i (h : i < l.length), l[i].In w ∧ ∀ j u, l[i].cells[j]? = some u → w.cell? (a.add (i * 4 + j)) = some u := by
      refine ⟨(List.finRange len0).map (fun i => (each i.1 i.2).choose), by simp, fun i h => ?_⟩
      have hil : i < len0 := by simpa using h
      have := (each i hil).choose_spec
      simpa using this
    obtain ⟨l, hll, hl2⟩ := hex
    have hbig := hs ((((List.range len0).map D).length + ((List.range (m - len0)).map fun j => D (len0 + j)).length) * Try.prog.bytesOf 31) (by
      rw [hd]
      simp [DataW.weights, Try.underlying22])
    have hb64 : Try.prog.bytesOf 31 = 64 := by kernel_rfl
    rw [hb64] at hbig
    simp only [List.length_map, List.length_range, reachBytes] at hbig
    refine ⟨some a, cap0, l, by rw [hll], by omega, fun i h => ⟨(hl2 i h).1, a.block, a.off, ?_, fun j u hj => ?_⟩⟩
    · have h0 := (hl2 0 (by omega)).2 0 _ rfl
      have hs := World.cell?_spot h0
      obtain ⟨b, o, sp⟩ := a
      simp [Addr.add] at hs
      subst hs
      rfl
    · have h0 := (hl2 0 (by omega)).2 0 _ rfl
      have hs := World.cell?_spot h0
      have h1 := (hl2 i h).2 j u hj
      obtain ⟨b, o, sp⟩ := a
      simp [Addr.add] at hs
      subst hs
      rwa [add_lit] at h1
end
end Go.Proofs.Ytadoclcabkcmeaa
