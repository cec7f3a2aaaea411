/- Arguments opened: slices of structs, changes. -/
import Derived.Test.YthlijldapoeepaaRow0
import Derived.Test.YthlijldapoeepaaChDef
import Derived.Lib.SmallJoins
import Derived.Deep.Slices
import Derived.Deep.Fields
namespace Go.Proofs.Ythlijldapoeepaa
set_option linter.unusedVariables false
set_option maxRecDepth 100000
open Go.Joins Go.ChangeShapes Go.WideShapes Go.RowKit Go.Deep

section
variable {H : Type} {enc : TypeId × Value → H} {w : World} {base : Nat} {spare : Nat → Bool} {held : Bool}
theorem slice_trod {n by_ : Nat} {t e : TypeId} {k : IntKind} {v : Value} {y : DataW H × List MemPlace}
    (ht : Try.prog.underlying t = some (.slice e)) (he : Try.prog.underlying e = some (.int k)) (hc : Try.prog.cellsOf e = 1) (hby : Try.prog.bytesOf e = by_)
    (h : DataW.trod enc Try.prog w base spare held n t [v] = some y) (hs : ∀ m ∈ y.1.weights Try.prog t, m ≤ reachBytes) :
    ∃ (A : Option Addr) (c : Nat) (l : List Int), v = .slice A l.length c ∧ l.length ≤ c ∧ Rd w A (l.map (Value.int k)) ∧ (∀ n ∈ l, (Lit.int k n).wf = true) ∧ l.length * by_ ≤ 140737488351232 := by
  subst hby
  rcases open_ints ht he hc h with ⟨hcs, _⟩ | ⟨x, len, c, zs, hcs, hlc, hl, hm, hz, hx, hcell, hwz⟩
  · injection hcs with hcs
    subst hcs
    exact ⟨none, 0, [], rfl, Nat.le_refl _, Rd.nil, by simp, by simp⟩
  · injection hcs with hcs
    subst hcs
    have hzl : len ≤ zs.length := by
      rw [hz]; split <;> omega
    have hlen : (zs.take len).length = len := by rw [List.length_take]; omega
    refine ⟨some x, c, zs.take len, by rw [hlen], by omega, fun j u hj => ⟨x, rfl, ?_⟩, fun n hn => hwz n (List.mem_of_mem_take hn), ?_⟩
    · rw [List.getElem?_map, List.getElem?_take] at hj
      split at hj
      · rename_i hjl
        have hjz : j < zs.length := by omega
        rw [List.getElem?_eq_getElem hjz] at hj
        injection hj with hj
        rw [hcell j hjz, ← hj]
        simp [List.getD, List.getElem?_eq_getElem hjz]
      · cases hj
    · have := hs ((lits (H := H) k (zs.take len)).length * Try.prog.bytesOf e + (lits (H := H) k (zs.drop len)).length * Try.prog.bytesOf e) (by
        rw [hx, ← Nat.add_mul]
        simp [DataW.weights, ht])
      simp only [lits, List.length_map, List.length_take, List.length_drop, reachBytes] at this
      rw [hlen]
      have h2 : min len zs.length = len := Nat.min_eq_left hzl
      rw [h2] at this
      omega
theorem weightsAll_mem {P : Program} {e : TypeId} {d : DataW H} : ∀ {l : List (DataW H)} {q : Nat}, d ∈ l → q ∈ d.weights P e → q ∈ DataW.weightsAll P e l
  | x :: l, q, hd, hq => by
    simp only [DataW.weightsAll, List.mem_append]
    rcases List.mem_cons.1 hd with rfl | hd
    · exact .inl hq
    · exact .inr (weightsAll_mem hd hq)
/-- A slice of structs. -/
theorem srow_trod {α : Type} {t e : TypeId} {sz by_ : Nat} (cells : α → List Value) (In : α → Prop) (hcl : ∀ y, 0 < (cells y).length) (ht : Try.prog.underlying t = some (.slice e)) (hc : Try.prog.cellsOf e = sz) (hby : Try.prog.bytesOf e = by_) (h1 : 1 ≤ by_)
    (elem : ∀ {n : Nat} {cs : List Value} {x : DataW H × List MemPlace}, DataW.trod enc Try.prog w base spare held n e cs = some x → (∀ m ∈ x.1.weights Try.prog e, m ≤ reachBytes) → ∃ y, cs = cells y ∧ In y)
    {n : Nat} {v : Value} {y : DataW H × List MemPlace} (h : DataW.trod enc Try.prog w base spare held n t [v] = some y) (hs : ∀ m ∈ y.1.weights Try.prog t, m ≤ reachBytes) :
    ∃ (A : Option Addr) (c : Nat) (l : List α), v = .slice A l.length c ∧ l.length * by_ ≤ 140737488351232 ∧
      ∀ i (h : i < l.length), In l[i] ∧ ∃ b o, A = some ⟨b, o, none⟩ ∧ ∀ j u, (cells l[i])[j]? = some u → w.cell? ⟨b, o + (i * sz + j), none⟩ = some u := by
  rcases open_slice ht h with ⟨hcs, _⟩ | ⟨a, len, cap, m, n, D, Pl, hcs, _, hl, hm, hmm, hx, hi⟩
  · injection hcs with hcs
    subst hcs
    exact ⟨none, 0, [], rfl, by simp, fun i h => by cases h⟩
  · injection hcs with hcs
    subst hcs
    have hlm : len ≤ m := by rw [hmm]; split <;> omega
    have hd : y.1 = .slice ((List.range len).map D) ((List.range (m - len)).map fun j => D (len + j)) := by rw [hx]
    have each : ∀ i, i < len → ∃ y : α, In y ∧ ∀ j u, (cells y)[j]? = some u → w.cell? (a.add (i * sz + j)) = some u := fun i hil => by
      obtain ⟨cs', hc', ht'⟩ := hi i (by omega)
      rw [hc] at hc'
      obtain ⟨y', e', hy⟩ := elem ht' (fun q hq => by
        refine hs q ?_
        rw [hd]
        simp only [DataW.weights, ht, List.mem_cons, List.mem_append]
        refine .inr (.inl ?_)
        exact weightsAll_mem (d := D i) (List.mem_map.2 ⟨i, List.mem_range.2 hil, rfl⟩) hq)
      obtain ⟨_, hcl', hat⟩ := World.cells?_some hc'
      refine ⟨y', hy, fun j u hj => ?_⟩
      rw [← e'] at hj
      have hjl := (List.getElem?_eq_some_iff.1 hj).1
      rw [← Go.Deep.add_add, hat j (by omega), hj]
    have hex : ∃ l : List α, l.length = len ∧ ∀ i (h : i < l.length), In l[i] ∧ ∀ j u, (cells l[i])[j]? = some u → w.cell? (a.add (i * sz + j)) = some u := by
      refine ⟨(List.finRange len).map (fun i => (each i.1 i.2).choose), by simp, fun i h => ?_⟩
      have hil : i < len := by simpa using h
      have := (each i hil).choose_spec
      simpa using this
    obtain ⟨l, hll, hl2⟩ := hex
    have hbig := hs ((((List.range len).map D).length + ((List.range (m - len)).map fun j => D (len + j)).length) * Try.prog.bytesOf e) (by
      rw [hd]
      simp [DataW.weights, ht])
    rw [hby] at hbig
    simp only [List.length_map, List.length_range, reachBytes] at hbig
    have hle : len * by_ ≤ (len + (m - len)) * by_ := Nat.mul_le_mul_right _ (Nat.le_add_right _ _)
    have hsp : ∀ i (h : i < l.length), ∃ b o, a = ⟨b, o, none⟩ := fun i h => by
      have hp := hcl l[0]
      have h0 := (hl2 0 (by omega)).2 0 _ (List.getElem?_eq_getElem hp)
      have hs := World.cell?_spot h0
      obtain ⟨b, o, sp⟩ := a
      simp [Addr.add] at hs
      subst hs
      exact ⟨b, o, rfl⟩
    refine ⟨some a, cap, l, by rw [hll], by rw [hll]; omega, fun i hil => ⟨(hl2 i hil).1, ?_⟩⟩
    obtain ⟨b, o, rfl⟩ := hsp i hil
    refine ⟨b, o, rfl, fun j u hj => ?_⟩
    have h1 := (hl2 i hil).2 j u hj
    rwa [add_lit] at h1
theorem ch_trod {n : Nat} {cs : List Value} {x : DataW H × List MemPlace} (h : DataW.trod enc Try.prog w base spare held n 48 cs = some x) (hs : ∀ m ∈ x.1.weights Try.prog 48, m ≤ reachBytes) :
    ∃ y : ChS, cs = y.cells ∧ y.In w := by
  obtain ⟨xs, n', _, hx, hlen, hxl, hf⟩ := DataW.trod_struct Try.underlying48 h
  have hc4 : Try.prog.cellsOf 48 = 2 := by kernel_rfl
  rw [hc4] at hlen
  match cs, hlen with
  | [v0, v1], _ =>
    match xs, hxl with
    | [y0, y1], _ =>
      have g0 := hf 0 _ rfl
      have g1 := hf 1 _ rfl
      have k0 : Try.prog.cellsOf 3 = 1 := by kernel_rfl
      have k1 : Try.prog.cellsOf 44 = 1 := by kernel_rfl
      simp [k0, k1] at g0 g1
      obtain ⟨a0, e0, _, w0⟩ := DataW.trod_int Try.underlying3 g0
      have hw : ∀ (j : Nat) (d : DataW H) (t : TypeId), ([y0.1, y1.1] : List (DataW H))[j]? = some d → ([3, 44] : List TypeId)[j]? = some t → ∀ m ∈ DataW.weights Try.prog t d, m ≤ reachBytes := fun j d t hd ht m hm => by
        refine hs m ?_
        rw [hx]
        simp only [DataW.weights, Try.underlying48]
        exact DataW.weights_mem_each ht hd m hm
      obtain ⟨A, c, b, rfl, hbc, hrb, hwb, hlb⟩ := slice_trod (by_ := 1) Try.underlying44 Try.underlying5 (by kernel_rfl) (by kernel_rfl) g1 (hw 1 y1.1 _ rfl rfl)
      simp at e0
      subst e0
      exact ⟨⟨A, c, a0, b⟩, rfl, ⟨wf_i64 w0, hrb, isB_of hwb, by show b.length ≤ _; omega⟩⟩
theorem chs_trod {n : Nat} {v : Value} {y : DataW H × List MemPlace} (h : DataW.trod enc Try.prog w base spare held n 33 [v] = some y) (hs : ∀ m ∈ y.1.weights Try.prog 33, m ≤ reachBytes) :
    ∃ (A : Option Addr) (c : Nat) (l : List ChS), v = .slice A l.length c ∧ l.length ≤ 4398046510976 ∧ ChsAt w A l := by
  obtain ⟨A, c, l, e, hl, ha⟩ := srow_trod (by_ := 32) ChS.cells (ChS.In w) (fun y => by simp [ChS.cells]) Try.underlying33 (by kernel_rfl) (by kernel_rfl) (by omega) ch_trod h hs
  exact ⟨A, c, l, e, by omega, ha⟩
theorem open_chs {r : Reach} {b0 : Nat} {v : Value} {d : DataW H} {p : List MemPlace} (hs : ∀ m ∈ d.weights Try.prog 33, m ≤ reachBytes)
    (hv : Value.okWide Try.prog w r b0 33 v) (h : DataW.Trod enc Try.prog w base spare held 33 v d p) :
    ∃ (A : Option Addr) (c : Nat) (l : List ChS), v = .slice A l.length c ∧ l.length ≤ 140737488351232 ∧ ChsAt w A l := by
  obtain ⟨a0, len0, cap0, rfl⟩ := okWide_slice Try.underlying33 hv
  obtain ⟨fuel, hf⟩ := h
  obtain ⟨A, c, l, e, hl, ha⟩ := chs_trod hf hs
  exact ⟨A, c, l, e, by omega, ha⟩
end
end Go.Proofs.Ythlijldapoeepaa
