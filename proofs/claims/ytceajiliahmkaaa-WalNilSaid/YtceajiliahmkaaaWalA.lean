/- Layer 4: a log in memory; its chain of segments. -/
import Derived.Test.YtceajiliahmkaaaBlk2
import Derived.Test.YtceajiliahmkaaaDisk3
import Derived.ArgAppend
namespace Go.Proofs.Ytceajiliahmkaaa
set_option linter.unusedVariables false
set_option linter.unusedSimpArgs false
set_option maxRecDepth 100000
open Go.RowKit

structure SG where
  life : Int
  first : Int
  epoch : Int
  deriving DecidableEq
def SG.cells (s : SG) : List Value := [.int .i64 s.life, .int .i64 s.first, .int .i64 s.epoch]
def SG.agg (s : SG) : Value := .agg #[.int .i64 s.life, .int .i64 s.first, .int .i64 s.epoch]
def segCells (L : List SG) : List Value := L.flatMap SG.cells
theorem segCells_length (L : List SG) : (segCells L).length = L.length * 3 := by
  induction L with
  | nil => rfl
  | cons s L ih => simp only [segCells, List.flatMap_cons, List.length_append, SG.cells, List.length_cons, List.length_nil] at ih ⊢; omega
theorem segCells_one (L : List SG) : ∀ u ∈ segCells L, u.oneCell' = true := by
  intro u hu
  obtain ⟨s, _, hs⟩ := List.mem_flatMap.1 hu
  simp only [SG.cells, List.mem_cons, List.mem_nil_iff, or_false] at hs
  rcases hs with rfl | rfl | rfl <;> rfl
theorem segCells_snoc (L : List SG) (s : SG) : segCells (L ++ [s]) = segCells L ++ s.cells := by simp [segCells]
/-- A block of segments. -/
def SegTy (w : World) (g : Nat) : Prop := ∃ cs fz, w.heap[g]? = some (.cells cs 71 fz)
theorem SegTy.set {w : World} {g o : Nat} (h : SegTy w g) (v : Value) : SegTy (w.setCell ⟨g, o, none⟩ v) g := by
  obtain ⟨cs, fz, h⟩ := h
  refine ⟨cs.setIfInBounds o v, fz, ?_⟩
  simp [World.setCell, Array.getElem?_modify, h]
theorem SegTy.not_own {w : World} {g B n c size : Nat} {e : TypeId} {A : Option Addr} {xs : List Value} (h : SegTy w g) (ho : w.ownsRow B e size (.slice A n c) n xs) (he : e ≠ 71) : ¬ Blo A g := fun hb => by
  rcases ho.2 with ⟨h1, _⟩ | ⟨g', cap, cur, hv, _, hg, _⟩
  · injection h1 with e1
    subst e1
    exact Blo.none g hb
  · injection hv with e1
    subst e1
    have := (Blo.some_iff _ _).1 hb
    simp at this
    subst this
    obtain ⟨cs, fz, h⟩ := h
    rw [h] at hg
    injection hg with hg
    injection hg with _ h2 _
    exact he h2.symm
/-- A chain's segments in a slice, that may begin behind its block's beginning. -/
def SegRow (w : World) (B : Nat) (A : Option Addr) (c : Nat) (L : List SG) : Prop :=
  (A = none ∧ c = 0 ∧ L = []) ∨ ∃ g off, A = some ⟨g, off, none⟩ ∧ B ≤ g ∧ g < w.heap.size ∧ L.length ≤ c ∧ c ≤ maxLen ∧
    (∀ j, j < c * 3 → (w.cell? ⟨g, off + j, none⟩).isSome = true ∧ w.frozen? ⟨g, off + j, none⟩ = false) ∧ (∀ j u, (segCells L)[j]? = some u → w.cell? ⟨g, off + j, none⟩ = some u) ∧ SegTy w g
section
variable {w w' : World} {B : Nat} {A : Option Addr} {c : Nat} {L : List SG} {F : Nat → Prop}
theorem SegRow.nil (w : World) (B : Nat) : SegRow w B none 0 [] := .inl ⟨rfl, rfl, rfl⟩
theorem SegRow.lt (h : SegRow w B A c L) : ∀ b, Blo A b → B ≤ b ∧ b < w.heap.size := fun b hb => by
  rcases h with ⟨rfl, _⟩ | ⟨g, off, rfl, h1, h2, _⟩
  · exact absurd hb (Blo.none b)
  · have := (Blo.some_iff _ _).1 hb
    simp at this
    omega
theorem SegRow.tr (h : SegRow w B A c L) (ht : Tr F w w') (hF : ∀ b, Blo A b → ¬ F b) : SegRow w' B A c L := by
  rcases h with h | ⟨g, off, rfl, h1, h2, h3, h4, h5, h6⟩
  · exact .inl h
  · have hg : ¬ F g := hF g ((Blo.some_iff _ _).2 rfl)
    obtain ⟨h6, cs, fz, h7⟩ := h6
    refine .inr ⟨g, off, rfl, h1, Nat.lt_of_lt_of_le h2 ht.size, h3, h4, fun j hj => ?_, fun j u hu => (ht.cell (p := ⟨g, off + j, none⟩) h2 hg).trans (h6 j u hu), cs, fz, (ht.block g h2 hg).trans h7⟩
    rw [ht.cell (p := ⟨g, off + j, none⟩) h2 hg, ht.frozen (p := ⟨g, off + j, none⟩) h2 hg]
    exact h5 j hj
theorem SegRow.below (h : SegRow w B A c L) (hb : Below w.heap.size w w') : SegRow w' B A c L := h.tr (Tr.of_below (F := NoB) hb) (fun _ _ h => h)
theorem SegRow.base (h : SegRow w B A c L) {B' : Nat} (hB : B' ≤ B) : SegRow w B' A c L := by
  rcases h with h | ⟨g, off, rfl, h1, h2⟩
  · exact .inl h
  · exact .inr ⟨g, off, rfl, by omega, h2⟩
theorem SegRow.ty (h : SegRow w B A c L) : ∀ b, Blo A b → SegTy w b := fun b hb => by
  rcases h with ⟨rfl, _⟩ | ⟨g, off, rfl, h1, h2, h3, h4, h5, h6, h7⟩
  · exact absurd hb (Blo.none b)
  · have := (Blo.some_iff _ _).1 hb
    simp at this
    subst this
    exact h7
theorem SegRow.le (h : SegRow w B A c L) : L.length ≤ c := by
  rcases h with ⟨_, rfl, rfl⟩ | ⟨g, off, rfl, h1, h2, h3, _⟩
  · simp
  · exact h3
theorem SegRow.cap (h : SegRow w B A c L) : c ≤ maxLen := by
  rcases h with ⟨_, rfl, rfl⟩ | ⟨g, off, rfl, h1, h2, h3, h4, _⟩
  · simp [maxLen]
  · exact h4
theorem segCells_at : ∀ (L : List SG) (i : Nat) (h : i < L.length) (j : Nat) (u : Value), L[i].cells[j]? = some u → (segCells L)[i * 3 + j]? = some u
  | s :: L, 0, h, j, u, hu => by
    show (s.cells ++ segCells L)[0 * 3 + j]? = _
    rw [List.getElem?_append_left (by have := (List.getElem?_eq_some_iff.1 hu).1; simpa using this)]
    simpa using hu
  | s :: L, i + 1, h, j, u, hu => by
    show (s.cells ++ segCells L)[(i + 1) * 3 + j]? = _
    rw [List.getElem?_append_right (by simp [SG.cells]; omega)]
    have := segCells_at L i (by simpa using h) j u (by simpa using hu)
    rw [← this]
    congr 1
    simp [SG.cells]
    omega
/-- One of the chain's segments. -/
theorem SegRow.at_ (h : SegRow w B A c L) (i : Nat) (hi : i < L.length) : ∃ g off, A = some ⟨g, off, none⟩ ∧ g < w.heap.size ∧ w.cell? ⟨g, off + i * 3, none⟩ = some (.int .i64 L[i].life) ∧ w.cell? ⟨g, off + i * 3 + 1, none⟩ = some (.int .i64 L[i].first) ∧ w.cell? ⟨g, off + i * 3 + 2, none⟩ = some (.int .i64 L[i].epoch) := by
  rcases h with ⟨_, _, rfl⟩ | ⟨g, off, rfl, h1, h2, h3, h4, h5, h6⟩
  · simp at hi
  · obtain ⟨h6, h7⟩ := h6
    refine ⟨g, off, rfl, h2, ?_, ?_, ?_⟩
    · exact h6 _ _ (segCells_at L i hi 0 _ rfl)
    · have := h6 _ _ (segCells_at L i hi 1 _ rfl)
      rwa [← Nat.add_assoc] at this
    · have := h6 _ _ (segCells_at L i hi 2 _ rfl)
      rwa [← Nat.add_assoc] at this
/-- Of a row of the call's own. -/
theorem SegRow.of_own (h : w.ownsRow B 71 3 (.slice A L.length c) L.length (segCells L)) : SegRow w B A c L := by
  rcases h.2 with ⟨h1, h2⟩ | ⟨g, cap, cur, hv, hb, hg, h1, h2, h3, h4⟩
  · injection h1 with e1 e2 e3
    exact .inl ⟨e1, e3, List.eq_nil_of_length_eq_zero h2⟩
  · injection hv with e1 e2 e3
    subst e1
    subst e3
    have hlt : g < w.heap.size := (Array.getElem?_eq_some_iff.1 hg).1
    refine .inr ⟨g, 0, rfl, hb, hlt, h1, h2, fun j hj => ?_, fun j u hu => ?_, cur, (0, 0), hg⟩
    · rw [Nat.zero_add, cell_of_row w g j cur 71 (0, 0) hg]
      refine ⟨?_, ?_⟩
      · rw [Array.getElem?_eq_getElem (by omega)]
        rfl
      · simp [World.frozen?, hg]
    · rw [Nat.zero_add, cell_of_row w g j cur 71 (0, 0) hg]
      rw [← h4, List.getElem?_take] at hu
      split at hu
      · simpa using hu
      · cases hu
end
theorem infoSg : (Try.prog.info? 71).map (fun i => (i.zero, i.size, i.bytes)) = some (some (.agg #[.int .i64 0, .int .i64 0, .int .i64 0]), 3, 24) := by kernel_rfl
theorem ESg : AppTy Try.prog 62 71 3 24 := AppTy.mk' Try.underlying62 infoSg rfl (by omega)
section
variable {w : World} {B : Nat} {L : List SG}
theorem seg_room {g off c : Nat} (hr : SegRow w B (some ⟨g, off, none⟩) c L) (y : SG) (h : L.length + 1 ≤ c) :
    SegRow (w.setCells g (off + L.length * 3) y.cells) B (some ⟨g, off, none⟩) c (L ++ [y]) ∧ Tr (Blo (some ⟨g, off, none⟩)) w (w.setCells g (off + L.length * 3) y.cells) ∧ (∀ j, j < y.cells.length → (w.cell? ⟨g, off + L.length * 3 + j, none⟩).isSome = true ∧ w.frozen? ⟨g, off + L.length * 3 + j, none⟩ = false) := by
  rcases hr with ⟨h1, _⟩ | ⟨g', off', e, h1, h2, h3, h4, h5, h6, h7⟩
  · cases h1
  · injection e with e
    injection e with e1 e2 _
    subst e1
    subst e2
    have hn : ∀ j, j < y.cells.length → (w.cell? ⟨g, off + L.length * 3 + j, none⟩).isSome = true ∧ w.frozen? ⟨g, off + L.length * 3 + j, none⟩ = false := fun j hj => by
      have hj3 : j < 3 := hj
      have := h5 (L.length * 3 + j) (by omega)
      rw [← Nat.add_assoc] at this
      exact this
    have hb : Blo (some ⟨g, off, none⟩) g := (Blo.some_iff _ _).2 rfl
    have ht : Tr (Blo (some ⟨g, off, none⟩)) w (w.setCells g (off + L.length * 3) y.cells) := (((Tr.refl _ w).setCell (p := ⟨g, off + L.length * 3, none⟩) (fun _ => hb) _).setCell (p := ⟨g, off + L.length * 3 + 1, none⟩) (fun _ => hb) _).setCell (p := ⟨g, off + L.length * 3 + 1 + 1, none⟩) (fun _ => hb) _
    have hsl := segCells_length L
    refine ⟨.inr ⟨g, off, rfl, h1, Nat.lt_of_lt_of_le h2 ht.size, by simpa using h, h4, fun j hj => ?_, fun j u hu => ?_, ((h7.set _).set _).set _⟩, ht, hn⟩
    · rw [World.frozen?_setCells]
      refine ⟨?_, (h5 j hj).2⟩
      by_cases hin : L.length * 3 ≤ j ∧ j < L.length * 3 + 3
      · have := World.cell?_setCells_in g y.cells (off + L.length * 3) w (fun j hj => (hn j hj).1) (j - L.length * 3) (show _ < 3 by omega)
        rw [show off + L.length * 3 + (j - L.length * 3) = off + j by omega] at this
        rw [this]
        rfl
      · rw [World.cell?_setCells_out g y.cells (off + L.length * 3) w ⟨g, off + j, none⟩ (fun _ _ => by
          show off + j < _ ∨ off + L.length * 3 + 3 ≤ off + j
          omega)]
        exact (h5 j hj).1
    · rw [segCells_snoc] at hu
      by_cases hlt : j < L.length * 3
      · rw [List.getElem?_append_left (by omega)] at hu
        rw [World.cell?_setCells_out g y.cells (off + L.length * 3) w ⟨g, off + j, none⟩ (fun _ _ => by
          show off + j < _ ∨ off + L.length * 3 + 3 ≤ off + j
          omega)]
        exact h6 j u hu
      · rw [List.getElem?_append_right (by omega), hsl] at hu
        obtain ⟨hj, hv⟩ := List.getElem?_eq_some_iff.1 hu
        have := World.cell?_setCells_in g y.cells (off + L.length * 3) w (fun j hj => (hn j hj).1) (j - L.length * 3) hj
        rw [show off + L.length * 3 + (j - L.length * 3) = off + j by omega] at this
        rw [this, hv]
theorem wpO_seg {o : Oper} {a : Act} {K : Act → World → Prop} {Q : Exit → Act → World → Prop} {s x : Operand} (ho : o.op = .call { callee := .builtin .append, args := #[s, x], argTypes := #[62, 62] })
    {A0 : Option Addr} {c0 n : Nat} (hr : SegRow w B A0 c0 L) (hs : a.eval s = .slice A0 n c0) (hn : n = L.length) {A2 : Option Addr} {c2 : Nat} (y : SG) (hy : Rd w A2 y.cells) (hx : a.eval x = .slice A2 1 c2) (hl : L.length ≤ 1000) (hB : B ≤ w.heap.size) (n' : Nat) (hn' : L.length + 1 = n')
    (h : ∀ A' c' w', SegRow w' B A' c' (L ++ [y]) → Tr (Blo A0) w w' → (∀ b, Blo A' b → Blo A0 b ∨ w.heap.size ≤ b) → K (a.put o.dst (.slice A' n' c')) w') : o.wp Try.prog a w K Q := by
  subst hn
  subst hn'
  have hone : ∀ u ∈ y.cells, u.oneCell' = true := by
    have := segCells_one [y]
    simpa [segCells] using this
  rcases id hr with ⟨h1, h2, h3⟩ | ⟨g, off, h1, h2, h3, h4, h5, h6, h7, h8⟩
  · subst h1
    subst h2
    subst h3
    refine wpO_append ESg ho (ownsRow_emp w B _ _) hs hy hx rfl hone 1 y.cells rfl rfl (by simp [maxLen]) (by omega) hB (fun A' c' w' hc ho2 ht ha => h A' c' w' ?_ ht (fun b hb => (ha.blo hb).imp id (fun e => by omega)))
    exact SegRow.of_own (L := [y]) (by simpa [segCells] using ho2)
  · subst h1
    obtain ⟨ht, i, z, hi, hz, hsz, hby, hzs, h0⟩ := ESg
    obtain ⟨ad, rfl, _⟩ := hy 0 _ rfl
    have hc : ∀ j u, y.cells[j]? = some u → w.cell? (ad.add j) = some u := fun j u hj => by
      obtain ⟨ad', e, hc⟩ := hy j u hj
      injection e with e
      subst e
      exact hc
    by_cases hroom : L.length + 1 ≤ c0
    · obtain ⟨r1, r2, r3⟩ := seg_room hr y hroom
      have hrun := run_append_room_cells (P := Try.prog) w 62 o.type 71 i ht hi g off L.length c0 ad 1 c2 y.cells (by rw [hsz]; rfl) hc hone hroom (fun j hj => by rw [hsz]; exact (r3 j hj).1) (fun j hj => by rw [hsz]; exact (r3 j hj).2)
      rw [hsz] at hrun
      unfold Oper.wp execOp
      simp only [ho, resolve, invoke, builtin, Sem.run_bind, Sem.run_pure, Result.andThen_ok, List.map_toArray, List.map_cons, List.map_nil, hs, hx, hrun]
      exact h _ _ _ r1 r2 (fun b hb => .inl hb)
    · obtain ⟨v', w', hrun, r1, r2⟩ := run_append_arg_grows (P := Try.prog) w 62 o.type 71 i z 3 24 ht hi hz hsz hby hzs (by omega) ⟨g, off, none⟩ L.length c0 (segCells L) (segCells_length L) (fun j u hu => by rw [add_lit]; exact h7 j u hu) ad 1 c2 y.cells rfl hc (by omega) (by simp only [maxLen]; omega) (by omega)
      obtain ⟨A', c', rfl, hc', _⟩ := ownsRow_slice r1
      unfold Oper.wp execOp
      simp only [ho, resolve, invoke, builtin, Sem.run_bind, Sem.run_pure, Result.andThen_ok, List.map_toArray, List.map_cons, List.map_nil, hs, hx, hrun]
      have hsr : SegRow w' B A' c' (L ++ [y]) := SegRow.of_own (by
        rw [segCells_snoc, List.length_append]
        exact ownsRow_base r1 hB)
      exact h A' c' w' hsr (Tr.of_grown r2 (fun b hb _ => by cases hb)) (fun b hb => .inr (own_ge r1 b hb))
theorem stepR_seg {ops : Array Oper} {o : Oper} {a : Act} {K : Act → World → Prop} {Q : Exit → Act → World → Prop} {E : Prop} {s x : Operand} (hgd : o.guard = none) (ho : o.op = .call { callee := .builtin .append, args := #[s, x], argTypes := #[62, 62] })
    {A0 : Option Addr} {c0 n : Nat} (hr : SegRow w B A0 c0 L) (hs : a.eval s = .slice A0 n c0) (hn : n = L.length) {A2 : Option Addr} {c2 : Nat} (y : SG) (hy : Rd w A2 y.cells) (hx : a.eval x = .slice A2 1 c2) (hl : L.length ≤ 1000) (hB : B ≤ w.heap.size) (n' : Nat) (hn' : L.length + 1 = n')
    (h : ∀ A' c' w', SegRow w' B A' c' (L ++ [y]) → Tr (Blo A0) w w' → (∀ b, Blo A' b → Blo A0 b ∨ w.heap.size ≤ b) → K (a.put o.dst (.slice A' n' c')) w') : if Region.wanted o (yielded ops a.tmps) = true then Oper.wp Try.prog o a w K Q else E := by
  have hw : Region.wanted o (yielded ops a.tmps) = true := by simp [Region.wanted, hgd]
  rw [if_pos hw]
  exact wpO_seg ho hr hs hn y hy hx hl hB n' hn' h
end
end Go.Proofs.Ytceajiliahmkaaa
