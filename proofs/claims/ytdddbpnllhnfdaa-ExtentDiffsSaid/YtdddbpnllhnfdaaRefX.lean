/- The reference's image: how it lies in memory; New, in, Unmap, Write. -/
import Derived.Test.YtdddbpnllhnfdaaExtS
import Derived.Test.YtdddbpnllhnfdaaExtRow
namespace Go.Proofs.Ytdddbpnllhnfdaa
set_option linter.unusedVariables false
set_option linter.unusedSimpArgs false
set_option maxRecDepth 100000
open Go.RowKit Go.Shelf

/-- A row of rows of bytes. -/
structure IsRef (w : World) (r : Nat) (L : List (List Int)) (q c : Nat) (M : Nat → Prop) : Prop where
  ok : ImgOk L
  blk : Blk w r 91 #[.slice (some ⟨q, 0, none⟩) L.length c]
  row : ∃ vs, w.ownsRow 0 28 1 (.slice (some ⟨q, 0, none⟩) L.length c) L.length vs ∧ ∀ i v, vs[i]? = some v → ∃ A k, v = .slice A (bk L i).length k ∧ Rd w A (by8 (bk L i)) ∧ ∀ b, Blo A b → M b ∧ b ≠ q ∧ b ≠ r
  mr : M r
  mq : M q
  ne : r ≠ q
  mlt : ∀ b, M b → b < w.heap.size
section
variable {w w' : World} {r q c : Nat} {L : List (List Int)} {M F : Nat → Prop}
theorem IsRef.tr (h : IsRef w r L q c M) (ht : Tr F w w') (hF : ∀ b, M b → ¬ F b) : IsRef w' r L q c M := by
  obtain ⟨h1, h2, ⟨vs, h3, h4⟩, h5, h6, h7, h8⟩ := h
  refine ⟨h1, ht.blk h2 (hF r h5), ⟨vs, own_tr h3 ht (fun b hb => by rw [Blo.some_iff] at hb; exact hb ▸ hF q h6), fun i v hv => ?_⟩, h5, h6, h7, fun b hb => Nat.lt_of_lt_of_le (h8 b hb) ht.size⟩
  obtain ⟨A, k, e, hr, hm⟩ := h4 i v hv
  exact ⟨A, k, e, hr.tr ht (fun ad ea hf => hF _ (hm ad.block (by subst ea; exact (Blo.some_iff _ _).2 rfl)).1 hf), hm⟩
theorem IsRef.below (h : IsRef w r L q c M) (hb : Below w.heap.size w w') : IsRef w' r L q c M := h.tr (Tr.of_below (F := NoB) hb) (fun _ _ x => x)
theorem IsRef.len (h : IsRef w r L q c M) : L.length ≤ c ∧ c ≤ maxLen := by
  obtain ⟨vs, h3, _⟩ := h.row
  rcases h3.2 with ⟨h, _⟩ | ⟨g, cap, cur, hv, _, _, a, b, _⟩
  · cases h
  · injection hv with _ _ e; subst e; exact ⟨a, b⟩
theorem IsRef.cell (h : IsRef w r L q c M) (i : Nat) (hi : i < L.length) : ∃ A k, w.cell? ⟨q, i, none⟩ = some (.slice A (bk L i).length k) ∧ Rd w A (by8 (bk L i)) := by
  obtain ⟨vs, h3, h4⟩ := h.row
  have hl := h3.1
  have hi2 : i < vs.length := by omega
  obtain ⟨A, k, e, hr, _⟩ := h4 i vs[i] (List.getElem?_eq_getElem hi2)
  refine ⟨A, k, ?_, hr⟩
  rw [h3.cellAt i (by omega), List.getElem?_eq_getElem hi2, e]
theorem IsRef.frozen (h : IsRef w r L q c M) (i : Nat) : w.frozen? ⟨q, i, none⟩ = false := by
  obtain ⟨vs, h3, _⟩ := h.row
  exact h3.frozenAt i
/-- A block is set: its row is read in the world ahead. -/
theorem IsRef.set_ (h : IsRef w r L q c M) (i : Nat) (hi : i < L.length) {x : List Int} (hx : x = [] ∨ isBl x) {A : Option Addr} {k : Nat} (hr : Rd w A (by8 x)) (hA : ∀ b, Blo A b → M b ∧ b ≠ q ∧ b ≠ r) : IsRef (w.setCell ⟨q, i, none⟩ (.slice A x.length k)) r (L.set i x) q c M := by
  obtain ⟨h1, h2, ⟨vs, h3, h4⟩, h5, h6, h7, h8⟩ := h
  obtain ⟨s1, s2⟩ := own_stored h3 i (.slice A x.length k)
  refine ⟨h1.set_ i hx, by rw [List.length_set]; exact h2.far h7 _, ⟨vs.set i (.slice A x.length k), by rw [List.length_set]; exact s1, fun j v hv => ?_⟩, h5, h6, h7, fun b hb => Nat.lt_of_lt_of_le (h8 b hb) s2.size⟩
  rw [bk_set L i hi]
  rw [List.getElem?_set] at hv
  by_cases e : i = j
  · subst e
    rw [if_pos rfl] at hv
    split at hv
    · injection hv with hv
      subst hv
      rw [if_pos rfl]
      exact ⟨A, k, rfl, hr.tr s2 (fun ad ea hf => (hA ad.block (by subst ea; exact (Blo.some_iff _ _).2 rfl)).2.1 (by rw [Blo.some_iff] at hf; exact hf.symm)), hA⟩
    · cases hv
  · rw [if_neg e] at hv
    rw [if_neg (Ne.symm e)]
    obtain ⟨A', k', e', hr', hm'⟩ := h4 j v hv
    exact ⟨A', k', e', hr'.tr s2 (fun ad ea hf => (hm' ad.block (by subst ea; exact (Blo.some_iff _ _).2 rfl)).2.1 (by rw [Blo.some_iff] at hf; exact hf.symm)), hm'⟩
theorem IsRef.mono (h : IsRef w r L q c M) {M' : Nat → Prop} (hM : ∀ b, M b → M' b) (hlt : ∀ b, M' b → b < w.heap.size) : IsRef w r L q c M' := by
  obtain ⟨h1, h2, ⟨vs, h3, h4⟩, h5, h6, h7, h8⟩ := h
  exact ⟨h1, h2, ⟨vs, h3, fun i v hv => by obtain ⟨A, k, e, hr, hm⟩ := h4 i v hv; exact ⟨A, k, e, hr, fun b hb => ⟨hM b (hm b hb).1, (hm b hb).2⟩⟩⟩, hM r h5, hM q h6, h7, hlt⟩
end
end Go.Proofs.Ytdddbpnllhnfdaa
