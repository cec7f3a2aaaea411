/- Changes of blocks: how they lie in memory; what abides the turn of a map. -/
import Derived.Test.YthlijldapoeepaaExt2
namespace Go.Proofs.Ythlijldapoeepaa
set_option linter.unusedVariables false
set_option maxRecDepth 100000
open Go.RowKit

/-- Blocks that hold no cells. -/
def NoCells (w : World) (F : Nat → Prop) : Prop := ∀ b, F b → ∃ o : Obj, w.heap[b]? = some o ∧ o.isCells = false
section
variable {w w' : World} {F : Nat → Prop}
theorem cell_trc {p : Addr} {v : Value} (h : w.cell? p = some v) (ht : Tr F w w') (hF : NoCells w F) : w'.cell? p = some v := by
  have hlt := cell_block_lt h
  refine (ht.cell hlt (fun hf => ?_)).trans h
  obtain ⟨o, ho, hc⟩ := hF _ hf
  cases o with
  | cells a t m => cases hc
  | _ => simp [World.cell?, ho] at h
theorem Rd.trc {A : Option Addr} {xs : List Value} (h : Rd w A xs) (ht : Tr F w w') (hF : NoCells w F) : Rd w' A xs := fun j u hj => by
  obtain ⟨ad, rfl, hc⟩ := h j u hj
  exact ⟨ad, rfl, cell_trc hc ht hF⟩
theorem Blk.trc {g : Nat} {t : TypeId} {cs : Array Value} (h : Blk w g t cs) (ht : Tr F w w') (hF : NoCells w F) : Blk w' g t cs := ht.blk h (fun hf => by
  obtain ⟨o, ho, hc⟩ := hF g hf
  have := h.symm.trans ho
  injection this with this
  subst this
  cases hc)
theorem own_trc {base : Nat} {e : TypeId} {size n m c : Nat} {A : Option Addr} {xs : List Value} (h : w.ownsRow base e size (.slice A n c) m xs) (ht : Tr F w w') (hF : NoCells w F) : w'.ownsRow base e size (.slice A n c) m xs :=
  ownsRow_tr h ht (fun g hg hf => by
    rw [ownBlock_slice] at hg
    obtain ⟨o, ho, hc⟩ := hF g hf
    rw [own_cellsB h hg ho] at hc
    cases hc)
theorem NoCells.mapB {g B : Nat} {L : List (List Int)} {D : DataW Unit} {M : Nat → Prop} (h : IsImg w g L B D M) : NoCells w (fun b => b = B) := fun b e => by
  obtain ⟨es, clock, hb⟩ := h.heapB
  subst e
  exact ⟨_, hb, rfl⟩
end

/-- A change as it came in. -/
structure ChS where
  A : Option Addr
  c : Nat
  lba : Int
  d : List Int
def ChS.cells (y : ChS) : List Value := [.int .i64 y.lba, .slice y.A y.d.length y.c]
structure ChS.In (w : World) (y : ChS) : Prop where
  lb : -9223372036854775808 ≤ y.lba ∧ y.lba ≤ 9223372036854775807
  rd : Rd w y.A (by8 y.d)
  b : isB y.d
  len : y.d.length ≤ 140737488351232
/-- Changes in a slice. -/
def ChsAt (w : World) (A : Option Addr) (l : List ChS) : Prop := ∀ i (h : i < l.length), l[i].In w ∧ ∃ b o, A = some ⟨b, o, none⟩ ∧ ∀ j u, l[i].cells[j]? = some u → w.cell? ⟨b, o + (i * 2 + j), none⟩ = some u
section
variable {w w' : World} {A : Option Addr} {l : List ChS} {F : Nat → Prop}
theorem ChS.In.below {y : ChS} (h : y.In w) (hb : Below w.heap.size w w') : y.In w' := ⟨h.lb, h.rd.below hb, h.b, h.len⟩
theorem ChS.In.trc {y : ChS} (h : y.In w) (ht : Tr F w w') (hF : NoCells w F) : y.In w' := ⟨h.lb, h.rd.trc ht hF, h.b, h.len⟩
theorem ChsAt.below (h : ChsAt w A l) (hb : Below w.heap.size w w') : ChsAt w' A l := fun i hi => by
  obtain ⟨h1, b, o, h2, h3⟩ := h i hi
  exact ⟨h1.below hb, b, o, h2, fun j u hj => (hb.cell (cell_block_lt (h3 j u hj))).trans (h3 j u hj)⟩
theorem ChsAt.trc (h : ChsAt w A l) (ht : Tr F w w') (hF : NoCells w F) : ChsAt w' A l := fun i hi => by
  obtain ⟨h1, b, o, h2, h3⟩ := h i hi
  exact ⟨h1.trc ht hF, b, o, h2, fun j u hj => cell_trc (h3 j u hj) ht hF⟩
end
/-- Can changes be? -/
def chOk (n : Nat) (y : ChS) : Bool := decide (0 ≤ y.lba ∧ y.lba < n ∧ (y.d.length = 0 ∨ y.d.length = 64))
def chRight (n : Nat) (l : List ChS) : Bool := l.all (chOk n)
def chTo (L : List (List Int)) (l : List ChS) : List (List Int) := l.foldl (fun L y => L.set y.lba.toNat y.d) L
def changeL (L : List (List Int)) (l : List ChS) : List (List Int) := if chRight L.length l = true then chTo L l else L
def changeE (n : Nat) (l : List ChS) : Int := if chRight n l = true then 0 else 1
theorem chTo_length (l : List ChS) : ∀ L : List (List Int), (chTo L l).length = L.length := by
  induction l with
  | nil => intro L; rfl
  | cons y l ih => intro L; show (chTo (L.set _ _) l).length = _; rw [ih, List.length_set]
theorem chTo_snoc (L : List (List Int)) (l : List ChS) (j : Nat) (h : j < l.length) : chTo L (l.take (j + 1)) = (chTo L (l.take j)).set l[j].lba.toNat l[j].d := by
  unfold chTo
  rw [List.take_succ_eq_append_getElem h, List.foldl_append]
  rfl
end Go.Proofs.Ythlijldapoeepaa
