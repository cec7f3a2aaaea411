/- A range over a function whose body keeps on going, in the plain walk; what abides the turn of blocks that are no cells. -/
import Derived.Test.YtlkdglhbncnkhaaNumK
import Derived.RangeFuncOne
import Derived.Shelf.Abstract
import Derived.Shelf.RegionOpen
import Derived.OwnWalkIn
import Derived.TacticsInMore
import Derived.LoopNIn
import Derived.LoopIn
namespace Go.Proofs.Ytlkdglhbncnkhaa
set_option linter.unusedVariables false
open Go.RowKit Go.Shelf

theorem range_own {α : Type} {P : Program} {g : Operand} {ps : Array Tmp} {assign body : Code} {Q : Exit → Act → World → Prop} {a : Act} {w : World} {gf : Nat} {lb : Array Value} {n₀ : Nat} {encs : α → Array Value} {S Sp : List α → Prop} {N : Nat}
    (hg : a.eval g = .func (.func gf) #[] lb) (eg : ∀ args w, (callFunc gf args).run P w = .ok (.enter gf args) w) (hseq : SeqStopsK Fence.wide 9 P gf lb encs (Below n₀) S Sp N w) (hn₀ : n₀ ≤ w.heap.size) (hps : ∀ x, (encs x).size = ps.size)
    (I : List α → World → Prop) (hI : OwnFrom w.heap.size I) (h0 : I [] w) (f : Array Value → α → Array Value)
    (hassign : ∀ (l : Nat) (x : α) (W : World) (K : Act → World → Prop), K { tmps := f a.tmps x, defers := [] } W →
      assign.wpIn (Fence.wide.inRound l) 8 P (Exit.then K (fun _ _ _ => False)) { tmps := (ps.zip (encs x)).foldl (fun t (p, v) => t.setIfInBounds p v) a.tmps, defers := [] } W)
    (hbody : ∀ (l : Nat) (pre : List α) (x : α) (W : World), I pre W → pre.length < N → body.wpIn (Fence.wide.inRound l) 8 P (ownPostK (Below n₀) I (fun _ _ _ => False) (pre ++ [x]) W) { tmps := f a.tmps x, defers := [] } W)
    (hdone : ∀ (D : Nat) (xs : List α) (W : World), w.heap.size ≤ D → S xs → I xs W → W.heap[D]? = some (.deferred (some [])) → Q .normal { a with defers := { target := .collected D, args := #[] } :: a.defers } W) :
    (Code.rangeFunc g ps assign body).wp P Q a w :=
  wpIn_wide.1 (wpIn_rangeFunc_ownF (n := 10) rfl (by omega) hg trivial eg hseq belowK_t (belowK_b hn₀) (Below.refl _ _) hps I (fun _ _ _ => False) hI (fun _ _ _ _ _ hs _ _ => hs) h0 _ hassign hbody hdone (fun _ _ _ _ _ _ h _ => h.elim))

/-- .. with two loop variables. -/
theorem range_own2 {α : Type} {P : Program} {g : Operand} {p q : Tmp} {assign body : Code} {Q : Exit → Act → World → Prop} {a : Act} {w : World} {gf : Nat} {lb : Array Value} {n₀ : Nat} {v u : α → Value} {S Sp : List α → Prop} {N : Nat}
    (hg : a.eval g = .func (.func gf) #[] lb) (eg : ∀ args w, (callFunc gf args).run P w = .ok (.enter gf args) w) (hseq : SeqStopsK Fence.wide 9 P gf lb (fun x => #[v x, u x]) (Below n₀) S Sp N w) (hn₀ : n₀ ≤ w.heap.size)
    (I : List α → World → Prop) (hI : OwnFrom w.heap.size I) (h0 : I [] w) (f : Array Value → α → Array Value)
    (hassign : ∀ (l : Nat) (x : α) (W : World) (K : Act → World → Prop), K { tmps := f a.tmps x, defers := [] } W →
      assign.wpIn (Fence.wide.inRound l) 8 P (Exit.then K (fun _ _ _ => False)) { tmps := (a.tmps.setIfInBounds p (v x)).setIfInBounds q (u x), defers := [] } W)
    (hbody : ∀ (l : Nat) (pre : List α) (x : α) (W : World), I pre W → pre.length < N → body.wpIn (Fence.wide.inRound l) 8 P (ownPostK (Below n₀) I (fun _ _ _ => False) (pre ++ [x]) W) { tmps := f a.tmps x, defers := [] } W)
    (hdone : ∀ (D : Nat) (xs : List α) (W : World), w.heap.size ≤ D → S xs → I xs W → W.heap[D]? = some (.deferred (some [])) → Q .normal { a with defers := { target := .collected D, args := #[] } :: a.defers } W) :
    (Code.rangeFunc g #[p, q] assign body).wp P Q a w :=
  range_own hg eg hseq hn₀ (fun _ => rfl) I hI h0 f (fun l x W K hK => by
    rw [show (#[p, q].zip #[v x, u x]).foldl (fun t (p, v) => t.setIfInBounds p v) a.tmps = (a.tmps.setIfInBounds p (v x)).setIfInBounds q (u x) from by simp]
    exact hassign l x W K hK) hbody hdone

section
variable {W W' : World} {row : Option Nat} {B : Nat}
def Turned (W W' : World) : Prop := Tr (fun b => ∃ o, W.heap[b]? = some o ∧ o.isCells = false) W W'
theorem turned_of (hg : W.grownBy W' row) (hr : ∀ r, row = some r → B ≤ r ∧ ∃ o : Obj, W.heap[r]? = some o ∧ o.isCells = false) : Turned W W' := Tr.of_grown hg (fun b hb _ => (hr b hb).2)
theorem Blk.turned {g : Nat} {t : TypeId} {cs : Array Value} (h : Blk W g t cs) (ht : Turned W W') : Blk W' g t cs := ht.blk h (fun ⟨o, ho, hc⟩ => by
  have := h.symm.trans ho
  injection this with this
  subst this
  cases hc)
theorem own_turned {base : Nat} {e : TypeId} {size n m c : Nat} {A : Option Addr} {xs : List Value} (h : W.ownsRow base e size (.slice A n c) m xs) (ht : Turned W W') : W'.ownsRow base e size (.slice A n c) m xs :=
  ownsRow_tr h ht (fun g hg ⟨o, ho, hc⟩ => by
    rw [ownBlock_slice] at hg
    rw [own_cells h hg ho] at hc
    cases hc)
theorem IsWriter.turned {B g : Nat} {l : List Int} {e : Int} (h : IsWriter W B g l e) (ht : Turned W W') : IsWriter W' B g l e := by
  obtain ⟨A, c, h1, h2, h3, h4⟩ := h
  exact ⟨A, c, h1.turned ht, own_turned h2 ht, h3, h4⟩
end

theorem numR1 (lp m B g : Nat) (l : List Int) (n x : Int) (w : World) (hB : B ≤ w.heap.size) (hw : IsWriter w B g l 0) (hl : l.length ≤ 140737488351232) (h0 : 0 ≤ x) (h1 : x < 256) (hn : 1 < 8 → 0 ≤ n ∧ n < 256) (hx : IntKind.u64.wrap n = x) :
    CallsIn (Fence.wide.inRound lp) m Try.prog 29 #[.pointer (some ⟨g, 0, none⟩), .int .i64 1, .int .i64 n] w fun e w' => e = .returned (.tuple #[]) ∧ IsWriter w' B g (l ++ be 1 x) 0 ∧ Below B w w' ∧ KeepsOthers w w' ∧ Tr (WF w g) w w' :=
  CallsIn.inRound lp (callsIn_wide.2 (numK1 B g l n x w hB hw hl h0 h1 hn hx))
theorem numR8 (lp m B g : Nat) (l : List Int) (n x : Int) (w : World) (hB : B ≤ w.heap.size) (hw : IsWriter w B g l 0) (hl : l.length ≤ 140737488351232) (h0 : 0 ≤ x) (h1 : x < 18446744073709551616) (hn : 8 < 8 → 0 ≤ n ∧ n < 18446744073709551616) (hx : IntKind.u64.wrap n = x) :
    CallsIn (Fence.wide.inRound lp) m Try.prog 29 #[.pointer (some ⟨g, 0, none⟩), .int .i64 8, .int .i64 n] w fun e w' => e = .returned (.tuple #[]) ∧ IsWriter w' B g (l ++ be 8 x) 0 ∧ Below B w w' ∧ KeepsOthers w w' ∧ Tr (WF w g) w w' :=
  CallsIn.inRound lp (callsIn_wide.2 (numK8 B g l n x w hB hw hl h0 h1 hn hx))

end Go.Proofs.Ytlkdglhbncnkhaa
