/- slices.Chunk at bytes: the iterator's contract; a range over a function with what a round keeps named freely. -/
import Derived.Test.YthlijldapoeepaaSums
import Derived.RangeFuncNested
import Derived.RangeFuncBound
import Derived.RangeFuncCalls
import Derived.RangeFuncLeaves
import Derived.RangeFuncFrom
import Derived.RangeFuncOne
import Derived.Shelf.Abstract
import Derived.Shelf.RegionOpen
import Derived.OwnWalkIn
import Derived.TacticsInMore
import Derived.LoopNIn
import Derived.LoopIn
namespace Go.Proofs.Ythlijldapoeepaa
set_option linter.unusedVariables false
set_option maxRecDepth 100000
open Go.RowKit Go.Shelf

attribute [local go_sem] Oper.semAt_some

/-- Two blocks lie as they lay. -/
def Two (a b : Nat) (A B : World) : Prop := B.heap[a]? = A.heap[a]? ∧ B.heap[b]? = A.heap[b]?
theorem two_t {a b : Nat} {A B C : World} (h : Two a b A B) (k : Two a b B C) : Two a b A C := ⟨k.1.trans h.1, k.2.trans h.2⟩
theorem two_b {a b : Nat} {w : World} (ha : a < w.heap.size) (hb : b < w.heap.size) (W : World) (l : Nat) (o o' : Obj) (hl : w.heap.size ≤ l) (h : W.heap[l]? = some o) (_ : o.isCells = false) (_ : o.isWalk = false) : Two a b W (W.putObj l o') :=
  ⟨World.putObj_heap_other (by omega), World.putObj_heap_other (by omega)⟩
theorem Two.blk1 {a b : Nat} {A B : World} (h : Two a b A B) {t : TypeId} {cs : Array Value} (k : Blk A a t cs) : Blk B a t cs := h.1.trans k
theorem Two.blk2 {a b : Nat} {A B : World} (h : Two a b A B) {t : TypeId} {cs : Array Value} (k : Blk A b t cs) : Blk B b t cs := h.2.trans k

theorem range_ownK1 {α : Type} {P : Program} {g : Operand} {p : Tmp} {assign body : Code} {Q : Exit → Act → World → Prop} {a : Act} {w : World} {gf : Nat} {lb : Array Value} {v : α → Value} {Kp : World → World → Prop} {S Sp : List α → Prop} {N : Nat}
    (hg : a.eval g = .func (.func gf) #[] lb) (eg : ∀ args w, (callFunc gf args).run P w = .ok (.enter gf args) w) (hseq : SeqStopsK Fence.wide 9 P gf lb (fun x => #[v x]) Kp S Sp N w)
    (hKt : ∀ {A B C : World}, Kp A B → Kp B C → Kp A C) (hKb : ∀ (W : World) (l : Nat) (o o' : Obj), w.heap.size ≤ l → W.heap[l]? = some o → o.isCells = false → o.isWalk = false → Kp W (W.putObj l o'))
    (I : List α → World → Prop) (hI : OwnFrom w.heap.size I) (h0 : I [] w) (f : Array Value → α → Array Value)
    (hassign : ∀ (l : Nat) (x : α) (W : World) (K : Act → World → Prop), K { tmps := f a.tmps x, defers := [] } W →
      assign.wpIn (Fence.wide.inRound l) 8 P (Exit.then K (fun _ _ _ => False)) { tmps := a.tmps.setIfInBounds p (v x), defers := [] } W)
    (hbody : ∀ (l : Nat) (pre : List α) (x : α) (W : World), I pre W → pre.length < N → body.wpIn (Fence.wide.inRound l) 8 P (ownPostK Kp I (fun _ _ _ => False) (pre ++ [x]) W) { tmps := f a.tmps x, defers := [] } W)
    (hdone : ∀ (D : Nat) (xs : List α) (W : World), w.heap.size ≤ D → S xs → I xs W → W.heap[D]? = some (.deferred (some [])) → Q .normal { a with defers := { target := .collected D, args := #[] } :: a.defers } W) :
    (Code.rangeFunc g #[p] assign body).wp P Q a w :=
  wpIn_wide.1 (wpIn_rangeFunc_ownF (n := 10) rfl (by omega) hg trivial eg hseq hKt hKb (Below.refl _ _) (fun _ => rfl) I (fun _ _ _ => False) hI (fun _ _ _ _ _ hs _ _ => hs) h0 _ (fun l x W K hK => by
    rw [show (#[p].zip #[v x]).foldl (fun t (p, v) => t.setIfInBounds p v) a.tmps = a.tmps.setIfInBounds p (v x) from by simp]
    exact hassign l x W K hK) hbody hdone (fun _ _ _ _ _ _ h _ => h.elim))

def idx (N x : Nat) : Nat := if x < N then x else 0
theorem idx_lt {N x : Nat} (h : 0 < N) : idx N x < N := by unfold idx; split <;> omega
theorem idx_of {N x : Nat} (h : x < N) : idx N x = x := if_pos h

/-- How many pieces of 64 bytes. -/
def many64 (len : Nat) : Nat := (len + (64 - 1)) / 64
def piece64 (b off len k : Nat) : Value := .slice (some ⟨b, off + 64 * k, none⟩) (min 64 (len - 64 * k)) (min 64 (len - 64 * k))

set_option maxHeartbeats 400000 in
theorem chunk64_any (A : Option Addr) (n c : Nat) (w : World) : Calls Try.prog 46 #[.slice A n c, .int .i64 64] w fun e w' =>
    e = .returned (.func (.func 60) #[] #[.pointer (some ⟨w.heap.size, 0, none⟩), .pointer (some ⟨w.heap.size + 1, 0, none⟩)]) ∧ Blk w' w.heap.size 44 #[.slice A n c] ∧ Blk w' (w.heap.size + 1) 3 #[.int .i64 64] ∧ Below w.heap.size w w' := by
  go_enter Try.func46, Try.ntmps46
  go_wp2_with fail
  go_ret
  refine ⟨rfl, (Blk.new w _ _).alloc _, ?_, bl_chain (bl_alloc w _) (bl_alloc _ _)⟩
  have := Blk.new (w.alloc (.cells #[.slice A n c] 44)) 3 #[.int .i64 64]
  simpa using this

set_option maxRecDepth 100000 in
set_option maxHeartbeats 2000000 in
theorem chunk64_in (n l Bs Bn b off len c : Nat) (A : Option Addr) (hA : 0 < len → A = some ⟨b, off, none⟩) (hc : len ≤ c) (hl : len ≤ 140737488355328) (J Jx : List Nat → World → Prop) (hab : ∀ pre W, J pre W → J pre W.drew)
    (hY : ∀ pre x W, J pre W → pre.length < many64 len → YieldAt Fence.wide (n - 1) Try.prog l #[piece64 b off len (idx (many64 len) x)] W fun e W' =>
      (e = .returned (.bool true) ∧ J (pre ++ [x]) W' ∧ Two Bs Bn W W') ∨ (e = .returned (.bool false) ∧ Jx (pre ++ [x]) W'))
    (W : World) (hs : Blk W Bs 44 #[.slice A len c]) (hn : Blk W Bn 3 #[.int .i64 64]) (h0 : J [] W) :
    CallsIn Fence.wide n Try.prog 60 #[.func (.yield l) #[] #[], .pointer (some ⟨Bs, 0, none⟩), .pointer (some ⟨Bn, 0, none⟩)] W fun e W' => (∃ v, e = .returned v) ∧
      ((∃ ys, ys = List.range (many64 len) ∧ J ys W') ∨ (∃ pre, True ∧ Jx pre W')) := by
  refine callsIn_of_wp Try.func60 rfl trivial ?_ rfl
  simp only [Try.ntmps60, List.size_toArray, List.length_cons, List.length_nil, Nat.reduceAdd, Nat.reduceSub, Array.replicate_succ, Array.replicate_zero, List.push_toArray, List.append_toArray, List.nil_append, List.cons_append]
  gi_wp2
  gi_loopw [4, 5] (fun i _ wr => ∃ k : Nat, k ≤ many64 len ∧ i = .int .i64 ((64 * k : Nat) : Int) ∧ J (List.range k) wr ∧ Blk wr Bs 44 #[.slice A len c] ∧ Blk wr Bn 3 #[.int .i64 64])
    (fun i _ _ => len + 64 - (intOf i).toNat)
  case atStart => exact ⟨0, by omega, rfl, h0, hs, hn⟩
  case round =>
    obtain ⟨k, hk, rfl, hJ, h1, h2⟩ := hrel
    have cs := h1.cell 0
    have cn := h2.cell 0
    simp at cs cn
    have H1 := Lib.hid h1
    have H2 := Lib.hid h2
    clear h1 h2
    by_cases hlt : 64 * k < len
    · have hkN : k < many64 len := by unfold many64; omega
      obtain rfl := hA (by omega)
      obtain ⟨fn, tmps, assign, body, hy, hR⟩ := hY (List.range k) k wr.drew (hab _ _ hJ) (by simpa using hkN)
      rw [idx_of hkN] at hy
      obtain ⟨m, hm⟩ : ∃ m, min 64 (len - 64 * k) = m := ⟨_, rfl⟩
      have hm0 : 0 < m := by omega
      have hm1 : 64 * k + m ≤ len := by omega
      have hm2 : m ≤ 64 := by omega
      have hif : (if ((len - 64 * k : Nat) : Int) < 64 then ((len - 64 * k : Nat) : Int) else 64) = (m : Int) := by split <;> omega
      have hnext : Hid (m < 64 → many64 len = k + 1) := Lib.hid (by unfold many64; omega)
      unfold piece64 at hy
      rw [hm] at hy
      clear hm
      have i1 : ((64 * k : Nat) : Int) ≤ (len : Int) := by omega
      have i2 : ((64 * k : Nat) : Int) ≤ (c : Int) := by omega
      gi_wp2
      gi_region
      clear hif
      gi_wp2
      refine ⟨fun h => (by cases h), ?_⟩
      refine hR.mono ?_
      rintro e W3 (⟨rfl, hJ3, hk3⟩ | ⟨rfl, hJx3⟩)
      · have G1 := Lib.hid (hk3.blk1 H1.out.drew)
        have G2 := Lib.hid (hk3.blk2 H2.out.drew)
        have cn3 := G2.out.cell 0
        simp at cn3
        have HJ3 := Lib.hid hJ3
        clear hJ3 hk3
        gi_wp2
        exact ⟨⟨k + 1, by omega, by rw [Nat.mul_succ]; go_num, by rw [List.range_succ]; exact HJ3.out, G1.out, G2.out⟩, by simp [intOf]; omega⟩
      · gi_wp2
        refine bodyPost_ret (results_none rfl _ _ _) rfl ?_
        exact ⟨⟨_, rfl⟩, .inr ⟨_, trivial, hJx3⟩⟩
    · have hkN : k = many64 len := by unfold many64 at hk ⊢; omega
      gi_wp2
      go_end0
      exact ⟨⟨_, rfl⟩, .inl ⟨_, rfl, hkN ▸ hJ⟩⟩

theorem chunk64_stops (Bs Bn b off len c : Nat) (A : Option Addr) (hA : 0 < len → A = some ⟨b, off, none⟩) (hc : len ≤ c) (hl : len ≤ 140737488355328) (w : World) (hs : Blk w Bs 44 #[.slice A len c]) (hn : Blk w Bn 3 #[.int .i64 64]) :
    SeqStopsK Fence.wide 9 Try.prog 60 #[.pointer (some ⟨Bs, 0, none⟩), .pointer (some ⟨Bn, 0, none⟩)] (fun x => #[piece64 b off len (idx (many64 len) x)]) (Two Bs Bn) (fun ys => ys = List.range (many64 len)) (fun _ => True) (many64 len) w := fun l J Jx W hW hab _ hY h0 =>
  chunk64_in 9 l Bs Bn b off len c A hA hc hl J Jx (fun pre W1 h => hab pre W1 W1.drew none h ⟨rfl, rfl, rfl, Nat.le_refl _, fun _ _ _ => rfl⟩ (fun r e => by cases e)) hY W (hs.keep hW) (hn.keep hW) h0
end Go.Proofs.Ythlijldapoeepaa
