/- The program's package extent: an image in plain lists, and where it lies in memory: a map of blocks. -/
import Derived.Test.YthlijldapoeepaaChunk64
import Derived.Test.YthlijldapoeepaaTurned
import Derived.Test.YthlijldapoeepaaInRound
import Derived.Test.YthlijldapoeepaaGetN
import Derived.Test.YthlijldapoeepaaWords
import Derived.Maps.OwnSet
import Derived.Maps.Views
import Derived.Maps.Ext
namespace Go.Proofs.Ythlijldapoeepaa
set_option linter.unusedVariables false
set_option maxRecDepth 100000
open Go.RowKit

/-! ### plain -/
/-- Block i of an image; none is empty. -/
def bk (L : List (List Int)) (i : Nat) : List Int := L[i]?.getD []
def isBl (b : List Int) : Prop := b.length = 64 ∧ isB b
structure ImgOk (L : List (List Int)) : Prop where
  lo : 1 ≤ L.length
  hi : L.length ≤ 256
  bl : ∀ b ∈ L, b = [] ∨ isBl b
theorem ImgOk.at_ {L : List (List Int)} (h : ImgOk L) (i : Nat) : bk L i = [] ∨ isBl (bk L i) := by
  unfold bk
  rcases hx : L[i]? with _ | x
  · exact .inl rfl
  · exact h.bl x (List.mem_of_getElem? hx)
theorem ImgOk.set_ {L : List (List Int)} (h : ImgOk L) (i : Nat) {b : List Int} (hb : b = [] ∨ isBl b) : ImgOk (L.set i b) :=
  ⟨by rw [List.length_set]; exact h.lo, by rw [List.length_set]; exact h.hi, fun x hx => by
    rcases List.mem_or_eq_of_mem_set hx with h1 | rfl
    · exact h.bl x h1
    · exact hb⟩
theorem bk_set (L : List (List Int)) (i : Nat) (hi : i < L.length) (b : List Int) (j : Nat) : bk (L.set i b) j = if j = i then b else bk L j := by
  unfold bk
  rw [List.getElem?_set]
  by_cases h : i = j
  · subst h; simp [hi]
  · rw [if_neg h, if_neg (Ne.symm h)]
theorem bk_out {L : List (List Int)} {i : Nat} (h : L.length ≤ i) : bk L i = [] := by unfold bk; rw [List.getElem?_eq_none h]; rfl
def usedTo (L : List (List Int)) : Nat → Nat
  | 0 => 0
  | k + 1 => usedTo L k + (if bk L k = [] then 0 else 1)
def used (L : List (List Int)) : Nat := usedTo L L.length
theorem usedTo_le (L : List (List Int)) : ∀ k, usedTo L k ≤ k
  | 0 => Nat.le_refl 0
  | k + 1 => by
    have := usedTo_le L k
    unfold usedTo
    split <;> omega
/-- The numbers of the blocks that are there, rising. -/
def numsTo (L : List (List Int)) : Nat → List Int
  | 0 => []
  | k + 1 => numsTo L k ++ (if bk L k = [] then [] else [(k : Int)])
def nums (L : List (List Int)) : List Int := numsTo L L.length
theorem numsTo_length (L : List (List Int)) : ∀ k, (numsTo L k).length = usedTo L k
  | 0 => rfl
  | k + 1 => by
    unfold numsTo usedTo
    rw [List.length_append, numsTo_length L k]
    split <;> rfl
theorem numsTo_mem (L : List (List Int)) (z : Int) : ∀ k, z ∈ numsTo L k ↔ ∃ i : Nat, z = i ∧ i < k ∧ bk L i ≠ []
  | 0 => by simp [numsTo]
  | k + 1 => by
    unfold numsTo
    rw [List.mem_append, numsTo_mem L z k]
    constructor
    · rintro (⟨i, h1, h2, h3⟩ | h)
      · exact ⟨i, h1, by omega, h3⟩
      · split at h
        · cases h
        · rename_i hb
          simp at h
          exact ⟨k, h, by omega, hb⟩
    · rintro ⟨i, h1, h2, h3⟩
      by_cases e : i = k
      · subst e
        right
        rw [if_neg h3]
        simp [h1]
      · exact .inl ⟨i, h1, by omega, h3⟩
theorem numsTo_sorted (L : List (List Int)) : ∀ k, (numsTo L k).Pairwise (· < ·)
  | 0 => by simp [numsTo]
  | k + 1 => by
    unfold numsTo
    rw [List.pairwise_append]
    refine ⟨numsTo_sorted L k, by split <;> simp, fun a ha b hb => ?_⟩
    obtain ⟨i, rfl, hi, _⟩ := (numsTo_mem L a k).1 ha
    split at hb
    · cases hb
    · simp at hb; omega

/-! ### in memory -/
abbrev lk (z : Int) : Lit := .int .i64 z
/-- How a block reads in a map: where it lies. -/
def rSl : Value → Option (DataW Unit × List MemPlace)
  | .slice none 0 0 => some (.nil, [])
  | .slice (some ⟨b, 0, none⟩) 64 c => if 64 ≤ c ∧ c ≤ maxLen then some (.lit (lk (b : Int)), []) else none
  | _ => none
theorem rSl_nil : rSl (.slice none 0 0) = some (.nil, []) := rfl
theorem rSl_mk {b c : Nat} (h : 64 ≤ c) (h2 : c ≤ maxLen) : rSl (.slice (some ⟨b, 0, none⟩) 64 c) = some (.lit (lk (b : Int)), []) := by simp [rSl, h, h2]
theorem rSl_inv_nil {v : Value} {ps : List MemPlace} (h : rSl v = some (.nil, ps)) : v = .slice none 0 0 := by
  unfold rSl at h
  split at h
  · rfl
  · split at h <;> simp at h
  · cases h
theorem rSl_inv {v : Value} {b : Nat} {ps : List MemPlace} (h : rSl v = some (.lit (lk (b : Int)), ps)) : ∃ c, v = .slice (some ⟨b, 0, none⟩) 64 c ∧ 64 ≤ c ∧ c ≤ maxLen := by
  unfold rSl at h
  split at h
  · simp at h
  · rename_i b' c
    split at h
    · rename_i hc
      simp at h
      obtain ⟨h1, _⟩ := h
      have : b' = b := by omega
      subst this
      exact ⟨c, rfl, hc.1, hc.2⟩
    · cases h
  · cases h
theorem keyI : Maps.Keyed Try.prog 3 := Maps.int_keyed Try.underlying3
theorem wfI {z : Int} (h : -9223372036854775808 ≤ z ∧ z ≤ 9223372036854775807) : (Lit.int .i64 z).wf = true := by
  have h1 : IntKind.i64.min = -9223372036854775808 := rfl
  have h2 : IntKind.i64.max = 9223372036854775807 := rfl
  simp only [Lit.wf, Bool.and_eq_true, decide_eq_true_eq, h1, h2]
  omega
theorem keyOfI {z : Int} (h : -9223372036854775808 ≤ z ∧ z ≤ 9223372036854775807) : keyOf Try.prog 3 (.int .i64 z) = some (lk z) := Maps.keyOf_int_mk Try.underlying3 (wfI h)
theorem lk_ne {a b : Int} (h : a ≠ b) : lk a ≠ lk b := fun e => h (by injection e)

/-- An image at block g, its map at block B; all of it lies in M. -/
structure IsImg (w : World) (g : Nat) (L : List (List Int)) (B : Nat) (D : DataW Unit) (M : Nat → Prop) : Prop where
  ok : ImgOk L
  blk : Blk w g 78 #[.int .i64 L.length, .map (some B)]
  own : w.ownsMap Try.prog 3 rSl B 256 D
  has : ∀ z : Int, Maps.has D (lk z) = decide (0 ≤ z ∧ bk L z.toNat ≠ [])
  at_ : ∀ i : Nat, bk L i ≠ [] → ∃ b : Nat, (∀ z, D.atKey (lk i) z = .lit (lk (b : Int))) ∧ M b ∧ Rd w (some ⟨b, 0, none⟩) (by8 (bk L i))
  sz : Maps.size D = used L
  mg : M g
  mB : M B
  mlt : ∀ b, M b → b < w.heap.size
section
variable {w w' : World} {g B : Nat} {L : List (List Int)} {D : DataW Unit} {M F : Nat → Prop}
theorem owns_tr {R : Value → Option (DataW Unit × List MemPlace)} {n : Nat} (h : w.ownsMap Try.prog 3 R B n D) (ht : Tr F w w') (hn : ¬ F B) : w'.ownsMap Try.prog 3 R B n D := by
  have hlt := h.lt
  obtain ⟨es, clock, hb, hr⟩ := h
  exact ⟨es, clock, (ht.block B hlt hn).trans hb, hr⟩
theorem IsImg.tr (h : IsImg w g L B D M) (ht : Tr F w w') (hF : ∀ b, M b → ¬ F b) : IsImg w' g L B D M :=
  ⟨h.ok, ht.blk h.blk (hF g h.mg), owns_tr h.own ht (hF B h.mB), h.has, fun i hi => by
    obtain ⟨b, h1, h2, h3⟩ := h.at_ i hi
    exact ⟨b, h1, h2, h3.tr ht (fun ad e x => by injection e with e; subst e; exact hF b h2 x)⟩, h.sz, h.mg, h.mB, fun b hb => Nat.lt_of_lt_of_le (h.mlt b hb) ht.size⟩
theorem IsImg.below (h : IsImg w g L B D M) (hb : Below w.heap.size w w') : IsImg w' g L B D M := h.tr (Tr.of_below (F := NoB) hb) (fun _ _ x => x)
theorem IsImg.mono (h : IsImg w g L B D M) {M' : Nat → Prop} (hM : ∀ b, M b → M' b) (hlt : ∀ b, M' b → b < w.heap.size) : IsImg w g L B D M' :=
  ⟨h.ok, h.blk, h.own, h.has, fun i hi => by obtain ⟨b, h1, h2, h3⟩ := h.at_ i hi; exact ⟨b, h1, hM b h2, h3⟩, h.sz, hM g h.mg, hM B h.mB, hlt⟩
theorem IsImg.lt (h : IsImg w g L B D M) : g < w.heap.size := h.blk.lt
end
/-- An image, its map somewhere. -/
def Img (w : World) (g : Nat) (L : List (List Int)) (M : Nat → Prop) : Prop := ∃ B D, IsImg w g L B D M
theorem Img.tr {w w' : World} {g : Nat} {L : List (List Int)} {M F : Nat → Prop} (h : Img w g L M) (ht : Tr F w w') (hF : ∀ b, M b → ¬ F b) : Img w' g L M := let ⟨B, D, h⟩ := h; ⟨B, D, h.tr ht hF⟩
theorem Img.below {w w' : World} {g : Nat} {L : List (List Int)} {M : Nat → Prop} (h : Img w g L M) (hb : Below w.heap.size w w') : Img w' g L M := let ⟨B, D, h⟩ := h; ⟨B, D, h.below hb⟩
theorem Img.ok {w : World} {g : Nat} {L : List (List Int)} {M : Nat → Prop} (h : Img w g L M) : ImgOk L := let ⟨_, _, h⟩ := h; h.ok
theorem Img.mlt {w : World} {g : Nat} {L : List (List Int)} {M : Nat → Prop} (h : Img w g L M) : ∀ b, M b → b < w.heap.size := let ⟨_, _, h⟩ := h; h.mlt
theorem Img.lt {w : World} {g : Nat} {L : List (List Int)} {M : Nat → Prop} (h : Img w g L M) : g < w.heap.size := let ⟨_, _, h⟩ := h; h.lt

def emptyL (n : Nat) : List (List Int) := List.replicate n []
theorem bk_empty (n i : Nat) : bk (emptyL n) i = [] := by
  unfold bk emptyL
  rw [List.getElem?_replicate]
  split <;> rfl
theorem usedTo_empty (n : Nat) : ∀ k, usedTo (emptyL n) k = 0
  | 0 => rfl
  | k + 1 => by unfold usedTo; rw [usedTo_empty n k, if_pos (bk_empty n k)]
theorem emptyL_ok {n : Nat} (h1 : 1 ≤ n) (h2 : n ≤ 256) : ImgOk (emptyL n) := ⟨by simpa [emptyL] using h1, by simpa [emptyL] using h2, fun b hb => .inl (List.eq_of_mem_replicate hb)⟩
end Go.Proofs.Ythlijldapoeepaa
