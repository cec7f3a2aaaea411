/- An image's blocks set and let go, one at a time: the plain laws and the map's. -/
import Derived.Test.YthlijldapoeepaaExt1
namespace Go.Proofs.Ythlijldapoeepaa
set_option linter.unusedVariables false
set_option maxRecDepth 100000
open Go.RowKit

def one (b : List Int) : Nat := if b = [] then 0 else 1
theorem usedTo_set (L : List (List Int)) (i : Nat) (hi : i < L.length) (x : List Int) : ∀ k, usedTo (L.set i x) k + (if i < k then one (bk L i) else 0) = usedTo L k + (if i < k then one x else 0)
  | 0 => by simp [usedTo]
  | k + 1 => by
    have ih := usedTo_set L i hi x k
    unfold usedTo
    rw [bk_set L i hi x k]
    by_cases e : k = i
    · subst e
      rw [if_pos rfl, if_pos (Nat.lt_succ_self k), if_pos (Nat.lt_succ_self k)]
      rw [if_neg (Nat.lt_irrefl k), if_neg (Nat.lt_irrefl k)] at ih
      unfold one
      omega
    · rw [if_neg e]
      by_cases h2 : i < k
      · rw [if_pos (show i < k + 1 by omega), if_pos (show i < k + 1 by omega)]
        rw [if_pos h2, if_pos h2] at ih
        omega
      · rw [if_neg (show ¬ i < k + 1 by omega), if_neg (show ¬ i < k + 1 by omega)]
        rw [if_neg h2, if_neg h2] at ih
        omega
theorem used_set (L : List (List Int)) (i : Nat) (hi : i < L.length) (x : List Int) : used (L.set i x) + one (bk L i) = used L + one x := by
  have h := usedTo_set L i hi x L.length
  rw [if_pos hi, if_pos hi] at h
  unfold used
  rw [List.length_set]
  exact h
theorem used_le (L : List (List Int)) : used L ≤ L.length := usedTo_le L _

theorem owns_size {w : World} {R : Value → Option (DataW Unit × List MemPlace)} {b n : Nat} {k : TypeId} {D : DataW Unit} (h : w.ownsMap Try.prog k R b n D) : w.ownsMap Try.prog k R b (Maps.size D) D := by
  obtain ⟨es, clock, hb, F, hs, rfl⟩ := h
  exact ⟨es, clock, hb, F, by simp [Maps.size, length_sorted], rfl⟩

section
variable {w w' : World} {g B : Nat} {L : List (List Int)} {D : DataW Unit} {M : Nat → Prop}
theorem IsImg.heapB (h : IsImg w g L B D M) : ∃ es clock, w.heap[B]? = some (.map es clock) := by
  obtain ⟨es, clock, hb, _⟩ := h.own
  exact ⟨es, clock, hb⟩
theorem IsImg.ne (h : IsImg w g L B D M) : g ≠ B := fun e => by
  obtain ⟨es, clock, hb⟩ := h.heapB
  have := h.blk
  unfold Blk at this
  rw [e, hb] at this
  cases this
theorem IsImg.rd_ne (h : IsImg w g L B D M) {b : Nat} {xs : List Value} (hr : Rd w (some ⟨b, 0, none⟩) xs) (hx : xs ≠ []) : b ≠ B := fun e => by
  obtain ⟨es, clock, hb⟩ := h.heapB
  obtain ⟨ad, ha, _, hc⟩ := hr.at_ (k := 0) (List.length_pos_iff.2 hx)
  injection ha with ha
  subst ha e
  simp [World.cell?, Addr.add, hb] at hc
theorem tr_map (hg : w.grownBy w' (some B)) : Tr (fun b => b = B) w w' := Tr.of_grown hg (fun b e _ => by injection e with e; exact e.symm)
theorem isKey (z : Int) (hz : -9223372036854775808 ≤ z ∧ z ≤ 9223372036854775807) : WideAt.IsKeyLit (lk z) := by
  have h := wfI hz
  simp [WideAt.IsKeyLit]
theorem by8_ne {l : List Int} (h : l ≠ []) : by8 l ≠ [] := fun e => h (by unfold by8 at e; exact List.map_eq_nil_iff.1 e)
/-- A block is let go. -/
theorem IsImg.del (h : IsImg w g L B D M) (i : Nat) (hi : i < L.length) {n : Nat} (hg : w.grownBy w' (some B)) (ho : w'.ownsMap Try.prog 3 rSl B n (D.del (lk i))) : IsImg w' g (L.set i []) B (D.del (lk i)) M := by
  have h256 := h.ok.hi
  have ht := tr_map hg
  have hu := used_set L i hi []
  have hsz := Maps.size_del (k := lk i) (h.own.tidy keyI)
  have hh := h.has i
  have hs : Maps.size (D.del (lk i)) = used (L.set i []) := by
    rw [h.sz, hh] at hsz
    by_cases hb : bk L i = []
    · simp [hb] at hsz
      simp [one, hb] at hu
      omega
    · simp [hb] at hsz
      simp [one, hb] at hu
      omega
  refine ⟨h.ok.set_ i (.inl rfl), by rw [List.length_set]; exact ht.blk h.blk h.ne, ?_, fun z => ?_, fun j hj => ?_, hs, h.mg, h.mB, fun b hb => Nat.lt_of_lt_of_le (h.mlt b hb) ht.size⟩
  · refine (owns_size ho).mono ?_
    rw [hs]
    have := used_le (L.set i [])
    rw [List.length_set] at this
    omega
  · by_cases e : z = (i : Int)
    · subst e
      rw [Maps.has_del_same, Int.toNat_natCast, bk_set L i hi, if_pos rfl]
      simp
    · rw [Maps.has_del_other (lk_ne e), h.has]
      by_cases hz : 0 ≤ z
      · rw [bk_set L i hi, if_neg (by omega)]
      · simp [hz]
  · rw [bk_set L i hi] at hj ⊢
    split at hj
    · exact absurd rfl hj
    · rename_i e
      rw [if_neg e]
      obtain ⟨b, h1, h2, h3⟩ := h.at_ j hj
      exact ⟨b, fun z => by rw [Maps.atKey_del_other (lk_ne (by omega))]; exact h1 z, h2, h3.tr ht (fun ad e x => by injection e with e; subst e; exact h.rd_ne h3 (by8_ne hj) x)⟩
/-- A block is set. -/
theorem IsImg.put (h : IsImg w g L B D M) (i : Nat) (hi : i < L.length) {n b : Nat} {x : List Int} (hx : isBl x) (hr : Rd w (some ⟨b, 0, none⟩) (by8 x)) (hM : M b) (hg : w.grownBy w' (some B)) (ho : w'.ownsMap Try.prog 3 rSl B n (D.put (lk i) (.lit (lk (b : Int))))) : IsImg w' g (L.set i x) B (D.put (lk i) (.lit (lk (b : Int)))) M := by
  have h256 := h.ok.hi
  have ht := tr_map hg
  have hxn : x ≠ [] := fun e => by have := hx.1; rw [e] at this; cases this
  have hu := used_set L i hi x
  have hsz := Maps.size_put (k := lk i) (h.own.tidy keyI) (.lit (lk (b : Int)))
  have hh := h.has i
  have hs : Maps.size (D.put (lk i) (.lit (lk (b : Int)))) = used (L.set i x) := by
    rw [hsz, h.sz, hh]
    by_cases hb : bk L i = []
    · simp [hb]
      simp [one, hb, hxn] at hu
      omega
    · simp [hb]
      simp [one, hb, hxn] at hu
      omega
  refine ⟨h.ok.set_ i (.inr hx), by rw [List.length_set]; exact ht.blk h.blk h.ne, ?_, fun z => ?_, fun j hj => ?_, hs, h.mg, h.mB, fun b hb => Nat.lt_of_lt_of_le (h.mlt b hb) ht.size⟩
  · refine (owns_size ho).mono ?_
    rw [hs]
    have := used_le (L.set i x)
    rw [List.length_set] at this
    omega
  · by_cases e : z = (i : Int)
    · subst e
      rw [Maps.has_put_same h.own.isMap (isKey _ (by omega)), Int.toNat_natCast, bk_set L i hi, if_pos rfl]
      simp [hxn]
    · rw [Maps.has_put_other (lk_ne e), h.has]
      by_cases hz : 0 ≤ z
      · rw [bk_set L i hi, if_neg (by omega)]
      · simp [hz]
  · rw [bk_set L i hi] at hj ⊢
    by_cases e : j = i
    · rw [if_pos e]
      subst e
      exact ⟨b, fun z => Maps.atKey_put_same h.own.isMap (isKey _ (by omega)) _ z, hM, hr.tr ht (fun ad e x => by injection e with e; subst e; exact h.rd_ne hr (by8_ne hxn) x)⟩
    · rw [if_neg e] at hj ⊢
      obtain ⟨b', h1, h2, h3⟩ := h.at_ j hj
      exact ⟨b', fun z => by rw [Maps.atKey_put_other (lk_ne (by omega))]; exact h1 z, h2, h3.tr ht (fun ad e x => by injection e with e; subst e; exact h.rd_ne h3 (by8_ne hj) x)⟩
end
/-- Some blocks let go. -/
def clrTo (L : List (List Int)) (a : Nat) : Nat → List (List Int)
  | 0 => L
  | k + 1 => (clrTo L a k).set (a + k) []
theorem clrTo_length (L : List (List Int)) (a : Nat) : ∀ k, (clrTo L a k).length = L.length
  | 0 => rfl
  | k + 1 => by rw [clrTo, List.length_set, clrTo_length L a k]
def unmapL (L : List (List Int)) (lba k : Int) : List (List Int) := if inB L.length lba k = true then clrTo L lba.toNat k.toNat else L
end Go.Proofs.Ythlijldapoeepaa
