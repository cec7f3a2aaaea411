/- Contracts of the package extent: New, Size, Used, Has, wrong. -/
import Derived.Test.YthlijldapoeepaaGreatM5
import Derived.Test.YthlijldapoeepaaGreatM2
import Derived.Test.YthlijldapoeepaaGreatM1
import Derived.Maps.OwnSet
namespace Go.Proofs.YthlijldapoeepaaGreat
set_option linter.unusedVariables false
set_option maxRecDepth 100000
open Go.RowKit

section
variable {w : World} {g B : Nat} {L : List (List Int)} {D : DataW Unit} {M : Nat → Prop}
theorem zero8 (w : World) : (zeroValue 52).run Tryz.prog w = .ok (.slice none 0 0) w := Tryz.zeroValue52 w
/-- A look-up in an image's map. -/
theorem IsImg.look_ok (h : IsImg w g L B D M) (z : Int) (hz : -9223372036854775808 ≤ z ∧ z ≤ 9223372036854775807) :
    ∃ v, (Instr.lookup 100 (.map (some B)) (.int .i64 z) true).run Tryz.prog w = .ok (.tuple #[v, .bool (decide (0 ≤ z ∧ bk L z.toNat ≠ []))]) w := by
  obtain ⟨v, ps, hrun, _⟩ := h.own.look_ok keyI Tryz.underlying100 (zero8 w) rSl_nil (keyOfI hz)
  exact ⟨v, by rw [← h.has z]; exact hrun⟩
theorem IsImg.look (h : IsImg w g L B D M) (i : Nat) (hi : i < L.length) :
    ∃ A c, (Instr.lookup 100 (.map (some B)) (.int .i64 i) false).run Tryz.prog w = .ok (.slice A (bk L i).length c) w ∧ (bk L i).length ≤ c ∧ c ≤ maxLen ∧ Rd w A (by8 (bk L i)) ∧ (bk L i = [] → A = none) ∧ (bk L i ≠ [] → ∃ b, A = some ⟨b, 0, none⟩ ∧ M b) := by
  have h256 := h.ok.hi
  have hk : keyOf Tryz.prog 3 (.int .i64 (i : Int)) = some (lk i) := keyOfI (by omega)
  obtain ⟨v, ps, hrun, hv⟩ := h.own.lookup keyI Tryz.underlying100 (zero8 w) rSl_nil hk
  by_cases hb : bk L i = []
  · have hn : Maps.has D (lk i) = false := by rw [h.has]; exact decide_eq_false (by simp [hb])
    rw [Maps.atKey_of_not_has hn] at hv
    obtain rfl := rSl_inv_nil hv
    rw [hb]
    exact ⟨none, 0, hrun, Nat.le_refl _, by simp [maxLen], Rd.nil, fun _ => rfl, fun x => absurd rfl x⟩
  · obtain ⟨b, h1, h2, h3⟩ := h.at_ i hb
    rw [h1] at hv
    obtain ⟨c, rfl, hc, hc2⟩ := rSl_inv hv
    have hl : (bk L i).length = 64 := ((h.ok.at_ i).resolve_left hb).1
    refine ⟨some ⟨b, 0, none⟩, c, by rw [hl]; exact hrun, by omega, hc2, h3, fun x => absurd x hb, fun _ => ⟨b, rfl, h2⟩⟩
theorem IsImg.c0 (h : IsImg w g L B D M) : w.cell? ⟨g, 0, none⟩ = some (.int .i64 L.length) := h.blk.cell 0
theorem IsImg.c1 (h : IsImg w g L B D M) : w.cell? ⟨g, 1, none⟩ = some (.map (some B)) := h.blk.cell 1

def RetNew (w : World) (L : List (List Int)) (e : Ending) (w' : World) : Prop := ∃ g M, e = .returned (.tuple #[.pointer (some ⟨g, 0, none⟩), .int .i64 0]) ∧ Img w' g L M ∧ (∀ b, M b → w.heap.size ≤ b) ∧ Below w.heap.size w w'
set_option maxHeartbeats 400000 in
theorem new_ok (n : Nat) (w : World) (h1 : 1 ≤ n) (h2 : n ≤ 256) : Calls Tryz.prog 27 #[.int .i64 n] w (RetNew w (emptyL n)) := by
  have hmm := @run_makeMap Tryz.prog
  go_enter Tryz.func27, Tryz.ntmps27
  go_wp2_with fail
  go_ret2
  have hb : Blk ((w.alloc (.map #[] 0)).alloc (.cells #[.int .i64 n, .map (some w.heap.size)] 102)) (w.heap.size + 1) 102 #[.int .i64 n, .map (some w.heap.size)] := by
    have := Blk.new (w.alloc (.map #[] 0)) 102 #[.int .i64 n, .map (some w.heap.size)]
    simpa using this
  refine ⟨w.heap.size + 1, fun b => b = w.heap.size ∨ b = w.heap.size + 1, rfl, ⟨w.heap.size, .map [], ?_⟩, fun b hb => by omega, bl_chain (bl_alloc _ _) (bl_alloc _ _)⟩
  have hl : (emptyL n).length = n := by simp [emptyL]
  refine ⟨emptyL_ok h1 h2, by rw [hl]; exact hb, ((World.ownsMap_made w _ _ _).alloc _).mono (by omega), fun z => ?_, fun i hi => absurd (bk_empty n i) hi, ?_, .inr rfl, .inl rfl, fun b hb => by simp; omega⟩
  · rw [bk_empty]; simp [Maps.has]
  · unfold used; rw [usedTo_empty]; rfl
theorem new_bad (z : Int) (w : World) (h : ¬ (1 ≤ z ∧ z ≤ 256)) : Calls Tryz.prog 27 #[.int .i64 z] w fun e w' => e = .returned (.tuple #[.pointer none, .int .i64 1]) ∧ w = w' := by
  by_cases h1 : z < 1
  · go_enter Tryz.func27, Tryz.ntmps27
    go_wp2_with fail
    go_ret2
    exact ⟨rfl, rfl⟩
  · have h2 : 256 < z := by omega
    go_enter Tryz.func27, Tryz.ntmps27
    go_wp2_with fail
    go_ret2
    exact ⟨rfl, rfl⟩
theorem size_any (h : Img w g L M) : Calls Tryz.prog 59 #[.pointer (some ⟨g, 0, none⟩)] w fun e w' => e = .returned (.int .i64 L.length) ∧ w = w' := by
  obtain ⟨B, D, h⟩ := h
  have c0 := h.c0
  clear h
  go_enter Tryz.func59, Tryz.ntmps59
  go_wp2_with fail
  go_ret
  exact ⟨rfl, rfl⟩
theorem size_nil (w : World) : Calls Tryz.prog 59 #[.pointer none] w fun e w' => e = .returned (.int .i64 0) ∧ w = w' := by
  go_enter Tryz.func59, Tryz.ntmps59
  go_wp2_with fail
  go_ret
  exact ⟨rfl, rfl⟩
theorem used_any (h : Img w g L M) : Calls Tryz.prog 24 #[.pointer (some ⟨g, 0, none⟩)] w fun e w' => e = .returned (.int .i64 (used L)) ∧ w = w' := by
  obtain ⟨B, D, h⟩ := h
  have c1 := h.c1
  have hl := fun ty => h.own.len Tryz.underlying100 ty
  rw [h.sz] at hl
  clear h
  go_enter Tryz.func24, Tryz.ntmps24
  go_wp2_with fail
  go_ret
  exact ⟨rfl, rfl⟩
theorem used_nil (w : World) : Calls Tryz.prog 24 #[.pointer none] w fun e w' => e = .returned (.int .i64 0) ∧ w = w' := by
  go_enter Tryz.func24, Tryz.ntmps24
  go_wp2_with fail
  go_ret
  exact ⟨rfl, rfl⟩
def hasB (L : List (List Int)) (z : Int) : Bool := decide (0 ≤ z ∧ bk L z.toNat ≠ [])
theorem has_any (h : Img w g L M) (z : Int) (hz : -9223372036854775808 ≤ z ∧ z ≤ 9223372036854775807) : Calls Tryz.prog 23 #[.pointer (some ⟨g, 0, none⟩), .int .i64 z] w fun e w' => e = .returned (.bool (hasB L z)) ∧ w = w' := by
  obtain ⟨B, D, h⟩ := h
  have c1 := h.c1
  obtain ⟨v, hv⟩ := h.look_ok z hz
  rw [show decide (0 ≤ z ∧ bk L z.toNat ≠ []) = hasB L z from rfl] at hv
  clear h
  go_enter Tryz.func23, Tryz.ntmps23
  go_wp2_with fail
  go_ret
  exact ⟨rfl, rfl⟩
theorem has_nil (z : Int) (w : World) : Calls Tryz.prog 23 #[.pointer none, .int .i64 z] w fun e w' => e = .returned (.bool false) ∧ w = w' := by
  go_enter Tryz.func23, Tryz.ntmps23
  go_wp2_with fail
  go_ret
  exact ⟨rfl, rfl⟩
/-- Are some blocks numbers of an image of n? -/
def inB (n : Nat) (lba k : Int) : Bool := decide (0 ≤ lba ∧ 0 ≤ k ∧ lba ≤ n ∧ k ≤ n - lba)
def wrongE (n : Nat) (lba k : Int) : Int := if inB n lba k = true then 0 else 1
theorem wrong_nil (lba k : Int) (w : World) : Calls Tryz.prog 69 #[.pointer none, .int .i64 lba, .int .i64 k] w fun e w' => e = .returned (.int .i64 2) ∧ w = w' := by
  go_enter Tryz.func69, Tryz.ntmps69
  go_wp2_with fail
  go_ret
  exact ⟨rfl, rfl⟩
set_option maxHeartbeats 800000 in
theorem wrong_any (h : Img w g L M) (lba k : Int) (hb : -9223372036854775808 ≤ lba ∧ lba ≤ 9223372036854775807 ∧ -9223372036854775808 ≤ k ∧ k ≤ 9223372036854775807) :
    Calls Tryz.prog 69 #[.pointer (some ⟨g, 0, none⟩), .int .i64 lba, .int .i64 k] w fun e w' => e = .returned (.int .i64 (wrongE L.length lba k)) ∧ w = w' := by
  have hok := h.ok.hi
  obtain ⟨B, D, h⟩ := h
  have c0 := h.c0
  clear h
  obtain ⟨n, hn⟩ : ∃ n, L.length = n := ⟨_, rfl⟩
  rw [hn] at hok c0 ⊢
  clear hn
  have hcs : (0 ≤ lba ∧ 0 ≤ k ∧ lba ≤ n ∧ k ≤ n - lba) ∨ lba < 0 ∨ (0 ≤ lba ∧ k < 0) ∨ (0 ≤ lba ∧ 0 ≤ k ∧ (n : Int) < lba) ∨ (0 ≤ lba ∧ 0 ≤ k ∧ lba ≤ n ∧ (n : Int) - lba < k) := by omega
  rcases hcs with h | h | h | h | h
  · have HE : Hid (wrongE n lba k = 0) := Lib.hid (if_pos (decide_eq_true h))
    obtain ⟨h1, h2, h3, h4⟩ := h
    go_enter Tryz.func69, Tryz.ntmps69
    go_wp2_with fail
    go_ret
    exact ⟨by rw [HE.out]; rfl, rfl⟩
  all_goals
    have HE : Hid (wrongE n lba k = 1) := Lib.hid (if_neg (by unfold inB; simp; omega))
    (try obtain ⟨h1, h⟩ := h)
    (try obtain ⟨h2, h⟩ := h)
    (try obtain ⟨h3, h⟩ := h)
    go_enter Tryz.func69, Tryz.ntmps69
    go_wp2_with fail
    go_ret
    exact ⟨by rw [HE.out]; rfl, rfl⟩
end
end Go.Proofs.YthlijldapoeepaaGreat

/- An image's blocks set and let go, one at a time: the plain laws and the map's. -/

namespace Go.Proofs.YthlijldapoeepaaGreat
set_option linter.unusedVariables false
set_option maxRecDepth 100000
open Go.RowKit

def one (b : List Int) : Nat := if b = [] then 0 else 1
theorem usedTo_set (L : List (List Int)) (i : Nat) (hi : i < L.length) (x : List Int) : ∀ k, usedTo (L.set i x) k + (if i < k then one (bk L i) else 0) = usedTo L k + (if i < k then one x else 0)
  | 0 => by simp [usedTo]
  | k + 1 => by
    have ih := usedTo_set L i hi x k
    unfold usedTo
    rw [bk_set L i hi x k]
    by_cases e : k = i
    · subst e
      rw [if_pos rfl, if_pos (Nat.lt_succ_self k), if_pos (Nat.lt_succ_self k)]
      rw [if_neg (Nat.lt_irrefl k), if_neg (Nat.lt_irrefl k)] at ih
      unfold one
      omega
    · rw [if_neg e]
      by_cases h2 : i < k
      · rw [if_pos (show i < k + 1 by omega), if_pos (show i < k + 1 by omega)]
        rw [if_pos h2, if_pos h2] at ih
        omega
      · rw [if_neg (show ¬ i < k + 1 by omega), if_neg (show ¬ i < k + 1 by omega)]
        rw [if_neg h2, if_neg h2] at ih
        omega
theorem used_set (L : List (List Int)) (i : Nat) (hi : i < L.length) (x : List Int) : used (L.set i x) + one (bk L i) = used L + one x := by
  have h := usedTo_set L i hi x L.length
  rw [if_pos hi, if_pos hi] at h
  unfold used
  rw [List.length_set]
  exact h
theorem used_le (L : List (List Int)) : used L ≤ L.length := usedTo_le L _

theorem owns_size {w : World} {R : Value → Option (DataW Unit × List MemPlace)} {b n : Nat} {k : TypeId} {D : DataW Unit} (h : w.ownsMap Tryz.prog k R b n D) : w.ownsMap Tryz.prog k R b (Maps.size D) D := by
  obtain ⟨es, clock, hb, F, hs, rfl⟩ := h
  exact ⟨es, clock, hb, F, by simp [Maps.size, length_sorted], rfl⟩

section
variable {w w' : World} {g B : Nat} {L : List (List Int)} {D : DataW Unit} {M : Nat → Prop}
theorem IsImg.heapB (h : IsImg w g L B D M) : ∃ es clock, w.heap[B]? = some (.map es clock) := by
  obtain ⟨es, clock, hb, _⟩ := h.own
  exact ⟨es, clock, hb⟩
theorem IsImg.ne (h : IsImg w g L B D M) : g ≠ B := fun e => by
  obtain ⟨es, clock, hb⟩ := h.heapB
  have := h.blk
  unfold Blk at this
  rw [e, hb] at this
  cases this
theorem IsImg.rd_ne (h : IsImg w g L B D M) {b : Nat} {xs : List Value} (hr : Rd w (some ⟨b, 0, none⟩) xs) (hx : xs ≠ []) : b ≠ B := fun e => by
  obtain ⟨es, clock, hb⟩ := h.heapB
  obtain ⟨ad, ha, _, hc⟩ := hr.at_ (k := 0) (List.length_pos_iff.2 hx)
  injection ha with ha
  subst ha e
  simp [World.cell?, Addr.add, hb] at hc
theorem tr_map (hg : w.grownBy w' (some B)) : Tr (fun b => b = B) w w' := Tr.of_grown hg (fun b e _ => by injection e with e; exact e.symm)
theorem isKey (z : Int) (hz : -9223372036854775808 ≤ z ∧ z ≤ 9223372036854775807) : WideAt.IsKeyLit (lk z) := by
  have h := wfI hz
  simp [WideAt.IsKeyLit]
theorem by8_ne {l : List Int} (h : l ≠ []) : by8 l ≠ [] := fun e => h (by unfold by8 at e; exact List.map_eq_nil_iff.1 e)
/-- A block is let go. -/
theorem IsImg.del (h : IsImg w g L B D M) (i : Nat) (hi : i < L.length) {n : Nat} (hg : w.grownBy w' (some B)) (ho : w'.ownsMap Tryz.prog 3 rSl B n (D.del (lk i))) : IsImg w' g (L.set i []) B (D.del (lk i)) M := by
  have h256 := h.ok.hi
  have ht := tr_map hg
  have hu := used_set L i hi []
  have hsz := Maps.size_del (k := lk i) (h.own.tidy keyI)
  have hh := h.has i
  have hs : Maps.size (D.del (lk i)) = used (L.set i []) := by
    rw [h.sz, hh] at hsz
    by_cases hb : bk L i = []
    · simp [hb] at hsz
      simp [one, hb] at hu
      omega
    · simp [hb] at hsz
      simp [one, hb] at hu
      omega
  refine ⟨h.ok.set_ i (.inl rfl), by rw [List.length_set]; exact ht.blk h.blk h.ne, ?_, fun z => ?_, fun j hj => ?_, hs, h.mg, h.mB, fun b hb => Nat.lt_of_lt_of_le (h.mlt b hb) ht.size⟩
  · refine (owns_size ho).mono ?_
    rw [hs]
    have := used_le (L.set i [])
    rw [List.length_set] at this
    omega
  · by_cases e : z = (i : Int)
    · subst e
      rw [Maps.has_del_same, Int.toNat_natCast, bk_set L i hi, if_pos rfl]
      simp
    · rw [Maps.has_del_other (lk_ne e), h.has]
      by_cases hz : 0 ≤ z
      · rw [bk_set L i hi, if_neg (by omega)]
      · simp [hz]
  · rw [bk_set L i hi] at hj ⊢
    split at hj
    · exact absurd rfl hj
    · rename_i e
      rw [if_neg e]
      obtain ⟨b, h1, h2, h3⟩ := h.at_ j hj
      exact ⟨b, fun z => by rw [Maps.atKey_del_other (lk_ne (by omega))]; exact h1 z, h2, h3.tr ht (fun ad e x => by injection e with e; subst e; exact h.rd_ne h3 (by8_ne hj) x)⟩
/-- A block is set. -/
theorem IsImg.put (h : IsImg w g L B D M) (i : Nat) (hi : i < L.length) {n b : Nat} {x : List Int} (hx : isBl x) (hr : Rd w (some ⟨b, 0, none⟩) (by8 x)) (hM : M b) (hg : w.grownBy w' (some B)) (ho : w'.ownsMap Tryz.prog 3 rSl B n (D.put (lk i) (.lit (lk (b : Int))))) : IsImg w' g (L.set i x) B (D.put (lk i) (.lit (lk (b : Int)))) M := by
  have h256 := h.ok.hi
  have ht := tr_map hg
  have hxn : x ≠ [] := fun e => by have := hx.1; rw [e] at this; cases this
  have hu := used_set L i hi x
  have hsz := Maps.size_put (k := lk i) (h.own.tidy keyI) (.lit (lk (b : Int)))
  have hh := h.has i
  have hs : Maps.size (D.put (lk i) (.lit (lk (b : Int)))) = used (L.set i x) := by
    rw [hsz, h.sz, hh]
    by_cases hb : bk L i = []
    · simp [hb]
      simp [one, hb, hxn] at hu
      omega
    · simp [hb]
      simp [one, hb, hxn] at hu
      omega
  refine ⟨h.ok.set_ i (.inr hx), by rw [List.length_set]; exact ht.blk h.blk h.ne, ?_, fun z => ?_, fun j hj => ?_, hs, h.mg, h.mB, fun b hb => Nat.lt_of_lt_of_le (h.mlt b hb) ht.size⟩
  · refine (owns_size ho).mono ?_
    rw [hs]
    have := used_le (L.set i x)
    rw [List.length_set] at this
    omega
  · by_cases e : z = (i : Int)
    · subst e
      rw [Maps.has_put_same h.own.isMap (isKey _ (by omega)), Int.toNat_natCast, bk_set L i hi, if_pos rfl]
      simp [hxn]
    · rw [Maps.has_put_other (lk_ne e), h.has]
      by_cases hz : 0 ≤ z
      · rw [bk_set L i hi, if_neg (by omega)]
      · simp [hz]
  · rw [bk_set L i hi] at hj ⊢
    by_cases e : j = i
    · rw [if_pos e]
      subst e
      exact ⟨b, fun z => Maps.atKey_put_same h.own.isMap (isKey _ (by omega)) _ z, hM, hr.tr ht (fun ad e x => by injection e with e; subst e; exact h.rd_ne hr (by8_ne hxn) x)⟩
    · rw [if_neg e] at hj ⊢
      obtain ⟨b', h1, h2, h3⟩ := h.at_ j hj
      exact ⟨b', fun z => by rw [Maps.atKey_put_other (lk_ne (by omega))]; exact h1 z, h2, h3.tr ht (fun ad e x => by injection e with e; subst e; exact h.rd_ne h3 (by8_ne hj) x)⟩
end
/-- Some blocks let go. -/
def clrTo (L : List (List Int)) (a : Nat) : Nat → List (List Int)
  | 0 => L
  | k + 1 => (clrTo L a k).set (a + k) []
theorem clrTo_length (L : List (List Int)) (a : Nat) : ∀ k, (clrTo L a k).length = L.length
  | 0 => rfl
  | k + 1 => by rw [clrTo, List.length_set, clrTo_length L a k]
def unmapL (L : List (List Int)) (lba k : Int) : List (List Int) := if inB L.length lba k = true then clrTo L lba.toNat k.toNat else L
end Go.Proofs.YthlijldapoeepaaGreat

/- Contracts of the package extent: Read, Unmap. -/

namespace Go.Proofs.YthlijldapoeepaaGreat
set_option linter.unusedVariables false
set_option maxRecDepth 100000
open Go.RowKit

/-- A block as it is read. -/
theorem wrapE {z y : Int} (e : z = y) (h : -9223372036854775808 ≤ z ∧ z ≤ 9223372036854775807) : IntKind.i64.wrap z = y := by rw [IntWalk.i64_in z (by omega), e]
def bv (L : List (List Int)) (i : Nat) : List Int := if bk L i = [] then List.replicate 64 0 else bk L i
def rdTo (L : List (List Int)) (a : Nat) : Nat → List Int
  | 0 => []
  | k + 1 => rdTo L a k ++ bv L (a + k)
theorem bv_length {L : List (List Int)} (h : ImgOk L) (i : Nat) : (bv L i).length = 64 := by
  unfold bv
  split
  · simp
  · rename_i hb; exact ((h.at_ i).resolve_left hb).1
theorem rdTo_length {L : List (List Int)} (h : ImgOk L) (a : Nat) : ∀ k, (rdTo L a k).length = 64 * k
  | 0 => rfl
  | k + 1 => by rw [rdTo, List.length_append, rdTo_length h a k, bv_length h]; omega
theorem rd_splice {L : List (List Int)} (h : ImgOk L) (a k m : Nat) (hk : k < m) :
    splice (by8 (rdTo L a k ++ List.replicate ((m - k) * 64) 0)) (64 * k) (by8 (bk L (a + k))) = by8 (rdTo L a (k + 1) ++ List.replicate ((m - (k + 1)) * 64) 0) := by
  have hl := rdTo_length h a k
  have hz : List.replicate ((m - k) * 64) (0 : Int) = List.replicate 64 0 ++ List.replicate ((m - (k + 1)) * 64) 0 := by rw [List.replicate_append_replicate]; congr 1; omega
  rw [rdTo, hz]
  unfold bv
  by_cases hb : bk L (a + k) = []
  · rw [if_pos hb, hb]
    simp [by8, splice]
  · rw [if_neg hb]
    have h64 := ((h.at_ (a + k)).resolve_left hb).1
    unfold splice
    rw [by8_take, by8_drop, by8_length, h64, ← by8_append, ← by8_append]
    have hd : List.drop (64 * k + 64) (rdTo L a k ++ (List.replicate 64 0 ++ List.replicate ((m - (k + 1)) * 64) 0)) = List.replicate ((m - (k + 1)) * 64) 0 := by
      rw [← List.append_assoc, List.drop_left' (by rw [List.length_append, hl]; simp)]
    rw [List.take_left' hl, hd, List.append_assoc]
theorem rdTo_zero (L : List (List Int)) (a m : Nat) : rdTo L a 0 ++ List.replicate ((m - 0) * 64) 0 = List.replicate (m * 64) 0 := by simp [rdTo]
theorem rdTo_end (L : List (List Int)) (a m : Nat) : rdTo L a m ++ List.replicate ((m - m) * 64) 0 = rdTo L a m := by simp
def readL (L : List (List Int)) (lba k : Int) : List Int := if inB L.length lba k = true then rdTo L lba.toNat k.toNat else []
def Ret8 (w : World) (l : List Int) (err : Int) (e : Ending) (w' : World) : Prop := ∃ A c, e = .returned (.tuple #[.slice A l.length c, .int .i64 err]) ∧ l.length ≤ c ∧ w'.ownsRow w.heap.size 5 1 (.slice A l.length c) l.length (by8 l) ∧ Below w.heap.size w w'

section
variable {w : World} {g : Nat} {L : List (List Int)} {M : Nat → Prop}
theorem read_nil (lba k : Int) (w : World) : Calls Tryz.prog 89 #[.pointer none, .int .i64 lba, .int .i64 k] w (Ret8 w [] 2) := by
  go_enter Tryz.func89, Tryz.ntmps89
  go_wp2_with (first
    | (go_at_call 69; (with_reducible refine (wrong_nil lba k _).mono ?_); rintro e w' ⟨rfl, rfl⟩))
  go_ret2
  exact ⟨none, 0, rfl, by simp, ownsRow_emp _ _ _ _, Below.refl _ _⟩
set_option maxHeartbeats 1600000 in
theorem read_any (h : Img w g L M) (lba k : Int) (hb : -9223372036854775808 ≤ lba ∧ lba ≤ 9223372036854775807 ∧ -9223372036854775808 ≤ k ∧ k ≤ 9223372036854775807) :
    Calls Tryz.prog 89 #[.pointer (some ⟨g, 0, none⟩), .int .i64 lba, .int .i64 k] w (Ret8 w (readL L lba k) (wrongE L.length lba k)) := by
  have hw := wrong_any h lba k hb
  by_cases hin : inB L.length lba k = true
  · have HE : Hid (readL L lba k = rdTo L lba.toNat k.toNat ∧ wrongE L.length lba k = 0) := Lib.hid ⟨if_pos hin, if_pos hin⟩
    rw [HE.out.2] at hw
    have HW := Lib.hid hw
    have hr := of_decide_eq_true hin
    obtain ⟨a, rfl⟩ := Int.eq_ofNat_of_zero_le hr.1
    obtain ⟨m, rfl⟩ := Int.eq_ofNat_of_zero_le hr.2.1
    have h256 := h.ok.hi
    have ham : a + m ≤ L.length := by omega
    rw [HE.out.1, HE.out.2, Int.toNat_natCast, Int.toNat_natCast]
    obtain ⟨B, D, h⟩ := h
    have HH := Lib.hid h
    have HS : Hid (∀ j, j < m → splice (by8 (rdTo L a j ++ List.replicate ((m - j) * 64) 0)) (64 * j) (by8 (bk L (a + j))) = by8 (rdTo L a (j + 1) ++ List.replicate ((m - (j + 1)) * 64) 0)) := Lib.hid (fun j hj => rd_splice h.ok a j m hj)
    have HL : Hid ((rdTo L a m).length = 64 * m) := Lib.hid (rdTo_length h.ok a m)
    have h256' : ∀ i, (bk L i).length = 0 ∨ (bk L i).length = 64 := fun i => (h.ok.at_ i).imp (fun e => by rw [e]; rfl) (·.1)
    have hmk := run_make8 (m * 64) ((m : Int) * 64) (by omega) (by omega)
    have HO0 := Lib.hid (own_zeros w (m * 64) (by unfold maxLen; omega))
    clear hw hin hr hb h
    go_enter Tryz.func89, Tryz.ntmps89
    go_wp2_with (first
      | (go_at_call 69; (with_reducible refine (HW.out).mono ?_); rintro e w' ⟨rfl, rfl⟩))
    clear hmk
    go_loopw [10, 22] (fun _ v w2 => ∃ j : Nat, j ≤ m ∧ v = .int .i64 j ∧ w2.ownsRow w.heap.size 5 1 (.slice (some ⟨w.heap.size, 0, none⟩) (m * 64) (m * 64)) (m * 64) (by8 (rdTo L a j ++ List.replicate ((m - j) * 64) 0)) ∧ Below w.heap.size w w2) (fun _ v _ => m - (intOf v).toNat)
    case atStart => exact ⟨0, by omega, rfl, by rw [rdTo_zero]; exact HO0.out, bl_alloc _ _⟩
    case round =>
      obtain ⟨j, hj, rfl, ho, hb⟩ := hrel
      have HO := Lib.hid ho
      have HB := Lib.hid hb
      clear ho hb
      by_cases hlt : j < m
      · have hI := HH.out.below HB.out
        have hI2 := HH.out.below (bl_chain HB.out (bl_drew wr))
        obtain ⟨A1, cc1, hlk, hc1, hcm, hr1, _, _⟩ := hI2.look (a + j) (by omega)
        rw [show (((a + j : Nat) : Int)) = (a : Int) + (j : Int) from by omega] at hlk
        have hlen : (bk L (a + j)).length = 0 ∨ (bk L (a + j)).length = 64 := (h256' (a + j))
        have HR1 := Lib.hid hr1
        have HOd := Lib.hid HO.out.drew
        have c1 := hI2.c1
        have ew : IntKind.i64.wrap ((j : Int) * 64) = ((64 * j : Nat) : Int) := wrapE (by omega) (by omega)
        have ew2 : IntKind.i64.wrap ((a : Int) + (j : Int)) = (a : Int) + (j : Int) := wrapE (by omega) (by omega)
        have g1 : (0 : Int) ≤ 64 * (j : Int) ∧ 64 * (j : Int) ≤ (m : Int) * 64 := by omega
        have g2 : (64 * (j : Int)).toNat = 64 * j := by omega
        have g3 : ¬ (m * 64 = 64 * j) := by omega
        clear hI hI2 hr1
        go_wp2_with fail
        have LC : Hid ((by8 (bk L (a + j))).length = Nat.min (bk L (a + j)).length (m * 64 - 64 * j)) := Lib.hid (by rw [by8_length]; show _ = min _ _; omega)
        have FC : Hid (64 * j + (by8 (bk L (a + j))).length ≤ m * 64) := Lib.hid (by rw [by8_length]; omega)
        go_region_law (refine stepR_copy (off := 64 * j) (cs := by8 (bk L (a + j))) Tryz.underlying52 sizes1 rfl rfl (by exact HOd.out) rfl rfl (fun _ => rfl) (by exact HR1.out) LC.out FC.out (by8_one _) ?_; intro w4 ho4 ht4; have HO4 := Lib.hid ho4; have HT4 := Lib.hid ht4; clear ho4 ht4)
        go_wp2_with fail
        go_roundw
        case rel =>
          refine ⟨j + 1, by omega, by go_num, ?_, ?_⟩
          · have h4 := HO4.out
            have hsp := HS.out j hlt
            rw [hsp] at h4
            exact h4
          · exact HB.out.trans ((bl_drew wr).mono HB.out.size |>.trans (HT4.out.to_below (B := w.heap.size) HB.out.size (fun b hb => Nat.le_of_eq ((Blo.some_iff _ _).1 hb))))
        case measure => simp [intOf]; omega
      · go_wp2_with fail
        go_ret2
        obtain rfl : j = m := by omega
        have h4 := HO.out
        rw [rdTo_end] at h4
        refine ⟨some ⟨w.heap.size, 0, none⟩, j * 64, by rw [HL.out, Nat.mul_comm 64 j]; rfl, by rw [HL.out]; omega, ?_, HB.out⟩
        rw [HL.out, Nat.mul_comm 64 j]
        exact h4
  · have HE : Hid (readL L lba k = [] ∧ wrongE L.length lba k = 1) := Lib.hid ⟨if_neg hin, if_neg hin⟩
    rw [HE.out.2] at hw
    have HW := Lib.hid hw
    rw [HE.out.1, HE.out.2]
    clear hw hin h
    go_enter Tryz.func89, Tryz.ntmps89
    go_wp2_with (first
      | (go_at_call 69; (with_reducible refine (HW.out).mono ?_); rintro e w' ⟨rfl, rfl⟩))
    go_ret2
    exact ⟨none, 0, rfl, by simp, ownsRow_emp _ _ _ _, Below.refl _ _⟩

/-- What a writer of an image leaves. -/
def RetS (w : World) (g : Nat) (L : List (List Int)) (B : Nat) (M : Nat → Prop) (err : Int) (e : Ending) (w' : World) : Prop := ∃ D M', e = .returned (.int .i64 err) ∧ IsImg w' g L B D M' ∧ (∀ b, M' b → M b ∨ w.heap.size ≤ b) ∧ Tr (fun b => b = B) w w'
theorem unmap_nil (lba k : Int) (w : World) : Calls Tryz.prog 42 #[.pointer none, .int .i64 lba, .int .i64 k] w fun e w' => e = .returned (.int .i64 2) ∧ w = w' := by
  go_enter Tryz.func42, Tryz.ntmps42
  go_wp2_with (first
    | (go_at_call 69; (with_reducible refine (wrong_nil lba k _).mono ?_); rintro e w' ⟨rfl, rfl⟩))
  go_ret
  exact ⟨rfl, rfl⟩
set_option maxHeartbeats 1600000 in
theorem unmap_any {B : Nat} {D : DataW Unit} (h : IsImg w g L B D M) (lba k : Int) (hb : -9223372036854775808 ≤ lba ∧ lba ≤ 9223372036854775807 ∧ -9223372036854775808 ≤ k ∧ k ≤ 9223372036854775807) :
    Calls Tryz.prog 42 #[.pointer (some ⟨g, 0, none⟩), .int .i64 lba, .int .i64 k] w (RetS w g (unmapL L lba k) B M (wrongE L.length lba k)) := by
  have hw := wrong_any ⟨B, D, h⟩ lba k hb
  by_cases hin : inB L.length lba k = true
  · have HE : Hid (unmapL L lba k = clrTo L lba.toNat k.toNat ∧ wrongE L.length lba k = 0) := Lib.hid ⟨if_pos hin, if_pos hin⟩
    rw [HE.out.2] at hw
    have HW := Lib.hid hw
    have hr := of_decide_eq_true hin
    obtain ⟨a, rfl⟩ := Int.eq_ofNat_of_zero_le hr.1
    obtain ⟨m, rfl⟩ := Int.eq_ofNat_of_zero_le hr.2.1
    have h256 := h.ok.hi
    have ham : a + m ≤ L.length := by omega
    rw [HE.out.1, HE.out.2, Int.toNat_natCast, Int.toNat_natCast]
    have HH := Lib.hid h
    clear hw hin hr hb h
    go_enter Tryz.func42, Tryz.ntmps42
    go_wp2_with (first
      | (go_at_call 69; (with_reducible refine (HW.out).mono ?_); rintro e w' ⟨rfl, rfl⟩))
    go_loopw [8, 17] (fun _ v w2 => ∃ j : Nat, j ≤ m ∧ v = .int .i64 j ∧ (∃ D', IsImg w2 g (clrTo L a j) B D' M) ∧ Tr (fun b => b = B) w w2) (fun _ v _ => m - (intOf v).toNat)
    case atStart => exact ⟨0, by omega, rfl, ⟨D, HH.out⟩, Tr.refl _ _⟩
    case round =>
      obtain ⟨j, hj, rfl, ⟨D', ho⟩, ht⟩ := hrel
      have HO := Lib.hid ho
      have HT := Lib.hid ht
      have c1 := ho.c1
      clear ho ht
      by_cases hlt : j < m
      · have ew2 : IntKind.i64.wrap ((a : Int) + (j : Int)) = (a : Int) + (j : Int) := wrapE rfl (by omega)
        have HK : Hid (keyOf Tryz.prog 3 (.int .i64 ((a : Int) + (j : Int))) = some (lk ((a + j : Nat) : Int))) := Lib.hid (by rw [show (((a + j : Nat) : Int)) = (a : Int) + (j : Int) from by omega]; exact keyOfI (by omega))
        go_wp2_with (first
          | (at_delete; refine wpList_delete_own _ rfl _ _ 100 3 rfl _ keyI Tryz.underlying100 rSl B 256 D' rfl HO.out.own _ (lk ((a + j : Nat) : Int)) rfl HK.out ?_; intro w3 ho3 ht3; have HO3 := Lib.hid ho3; have HT3 := Lib.hid ht3; clear ho3 ht3)
          | go_in)
        go_roundw
        case rel =>
          have hI := HO.out.del (a + j) (by rw [clrTo_length]; omega) HT3.out.grown HO3.out
          exact ⟨j + 1, by omega, by go_num, ⟨_, hI⟩, HT.out.trans (tr_map HT3.out.grown) (fun b _ hb => hb)⟩
        case measure => simp [intOf]; omega
      · go_wp2_with fail
        go_ret
        obtain rfl : j = m := by omega
        exact ⟨D', M, rfl, HO.out, fun b hb => .inl hb, HT.out⟩
  · have HE : Hid (unmapL L lba k = L ∧ wrongE L.length lba k = 1) := Lib.hid ⟨if_neg hin, if_neg hin⟩
    rw [HE.out.2] at hw
    have HW := Lib.hid hw
    rw [HE.out.1, HE.out.2]
    have HH := Lib.hid h
    clear hw hin h
    go_enter Tryz.func42, Tryz.ntmps42
    go_wp2_with (first
      | (go_at_call 69; (with_reducible refine (HW.out).mono ?_); rintro e w' ⟨rfl, rfl⟩))
    go_ret
    exact ⟨D, M, rfl, HH.out, fun b hb => .inl hb, Tr.refl _ _⟩
end
end Go.Proofs.YthlijldapoeepaaGreat

/- Changes of blocks: how they lie in memory; what abides the turn of a map. -/

namespace Go.Proofs.YthlijldapoeepaaGreat
set_option linter.unusedVariables false
set_option maxRecDepth 100000
open Go.RowKit

/-- Blocks that hold no cells. -/
def NoCells (w : World) (F : Nat → Prop) : Prop := ∀ b, F b → ∃ o : Obj, w.heap[b]? = some o ∧ o.isCells = false
section
variable {w w' : World} {F : Nat → Prop}
theorem cell_trc {p : Addr} {v : Value} (h : w.cell? p = some v) (ht : Tr F w w') (hF : NoCells w F) : w'.cell? p = some v := by
  have hlt := cell_block_lt h
  refine (ht.cell hlt (fun hf => ?_)).trans h
  obtain ⟨o, ho, hc⟩ := hF _ hf
  cases o with
  | cells a t m => cases hc
  | _ => simp [World.cell?, ho] at h
theorem Rd.trc {A : Option Addr} {xs : List Value} (h : Rd w A xs) (ht : Tr F w w') (hF : NoCells w F) : Rd w' A xs := fun j u hj => by
  obtain ⟨ad, rfl, hc⟩ := h j u hj
  exact ⟨ad, rfl, cell_trc hc ht hF⟩
theorem Blk.trc {g : Nat} {t : TypeId} {cs : Array Value} (h : Blk w g t cs) (ht : Tr F w w') (hF : NoCells w F) : Blk w' g t cs := ht.blk h (fun hf => by
  obtain ⟨o, ho, hc⟩ := hF g hf
  have := h.symm.trans ho
  injection this with this
  subst this
  cases hc)
theorem own_trc {base : Nat} {e : TypeId} {size n m c : Nat} {A : Option Addr} {xs : List Value} (h : w.ownsRow base e size (.slice A n c) m xs) (ht : Tr F w w') (hF : NoCells w F) : w'.ownsRow base e size (.slice A n c) m xs :=
  ownsRow_tr h ht (fun g hg hf => by
    rw [ownBlock_slice] at hg
    obtain ⟨o, ho, hc⟩ := hF g hf
    rw [own_cellsB h hg ho] at hc
    cases hc)
theorem NoCells.mapB {g B : Nat} {L : List (List Int)} {D : DataW Unit} {M : Nat → Prop} (h : IsImg w g L B D M) : NoCells w (fun b => b = B) := fun b e => by
  obtain ⟨es, clock, hb⟩ := h.heapB
  subst e
  exact ⟨_, hb, rfl⟩
end

/-- A change as it came in. -/
structure ChS where
  A : Option Addr
  c : Nat
  lba : Int
  d : List Int
def ChS.cells (y : ChS) : List Value := [.int .i64 y.lba, .slice y.A y.d.length y.c]
structure ChS.In (w : World) (y : ChS) : Prop where
  lb : -9223372036854775808 ≤ y.lba ∧ y.lba ≤ 9223372036854775807
  rd : Rd w y.A (by8 y.d)
  b : isB y.d
  len : y.d.length ≤ 140737488351232
/-- Changes in a slice. -/
def ChsAt (w : World) (A : Option Addr) (l : List ChS) : Prop := ∀ i (h : i < l.length), l[i].In w ∧ ∃ b o, A = some ⟨b, o, none⟩ ∧ ∀ j u, l[i].cells[j]? = some u → w.cell? ⟨b, o + (i * 2 + j), none⟩ = some u
section
variable {w w' : World} {A : Option Addr} {l : List ChS} {F : Nat → Prop}
theorem ChS.In.below {y : ChS} (h : y.In w) (hb : Below w.heap.size w w') : y.In w' := ⟨h.lb, h.rd.below hb, h.b, h.len⟩
theorem ChS.In.trc {y : ChS} (h : y.In w) (ht : Tr F w w') (hF : NoCells w F) : y.In w' := ⟨h.lb, h.rd.trc ht hF, h.b, h.len⟩
theorem ChsAt.below (h : ChsAt w A l) (hb : Below w.heap.size w w') : ChsAt w' A l := fun i hi => by
  obtain ⟨h1, b, o, h2, h3⟩ := h i hi
  exact ⟨h1.below hb, b, o, h2, fun j u hj => (hb.cell (cell_block_lt (h3 j u hj))).trans (h3 j u hj)⟩
theorem ChsAt.trc (h : ChsAt w A l) (ht : Tr F w w') (hF : NoCells w F) : ChsAt w' A l := fun i hi => by
  obtain ⟨h1, b, o, h2, h3⟩ := h i hi
  exact ⟨h1.trc ht hF, b, o, h2, fun j u hj => cell_trc (h3 j u hj) ht hF⟩
end
/-- Can changes be? -/
def chOk (n : Nat) (y : ChS) : Bool := decide (0 ≤ y.lba ∧ y.lba < n ∧ (y.d.length = 0 ∨ y.d.length = 64))
def chRight (n : Nat) (l : List ChS) : Bool := l.all (chOk n)
def chTo (L : List (List Int)) (l : List ChS) : List (List Int) := l.foldl (fun L y => L.set y.lba.toNat y.d) L
def changeL (L : List (List Int)) (l : List ChS) : List (List Int) := if chRight L.length l = true then chTo L l else L
def changeE (n : Nat) (l : List ChS) : Int := if chRight n l = true then 0 else 1
theorem chTo_length (l : List ChS) : ∀ L : List (List Int), (chTo L l).length = L.length := by
  induction l with
  | nil => intro L; rfl
  | cons y l ih => intro L; show (chTo (L.set _ _) l).length = _; rw [ih, List.length_set]
theorem chTo_snoc (L : List (List Int)) (l : List ChS) (j : Nat) (h : j < l.length) : chTo L (l.take (j + 1)) = (chTo L (l.take j)).set l[j].lba.toNat l[j].d := by
  unfold chTo
  rw [List.take_succ_eq_append_getElem h, List.foldl_append]
  rfl
end Go.Proofs.YthlijldapoeepaaGreat

/- delete and m[k] = v in a region that draws. No program in sight. -/

namespace Go.Proofs.YthlijldapoeepaaGreat
set_option linter.unusedVariables false
open Go.RowKit Go.Maps

section
variable {P : Program} {k : TypeId} {R : Value → Option (DataW Unit × List MemPlace)} {w : World} {b n : Nat} {D : DataW Unit} {ops : Array Oper} {o : Oper} {a : Act} {K : Act → World → Prop} {Q : Exit → Act → World → Prop} {E : Prop}
theorem wpO_delete (m x : Operand) (t k : TypeId) (hop : o.op = Op.call { callee := Callee.builtin Builtin.delete, args := #[m, x], argTypes := #[t, k] })
    (e : TypeId) (KK : Keyed P k) (ht : P.underlying t = some (.map k e)) (hm : a.eval m = .map (some b)) (hown : w.ownsMap P k R b n D) (key : Value) (kl : Lit) (hx : a.eval x = key) (hkey : keyOf P k key = some kl)
    (hK : ∀ w', w'.ownsMap P k R b n (D.del kl) → w.grownBy w' (some b) → K (a.put o.dst (.tuple #[])) w') : o.wp P a w K Q := by
  obtain ⟨w', hrun, r1, r2⟩ := hown.drop KK ht hkey o.type
  unfold Oper.wp
  simp [execOp, hop, resolve, invoke, builtin, hm, hx, hrun, Result.andThen]
  exact hK w' r1 r2.grown
theorem wpO_mapUpdate (m x v : Operand) (t : TypeId) (hop : o.op = Op.mapUpdate t m x v)
    (k e : TypeId) (KK : Keyed P k) (ht : P.underlying t = some (.map k e)) (hm : a.eval m = .map (some b)) (hown : w.ownsMap P k R b n D) (hn : n < maxLen) (key val : Value) (kl : Lit) (hx : a.eval x = key) (hv : a.eval v = val) (hkey : keyOf P k key = some kl)
    (d : DataW Unit) (ps : List MemPlace) (hval : R val = some (d, ps))
    (hK : ∀ w', w'.ownsMap P k R b (n + 1) (D.put kl d) → w.grownBy w' (some b) → K (a.put o.dst undef) w') : o.wp P a w K Q := by
  obtain ⟨w', hrun, r1, r2⟩ := hown.update KK ht hn hkey hval
  unfold Oper.wp
  simp [execOp, hop, hm, hx, hv, hrun, Result.andThen]
  exact hK w' r1 r2
theorem stepR_delete (hg : o.guard = none) (m x : Operand) (t k : TypeId) (hop : o.op = Op.call { callee := Callee.builtin Builtin.delete, args := #[m, x], argTypes := #[t, k] })
    (e : TypeId) (KK : Keyed P k) (ht : P.underlying t = some (.map k e)) (hm : a.eval m = .map (some b)) (hown : w.ownsMap P k R b n D) (key : Value) (kl : Lit) (hx : a.eval x = key) (hkey : keyOf P k key = some kl)
    (hK : ∀ w', w'.ownsMap P k R b n (D.del kl) → w.grownBy w' (some b) → K (a.put o.dst (.tuple #[])) w') : if Region.wanted o (yielded ops a.tmps) = true then Oper.wp P o a w K Q else E := by
  have hw : Region.wanted o (yielded ops a.tmps) = true := by simp [Region.wanted, hg]
  rw [if_pos hw]
  exact wpO_delete m x t k hop e KK ht hm hown key kl hx hkey hK
theorem stepR_mapUpdate (hg : o.guard = none) (m x v : Operand) (t : TypeId) (hop : o.op = Op.mapUpdate t m x v)
    (k e : TypeId) (KK : Keyed P k) (ht : P.underlying t = some (.map k e)) (hm : a.eval m = .map (some b)) (hown : w.ownsMap P k R b n D) (hn : n < maxLen) (key val : Value) (kl : Lit) (hx : a.eval x = key) (hv : a.eval v = val) (hkey : keyOf P k key = some kl)
    (d : DataW Unit) (ps : List MemPlace) (hval : R val = some (d, ps))
    (hK : ∀ w', w'.ownsMap P k R b (n + 1) (D.put kl d) → w.grownBy w' (some b) → K (a.put o.dst undef) w') : if Region.wanted o (yielded ops a.tmps) = true then Oper.wp P o a w K Q else E := by
  have hw : Region.wanted o (yielded ops a.tmps) = true := by simp [Region.wanted, hg]
  rw [if_pos hw]
  exact wpO_mapUpdate m x v t hop k e KK ht hm hown hn key val kl hx hv hkey d ps hval hK
end
end Go.Proofs.YthlijldapoeepaaGreat
