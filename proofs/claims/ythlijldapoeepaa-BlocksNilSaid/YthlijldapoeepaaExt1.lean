/- Contracts of the package extent: New, Size, Used, Has, wrong. -/
import Derived.Test.YthlijldapoeepaaExtDef
namespace Go.Proofs.Ythlijldapoeepaa
set_option linter.unusedVariables false
set_option maxRecDepth 100000
open Go.RowKit

section
variable {w : World} {g B : Nat} {L : List (List Int)} {D : DataW Unit} {M : Nat → Prop}
theorem zero8 (w : World) : (zeroValue 44).run Try.prog w = .ok (.slice none 0 0) w := Try.zeroValue44 w
/-- A look-up in an image's map. -/
theorem IsImg.look_ok (h : IsImg w g L B D M) (z : Int) (hz : -9223372036854775808 ≤ z ∧ z ≤ 9223372036854775807) :
    ∃ v, (Instr.lookup 76 (.map (some B)) (.int .i64 z) true).run Try.prog w = .ok (.tuple #[v, .bool (decide (0 ≤ z ∧ bk L z.toNat ≠ []))]) w := by
  obtain ⟨v, ps, hrun, _⟩ := h.own.look_ok keyI Try.underlying76 (zero8 w) rSl_nil (keyOfI hz)
  exact ⟨v, by rw [← h.has z]; exact hrun⟩
theorem IsImg.look (h : IsImg w g L B D M) (i : Nat) (hi : i < L.length) :
    ∃ A c, (Instr.lookup 76 (.map (some B)) (.int .i64 i) false).run Try.prog w = .ok (.slice A (bk L i).length c) w ∧ (bk L i).length ≤ c ∧ c ≤ maxLen ∧ Rd w A (by8 (bk L i)) ∧ (bk L i = [] → A = none) ∧ (bk L i ≠ [] → ∃ b, A = some ⟨b, 0, none⟩ ∧ M b) := by
  have h256 := h.ok.hi
  have hk : keyOf Try.prog 3 (.int .i64 (i : Int)) = some (lk i) := keyOfI (by omega)
  obtain ⟨v, ps, hrun, hv⟩ := h.own.lookup keyI Try.underlying76 (zero8 w) rSl_nil hk
  by_cases hb : bk L i = []
  · have hn : Maps.has D (lk i) = false := by rw [h.has]; exact decide_eq_false (by simp [hb])
    rw [Maps.atKey_of_not_has hn] at hv
    obtain rfl := rSl_inv_nil hv
    rw [hb]
    exact ⟨none, 0, hrun, Nat.le_refl _, by simp [maxLen], Rd.nil, fun _ => rfl, fun x => absurd rfl x⟩
  · obtain ⟨b, h1, h2, h3⟩ := h.at_ i hb
    rw [h1] at hv
    obtain ⟨c, rfl, hc, hc2⟩ := rSl_inv hv
    have hl : (bk L i).length = 64 := ((h.ok.at_ i).resolve_left hb).1
    refine ⟨some ⟨b, 0, none⟩, c, by rw [hl]; exact hrun, by omega, hc2, h3, fun x => absurd x hb, fun _ => ⟨b, rfl, h2⟩⟩
theorem IsImg.c0 (h : IsImg w g L B D M) : w.cell? ⟨g, 0, none⟩ = some (.int .i64 L.length) := h.blk.cell 0
theorem IsImg.c1 (h : IsImg w g L B D M) : w.cell? ⟨g, 1, none⟩ = some (.map (some B)) := h.blk.cell 1

def RetNew (w : World) (L : List (List Int)) (e : Ending) (w' : World) : Prop := ∃ g M, e = .returned (.tuple #[.pointer (some ⟨g, 0, none⟩), .int .i64 0]) ∧ Img w' g L M ∧ (∀ b, M b → w.heap.size ≤ b) ∧ Below w.heap.size w w'
set_option maxHeartbeats 400000 in
theorem new_ok (n : Nat) (w : World) (h1 : 1 ≤ n) (h2 : n ≤ 256) : Calls Try.prog 21 #[.int .i64 n] w (RetNew w (emptyL n)) := by
  have hmm := @run_makeMap Try.prog
  go_enter Try.func21, Try.ntmps21
  go_wp2_with fail
  go_ret2
  have hb : Blk ((w.alloc (.map #[] 0)).alloc (.cells #[.int .i64 n, .map (some w.heap.size)] 78)) (w.heap.size + 1) 78 #[.int .i64 n, .map (some w.heap.size)] := by
    have := Blk.new (w.alloc (.map #[] 0)) 78 #[.int .i64 n, .map (some w.heap.size)]
    simpa using this
  refine ⟨w.heap.size + 1, fun b => b = w.heap.size ∨ b = w.heap.size + 1, rfl, ⟨w.heap.size, .map [], ?_⟩, fun b hb => by omega, bl_chain (bl_alloc _ _) (bl_alloc _ _)⟩
  have hl : (emptyL n).length = n := by simp [emptyL]
  refine ⟨emptyL_ok h1 h2, by rw [hl]; exact hb, ((World.ownsMap_made w _ _ _).alloc _).mono (by omega), fun z => ?_, fun i hi => absurd (bk_empty n i) hi, ?_, .inr rfl, .inl rfl, fun b hb => by simp; omega⟩
  · rw [bk_empty]; simp [Maps.has]
  · unfold used; rw [usedTo_empty]; rfl
theorem new_bad (z : Int) (w : World) (h : ¬ (1 ≤ z ∧ z ≤ 256)) : Calls Try.prog 21 #[.int .i64 z] w fun e w' => e = .returned (.tuple #[.pointer none, .int .i64 1]) ∧ w = w' := by
  by_cases h1 : z < 1
  · go_enter Try.func21, Try.ntmps21
    go_wp2_with fail
    go_ret2
    exact ⟨rfl, rfl⟩
  · have h2 : 256 < z := by omega
    go_enter Try.func21, Try.ntmps21
    go_wp2_with fail
    go_ret2
    exact ⟨rfl, rfl⟩
theorem size_any (h : Img w g L M) : Calls Try.prog 35 #[.pointer (some ⟨g, 0, none⟩)] w fun e w' => e = .returned (.int .i64 L.length) ∧ w = w' := by
  obtain ⟨B, D, h⟩ := h
  have c0 := h.c0
  clear h
  go_enter Try.func35, Try.ntmps35
  go_wp2_with fail
  go_ret
  exact ⟨rfl, rfl⟩
theorem size_nil (w : World) : Calls Try.prog 35 #[.pointer none] w fun e w' => e = .returned (.int .i64 0) ∧ w = w' := by
  go_enter Try.func35, Try.ntmps35
  go_wp2_with fail
  go_ret
  exact ⟨rfl, rfl⟩
theorem used_any (h : Img w g L M) : Calls Try.prog 19 #[.pointer (some ⟨g, 0, none⟩)] w fun e w' => e = .returned (.int .i64 (used L)) ∧ w = w' := by
  obtain ⟨B, D, h⟩ := h
  have c1 := h.c1
  have hl := fun ty => h.own.len Try.underlying76 ty
  rw [h.sz] at hl
  clear h
  go_enter Try.func19, Try.ntmps19
  go_wp2_with fail
  go_ret
  exact ⟨rfl, rfl⟩
theorem used_nil (w : World) : Calls Try.prog 19 #[.pointer none] w fun e w' => e = .returned (.int .i64 0) ∧ w = w' := by
  go_enter Try.func19, Try.ntmps19
  go_wp2_with fail
  go_ret
  exact ⟨rfl, rfl⟩
def hasB (L : List (List Int)) (z : Int) : Bool := decide (0 ≤ z ∧ bk L z.toNat ≠ [])
theorem has_any (h : Img w g L M) (z : Int) (hz : -9223372036854775808 ≤ z ∧ z ≤ 9223372036854775807) : Calls Try.prog 18 #[.pointer (some ⟨g, 0, none⟩), .int .i64 z] w fun e w' => e = .returned (.bool (hasB L z)) ∧ w = w' := by
  obtain ⟨B, D, h⟩ := h
  have c1 := h.c1
  obtain ⟨v, hv⟩ := h.look_ok z hz
  rw [show decide (0 ≤ z ∧ bk L z.toNat ≠ []) = hasB L z from rfl] at hv
  clear h
  go_enter Try.func18, Try.ntmps18
  go_wp2_with fail
  go_ret
  exact ⟨rfl, rfl⟩
theorem has_nil (z : Int) (w : World) : Calls Try.prog 18 #[.pointer none, .int .i64 z] w fun e w' => e = .returned (.bool false) ∧ w = w' := by
  go_enter Try.func18, Try.ntmps18
  go_wp2_with fail
  go_ret
  exact ⟨rfl, rfl⟩
/-- Are some blocks numbers of an image of n? -/
def inB (n : Nat) (lba k : Int) : Bool := decide (0 ≤ lba ∧ 0 ≤ k ∧ lba ≤ n ∧ k ≤ n - lba)
def wrongE (n : Nat) (lba k : Int) : Int := if inB n lba k = true then 0 else 1
theorem wrong_nil (lba k : Int) (w : World) : Calls Try.prog 58 #[.pointer none, .int .i64 lba, .int .i64 k] w fun e w' => e = .returned (.int .i64 2) ∧ w = w' := by
  go_enter Try.func58, Try.ntmps58
  go_wp2_with fail
  go_ret
  exact ⟨rfl, rfl⟩
set_option maxHeartbeats 800000 in
theorem wrong_any (h : Img w g L M) (lba k : Int) (hb : -9223372036854775808 ≤ lba ∧ lba ≤ 9223372036854775807 ∧ -9223372036854775808 ≤ k ∧ k ≤ 9223372036854775807) :
    Calls Try.prog 58 #[.pointer (some ⟨g, 0, none⟩), .int .i64 lba, .int .i64 k] w fun e w' => e = .returned (.int .i64 (wrongE L.length lba k)) ∧ w = w' := by
  have hok := h.ok.hi
  obtain ⟨B, D, h⟩ := h
  have c0 := h.c0
  clear h
  obtain ⟨n, hn⟩ : ∃ n, L.length = n := ⟨_, rfl⟩
  rw [hn] at hok c0 ⊢
  clear hn
  have hcs : (0 ≤ lba ∧ 0 ≤ k ∧ lba ≤ n ∧ k ≤ n - lba) ∨ lba < 0 ∨ (0 ≤ lba ∧ k < 0) ∨ (0 ≤ lba ∧ 0 ≤ k ∧ (n : Int) < lba) ∨ (0 ≤ lba ∧ 0 ≤ k ∧ lba ≤ n ∧ (n : Int) - lba < k) := by omega
  rcases hcs with h | h | h | h | h
  · have HE : Hid (wrongE n lba k = 0) := Lib.hid (if_pos (decide_eq_true h))
    obtain ⟨h1, h2, h3, h4⟩ := h
    go_enter Try.func58, Try.ntmps58
    go_wp2_with fail
    go_ret
    exact ⟨by rw [HE.out]; rfl, rfl⟩
  all_goals
    have HE : Hid (wrongE n lba k = 1) := Lib.hid (if_neg (by unfold inB; simp; omega))
    (try obtain ⟨h1, h⟩ := h)
    (try obtain ⟨h2, h⟩ := h)
    (try obtain ⟨h3, h⟩ := h)
    go_enter Try.func58, Try.ntmps58
    go_wp2_with fail
    go_ret
    exact ⟨by rw [HE.out]; rfl, rfl⟩
end
end Go.Proofs.Ythlijldapoeepaa
