/- Contracts of sense: Data of the reference, slices.Equal, Read of both. -/
import Derived.Test.YtifhlkfdmnkhoaaSense4
namespace Go.Proofs.Ytifhlkfdmnkhoaa
set_option linter.unusedVariables false
open Go.RowKit

def RetR (w : World) (l : List Int) (err : Int) (e : Ending) (w' : World) : Prop :=
  ∃ A c, e = .returned (.tuple #[.slice A l.length c, .int .i64 err]) ∧ l.length ≤ c ∧ Rd w' A (by8 l) ∧ Below w.heap.size w w'
def dataL (k a q : Int) : List Int := if okR k a q then senseB k a q else []
def dataE (k a q : Int) : Int := if okR k a q then 0 else 1

theorem data_any (s d : Value) (k a q : Int) (w : World) :
    Calls Try.prog 18 #[.agg #[s, .int .i64 k, .int .i64 a, .int .i64 q, d]] w (RetR w (dataL k a q) (dataE k a q)) := by
  by_cases h : okR k a q
  · rw [show dataL k a q = senseB k a q from if_pos h, show dataE k a q = 0 from if_pos h]
    exact (data_ok s d k a q w h).mono fun e w' ⟨g, he, _, hr, hb⟩ => ⟨_, 18, he, by simp [senseB], hr, hb⟩
  · rw [show dataL k a q = [] from if_neg h, show dataE k a q = 1 from if_neg h]
    exact (data_bad s d k a q w h).mono fun e w' ⟨he, hb⟩ => ⟨none, 0, he, by simp, Rd.nil, hb⟩

set_option maxHeartbeats 400000 in
theorem rdata_ok (s d : Value) (k a q : Int) (w : World) (h : okR k a q) :
    Calls Try.prog 19 #[.agg #[s, .int .i64 k, .int .i64 a, .int .i64 q, d]] w (RetR w (senseB k a q) 0) := by
  obtain ⟨h1, h2, h3, h4, h5, h6⟩ := h
  have hmk : ∀ w : World, (Instr.makeSlice 22 (.int .i64 18) (.int .i64 18)).run Try.prog w = .ok (.slice (some ⟨w.heap.size, 0, none⟩) 18 18) (w.alloc (.cells #[.int .u8 0, .int .u8 0, .int .u8 0, .int .u8 0, .int .u8 0, .int .u8 0, .int .u8 0, .int .u8 0, .int .u8 0, .int .u8 0, .int .u8 0, .int .u8 0, .int .u8 0, .int .u8 0, .int .u8 0, .int .u8 0, .int .u8 0, .int .u8 0] 5)) := fun w => run_make8 18 18 rfl (by omega) w
  go_enter Try.func19, Try.ntmps19
  go_wp2_with fail
  go_ret2
  refine ⟨_, 18, rfl, by simp [senseB], Rd.newAt _ _ _ _ _ 0 (by simp) (by rfl), ?_⟩
  exact bl_chain (bl_alloc _ _) (bl_alloc _ _)

theorem rdata_bad (s d : Value) (k a q : Int) (w : World) (h : ¬ okR k a q) :
    Calls Try.prog 19 #[.agg #[s, .int .i64 k, .int .i64 a, .int .i64 q, d]] w (RetR w [] 1) := by
  have hsix : k < 0 ∨ (0 ≤ k ∧ 15 < k) ∨ ((0 ≤ k ∧ k ≤ 15) ∧ a < 0) ∨ ((0 ≤ k ∧ k ≤ 15) ∧ 0 ≤ a ∧ 255 < a) ∨ ((0 ≤ k ∧ k ≤ 15) ∧ (0 ≤ a ∧ a ≤ 255) ∧ q < 0) ∨ ((0 ≤ k ∧ k ≤ 15) ∧ (0 ≤ a ∧ a ≤ 255) ∧ 0 ≤ q ∧ 255 < q) := by
    unfold okR at h; omega
  clear h
  rcases hsix with h | ⟨h, h'⟩ | ⟨⟨h, h'⟩, h''⟩ | ⟨⟨h, h'⟩, h'', h3⟩ | ⟨⟨h, h'⟩, ⟨h'', h3⟩, h4⟩ | ⟨⟨h, h'⟩, ⟨h'', h3⟩, h4, h5⟩
  all_goals
    go_enter Try.func19, Try.ntmps19
    go_wp2_with fail
    go_ret2
    exact ⟨none, 0, rfl, by simp, Rd.nil, bl_alloc _ _⟩

theorem rdata_any (s d : Value) (k a q : Int) (w : World) :
    Calls Try.prog 19 #[.agg #[s, .int .i64 k, .int .i64 a, .int .i64 q, d]] w (RetR w (dataL k a q) (dataE k a q)) := by
  by_cases h : okR k a q
  · rw [show dataL k a q = senseB k a q from if_pos h, show dataE k a q = 0 from if_pos h]
    exact rdata_ok s d k a q w h
  · rw [show dataL k a q = [] from if_neg h, show dataE k a q = 1 from if_neg h]
    exact rdata_bad s d k a q w h

end Go.Proofs.Ytifhlkfdmnkhoaa
