/- Contracts of sense.Data. -/
import Derived.Test.YtifhlkfdmnkhoaaWords
namespace Go.Proofs.Ytifhlkfdmnkhoaa
set_option linter.unusedVariables false
open Go.RowKit

theorem in_yes (n m : Int) (w : World) (h : 0 ≤ n ∧ n ≤ m) : Calls Try.prog 34 #[.int .i64 n, .int .i64 m] w fun e w' => e = .returned (.bool true) ∧ w = w' := by
  obtain ⟨h1, h2⟩ := h
  go_enter Try.func34, Try.ntmps34
  go_wp2_with fail
  go_ret
  exact ⟨rfl, rfl⟩
theorem in_no (n m : Int) (w : World) (h : ¬ (0 ≤ n ∧ n ≤ m)) : Calls Try.prog 34 #[.int .i64 n, .int .i64 m] w fun e w' => e = .returned (.bool false) ∧ w = w' := by
  by_cases h0 : 0 ≤ n
  · have h1 : decide (n ≤ m) = false := by simp; omega
    clear h
    go_enter Try.func34, Try.ntmps34
    go_wp2_with fail
    go_ret
    exact ⟨rfl, rfl⟩
  · have h1 : decide (0 ≤ n) = false := by simp; omega
    clear h h0
    go_enter Try.func34, Try.ntmps34
    go_wp2_with fail
    go_ret
    exact ⟨rfl, rfl⟩

def senseB (k a q : Int) : List Int := [112, 0, k, 0, 0, 0, 0, 10, 0, 0, 0, 0, a, q, 0, 0, 0, 0]
def okR (k a q : Int) : Prop := 0 ≤ k ∧ k ≤ 15 ∧ 0 ≤ a ∧ a ≤ 255 ∧ 0 ≤ q ∧ q ≤ 255
instance (k a q : Int) : Decidable (okR k a q) := by unfold okR; infer_instance

set_option maxHeartbeats 400000 in
theorem data_ok (s d : Value) (k a q : Int) (w : World) (h : okR k a q) :
    Calls Try.prog 18 #[.agg #[s, .int .i64 k, .int .i64 a, .int .i64 q, d]] w fun e w' => ∃ g, e = .returned (.tuple #[.slice (some ⟨g, 0, none⟩) 18 18, .int .i64 0]) ∧ w.heap.size ≤ g ∧ Rd w' (some ⟨g, 0, none⟩) (by8 (senseB k a q)) ∧ Below w.heap.size w w' := by
  obtain ⟨h1, h2, h3, h4, h5, h6⟩ := h
  go_enter Try.func18, Try.ntmps18
  go_wp2_with (first | (go_at_call 34; refine (in_yes _ _ _ (by omega)).mono ?_; rintro e w1 ⟨rfl, rfl⟩))
  go_ret2
  refine ⟨w.heap.size + 1, rfl, by omega, Rd.newAt _ _ _ _ _ 0 (by simp) (by rfl), ?_⟩
  exact (((Below.refl _ _).alloc (Nat.le_refl _) _).alloc (by simp) _)

set_option maxHeartbeats 400000 in
theorem data_bad (s d : Value) (k a q : Int) (w : World) (h : ¬ okR k a q) :
    Calls Try.prog 18 #[.agg #[s, .int .i64 k, .int .i64 a, .int .i64 q, d]] w fun e w' => e = .returned (.tuple #[.slice none 0 0, .int .i64 1]) ∧ Below w.heap.size w w' := by
  unfold okR at h
  by_cases hk : 0 ≤ k ∧ k ≤ 15
  · by_cases ha : 0 ≤ a ∧ a ≤ 255
    · have hq : ¬ (0 ≤ q ∧ q ≤ 255) := by omega
      have HK := Lib.hid hk
      have HA := Lib.hid ha
      have HQ := Lib.hid hq
      clear h hk ha hq
      go_enter Try.func18, Try.ntmps18
      go_wp2_with (first | (go_at_call 34; (first | with_reducible refine (in_yes k _ _ HK.out).mono ?_ | with_reducible refine (in_yes a _ _ HA.out).mono ?_ | with_reducible refine (in_no q _ _ HQ.out).mono ?_); rintro e w1 ⟨rfl, rfl⟩))
      go_ret2
      exact ⟨rfl, (Below.refl _ _).alloc (Nat.le_refl _) _⟩
    · have HK := Lib.hid hk
      have HA := Lib.hid ha
      clear h hk ha
      go_enter Try.func18, Try.ntmps18
      go_wp2_with (first | (go_at_call 34; (first | with_reducible refine (in_yes k _ _ HK.out).mono ?_ | with_reducible refine (in_no a _ _ HA.out).mono ?_); rintro e w1 ⟨rfl, rfl⟩))
      go_ret2
      exact ⟨rfl, (Below.refl _ _).alloc (Nat.le_refl _) _⟩
  · have HK := Lib.hid hk
    clear h hk
    go_enter Try.func18, Try.ntmps18
    go_wp2_with (first | (go_at_call 34; refine (in_no k _ _ HK.out).mono ?_; rintro e w1 ⟨rfl, rfl⟩))
    go_ret2
    exact ⟨rfl, (Below.refl _ _).alloc (Nat.le_refl _) _⟩

end Go.Proofs.Ytifhlkfdmnkhoaa
