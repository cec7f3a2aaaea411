/- Count of the references at fixed limits. -/
import Derived.Test.YthlijldapoeepaaSums
import Derived.IntWalk
namespace Go.Proofs.Ythlijldapoeepaa
set_option linter.unusedVariables false
set_option maxRecDepth 100000
open Go.RowKit

def cntN (K n : Int) : Int := if n.tmod K < 0 then n.tmod K + K else n.tmod K
theorem tmod12 (n : Int) : -12 < n.tmod 12 ∧ n.tmod 12 < 12 := by
  constructor
  · have := Int.tmod_lt_of_pos (-n) (show (0 : Int) < 12 by omega); rw [Int.neg_tmod] at this; omega
  · exact Int.tmod_lt_of_pos n (by omega)
theorem cnt12_in (n : Int) : 0 ≤ cntN 12 n ∧ cntN 12 n < 12 := by
  have := tmod12 n
  unfold cntN
  split <;> omega
theorem count12_any (n : Int) (w : World) : Calls Try.prog 6 #[.int .i64 n, .int .i64 12] w fun e w' => e = .returned (.int .i64 (cntN 12 n)) ∧ w = w' := by
  obtain ⟨h1, h2⟩ := tmod12 n
  obtain ⟨r, hr⟩ : ∃ r, n.tmod 12 = r := ⟨_, rfl⟩
  have HE : Hid (cntN 12 n = if r < 0 then r + 12 else r) := Lib.hid (by unfold cntN; rw [hr])
  rw [hr] at h1 h2
  have hw : IntKind.i64.wrap r = r := by rw [IntKind.wrap_i64]; omega
  by_cases h0 : r < 0
  · have HE2 := Lib.hid (HE.out.trans (if_pos h0))
    have hw2 : IntKind.i64.wrap (r + 12) = r + 12 := by rw [IntKind.wrap_i64]; omega
    clear HE
    go_enter Try.func6, Try.ntmps6
    go_wp2_with fail
    go_ret
    exact ⟨by rw [HE2.out]; rfl, rfl⟩
  · have HE2 := Lib.hid (HE.out.trans (if_neg h0))
    clear HE
    go_enter Try.func6, Try.ntmps6
    go_wp2_with fail
    go_ret
    exact ⟨by rw [HE2.out]; rfl, rfl⟩
theorem tmod20 (n : Int) : -20 < n.tmod 20 ∧ n.tmod 20 < 20 := by
  constructor
  · have := Int.tmod_lt_of_pos (-n) (show (0 : Int) < 20 by omega); rw [Int.neg_tmod] at this; omega
  · exact Int.tmod_lt_of_pos n (by omega)
theorem cnt20_in (n : Int) : 0 ≤ cntN 20 n ∧ cntN 20 n < 20 := by
  have := tmod20 n
  unfold cntN
  split <;> omega
theorem count20_any (n : Int) (w : World) : Calls Try.prog 6 #[.int .i64 n, .int .i64 20] w fun e w' => e = .returned (.int .i64 (cntN 20 n)) ∧ w = w' := by
  obtain ⟨h1, h2⟩ := tmod20 n
  obtain ⟨r, hr⟩ : ∃ r, n.tmod 20 = r := ⟨_, rfl⟩
  have HE : Hid (cntN 20 n = if r < 0 then r + 20 else r) := Lib.hid (by unfold cntN; rw [hr])
  rw [hr] at h1 h2
  have hw : IntKind.i64.wrap r = r := by rw [IntKind.wrap_i64]; omega
  by_cases h0 : r < 0
  · have HE2 := Lib.hid (HE.out.trans (if_pos h0))
    have hw2 : IntKind.i64.wrap (r + 20) = r + 20 := by rw [IntKind.wrap_i64]; omega
    clear HE
    go_enter Try.func6, Try.ntmps6
    go_wp2_with fail
    go_ret
    exact ⟨by rw [HE2.out]; rfl, rfl⟩
  · have HE2 := Lib.hid (HE.out.trans (if_neg h0))
    clear HE
    go_enter Try.func6, Try.ntmps6
    go_wp2_with fail
    go_ret
    exact ⟨by rw [HE2.out]; rfl, rfl⟩
end Go.Proofs.Ythlijldapoeepaa
