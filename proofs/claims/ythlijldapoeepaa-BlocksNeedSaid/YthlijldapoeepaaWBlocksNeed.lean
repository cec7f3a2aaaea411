/- BlocksNeed: the walk. -/
import Derived.Test.YthlijldapoeepaaBlk13
import Derived.Test.YthlijldapoeepaaCountX
namespace Go.Proofs.Ythlijldapoeepaa
set_option linter.unusedVariables false
set_option linter.unusedSimpArgs false
set_option maxRecDepth 100000
open Go.RowKit Go.Shelf

theorem needI_in (n : Int) : 0 ≤ needI n ∧ needI n ≤ 280 ∧ (needI n ≠ 0 → 19 ≤ needI n) := by unfold needI rowsN; split <;> omega
theorem needI_mono {n m : Int} (h1 : 1 ≤ n) (h2 : n ≤ m) (h3 : m ≤ 256) : needI n ≤ needI m := by
  unfold needI rowsN
  rw [if_neg (by omega), if_neg (by omega)]
  omega
set_option maxHeartbeats 3200000 in
theorem blocksNeed_walk (n m F : Int) (w : World) (hn : -9223372036854775808 ≤ n ∧ n ≤ 9223372036854775807) (hm : -9223372036854775808 ≤ m ∧ m ≤ 9223372036854775807) (hF : -9223372036854775808 ≤ F ∧ F ≤ 9223372036854775807) :
    Calls Try.prog 3 #[.int .i64 n, .int .i64 m, .int .i64 F] w fun e w' => e = .returned (.bool true) ∧ Below w.heap.size w w' := by
  have HA := Lib.hid (need_any n w)
  have HB := Lib.hid (need_any m w)
  have ha := needI_in n
  have hb := needI_in m
  have hab : ¬ (1 ≤ n ∧ n ≤ m ∧ m ≤ 256 ∧ needI m < needI n) := fun ⟨h1, h2, h3, h4⟩ => by have := needI_mono h1 h2 h3; omega
  have HC := Lib.hid (count20_any F w)
  obtain ⟨hc1, hc2⟩ := cnt20_in F
  have HBAD := Lib.hid (fun (W : World) (d : Nat) (Md Rr : Nat → Prop) (D : Dk.DS) (hd : Dk.IsDisk W d D Md Rr) (hD : (D.n : Int) = needI n + cntN 20 F - 1) => open_bad (n := n) hd (cntN 20 F) (by omega) (by unfold openBad; omega))
  have HBAD2 := Lib.hid (fun (W : World) (d : Nat) (Md Rr : Nat → Prop) (D : Dk.DS) (hd : Dk.IsDisk W d D Md Rr) => open_bad (n := n) hd (-1) (by omega) (.inr (.inl (by omega))))
  obtain ⟨a, hae⟩ : ∃ a, needI n = a := ⟨_, rfl⟩
  obtain ⟨b, hbe⟩ : ∃ b, needI m = b := ⟨_, rfl⟩
  obtain ⟨c, hce⟩ : ∃ c, cntN 20 F = c := ⟨_, rfl⟩
  rw [hae] at HA ha hab HBAD
  rw [hbe] at HB hb hab
  rw [hce] at HC hc1 hc2 HBAD
  clear hae hbe hce
  by_cases hz : 1 ≤ a + c - 1
  · obtain ⟨z, hze⟩ := Int.eq_ofNat_of_zero_le (show 0 ≤ a + c - 1 by omega)
    have HN := Lib.hid (Dk.new_ok z w (by omega) (by omega))
    have HZ := Lib.hid hze
    have hg1 : IntKind.i64.wrap (a + c) = a + c := by rw [IntKind.wrap_i64]; omega
    have hg2 : IntKind.i64.wrap (a + c - 1) = (z : Int) := by rw [IntKind.wrap_i64]; omega
    clear hze
    rcases (by omega : n < 1 ∨ (1 ≤ n ∧ m < n) ∨ (1 ≤ n ∧ n ≤ m ∧ 256 < m) ∨ (1 ≤ n ∧ n ≤ m ∧ m ≤ 256 ∧ a ≤ b)) with h1 | ⟨h1, h2⟩ | ⟨h1, h2, h3⟩ | ⟨h1, h2, h3, h4⟩
    all_goals
      clear hab
      go_enter Try.func3, Try.ntmps3
      go_wp2_with (first
        | (go_at_call 5; (with_reducible refine HA.out.mono ?_); rintro e w' ⟨rfl, rfl⟩)
        | (go_at_call 5; (with_reducible refine HB.out.mono ?_); rintro e w' ⟨rfl, rfl⟩)
        | (go_at_call 6; (with_reducible refine HC.out.mono ?_); rintro e w' ⟨rfl, rfl⟩)
        | (go_at_call 8; (with_reducible refine (known_any _).mono ?_); rintro e w6 ⟨rfl, hb6⟩; have B6 := Lib.hid hb6; clear hb6)
        | (go_at_call 7; (with_reducible refine HN.out.mono ?_); rintro e w1 ⟨d, Md, rfl, hd1, hm1, hb1⟩; have HD1 := Lib.hid hd1; have HB1 := Lib.hid hb1; have HO1 := Lib.hid (HBAD.out w1 d Md NoB _ hd1 (by have := HZ.out; show ((freshD z).n : Int) = _; rw [freshD_n]; omega)); have HO2 := Lib.hid (HBAD2.out w1 d Md NoB _ hd1); clear hd1 hm1 hb1)
        | (go_at_call 9; (with_reducible refine HO1.out.mono ?_); rintro e w' ⟨rfl, rfl⟩)
        | (go_at_call 9; (with_reducible refine HO2.out.mono ?_); rintro e w' ⟨rfl, rfl⟩)
        | (go_at_call 9; (with_reducible refine (open_nil _ _ _).mono ?_); rintro e w' ⟨rfl, rfl⟩))
      go_ret
      exact ⟨rfl, bl_chain HB1.out B6.out⟩
  · have HN := Lib.hid (Dk.new_bad (a + c - 1) w (by omega))
    have hg1 : IntKind.i64.wrap (a + c) = a + c := by rw [IntKind.wrap_i64]; omega
    have hg2 : IntKind.i64.wrap (a + c - 1) = a + c - 1 := by rw [IntKind.wrap_i64]; omega
    rcases (by omega : n < 1 ∨ (1 ≤ n ∧ m < n) ∨ (1 ≤ n ∧ n ≤ m ∧ 256 < m) ∨ (1 ≤ n ∧ n ≤ m ∧ m ≤ 256 ∧ a ≤ b)) with h1 | ⟨h1, h2⟩ | ⟨h1, h2, h3⟩ | ⟨h1, h2, h3, h4⟩
    all_goals
      clear hab
      go_enter Try.func3, Try.ntmps3
      go_wp2_with (first
        | (go_at_call 5; (with_reducible refine HA.out.mono ?_); rintro e w' ⟨rfl, rfl⟩)
        | (go_at_call 5; (with_reducible refine HB.out.mono ?_); rintro e w' ⟨rfl, rfl⟩)
        | (go_at_call 6; (with_reducible refine HC.out.mono ?_); rintro e w' ⟨rfl, rfl⟩)
        | (go_at_call 8; (with_reducible refine (known_any _).mono ?_); rintro e w6 ⟨rfl, hb6⟩; have B6 := Lib.hid hb6; clear hb6)
        | (go_at_call 7; (with_reducible refine HN.out.mono ?_); rintro e w1 ⟨rfl, hb1⟩; have HB1 := Lib.hid hb1; clear hb1))
      go_ret
      exact ⟨rfl, bl_chain HB1.out B6.out⟩
end Go.Proofs.Ythlijldapoeepaa
