/- The walk of SenseUnits. -/
import Derived.Test.YtifhlkfdmnkhoaaSense4
namespace Go.Proofs.Ytifhlkfdmnkhoaa
set_option linter.unusedVariables false
open Go.RowKit

theorem conv8' {w : World} {A : Option Addr} {l : List Int} (n c : Nat) (h : Rd w A (by8 l)) (hn : l.length = n) :
    (convert 22 9 (.slice A n c)).run Try.prog w = .ok (.string (strOfNums l)) w :=
  run_conv8 h n c hn Try.underlying22 Try.underlying5 Try.underlying9

set_option maxHeartbeats 800000 in
theorem senseUnits_walk (n m : Int) (w : World) (hn : -9223372036854775808 ≤ n ∧ n ≤ 9223372036854775807) (hm : -9223372036854775808 ≤ m ∧ m ≤ 9223372036854775807) :
    Calls Try.prog 4 #[.int .i64 n, .int .i64 m] w fun e w' => e = .returned (.bool true) ∧ Below w.heap.size w w' := by
  go_enter Try.func4, Try.ntmps4
  go_wp2_with (first
    | (go_at_call 14; (with_reducible refine (capacity_any n _).mono ?_); rintro e w1 ⟨A1, c1, rfl, hc1, ho1, hb1⟩; have HO1 := Lib.hid ho1; have HB1 := Lib.hid hb1; clear ho1 hb1)
    | (go_at_call 15; (with_reducible refine (rcapacity_any n _).mono ?_); rintro e w2 ⟨A2, c2, rfl, hc2, ho2, hb2⟩; have HO2 := Lib.hid ho2; have HB2 := Lib.hid hb2; clear ho2 hb2)
    | (go_at_call 16; (with_reducible refine (luns_any m _).mono ?_); rintro e w3 ⟨A3, c3, rfl, hc3, ho3, hb3⟩; have HO3 := Lib.hid ho3; have HB3 := Lib.hid hb3; clear ho3 hb3)
    | (go_at_call 17; (with_reducible refine (rluns_any m _).mono ?_); rintro e w4 ⟨A4, c4, rfl, hc4, ho4, hb4⟩; have k4 := conv8' _ c4 (Rd.of_own ho4) rfl; have k3 := conv8' _ c3 ((Rd.of_own HO3.out).below hb4) rfl; have k2 := conv8' _ c2 ((Rd.of_own HO2.out).below (bl_chain HB3.out hb4)) rfl; have k1 := conv8' _ c1 ((Rd.of_own HO1.out).below (bl_chain HB2.out (bl_chain HB3.out hb4))) rfl; have HB4 := Lib.hid hb4; clear ho4 hb4)
    | (go_at_call 13; (with_reducible refine (known_any _).mono ?_); rintro e w7 ⟨rfl, hb7⟩; have HB7 := Lib.hid hb7; clear hb7))
  go_ret
  exact ⟨rfl, bl_chain (bl_chain HB1.out (bl_chain HB2.out (bl_chain HB3.out HB4.out))) HB7.out⟩

end Go.Proofs.Ytifhlkfdmnkhoaa
