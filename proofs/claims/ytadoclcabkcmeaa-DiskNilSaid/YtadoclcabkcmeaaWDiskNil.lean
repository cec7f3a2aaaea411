/- The walk of DiskNil. -/
import Derived.Test.YtadoclcabkcmeaaDiskRow
namespace Go.Proofs.Ytadoclcabkcmeaa
set_option linter.unusedVariables false
open Go.RowKit

set_option maxHeartbeats 800000 in
theorem diskNil_any (A B : Option Addr) (c c' n m : Nat) (k x : Int) (w : World) (hn : n ≤ 140737488351232) :
    Calls Try.prog 6 #[.agg #[.int .i64 k, .int .i64 x, .slice A n c, .slice B m c']] w fun e w' => e = .returned (.bool true) ∧ Below w.heap.size w w' := by
  go_enter Try.func6, Try.ntmps6
  go_wp2_with (first
    | (go_at_call 26; (with_reducible refine (nil_read _ _ _).mono ?_); rintro e w' ⟨rfl, rfl⟩)
    | (go_at_call 22; (with_reducible refine (nil_write _ _ _ _ _ hn).mono ?_); rintro e w' ⟨rfl, rfl⟩)
    | (go_at_call 9; (with_reducible refine (nil_crash _ _ _ _).mono ?_); rintro e w' ⟨rfl, rfl⟩)
    | (go_at_call 25; (with_reducible refine (nil_Flush _).mono ?_); rintro e w' ⟨rfl, rfl⟩)
    | (go_at_call 27; (with_reducible refine (nil_Fail _).mono ?_); rintro e w' ⟨rfl, rfl⟩)
    | (go_at_call 28; (with_reducible refine (nil_Size _).mono ?_); rintro e w' ⟨rfl, rfl⟩)
    | (go_at_call 10; (with_reducible refine (nil_Image _).mono ?_); rintro e w' ⟨rfl, rfl⟩)
    | (go_at_call 11; (with_reducible refine (nil_Now _).mono ?_); rintro e w' ⟨rfl, rfl⟩)
    | (go_at_call 23; (with_reducible refine (nil_Pending _).mono ?_); rintro e w' ⟨rfl, rfl⟩)
    | (go_at_call 24; (with_reducible refine (nil_Dead _).mono ?_); rintro e w' ⟨rfl, rfl⟩)
    | (go_at_call 21; (with_reducible refine (nil_Copy _).mono ?_); rintro e w' ⟨rfl, rfl⟩)
    | (go_at_call 12; (with_reducible refine (known_any _).mono ?_); rintro e w1 ⟨rfl, hb1⟩; have HB1 := Lib.hid hb1; clear hb1))
  go_ret
  exact ⟨by rfl, bl_chain (bl_alloc _ _) HB1.out⟩
theorem diskNil_walk (y : OpArg) (w : World) (h : y.In w) : Calls Try.prog 6 #[.agg y.cells.toArray] w fun e w' => e = .returned (.bool true) ∧ Below w.heap.size w w' :=
  diskNil_any y.A y.B y.c y.d _ _ _ _ w h.ok.lb
end Go.Proofs.Ytadoclcabkcmeaa
