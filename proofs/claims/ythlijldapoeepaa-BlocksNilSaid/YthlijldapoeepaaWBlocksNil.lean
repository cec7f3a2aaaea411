/- BlocksNil: the walk. -/
import Derived.Test.YthlijldapoeepaaBlk13
import Derived.Test.YthlijldapoeepaaBlkRow
namespace Go.Proofs.Ythlijldapoeepaa
set_option linter.unusedVariables false
set_option linter.unusedSimpArgs false
set_option maxRecDepth 100000
open Go.RowKit Go.Shelf

theorem replace_nil (n : Int) (v : Value) (w : World) : Calls Try.prog 11 #[.pointer none, .int .i64 n, v] w fun e w' => e = .returned (.int .i64 2) ∧ Below w.heap.size w w' := by
  go_enter Try.func11, Try.ntmps11
  go_wp2_with fail
  go_ret
  exact ⟨rfl, Below.refl _ _⟩
set_option maxHeartbeats 3200000 in
theorem blocksNil_walk (y : OpB) (w : World) (hy : y.In w) : Calls Try.prog 4 #[.agg y.cells.toArray] w fun e w' => e = .returned (.bool true) ∧ Below w.heap.size w w' := by
  show Calls Try.prog 4 #[.agg #[.int .i64 y.kind, .int .i64 y.n, .slice y.A y.l.length y.c, .slice y.B y.ks.length y.d]] w fun e w' => e = .returned (.bool true) ∧ Below w.heap.size w w'
  clear hy
  go_enter Try.func4, Try.ntmps4
  go_wp2_with (first
    | (go_at_call 10; (with_reducible refine (apply_nil _ _ _ _ _).mono ?_); rintro e w1 ⟨rfl, rfl⟩)
    | (go_at_call 11; (with_reducible refine (replace_nil _ _ _).mono ?_); rintro e w2 ⟨rfl, hb2⟩; have B2 := Lib.hid (bl_chain (bl_alloc w _) hb2); clear hb2)
    | (go_at_call 12; (with_reducible refine (image_nil _).mono ?_); rintro e w3 ⟨rfl, rfl⟩)
    | (go_at_call 13; (with_reducible refine (applied_nil _).mono ?_); rintro e w4 ⟨rfl, rfl⟩)
    | (go_at_call 14; (with_reducible refine (bdead_nil _).mono ?_); rintro e w5 ⟨rfl, rfl⟩)
    | (go_at_call 8; (with_reducible refine (known_any _).mono ?_); rintro e w6 ⟨rfl, hb6⟩; have B6 := Lib.hid (bl_chain B2.out hb6); clear hb6))
  go_ret
  exact ⟨rfl, B6.out⟩
end Go.Proofs.Ythlijldapoeepaa
