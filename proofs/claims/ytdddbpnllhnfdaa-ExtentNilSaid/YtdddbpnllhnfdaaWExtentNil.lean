/- ExtentNil: the walk. -/
import Derived.Test.YtdddbpnllhnfdaaExtK
import Derived.Test.YtdddbpnllhnfdaaExtRow
namespace Go.Proofs.Ytdddbpnllhnfdaa
set_option linter.unusedVariables false
set_option linter.unusedSimpArgs false
set_option maxRecDepth 100000
open Go.RowKit Go.Shelf

set_option maxHeartbeats 3200000 in
theorem extentNil_walk (y : OpA) (w : World) (hy : y.In w) : Calls Try.prog 8 #[.agg y.cells.toArray] w fun e w' => e = .returned (.bool true) ∧ Below w.heap.size w w' := by
  show Calls Try.prog 8 #[.agg #[.int .i64 y.kind, .int .i64 y.lba, .int .i64 y.n, .slice y.A y.b.length y.c, .slice y.B y.l.length y.d]] w fun e w' => e = .returned (.bool true) ∧ Below w.heap.size w w'
  have hlb := hy.lb
  have hbl := hy.bl
  clear hy
  go_enter Try.func8, Try.ntmps8
  go_wp2_with (first
    | (go_at_call 15; (with_reducible refine (read_nil _ _ _).mono ?_); rintro e w1 ⟨A1, c1, rfl, hc1, ho1, hb1⟩; have X1 := Lib.hid ((Blk.new w 62 #[.int .i64 y.kind, .int .i64 y.lba, .int .i64 y.n, .slice y.A y.b.length y.c, .slice y.B y.l.length y.d]).keep hb1); have B1 := Lib.hid (bl_chain (bl_alloc w _) hb1); have p1 := X1.out.cell 1; have p2 := X1.out.cell 2; have p3 := X1.out.cell 3; have p4 := X1.out.cell 4; simp at p1 p2 p3 p4; clear ho1 hb1)
    | (go_at_call 23; (with_reducible refine (diff_nil _).mono ?_); rintro e w2 ⟨rfl, rfl⟩)
    | (go_at_call 31; (with_reducible refine (write_nil _ _ _ _ hbl _).mono ?_); rintro e w3 ⟨rfl, hb3⟩; have X3 := Lib.hid (X1.out.keep hb3); have B3 := Lib.hid (bl_chain B1.out hb3); have q1 := X3.out.cell 1; have q2 := X3.out.cell 2; have q4 := X3.out.cell 4; simp at q1 q2 q4; clear hb3)
    | (go_at_call 32; (with_reducible refine (unmap_nil _ _ _).mono ?_); rintro e w4 ⟨rfl, rfl⟩)
    | (go_at_call 14; (with_reducible refine (change_nil _ _ _ _).mono ?_); rintro e w5 ⟨rfl, rfl⟩)
    | (go_at_call 18; (with_reducible refine (size_nil _).mono ?_); rintro e w6 ⟨rfl, rfl⟩)
    | (go_at_call 19; (with_reducible refine (used_nil _).mono ?_); rintro e w7 ⟨rfl, rfl⟩)
    | (go_at_call 16; (with_reducible refine (has_nil _ _).mono ?_); rintro e w8 ⟨rfl, rfl⟩)
    | (go_at_call 17; (with_reducible refine (lruns_nil _).mono ?_); rintro e w9 ⟨rfl, hb9⟩; have B9 := Lib.hid (bl_chain B3.out hb9); clear hb9)
    | (go_at_call 13; (with_reducible refine (bytes_nil _).mono ?_); rintro e w10 ⟨rfl, hb10⟩; have B10 := Lib.hid (bl_chain B9.out hb10); clear hb10)
    | (go_at_call 33; (with_reducible refine (copy_nil _).mono ?_); rintro e w11 ⟨rfl, rfl⟩)
    | (go_at_call 21; (with_reducible refine (same_nils _).mono ?_); rintro e w12 ⟨rfl, rfl⟩)
    | (go_at_call 12; (with_reducible refine (known_any _).mono ?_); rintro e w13 ⟨rfl, hb13⟩; have B13 := Lib.hid (bl_chain B10.out hb13); clear hb13))
  go_ret
  exact ⟨rfl, B13.out⟩
end Go.Proofs.Ytdddbpnllhnfdaa
