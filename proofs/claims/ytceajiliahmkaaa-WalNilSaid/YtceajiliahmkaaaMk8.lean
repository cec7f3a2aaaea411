/- make of bytes. -/
import Derived.Test.YtceajiliahmkaaaSums
namespace Go.Proofs.Ytceajiliahmkaaa
set_option linter.unusedVariables false
set_option maxRecDepth 100000
open Go.RowKit

theorem run_make8 (n : Nat) (k : Int) (hk : k = (n : Int)) (hn : n ≤ 65536) (w : World) :
    (Instr.makeSlice 33 (.int .i64 k) (.int .i64 k)).run Try.prog w = .ok (.slice (some ⟨w.heap.size, 0, none⟩) n n) (w.alloc (.cells (Array.replicate n (.int .u8 0)) 5)) := by
  subst hk
  obtain ⟨i0, hi, hz0, hz1, hz2⟩ := info_parts infoU8
  have hr := run_make (P := Try.prog) w 33 5 i0 _ Try.underlying33 hi hz0 .i64 .i64 n n (by omega) (by omega) (by rw [hz2]; omega) (by omega)
  simp only [Int.toNat_natCast] at hr
  rw [hr, hz1, Nat.mul_one]
  congr 4
  apply Array.ext'
  rw [show (Value.int IntKind.u8 0).cells = #[.int .u8 0] from rfl, toList_madeCells_one]
  simp

theorem Rd.zeros (w : World) (n : Nat) (t : TypeId) : Rd (w.alloc (.cells (Array.replicate n (.int .u8 0)) t)) (some ⟨w.heap.size, 0, none⟩) (by8 (List.replicate n 0)) := by
  have h := Rd.newN w t (Array.replicate n (.int .u8 0))
  rw [Array.toList_replicate] at h
  rw [by8, List.map_replicate]
  exact h
theorem own_zeros (w : World) (n : Nat) (hn : n ≤ maxLen) : (w.alloc (.cells (Array.replicate n (.int .u8 0)) 5)).ownsRow w.heap.size 5 1 (.slice (some ⟨w.heap.size, 0, none⟩) n n) n (by8 (List.replicate n 0)) := by
  have h := World.ownsRow_lit (w := w) (e := 5) (size := 1) (base := w.heap.size) (Array.replicate n (.int .u8 0)) n (Nat.le_refl _) hn (by simp)
  rw [Array.toList_replicate] at h
  rw [by8, List.map_replicate]
  exact h

theorem sizes1 : (Try.prog.info? 5).map (·.size) = some 1 := by kernel_rfl
end Go.Proofs.Ytceajiliahmkaaa
