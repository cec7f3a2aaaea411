/- Contracts of sense: Capacity of the program and of the reference; known. -/
import Derived.Test.YtifhlkfdmnkhoaaDoorSense1
namespace Go.Proofs.YtifhlkfdmnkhoaaDoor
set_option linter.unusedVariables false
open Go.RowKit

theorem words_n (A : Option Addr) (c n : Nat) (ns : List Int) (w : World) (hr : Rd w A (i64s ns)) (hl : ns.length = n) (hn : n ≤ 1000) (h01 : ∀ n ∈ ns, 0 ≤ n ∧ n < 4294967296) (m : Nat) (hm : 4 * n = m) :
    Calls Tryd.prog 13 #[.slice A n c] w fun e w' => ∃ A' c', e = .returned (.slice A' m c') ∧ m ≤ c' ∧
      w'.ownsRow w.heap.size 5 1 (.slice A' m c') m (by8 (wds ns)) ∧ Below w.heap.size w w' := by
  subst hl
  subst hm
  exact words_any A c ns w hr hn h01

set_option maxHeartbeats 400000 in
theorem capacity_ok (n : Int) (w : World) (h1 : 1 ≤ n) (h2 : n ≤ 256) :
    Calls Tryd.prog 12 #[.int .i64 n] w fun e w' => ∃ A' c', e = .returned (.tuple #[.slice A' 8 c', .int .i64 0]) ∧ 8 ≤ c' ∧
      w'.ownsRow (w.heap.size + 1) 5 1 (.slice A' 8 c') 8 (by8 (wds [n - 1, 64])) ∧ Below w.heap.size w w' := by
  go_enter Tryd.func12, Tryd.ntmps12
  go_wp2_with (first | (go_at_call 13; with_reducible refine (words_n _ _ 2 [n - 1, 64] _ (Rd.newN w _ #[.int .i64 (n - 1), .int .i64 64]) rfl (by omega) (by simp; omega) 8 rfl).mono ?_; rintro e w1 ⟨A1, c1, rfl, hc1, ho1, hb1⟩; have HO1 := Lib.hid ho1; have HB1 := Lib.hid hb1; clear ho1 hb1))
  go_ret2
  refine ⟨A1, c1, rfl, hc1, ?_, ?_⟩
  · have := HO1.out; simpa using this
  · have := HB1.out
    exact ((Below.refl _ _).alloc (Nat.le_refl _) _).trans (this.mono (by simp))

set_option maxHeartbeats 800000 in
theorem known_any (w : World) : Calls Tryd.prog 6 #[] w fun e w' => e = .returned (.bool true) ∧ Below w.heap.size w w' := by
  go_enter Tryd.func6, Tryd.ntmps6
  go_wp2_with (first
    | (go_at_call 11; refine (data_ok _ _ 5 33 0 _ (by decide)).mono ?_; rintro e w1 ⟨g, rfl, hg, hr, hb⟩; have HR := Lib.hid hr; have HB := Lib.hid hb; clear hr hb)
    | (go_at_call 12; refine (capacity_ok 8 _ (by omega) (by omega)).mono ?_; rintro e w2 ⟨A2, cc2, rfl, hc2, ho2, hb2⟩; have hr2 := HR.out.below hb2; have c0 := hr2.cell8 0 112 rfl; have c1 := hr2.cell8 2 5 rfl; have c2 := hr2.cell8 7 10 rfl; have c3 := hr2.cell8 12 33 rfl; have k := run_conv8 (P := Tryd.prog) (Rd.of_own ho2) (src := 22) (dst := 9) 8 cc2 rfl Tryd.underlying22 Tryd.underlying5 Tryd.underlying9; (have ek : strOfNums (wds [8 - 1, 64]) = ⟨#[0, 0, 0, 7, 0, 0, 0, 64]⟩ := by rfl); rw [ek] at k; have HO2 := Lib.hid ho2; have HB2 := Lib.hid hb2; clear ho2 hb2 hr2 ek))
  go_ret
  exact ⟨rfl, HB.out.trans (HB2.out.mono HB.out.size)⟩

end Go.Proofs.YtifhlkfdmnkhoaaDoor
