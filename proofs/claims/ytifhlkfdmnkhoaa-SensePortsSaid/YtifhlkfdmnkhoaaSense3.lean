/- Contracts of sense: Capacity of the program and of the reference; known. -/
import Derived.Test.YtifhlkfdmnkhoaaSense1
import Derived.Test.YtifhlkfdmnkhoaaSense2
namespace Go.Proofs.Ytifhlkfdmnkhoaa
set_option linter.unusedVariables false
open Go.RowKit

theorem words_n (A : Option Addr) (c n : Nat) (ns : List Int) (w : World) (hr : Rd w A (i64s ns)) (hl : ns.length = n) (hn : n ≤ 1000) (h01 : ∀ n ∈ ns, 0 ≤ n ∧ n < 4294967296) (m : Nat) (hm : 4 * n = m) :
    Calls Try.prog 32 #[.slice A n c] w fun e w' => ∃ A' c', e = .returned (.slice A' m c') ∧ m ≤ c' ∧
      w'.ownsRow w.heap.size 5 1 (.slice A' m c') m (by8 (wds ns)) ∧ Below w.heap.size w w' := by
  subst hl
  subst hm
  exact words_any A c ns w hr hn h01

theorem at_4 (A : Option Addr) (c : Nat) (a : Int) (at_ n : Nat) (ha : a = at_) (l : List Int) (x : Int) (w : World) (hr : Rd w A (by8 l)) (hln : l.length = n) (hl : n ≤ 140737488351232) (hat : at_ + 4 ≤ n) (h0 : 0 ≤ x) (h1 : x < 4294967296) (l' : List Int) (hl' : l.take at_ ++ be 4 x ++ l.drop (at_ + 4) = l') :
    Calls Try.prog 33 #[.slice A n c, .int .i64 a, .int .i64 4, .int .i64 x] w fun e w' => ∃ A' c', e = .returned (.slice A' n c') ∧ n ≤ c' ∧
      w'.ownsRow w.heap.size 5 1 (.slice A' n c') n (by8 l') ∧ Below w.heap.size w w' := by
  subst hl'
  subst hln
  subst ha
  have HR := Lib.hid hr
  clear hr
  go_enter Try.func33, Try.ntmps33
  go_wp2_with (first | (go_at_call 43; with_reducible refine (put02_4 A c at_ l x _ HR.out hl hat h0 h1).mono ?_; rintro e w1 ⟨A1, c1, rfl, hc1, ho1, hb1⟩; have HO1 := Lib.hid ho1; have HB1 := Lib.hid hb1; clear ho1 hb1))
  go_ret
  exact ⟨A1, c1, rfl, hc1, HO1.out, HB1.out⟩

set_option maxHeartbeats 400000 in
theorem capacity_ok (n : Int) (w : World) (h1 : 1 ≤ n) (h2 : n ≤ 256) :
    Calls Try.prog 14 #[.int .i64 n] w fun e w' => ∃ A' c', e = .returned (.tuple #[.slice A' 8 c', .int .i64 0]) ∧ 8 ≤ c' ∧
      w'.ownsRow (w.heap.size + 1) 5 1 (.slice A' 8 c') 8 (by8 (wds [n - 1, 64])) ∧ Below w.heap.size w w' := by
  go_enter Try.func14, Try.ntmps14
  go_wp2_with (first | (go_at_call 32; with_reducible refine (words_n _ _ 2 [n - 1, 64] _ (Rd.newN w _ #[.int .i64 (n - 1), .int .i64 64]) rfl (by omega) (by simp; omega) 8 rfl).mono ?_; rintro e w1 ⟨A1, c1, rfl, hc1, ho1, hb1⟩; have HO1 := Lib.hid ho1; have HB1 := Lib.hid hb1; clear ho1 hb1))
  go_ret2
  refine ⟨A1, c1, rfl, hc1, ?_, ?_⟩
  · have := HO1.out; simpa using this
  · have := HB1.out
    exact ((Below.refl _ _).alloc (Nat.le_refl _) _).trans (this.mono (by simp))

set_option maxHeartbeats 400000 in
theorem rcapacity_ok (n : Int) (w : World) (h1 : 1 ≤ n) (h2 : n ≤ 256) :
    Calls Try.prog 15 #[.int .i64 n] w fun e w' => ∃ A' c', e = .returned (.tuple #[.slice A' 8 c', .int .i64 0]) ∧ 8 ≤ c' ∧
      w'.ownsRow (w.heap.size + 1) 5 1 (.slice A' 8 c') 8 (by8 (wds [n - 1, 64])) ∧ Below w.heap.size w w' := by
  have hmk := run_make8 8 8 rfl (by omega)
  have hrp : Rd (w.alloc (.cells (Array.replicate 8 (.int .u8 0)) 5)) (some ⟨w.heap.size, 0, none⟩) (by8 (List.replicate 8 0)) := Rd.zeros w 8 _
  have HRP := Lib.hid hrp
  have E1 : Hid ((List.replicate 8 (0 : Int)).take 0 ++ be 4 (n - 1) ++ (List.replicate 8 0).drop (0 + 4) = be 4 (n - 1) ++ [0, 0, 0, 0]) := Lib.hid (by rfl)
  have E2 : Hid ((be 4 (n - 1) ++ [0, 0, 0, 0]).take 4 ++ be 4 64 ++ (be 4 (n - 1) ++ [0, 0, 0, 0]).drop (4 + 4) = wds [n - 1, 64]) := Lib.hid (by rfl)
  have L1 : Hid ((List.replicate 8 (0 : Int)).length = 8) := Lib.hid (by rfl)
  have L2 : Hid ((be 4 (n - 1) ++ [0, 0, 0, 0]).length = 8) := Lib.hid (by rfl)
  clear hrp
  go_enter Try.func15, Try.ntmps15
  go_wp2_with (first
    | (go_at_call 33; with_reducible refine (at_4 _ _ 0 0 8 (by omega) (List.replicate 8 0) (n - 1) _ HRP.out L1.out (by omega) (by omega) (by omega) (by omega) _ E1.out).mono ?_; rintro e w1 ⟨A1, c1, rfl, hc1, ho1, hb1⟩; have HO1 := Lib.hid ho1; have HB1 := Lib.hid hb1; clear ho1 hb1)
    | (go_at_call 33; with_reducible refine (at_4 A1 c1 4 4 8 (by omega) (be 4 (n - 1) ++ [0, 0, 0, 0]) 64 _ (Rd.of_own HO1.out) L2.out (by omega) (by omega) (by omega) (by omega) _ E2.out).mono ?_; rintro e w2 ⟨A2, c2, rfl, hc2, ho2, hb2⟩; have HO2 := Lib.hid ho2; have HB2 := Lib.hid hb2; clear ho2 hb2))
  go_ret2
  refine ⟨A2, c2, rfl, hc2, ?_, ?_⟩
  · have h1 := HB1.out.size
    simp at h1
    exact ownsRow_base HO2.out h1
  · have h1 := HB1.out.size
    simp at h1
    exact ((Below.refl _ _).alloc (Nat.le_refl _) _).trans ((HB1.out.mono (by simp)).trans (HB2.out.mono (by omega)))

set_option maxHeartbeats 800000 in
theorem known_any (w : World) : Calls Try.prog 13 #[] w fun e w' => e = .returned (.bool true) ∧ Below w.heap.size w w' := by
  go_enter Try.func13, Try.ntmps13
  go_wp2_with (first
    | (go_at_call 18; refine (data_ok _ _ 5 33 0 _ (by decide)).mono ?_; rintro e w1 ⟨g, rfl, hg, hr, hb⟩; have HR := Lib.hid hr; have HB := Lib.hid hb; clear hr hb)
    | (go_at_call 14; refine (capacity_ok 8 _ (by omega) (by omega)).mono ?_; rintro e w2 ⟨A2, cc2, rfl, hc2, ho2, hb2⟩; have hr2 := HR.out.below hb2; have c0 := hr2.cell8 0 112 rfl; have c1 := hr2.cell8 2 5 rfl; have c2 := hr2.cell8 7 10 rfl; have c3 := hr2.cell8 12 33 rfl; have k := run_conv8 (P := Try.prog) (Rd.of_own ho2) (src := 22) (dst := 9) 8 cc2 rfl Try.underlying22 Try.underlying5 Try.underlying9; (have ek : strOfNums (wds [8 - 1, 64]) = ⟨#[0, 0, 0, 7, 0, 0, 0, 64]⟩ := by rfl); rw [ek] at k; have HO2 := Lib.hid ho2; have HB2 := Lib.hid hb2; clear ho2 hb2 hr2 ek))
  go_ret
  exact ⟨rfl, HB.out.trans (HB2.out.mono HB.out.size)⟩

end Go.Proofs.Ytifhlkfdmnkhoaa
