/- Layer 6: a row of blocks. -/
import Derived.Test.YthlijldapoeepaaBlk2
import Derived.Test.YthlijldapoeepaaExt4
namespace Go.Proofs.Ythlijldapoeepaa
set_option linter.unusedVariables false
set_option linter.unusedSimpArgs false
set_option maxRecDepth 100000
open Go.RowKit

def cellL (L : List (List Int)) (i : Nat) : List Int := (if bk L i = [] then 0 else 1) :: bv L i
def rowTo (L : List (List Int)) (k : Nat) : Nat → List Int
  | 0 => []
  | i + 1 => rowTo L k i ++ cellL L (3 * k + i)
def rowL (L : List (List Int)) (k : Nat) : List Int := rowTo L k 3
theorem cellL_length {L : List (List Int)} (h : ImgOk L) (i : Nat) : (cellL L i).length = 65 := by simp [cellL, bv_length h]
theorem rowTo_length {L : List (List Int)} (h : ImgOk L) (k : Nat) : ∀ i, (rowTo L k i).length = 65 * i
  | 0 => rfl
  | i + 1 => by rw [rowTo, List.length_append, rowTo_length h k i, cellL_length h]; omega
theorem bv_isB {L : List (List Int)} (h : ImgOk L) (i : Nat) : isB (bv L i) := by
  unfold bv
  split
  · exact rep0_isB 64
  · next hb => exact ((h.at_ i).resolve_left hb).2
theorem cellL_isB {L : List (List Int)} (h : ImgOk L) (i : Nat) : isB (cellL L i) := by
  intro x hx
  rcases List.mem_cons.1 hx with rfl | hx
  · split <;> omega
  · exact bv_isB h i x hx
theorem rowTo_isB {L : List (List Int)} (h : ImgOk L) (k : Nat) : ∀ i, isB (rowTo L k i)
  | 0 => isB.nil
  | i + 1 => (rowTo_isB h k i).append (cellL_isB h _)

section
variable {w : World} {g : Nat} {L : List (List Int)} {M : Nat → Prop}
theorem read1_in (h : Img w g L M) (i : Nat) (z : Int) (hz : z = (i : Int)) (hi : i < L.length) : Calls Try.prog 55 #[.pointer (some ⟨g, 0, none⟩), .int .i64 z, .int .i64 1] w fun e w' =>
    ∃ A c, e = .returned (.tuple #[.slice A 64 c, .int .i64 0]) ∧ 64 ≤ c ∧ w'.ownsRow w.heap.size 5 1 (.slice A 64 c) 64 (by8 (bv L i)) ∧ Below w.heap.size w w' := by
  subst hz
  have h256 := h.ok.hi
  have hb : inB L.length (i : Int) 1 = true := by unfold inB; exact decide_eq_true (by omega)
  refine (read_any h i 1 (by omega)).mono ?_
  have e1 : readL L (i : Int) 1 = bv L i := by unfold readL; rw [if_pos hb]; simp [rdTo]
  have e2 : wrongE L.length (i : Int) 1 = 0 := by unfold wrongE; rw [if_pos hb]
  rw [e1, e2]
  rintro e w' ⟨A, c, rfl, hc, ho, hbl⟩
  rw [bv_length h.ok] at hc ho
  exact ⟨A, c, by rw [bv_length h.ok], hc, ho, hbl⟩
theorem read1_out (h : Img w g L M) (i : Nat) (z : Int) (hz : z = (i : Int)) (hi : ¬ i < L.length) (h300 : i ≤ 300) : Calls Try.prog 55 #[.pointer (some ⟨g, 0, none⟩), .int .i64 z, .int .i64 1] w fun e w' =>
    ∃ A c, e = .returned (.tuple #[.slice A 0 c, .int .i64 1]) ∧ Below w.heap.size w w' := by
  subst hz
  have hb : inB L.length (i : Int) 1 = false := by unfold inB; exact decide_eq_false (by omega)
  refine (read_any h i 1 (by omega)).mono ?_
  have e1 : readL L (i : Int) 1 = [] := by unfold readL; rw [hb]; rfl
  have e2 : wrongE L.length (i : Int) 1 = 1 := by unfold wrongE; rw [hb]; rfl
  rw [e1, e2]
  rintro e w' ⟨A, c, rfl, hc, ho, hbl⟩
  exact ⟨A, c, rfl, hbl⟩
theorem has1 (h : Img w g L M) (i : Nat) (z : Int) (hz : z = (i : Int)) (h300 : i ≤ 300) : Calls Try.prog 18 #[.pointer (some ⟨g, 0, none⟩), .int .i64 z] w fun e w' => e = .returned (.bool (decide (bk L i ≠ []))) ∧ w = w' := by
  subst hz
  have e : hasB L (i : Int) = decide (bk L i ≠ []) := by unfold hasB; congr 1; simp
  have := has_any h (i : Int) (by omega)
  rw [e] at this
  exact this
theorem run_make0_256 (w : World) : (Instr.makeSlice 44 (.int .i64 0) (.int .i64 256)).run Try.prog w = .ok (.slice (some ⟨w.heap.size, 0, none⟩) 0 256) (w.alloc (.cells (Array.replicate 256 (.int .u8 0)) 5)) := by
  obtain ⟨i0, hi, hz0, hz1, hz2⟩ := info_parts infoU8
  have hr := run_make (P := Try.prog) w 44 5 i0 _ Try.underlying44 hi hz0 .i64 .i64 0 256 (by omega) (by omega) (by rw [hz2]; omega) (by omega)
  refine Eq.trans hr ?_
  rw [hz1, Nat.mul_one]
  congr 4
  apply Array.ext'
  rw [show (Value.int IntKind.u8 0).cells = #[.int .u8 0] from rfl, toList_madeCells_one]
  simp
theorem own_made0 (w : World) : (w.alloc (.cells (Array.replicate 256 (.int .u8 0)) 5)).ownsRow w.heap.size 5 1 (.slice (some ⟨w.heap.size, 0, none⟩) 0 256) 0 [] :=
  World.ownsRow_made w _ 256 (Nat.le_refl _) (by simp [maxLen]) (by simp)

set_option maxHeartbeats 1600000 in
theorem row_any (sv : Value) (h : Img w g L M) (k : Nat) (hk : k ≤ 90) : Calls Try.prog 37 #[sv, .pointer (some ⟨g, 0, none⟩), .int .i64 k] w fun e w' =>
    ∃ A c, e = .returned (.slice A 195 c) ∧ 195 ≤ c ∧ w'.ownsRow w.heap.size 5 1 (.slice A 195 c) 195 (by8 (rowL L k)) ∧ Below w.heap.size w w' := by
  have HH := Lib.hid h
  have hmk0 := run_make0_256
  have HO0 := Lib.hid (own_made0 w)
  have hok := Lib.hid h.ok
  clear h
  go_enter Try.func37, Try.ntmps37
  go_wp2_with fail
  clear hmk0
  go_loopw [7, 8, 9, 10, 11, 12, 14] (fun v7 _ _ _ _ _ v W => ∃ (i : Nat) (A : Option Addr) (c n : Nat), i ≤ 3 ∧ v = .int .i64 (i : Int) ∧ n = 65 * i ∧ v7 = .slice A n c ∧ n ≤ c ∧ W.ownsRow w.heap.size 5 1 (.slice A n c) n (by8 (rowTo L k i)) ∧ Below w.heap.size w W) (fun _ _ _ _ _ _ v _ => 3 - (intOf v).toNat)
  case atStart => exact ⟨0, _, _, 0, by omega, rfl, rfl, rfl, by omega, HO0.out, bl_alloc _ _⟩
  case round =>
    obtain ⟨i, A, c, n, hi, rfl, hn, rfl, hnc, ho, hb⟩ := hrel
    have HO := Lib.hid ho
    have HB := Lib.hid hb
    have HN := Lib.hid hn
    have hz := hb.size
    clear ho hb hn
    by_cases hlt : i < 3
    · have hI := Lib.hid (HH.out.below HB.out)
      by_cases hin : 3 * k + i < L.length
      · have HC := Lib.hid (read1_in hI.out (3 * k + i) ((k : Int) * 3 + (i : Int)) (by omega) hin)
        by_cases hbk : bk L (3 * k + i) = []
        · have HE : Hid (decide (bk L (3 * k + i) ≠ []) = false) := Lib.hid (by simp [hbk])
          have HF : Hid ((if bk L (3 * k + i) = [] then (0 : Int) else 1) = 0) := Lib.hid (if_pos hbk)
          clear hbk
          go_wp2_with (first
            | (go_at_call 18; with_reducible refine (has1 hI.out (3 * k + i) _ (by omega) (by omega)).mono ?_; rintro e w1 ⟨rfl, rfl⟩; rw [HE.out])
            | (go_at_call 55; with_reducible refine HC.out.mono ?_; rintro e w2 ⟨A2, c2, rfl, hc2, ho2, hb2⟩; have HO2 := Lib.hid ho2; have HB2 := Lib.hid hb2; have HOw := Lib.hid (own_below HO.out hb2 (B := 0)); have hz2 := hb2.size; clear ho2 hb2)
            | (at_builtin; go_loud (with_reducible refine wpL_append E8 rfl rfl (HOw.out.alloc _) rfl (by exact Rd.new1 w2 _ (.int .u8 0)) rfl (by simp) (by simp [Value.oneCell']) (n + 1) (by8 (rowTo L k i ++ [0])) rfl (by simp [by8]) (by simp only [maxLen]; have := HN.out; omega) (by have := HN.out; omega) (by simp; omega) ?_); intro A4 c4 w4 hc4 ho4 ht4 ha4; go_loud (have HO4 := Lib.hid ho4; have HT4 := Lib.hid ht4; have HZ4 := ht4.size); go_loud (have HR4 := Lib.hid (((Rd.of_own HO2.out).below (bl_alloc _ _)).tr ht4 (fun ad he hf => by subst he; have h1 := own_ge HO2.out _ ((Blo.some_iff _ _).2 rfl); have h2 := own_lt HO.out _ hf; omega))); clear ho4 ht4 ha4)
            | (at_builtin; go_loud (refine wpL_append E8 rfl rfl HO4.out rfl HR4.out rfl (by rw [by8_length, bv_length hok.out]) (by8_one _) (n + 65) (by8 (rowTo L k (i + 1))) rfl (by rw [← by8_append, rowTo, cellL, HF.out]; simp) (by simp only [maxLen]; have := HN.out; omega) (by have := HN.out; omega) (by simp at HZ4; omega) ?_); intro A5 c5 w5 hc5 ho5 ht5 ha5; have HO5 := Lib.hid ho5; have HT5 := Lib.hid ht5; clear ho5 ht5 ha5))
          go_roundw
          case measure => simp [intOf]; omega
          case rel =>
            refine ⟨i + 1, A5, c5, n + 65, by omega, by go_num, by have := HN.out; omega, rfl, hc5, HO5.out, ?_⟩
            have t2 : Below w.heap.size w w2 := HB.out.trans (HB2.out.mono hz)
            have t3 := t2.alloc (by omega) (.cells #[.int .u8 0] 5)
            have t4 : Below w.heap.size w w4 := bl_tr t3 HT4.out (fun b hb => own_ge HO.out b hb)
            exact bl_tr t4 HT5.out (fun b hb => own_ge HO4.out b hb)
        · have HE : Hid (decide (bk L (3 * k + i) ≠ []) = true) := Lib.hid (by simp [hbk])
          have HF : Hid ((if bk L (3 * k + i) = [] then (0 : Int) else 1) = 1) := Lib.hid (if_neg hbk)
          clear hbk
          go_wp2_with (first
            | (go_at_call 18; with_reducible refine (has1 hI.out (3 * k + i) _ (by omega) (by omega)).mono ?_; rintro e w1 ⟨rfl, rfl⟩; rw [HE.out])
            | (go_at_call 55; with_reducible refine HC.out.mono ?_; rintro e w2 ⟨A2, c2, rfl, hc2, ho2, hb2⟩; have HO2 := Lib.hid ho2; have HB2 := Lib.hid hb2; have HOw := Lib.hid (own_below HO.out hb2 (B := 0)); have hz2 := hb2.size; clear ho2 hb2)
            | (at_builtin; go_loud (with_reducible refine wpL_append E8 rfl rfl (HOw.out.alloc _) rfl (by exact Rd.new1 w2 _ (.int .u8 1)) rfl (by simp) (by simp [Value.oneCell']) (n + 1) (by8 (rowTo L k i ++ [1])) rfl (by simp [by8]) (by simp only [maxLen]; have := HN.out; omega) (by have := HN.out; omega) (by simp; omega) ?_); intro A4 c4 w4 hc4 ho4 ht4 ha4; go_loud (have HO4 := Lib.hid ho4; have HT4 := Lib.hid ht4; have HZ4 := ht4.size); go_loud (have HR4 := Lib.hid (((Rd.of_own HO2.out).below (bl_alloc _ _)).tr ht4 (fun ad he hf => by subst he; have h1 := own_ge HO2.out _ ((Blo.some_iff _ _).2 rfl); have h2 := own_lt HO.out _ hf; omega))); clear ho4 ht4 ha4)
            | (at_builtin; go_loud (refine wpL_append E8 rfl rfl HO4.out rfl HR4.out rfl (by rw [by8_length, bv_length hok.out]) (by8_one _) (n + 65) (by8 (rowTo L k (i + 1))) rfl (by rw [← by8_append, rowTo, cellL, HF.out]; simp) (by simp only [maxLen]; have := HN.out; omega) (by have := HN.out; omega) (by simp at HZ4; omega) ?_); intro A5 c5 w5 hc5 ho5 ht5 ha5; have HO5 := Lib.hid ho5; have HT5 := Lib.hid ht5; clear ho5 ht5 ha5))
          go_roundw
          case measure => simp [intOf]; omega
          case rel =>
            refine ⟨i + 1, A5, c5, n + 65, by omega, by go_num, by have := HN.out; omega, rfl, hc5, HO5.out, ?_⟩
            have t2 : Below w.heap.size w w2 := HB.out.trans (HB2.out.mono hz)
            have t3 := t2.alloc (by omega) (.cells #[.int .u8 1] 5)
            have t4 : Below w.heap.size w w4 := bl_tr t3 HT4.out (fun b hb => own_ge HO.out b hb)
            exact bl_tr t4 HT5.out (fun b hb => own_ge HO4.out b hb)
      · have hbk : bk L (3 * k + i) = [] := bk_out (by omega)
        have HE : Hid (decide (bk L (3 * k + i) ≠ []) = false) := Lib.hid (by simp [hbk])
        have HF : Hid ((if bk L (3 * k + i) = [] then (0 : Int) else 1) = 0) := Lib.hid (if_pos hbk)
        have HC := Lib.hid (read1_out hI.out (3 * k + i) ((k : Int) * 3 + (i : Int)) (by omega) hin (by omega))
        have HV0 : Hid (bv L (3 * k + i) = List.replicate 64 0) := Lib.hid (if_pos hbk)
        clear hbk
        go_wp2_with (first
          | (go_at_call 18; with_reducible refine (has1 hI.out (3 * k + i) _ (by omega) (by omega)).mono ?_; rintro e w1 ⟨rfl, rfl⟩; rw [HE.out])
          | (go_at_call 55; with_reducible refine HC.out.mono ?_; rintro e w2 ⟨A2, c2, rfl, hb2⟩; have HB2 := Lib.hid hb2; have HOw := Lib.hid (own_below HO.out hb2 (B := 0)); have hz2 := hb2.size; have hmk64 := fun w => run_make8 64 64 rfl (by omega) w; clear hb2)
          | (at_builtin; go_loud (with_reducible refine wpL_append E8 rfl rfl ((HOw.out.alloc _).alloc _) rfl (by exact Rd.newAt _ (w2.heap.size + 1) _ [.int .u8 0] _ 0 (by simp) rfl) rfl (by simp) (by simp [Value.oneCell']) (n + 1) (by8 (rowTo L k i ++ [0])) rfl (by simp [by8]) (by simp only [maxLen]; have := HN.out; omega) (by have := HN.out; omega) (by simp; omega) ?_); intro A4 c4 w4 hc4 ho4 ht4 ha4; go_loud (have HO4 := Lib.hid ho4; have HT4 := Lib.hid ht4; have HZ4 := ht4.size); go_loud (have HR4 := Lib.hid (((Rd.zeros w2 64 5).below (bl_alloc _ _)).tr ht4 (fun ad he hf => by injection he with he; subst he; have h2 := own_lt HOw.out _ hf; simp at h2))); clear ho4 ht4 ha4)
          | (at_builtin; go_loud (refine wpL_append E8 rfl rfl HO4.out rfl HR4.out rfl (by simp [by8]) (by8_one _) (n + 65) (by8 (rowTo L k (i + 1))) rfl (by rw [← by8_append, rowTo, cellL, HF.out, HV0.out]; simp) (by simp only [maxLen]; have := HN.out; omega) (by have := HN.out; omega) (by simp at HZ4; omega) ?_); intro A5 c5 w5 hc5 ho5 ht5 ha5; have HO5 := Lib.hid ho5; have HT5 := Lib.hid ht5; clear ho5 ht5 ha5))
        go_roundw
        case measure => simp [intOf]; omega
        case rel =>
          refine ⟨i + 1, A5, c5, n + 65, by omega, by go_num, by have := HN.out; omega, rfl, hc5, HO5.out, ?_⟩
          have t2 : Below w.heap.size w w2 := HB.out.trans (HB2.out.mono hz)
          have t3 := (t2.alloc (by omega) (.cells (Array.replicate 64 (.int .u8 0)) 5)).alloc (by simp; omega) (.cells #[.int .u8 0] 5)
          have t4 : Below w.heap.size w w4 := bl_tr t3 HT4.out (fun b hb => own_ge HO.out b hb)
          exact bl_tr t4 HT5.out (fun b hb => own_ge HO4.out b hb)
    · have hi3 : i = 3 := by omega
      subst hi3
      go_wp2_with fail
      go_ret
      have hn : n = 195 := by have := HN.out; omega
      subst hn
      exact ⟨A, c, rfl, hnc, HO.out, HB.out⟩
end
end Go.Proofs.Ythlijldapoeepaa
