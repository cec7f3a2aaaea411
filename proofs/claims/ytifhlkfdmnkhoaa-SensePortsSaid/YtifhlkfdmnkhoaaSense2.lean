/- Contracts of sense: Cut and Capacity of the program and of the reference. -/
import Derived.Test.YtifhlkfdmnkhoaaWords
namespace Go.Proofs.Ytifhlkfdmnkhoaa
set_option linter.unusedVariables false
open Go.RowKit

/-- make([]byte, n) with a written n. -/
theorem run_make8 (n : Nat) (k : Int) (hk : k = (n : Int)) (hn : n ≤ 65536) (w : World) :
    (Instr.makeSlice 22 (.int .i64 k) (.int .i64 k)).run Try.prog w = .ok (.slice (some ⟨w.heap.size, 0, none⟩) n n) (w.alloc (.cells (Array.replicate n (.int .u8 0)) 5)) := by
  subst hk
  obtain ⟨i0, hi, hz0, hz1, hz2⟩ := info_parts infoU8
  have hr := run_make (P := Try.prog) w 22 5 i0 _ Try.underlying22 hi hz0 .i64 .i64 n n (by omega) (by omega) (by rw [hz2]; omega) (by omega)
  simp only [Int.toNat_natCast] at hr
  rw [hr, hz1, Nat.mul_one]
  congr 4
  apply Array.ext'
  rw [show (Value.int IntKind.u8 0).cells = #[.int .u8 0] from rfl, toList_madeCells_one]
  simp

theorem Rd.zeros (w : World) (n : Nat) (t : TypeId) : Rd (w.alloc (.cells (Array.replicate n (.int .u8 0)) t)) (some ⟨w.heap.size, 0, none⟩) (by8 (List.replicate n 0)) := by
  have h := Rd.newN w t (Array.replicate n (.int .u8 0))
  rw [Array.toList_replicate] at h
  rw [by8, List.map_replicate]
  exact h
theorem own_zeros (w : World) (n : Nat) (hn : n ≤ maxLen) : (w.alloc (.cells (Array.replicate n (.int .u8 0)) 5)).ownsRow w.heap.size 5 1 (.slice (some ⟨w.heap.size, 0, none⟩) n n) n (by8 (List.replicate n 0)) := by
  have h := World.ownsRow_lit (w := w) (e := 5) (size := 1) (base := w.heap.size) (Array.replicate n (.int .u8 0)) n (Nat.le_refl _) hn (by simp)
  rw [Array.toList_replicate] at h
  rw [by8, List.map_replicate]
  exact h

set_option maxHeartbeats 400000 in
theorem cut_any (A : Option Addr) (c : Nat) (l : List Int) (n : Int) (w : World) (hr : Rd w A (by8 l)) (hl : l.length ≤ 140737488351232) (hc : l.length ≤ c) :
    Calls Try.prog 9 #[.slice A l.length c, .int .i64 n] w fun e w' => ∃ A' c', e = .returned (.slice A' (min n.toNat l.length) c') ∧ min n.toNat l.length ≤ c' ∧
      w'.ownsRow w.heap.size 5 1 (.slice A' (min n.toNat l.length) c') (min n.toNat l.length) (by8 (l.take n.toNat)) ∧ Below w.heap.size w w' := by
  have HR := Lib.hid hr
  clear hr
  by_cases h1 : n < 0
  · have e1 : min n.toNat l.length = 0 := by omega
    have e2 : l.take n.toNat = [] := by rw [show n.toNat = 0 from by omega]; rfl
    rw [e1, e2]
    clear e1 e2
    go_enter Try.func9, Try.ntmps9
    go_wp2_with (first | (go_at_call 31; with_reducible refine (clone_n A c 0 [] _ Rd.nil rfl (by omega)).mono ?_; rintro e w1 ⟨A1, c1, rfl, hc1, ho1, hb1⟩; have HO1 := Lib.hid ho1; have HB1 := Lib.hid hb1; clear ho1 hb1))
    go_ret
    exact ⟨A1, c1, rfl, hc1, HO1.out, HB1.out⟩
  · by_cases h2 : n ≤ l.length
    · obtain ⟨k, rfl⟩ := Int.eq_ofNat_of_zero_le (show 0 ≤ n by omega)
      rw [Int.toNat_natCast]
      have hk : k ≤ l.length := by omega
      have e1 : min k l.length = k := by omega
      rw [e1]
      clear e1 h2 h1
      go_enter Try.func9, Try.ntmps9
      go_wp2_with (first | (go_at_call 31; with_reducible refine (clone_n A c k (l.take k) _ (HR.out.take_of (k := k) _ (by8_take _ _)) (by rw [List.length_take]; omega) (by omega)).mono ?_; rintro e w1 ⟨A1, c1, rfl, hc1, ho1, hb1⟩; have HO1 := Lib.hid ho1; have HB1 := Lib.hid hb1; clear ho1 hb1))
      go_ret
      exact ⟨A1, c1, rfl, hc1, HO1.out, HB1.out⟩
    · have e1 : min n.toNat l.length = l.length := by omega
      have e2 : l.take n.toNat = l := List.take_of_length_le (by omega)
      rw [e1, e2]
      clear e1 e2
      go_enter Try.func9, Try.ntmps9
      go_wp2_with (first | (go_at_call 31; with_reducible refine (clone_any A c l _ HR.out hl).mono ?_; rintro e w1 ⟨A1, c1, rfl, hc1, ho1, hb1⟩; have HO1 := Lib.hid ho1; have HB1 := Lib.hid hb1; clear ho1 hb1))
      go_ret
      exact ⟨A1, c1, rfl, hc1, HO1.out, HB1.out⟩

set_option maxHeartbeats 400000 in
theorem rcut_any (A : Option Addr) (c : Nat) (l : List Int) (n : Int) (w : World) (hr : Rd w A (by8 l)) (hl : l.length ≤ 140737488351232) (hc : l.length ≤ c) :
    Calls Try.prog 10 #[.slice A l.length c, .int .i64 n] w fun e w' => ∃ A' c', e = .returned (.slice A' (min n.toNat l.length) c') ∧ min n.toNat l.length ≤ c' ∧
      w'.ownsRow w.heap.size 5 1 (.slice A' (min n.toNat l.length) c') (min n.toNat l.length) (by8 (l.take n.toNat)) ∧ Below w.heap.size w w' := by
  have HR := Lib.hid hr
  clear hr
  go_enter Try.func10, Try.ntmps10
  go_wp2_with fail
  go_loopw [5, 6] (fun u v w2 => ∃ (k : Nat) (A' : Option Addr) (c' : Nat), k ≤ l.length ∧ k ≤ n.toNat ∧ v = .int .i64 k ∧ u = .slice A' k c' ∧ k ≤ c' ∧ w2.ownsRow w.heap.size 5 1 (.slice A' k c') k (by8 (l.take k)) ∧ Below w.heap.size w w2) (fun _ v _ => l.length - (intOf v).toNat)
  case atStart => exact ⟨0, none, 0, by omega, by omega, rfl, rfl, by omega, ownsRow_emp _ _ _ _, Below.refl _ _⟩
  case round =>
    obtain ⟨k, A1, c1, hk, hkn, rfl, rfl, hc1, ho1, hb1⟩ := hrel
    have HO1 := Lib.hid ho1
    have HB1 := Lib.hid hb1
    clear ho1 hb1
    have hz := HB1.out.size
    by_cases hlt : k < l.length ∧ (k : Int) < n
    · obtain ⟨h1, h2⟩ := hlt
      obtain ⟨ad, rfl, hblk, hcell⟩ := (HR.out.below HB1.out).at_ (k := k) (by rw [by8_length]; exact h1)
      rw [by8_get l k h1] at hcell
      have hsn := List.take_succ_eq_append_getElem h1
      have HS := Lib.hid hsn
      clear hsn
      go_wp2_with (first
        | (at_builtin; refine wpL_append E8 rfl rfl (HO1.out.alloc _) rfl (Rd.new1 wr _ _) rfl (by simp) (by simp [Value.oneCell']) (k + 1) (by8 (l.take (k + 1))) rfl (by rw [HS.out, by8_append]; rfl) (by simp only [maxLen]; omega) (by omega) (by simp; omega) ?_; intro A2 c2 w2 hc2 ho2 ht2 _; have HO2 := Lib.hid ho2; have HT2 := Lib.hid ht2; clear ho2 ht2))
      go_roundw
      case rel =>
        refine ⟨k + 1, A2, c2, by omega, by omega, by go_num, rfl, hc2, HO2.out, ?_⟩
        refine (((Tr.of_below (F := NoB) HB1.out).alloc _).trans HT2.out (fun b hb h => ?_)).below (fun _ _ => id)
        have := own_ge HO1.out b h
        omega
      case measure => simp [intOf]; omega
    · have hmin : k = min n.toNat l.length := by omega
      have hd : (decide (k < l.length) && decide ((k : Int) < n)) = false := by
        rw [Bool.and_eq_false_iff]
        by_cases h : k < l.length
        · exact .inr (by simp; omega)
        · exact .inl (by simp; omega)
      have htk : l.take k = l.take n.toNat := by
        rw [hmin]
        by_cases h : n.toNat ≤ l.length
        · rw [Nat.min_eq_left h]
        · rw [Nat.min_eq_right (by omega), List.take_of_length_le (by omega), List.take_of_length_le (by omega)]
      have HM := Lib.hid hmin
      have HT := Lib.hid htk
      have HD := Lib.hid hd
      clear hmin htk hd
      by_cases h : k < l.length
      all_goals
        go_wp2_with fail
        go_ret
        refine ⟨A1, c1, by rw [← HM.out]; rfl, by rw [← HM.out]; exact hc1, by rw [← HM.out, ← HT.out]; exact HO1.out, HB1.out⟩

end Go.Proofs.Ytifhlkfdmnkhoaa
