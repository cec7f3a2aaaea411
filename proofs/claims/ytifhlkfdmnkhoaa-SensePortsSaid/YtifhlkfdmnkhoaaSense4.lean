/- Contracts of sense: Capacity and Luns of the program and of the reference, at every number. -/
import Derived.Test.YtifhlkfdmnkhoaaSense3
namespace Go.Proofs.Ytifhlkfdmnkhoaa
set_option linter.unusedVariables false
open Go.RowKit

/-- Bytes and an error are answered; the bytes lie in new memory of the call's own. -/
def Ret8 (w : World) (l : List Int) (err : Int) (e : Ending) (w' : World) : Prop :=
  ∃ A c, e = .returned (.tuple #[.slice A l.length c, .int .i64 err]) ∧ l.length ≤ c ∧ w'.ownsRow w.heap.size 5 1 (.slice A l.length c) l.length (by8 l) ∧ Below w.heap.size w w'

theorem Ret8.nil (w : World) (err : Int) : Ret8 w [] err (.returned (.tuple #[.slice none 0 0, .int .i64 err])) w := ⟨none, 0, rfl, by simp, ownsRow_emp _ _ _ _, Below.refl _ _⟩
theorem Ret8.cast {w w' : World} {l m : List Int} {err er : Int} {e : Ending} (h : Ret8 w l err e w') (hl : l = m) (he : err = er) : Ret8 w m er e w' := by subst hl; subst he; exact h

def capL (n : Int) : List Int := if 1 ≤ n ∧ n ≤ 256 then wds [n - 1, 64] else []
def capE (n : Int) : Int := if 1 ≤ n ∧ n ≤ 256 then 0 else 1

set_option maxHeartbeats 400000 in
theorem capacity_any (n : Int) (w : World) : Calls Try.prog 14 #[.int .i64 n] w (Ret8 w (capL n) (capE n)) := by
  by_cases h : 1 ≤ n ∧ n ≤ 256
  · have e1 : capL n = wds [n - 1, 64] := if_pos h
    have e2 : capE n = 0 := if_pos h
    rw [e1, e2]
    exact (capacity_ok n w h.1 h.2).mono fun e w' ⟨A, c, he, hc, ho, hb⟩ => ⟨A, c, he, hc, ownsRow_base ho (by omega), hb⟩
  · have e1 : capL n = [] := if_neg h
    have e2 : capE n = 1 := if_neg h
    rw [e1, e2]
    clear e1 e2
    by_cases h1 : n < 1
    · clear h
      go_enter Try.func14, Try.ntmps14
      go_wp2_with fail
      go_ret2
      exact Ret8.nil _ _
    · have h2 : 256 < n := by omega
      clear h
      go_enter Try.func14, Try.ntmps14
      go_wp2_with fail
      go_ret2
      exact Ret8.nil _ _

set_option maxHeartbeats 400000 in
theorem rcapacity_any (n : Int) (w : World) : Calls Try.prog 15 #[.int .i64 n] w (Ret8 w (capL n) (capE n)) := by
  by_cases h : 1 ≤ n ∧ n ≤ 256
  · have e1 : capL n = wds [n - 1, 64] := if_pos h
    have e2 : capE n = 0 := if_pos h
    rw [e1, e2]
    exact (rcapacity_ok n w h.1 h.2).mono fun e w' ⟨A, c, he, hc, ho, hb⟩ => ⟨A, c, he, hc, ownsRow_base ho (by omega), hb⟩
  · have e1 : capL n = [] := if_neg h
    have e2 : capE n = 1 := if_neg h
    rw [e1, e2]
    clear e1 e2
    by_cases h1 : n < 1
    · clear h
      go_enter Try.func15, Try.ntmps15
      go_wp2_with fail
      go_ret2
      exact Ret8.nil _ _
    · have h2 : 256 < n := by omega
      clear h
      go_enter Try.func15, Try.ntmps15
      go_wp2_with fail
      go_ret2
      exact Ret8.nil _ _

def lunRow (i : Nat) : List Int := [0, i, 0, 0, 0, 0, 0, 0]
def lunL (n : Int) : List Int := if 1 ≤ n ∧ n ≤ 3 then wds [8 * n, 0] ++ (List.range n.toNat).flatMap lunRow else []
def lunE (n : Int) : Int := if 1 ≤ n ∧ n ≤ 3 then 0 else 1
theorem luns_snoc (k : Nat) : (List.range (k + 1)).flatMap lunRow = (List.range k).flatMap lunRow ++ lunRow k := by
  rw [List.range_succ, List.flatMap_append]; simp
theorem luns_length (k : Nat) : ((List.range k).flatMap lunRow).length = 8 * k := by
  induction k with
  | zero => rfl
  | succ k ih => rw [luns_snoc, List.length_append, ih]; simp [lunRow]; omega
theorem lunRow_wds (i : Nat) (h : i < 256) : wds [(i : Int) * 65536, 0] = lunRow i := by
  simp [wds, be, lunRow]
  omega

set_option maxHeartbeats 400000 in
theorem luns_ok (n : Nat) (w : World) (h1 : 1 ≤ n) (h2 : n ≤ 3) : Calls Try.prog 16 #[.int .i64 n] w (Ret8 w (wds [8 * (n : Int), 0] ++ (List.range n).flatMap lunRow) 0) := by
  have L0 : Hid ((wds [8 * (n : Int), 0]).length = 8) := Lib.hid (by rfl)
  have L1 : Hid (∀ m ∈ [8 * (n : Int), 0], 0 ≤ m ∧ m < 4294967296) := Lib.hid (by simp; omega)
  have L2 : Hid (([8 * (n : Int), 0]).length = 2) := Lib.hid (by rfl)
  go_enter Try.func16, Try.ntmps16
  go_wp2_with (first | (go_at_call 32; with_reducible refine (words_n _ _ 2 [8 * (n : Int), 0] _ (Rd.newN w _ #[.int .i64 (8 * (n : Int)), .int .i64 0]) L2.out (by omega) L1.out 8 (by omega)).mono ?_; rintro e w1 ⟨A1, c1, rfl, hc1, ho1, hb1⟩; have HO1 := Lib.hid ho1; have HB1 := Lib.hid hb1; clear ho1 hb1))
  have hb01 : Below w.heap.size w w1 := bl_chain (bl_alloc w _) HB1.out
  have hz1 := HB1.out.size
  simp at hz1
  have HB01 := Lib.hid hb01
  clear hb01
  go_loopw [4, 5, 17] (fun u _ v w2 => ∃ (k : Nat) (A : Option Addr) (c : Nat), k ≤ n ∧ v = .int .i64 k ∧ u = .slice A (8 + 8 * k) c ∧ 8 + 8 * k ≤ c ∧ w2.ownsRow w.heap.size 5 1 (.slice A (8 + 8 * k) c) (8 + 8 * k) (by8 (wds [8 * (n : Int), 0] ++ (List.range k).flatMap lunRow)) ∧ Below w.heap.size w w2) (fun _ _ v _ => n - (intOf v).toNat)
  case atStart => exact ⟨0, A1, c1, by omega, rfl, rfl, hc1, by simpa using ownsRow_base HO1.out (by simp), HB01.out⟩
  case round =>
    obtain ⟨k, A2, c2, hk, rfl, rfl, hc2, ho2, hb2⟩ := hrel
    have HO2 := Lib.hid ho2
    have HB2 := Lib.hid hb2
    clear ho2 hb2
    have hz := HB2.out.size
    by_cases hlt : k < n
    · have M1 : Hid (∀ m ∈ [(k : Int) * 65536, 0], 0 ≤ m ∧ m < 4294967296) := Lib.hid (by simp; omega)
      have M2 : Hid (([(k : Int) * 65536, 0]).length = 2) := Lib.hid (by rfl)
      have M3 : Hid ((by8 (wds [(k : Int) * 65536, 0])).length = 8 * 1) := Lib.hid (by rfl)
      have M4 : Hid (by8 (wds [8 * (n : Int), 0] ++ (List.range k).flatMap lunRow) ++ by8 (wds [(k : Int) * 65536, 0]) = by8 (wds [8 * (n : Int), 0] ++ (List.range (k + 1)).flatMap lunRow)) := Lib.hid (by rw [lunRow_wds k (by omega), luns_snoc, ← by8_append, List.append_assoc])
      go_wp2_with (first
        | (go_at_call 32; with_reducible refine (words_n _ _ 2 [(k : Int) * 65536, 0] _ (Rd.newN wr _ #[.int .i64 ((k : Int) * 65536), .int .i64 0]) M2.out (by omega) M1.out 8 (by omega)).mono ?_; rintro e w3 ⟨A3, c3, rfl, hc3, ho3, hb3⟩; have HR3 := Lib.hid (Rd.of_own ho3); have HB3 := Lib.hid (bl_chain (bl_alloc wr _) hb3); clear ho3 hb3)
        | (at_builtin; refine wpL_append E8 rfl rfl (own_below (B := 0) HO2.out HB3.out) rfl HR3.out rfl M3.out (by8_one _) (8 + 8 * (k + 1)) (by8 (wds [8 * (n : Int), 0] ++ (List.range (k + 1)).flatMap lunRow)) (by omega) M4.out (by simp only [maxLen]; omega) (by omega) (by have := HB3.out.size; omega) ?_; intro A4 c4 w4 hc4 ho4 ht4 _; have HO4 := Lib.hid ho4; have HB4 := Lib.hid (bl_tr (bl_chain HB2.out HB3.out) ht4 (fun x hx => own_ge HO2.out x hx)); clear ho4 ht4))
      go_roundw
      case rel => exact ⟨k + 1, A4, c4, by omega, by go_num, rfl, hc4, HO4.out, HB4.out⟩
      case measure => simp [intOf]; omega
    · have hk' : k = n := by omega
      subst hk'
      go_wp2_with fail
      go_ret2
      have hlen : (wds [8 * (k : Int), 0] ++ (List.range k).flatMap lunRow).length = 8 + 8 * k := by rw [List.length_append, luns_length]; rfl
      exact ⟨A2, c2, by rw [hlen]; rfl, by omega, by rw [hlen]; exact HO2.out, HB2.out⟩

set_option maxHeartbeats 400000 in
theorem luns_any (n : Int) (w : World) : Calls Try.prog 16 #[.int .i64 n] w (Ret8 w (lunL n) (lunE n)) := by
  by_cases h : 1 ≤ n ∧ n ≤ 3
  · have e1 : lunL n = wds [8 * n, 0] ++ (List.range n.toNat).flatMap lunRow := if_pos h
    have e2 : lunE n = 0 := if_pos h
    rw [e1, e2]
    obtain ⟨k, rfl⟩ := Int.eq_ofNat_of_zero_le (show 0 ≤ n by omega)
    exact luns_ok k w (by omega) (by omega)
  · have e1 : lunL n = [] := if_neg h
    have e2 : lunE n = 1 := if_neg h
    rw [e1, e2]
    clear e1 e2
    by_cases h1 : n < 1
    · clear h
      go_enter Try.func16, Try.ntmps16
      go_wp2_with fail
      go_ret2
      exact Ret8.nil _ _
    · have h2 : 3 < n := by omega
      clear h
      go_enter Try.func16, Try.ntmps16
      go_wp2_with fail
      go_ret2
      exact Ret8.nil _ _

set_option maxHeartbeats 400000 in
theorem rluns_ok (n : Nat) (w : World) (h1 : 1 ≤ n) (h2 : n ≤ 3) : Calls Try.prog 17 #[.int .i64 n] w (Ret8 w (wds [8 * (n : Int), 0] ++ (List.range n).flatMap lunRow) 0) := by
  have hmk := run_make8 8 8 rfl (by omega)
  have HRP := Lib.hid (Rd.zeros w 8 5)
  have E1 : Hid ((List.replicate 8 (0 : Int)).take 0 ++ be 4 (8 * (n : Int)) ++ (List.replicate 8 0).drop (0 + 4) = wds [8 * (n : Int), 0]) := Lib.hid (by rfl)
  have L1 : Hid ((List.replicate 8 (0 : Int)).length = 8) := Lib.hid (by rfl)
  go_enter Try.func17, Try.ntmps17
  go_wp2_with (first
    | (go_at_call 33; with_reducible refine (at_4 _ _ 0 0 8 (by omega) (List.replicate 8 0) (8 * (n : Int)) _ HRP.out L1.out (by omega) (by omega) (by omega) (by omega) _ E1.out).mono ?_; rintro e w1 ⟨A1, c1, rfl, hc1, ho1, hb1⟩; have HO1 := Lib.hid ho1; have HB1 := Lib.hid hb1; clear ho1 hb1))
  have hb01 : Below w.heap.size w w1 := bl_chain (bl_alloc w _) HB1.out
  have hz1 := HB1.out.size
  simp at hz1
  have HB01 := Lib.hid hb01
  clear hb01
  go_loopw [4, 5] (fun u v w2 => ∃ (k : Nat) (A : Option Addr) (c : Nat), k ≤ n ∧ v = .int .i64 k ∧ u = .slice A (8 + 8 * k) c ∧ 8 + 8 * k ≤ c ∧ w2.ownsRow w.heap.size 5 1 (.slice A (8 + 8 * k) c) (8 + 8 * k) (by8 (wds [8 * (n : Int), 0] ++ (List.range k).flatMap lunRow)) ∧ Below w.heap.size w w2) (fun _ v _ => n - (intOf v).toNat)
  case atStart => exact ⟨0, A1, c1, by omega, rfl, rfl, hc1, by simpa using ownsRow_base HO1.out (by simp), HB01.out⟩
  case round =>
    obtain ⟨k, A2, c2, hk, rfl, rfl, hc2, ho2, hb2⟩ := hrel
    have HO2 := Lib.hid ho2
    have HB2 := Lib.hid hb2
    clear ho2 hb2
    have hz := HB2.out.size
    by_cases hlt : k < n
    · have M3 : Hid ((by8 (lunRow k)).length = 8 * 1) := Lib.hid (by rfl)
      have M4 : Hid (by8 (wds [8 * (n : Int), 0] ++ (List.range k).flatMap lunRow) ++ by8 (lunRow k) = by8 (wds [8 * (n : Int), 0] ++ (List.range (k + 1)).flatMap lunRow)) := Lib.hid (by rw [luns_snoc, ← by8_append, List.append_assoc])
      go_wp2_with (first
        | (at_builtin; refine wpL_append E8 rfl rfl (HO2.out.alloc _) rfl (Rd.newAt wr _ _ (by8 (lunRow k)) #[.int .u8 0, .int .u8 k, .int .u8 0, .int .u8 0, .int .u8 0, .int .u8 0, .int .u8 0, .int .u8 0] 0 rfl rfl) rfl M3.out (by8_one _) (8 + 8 * (k + 1)) (by8 (wds [8 * (n : Int), 0] ++ (List.range (k + 1)).flatMap lunRow)) (by omega) M4.out (by simp only [maxLen]; omega) (by omega) (by simp; omega) ?_; intro A4 c4 w4 hc4 ho4 ht4 _; have HO4 := Lib.hid ho4; have HB4 := Lib.hid (bl_tr (bl_chain HB2.out (bl_alloc wr _)) ht4 (fun x hx => own_ge HO2.out x hx)); clear ho4 ht4))
      go_roundw
      case rel => exact ⟨k + 1, A4, c4, by omega, by go_num, rfl, hc4, HO4.out, HB4.out⟩
      case measure => simp [intOf]; omega
    · have hk' : k = n := by omega
      subst hk'
      go_wp2_with fail
      go_ret2
      have hlen : (wds [8 * (k : Int), 0] ++ (List.range k).flatMap lunRow).length = 8 + 8 * k := by rw [List.length_append, luns_length]; rfl
      exact ⟨A2, c2, by rw [hlen]; rfl, by omega, by rw [hlen]; exact HO2.out, HB2.out⟩

set_option maxHeartbeats 400000 in
theorem rluns_any (n : Int) (w : World) : Calls Try.prog 17 #[.int .i64 n] w (Ret8 w (lunL n) (lunE n)) := by
  by_cases h : 1 ≤ n ∧ n ≤ 3
  · have e1 : lunL n = wds [8 * n, 0] ++ (List.range n.toNat).flatMap lunRow := if_pos h
    have e2 : lunE n = 0 := if_pos h
    rw [e1, e2]
    obtain ⟨k, rfl⟩ := Int.eq_ofNat_of_zero_le (show 0 ≤ n by omega)
    exact rluns_ok k w (by omega) (by omega)
  · have e1 : lunL n = [] := if_neg h
    have e2 : lunE n = 1 := if_neg h
    rw [e1, e2]
    clear e1 e2
    by_cases h1 : n < 1
    · clear h
      go_enter Try.func17, Try.ntmps17
      go_wp2_with fail
      go_ret2
      exact Ret8.nil _ _
    · have h2 : 3 < n := by omega
      clear h
      go_enter Try.func17, Try.ntmps17
      go_wp2_with fail
      go_ret2
      exact Ret8.nil _ _

end Go.Proofs.Ytifhlkfdmnkhoaa
