/- Contracts: field.Get at the front, and the reference's: numbers of two or four bytes. -/
import Derived.Test.YtceajiliahmkaaaSums
import Derived.IntWalk
namespace Go.Proofs.Ytceajiliahmkaaa
set_option linter.unusedVariables false
set_option maxRecDepth 100000
open Go.RowKit

/-- The number that bytes say. -/
def unb (l : List Int) : Int := l.foldl (fun n x => n * 256 + x) 0
theorem unb_snoc (l : List Int) (x : Int) : unb (l ++ [x]) = unb l * 256 + x := by simp [unb]
theorem unb_take (l : List Int) (k : Nat) (h : k < l.length) : unb (l.take (k + 1)) = unb (l.take k) * 256 + l[k] := by
  rw [List.take_succ_eq_append_getElem h, unb_snoc]
theorem unb_range {l : List Int} (hB : isB l) : ∀ k, k ≤ l.length → 0 ≤ unb (l.take k) ∧ unb (l.take k) < 256 ^ k
  | 0, _ => by simp [unb]
  | k + 1, h => by
    obtain ⟨h0, h1⟩ := unb_range hB k (by omega)
    have hx := hB l[k] (List.getElem_mem (by omega))
    rw [unb_take l k (by omega), Int.pow_succ]
    omega
theorem or_low (n x : Int) (h0 : 0 ≤ n) (h1 : n < 72057594037927936) (hx0 : 0 ≤ x) (hx1 : x < 256) : bits .or .u64 (n * 256) x = n * 256 + x := by
  obtain ⟨N, rfl⟩ := Int.eq_ofNat_of_zero_le h0
  obtain ⟨X, rfl⟩ := Int.eq_ofNat_of_zero_le hx0
  have hor : N * 256 ||| X = N * 256 + X := by
    have := Nat.two_pow_add_eq_or_of_lt (i := 8) (b := X) (by omega) N
    rw [show (2 : Nat) ^ 8 = 256 from rfl, Nat.mul_comm] at this
    exact this.symm
  rw [show (N : Int) * 256 = ((N * 256 : Nat) : Int) by omega]
  show IntKind.u64.wrap ((BitVec.ofInt 64 ((N * 256 : Nat) : Int) ||| BitVec.ofInt 64 (X : Int)).toNat : Int) = _
  rw [BitVec.toNat_or, ofInt_u64 _ (by omega), ofInt_u64 _ (by omega), hor]
  show ((N * 256 + X : Nat) : Int) % 18446744073709551616 = _
  omega
def getV (s : Nat) (l : List Int) : Int := if l.length < s then 0 else unb (l.take s)
def getE (s : Nat) (l : List Int) : Int := if l.length < s then 1 else 0

theorem there2 (A : Option Addr) (n c : Nat) (w : World) (hn : n ≤ 140737488355328) : Calls Try.prog 92 #[.slice A n c, .int .i64 0, .int .i64 2] w fun e w' => e = .returned (.bool (decide (2 ≤ n))) ∧ w = w' := by
  by_cases h : 2 ≤ n
  · rw [decide_eq_true h]
    have h1 : (2 : Int) ≤ (n : Int) := by omega
    have h2 : (0 : Int) ≤ (n : Int) - 2 := by omega
    go_enter Try.func92, Try.ntmps92
    go_wp2_with fail
    go_ret
    exact ⟨rfl, rfl⟩
  · rw [decide_eq_false h]
    have h1 : (n : Int) < 2 := by omega
    go_enter Try.func92, Try.ntmps92
    go_wp2_with fail
    go_ret
    exact ⟨rfl, rfl⟩
set_option maxHeartbeats 400000 in
theorem get2_any (A : Option Addr) (c : Nat) (l : List Int) (w : World) (hr : Rd w A (by8 l)) (hB : isB l) (hl : l.length ≤ 140737488355328) (hc : l.length ≤ c) :
    Calls Try.prog 82 #[.slice A l.length c, .int .i64 0, .int .i64 2] w fun e w' => e = .returned (.tuple #[.int .u64 (getV 2 l), .int .i64 (getE 2 l)]) ∧ w = w' := by
  by_cases h : 2 ≤ l.length
  · have ht := there2 A l.length c w hl
    rw [decide_eq_true h] at ht
    have HT := Lib.hid ht
    have HR := Lib.hid hr
    have HB := Lib.hid hB
    have HE : Hid (getV 2 l = unb (l.take 2) ∧ getE 2 l = 0) := Lib.hid ⟨if_neg (by omega), if_neg (by omega)⟩
    have h4 : (2 : Int) ≤ c := by omega
    have h5 : (2 : Int) ≤ (l.length : Int) := by omega
    clear ht hr hB
    rw [HE.out.1, HE.out.2]
    go_enter Try.func82, Try.ntmps82
    go_wp2_with (first
      | (go_at_call 92; (with_reducible refine (HT.out).mono ?_); rintro e w' ⟨rfl, rfl⟩))
    go_loop [8, 10, 23] (fun u _ v => ∃ k : Nat, k ≤ 2 ∧ v = .int .i64 k ∧ u = .int .u64 (unb (l.take k))) (fun _ _ v => 2 - (intOf v).toNat)
    case atStart => exact ⟨0, by omega, rfl, rfl⟩
    case round =>
      obtain ⟨k, hk, rfl, rfl⟩ := hrel
      by_cases hlt : k < 2
      · obtain ⟨ad, rfl, _, hcell⟩ := HR.out.at_ (k := k) (by rw [by8_length]; omega)
        rw [by8_get l k (by omega)] at hcell
        have hx := HB.out l[k] (List.getElem_mem (by omega))
        have hn := unb_range HB.out k (by omega)
        have hu := unb_take l k (by omega)
        have hp : (256 : Int) ^ k ≤ 16777216 := by
          have : k = 0 ∨ k = 1 ∨ k = 2 ∨ k = 3 := by omega
          rcases this with rfl | rfl | rfl | rfl <;> decide
        generalize l[k]'(by omega) = x at *
        generalize unb (l.take k) = n at *
        have hor := or_low n x (by omega) (by omega) (by omega) (by omega)
        have hlt' : n < 16777216 := by omega
        have hn0 : 0 ≤ n := hn.1
        have hx0 := hx.1
        have hx1 := hx.2
        have HU := Lib.hid hu
        clear hp hn hx hu
        go_wp2_with fail
        exact ⟨⟨k + 1, by omega, by go_num, by rw [HU.out]⟩, by simp [intOf]; omega⟩
      · obtain rfl : k = 2 := by omega
        go_wp2_with fail
        go_ret2
        exact ⟨rfl, rfl⟩
  · have ht := there2 A l.length c w hl
    rw [decide_eq_false h] at ht
    have HT := Lib.hid ht
    have HE : Hid (getV 2 l = 0 ∧ getE 2 l = 1) := Lib.hid ⟨if_pos (by omega), if_pos (by omega)⟩
    clear ht hr hB
    rw [HE.out.1, HE.out.2]
    go_enter Try.func82, Try.ntmps82
    go_wp2_with (first
      | (go_at_call 92; (with_reducible refine (HT.out).mono ?_); rintro e w' ⟨rfl, rfl⟩))
    go_ret2
    exact ⟨rfl, rfl⟩
theorem there4 (A : Option Addr) (n c : Nat) (w : World) (hn : n ≤ 140737488355328) : Calls Try.prog 92 #[.slice A n c, .int .i64 0, .int .i64 4] w fun e w' => e = .returned (.bool (decide (4 ≤ n))) ∧ w = w' := by
  by_cases h : 4 ≤ n
  · rw [decide_eq_true h]
    have h1 : (4 : Int) ≤ (n : Int) := by omega
    have h2 : (0 : Int) ≤ (n : Int) - 4 := by omega
    go_enter Try.func92, Try.ntmps92
    go_wp2_with fail
    go_ret
    exact ⟨rfl, rfl⟩
  · rw [decide_eq_false h]
    have h1 : (n : Int) < 4 := by omega
    go_enter Try.func92, Try.ntmps92
    go_wp2_with fail
    go_ret
    exact ⟨rfl, rfl⟩
set_option maxHeartbeats 400000 in
theorem get4_any (A : Option Addr) (c : Nat) (l : List Int) (w : World) (hr : Rd w A (by8 l)) (hB : isB l) (hl : l.length ≤ 140737488355328) (hc : l.length ≤ c) :
    Calls Try.prog 82 #[.slice A l.length c, .int .i64 0, .int .i64 4] w fun e w' => e = .returned (.tuple #[.int .u64 (getV 4 l), .int .i64 (getE 4 l)]) ∧ w = w' := by
  by_cases h : 4 ≤ l.length
  · have ht := there4 A l.length c w hl
    rw [decide_eq_true h] at ht
    have HT := Lib.hid ht
    have HR := Lib.hid hr
    have HB := Lib.hid hB
    have HE : Hid (getV 4 l = unb (l.take 4) ∧ getE 4 l = 0) := Lib.hid ⟨if_neg (by omega), if_neg (by omega)⟩
    have h4 : (4 : Int) ≤ c := by omega
    have h5 : (4 : Int) ≤ (l.length : Int) := by omega
    clear ht hr hB
    rw [HE.out.1, HE.out.2]
    go_enter Try.func82, Try.ntmps82
    go_wp2_with (first
      | (go_at_call 92; (with_reducible refine (HT.out).mono ?_); rintro e w' ⟨rfl, rfl⟩))
    go_loop [8, 10, 23] (fun u _ v => ∃ k : Nat, k ≤ 4 ∧ v = .int .i64 k ∧ u = .int .u64 (unb (l.take k))) (fun _ _ v => 4 - (intOf v).toNat)
    case atStart => exact ⟨0, by omega, rfl, rfl⟩
    case round =>
      obtain ⟨k, hk, rfl, rfl⟩ := hrel
      by_cases hlt : k < 4
      · obtain ⟨ad, rfl, _, hcell⟩ := HR.out.at_ (k := k) (by rw [by8_length]; omega)
        rw [by8_get l k (by omega)] at hcell
        have hx := HB.out l[k] (List.getElem_mem (by omega))
        have hn := unb_range HB.out k (by omega)
        have hu := unb_take l k (by omega)
        have hp : (256 : Int) ^ k ≤ 16777216 := by
          have : k = 0 ∨ k = 1 ∨ k = 2 ∨ k = 3 := by omega
          rcases this with rfl | rfl | rfl | rfl <;> decide
        generalize l[k]'(by omega) = x at *
        generalize unb (l.take k) = n at *
        have hor := or_low n x (by omega) (by omega) (by omega) (by omega)
        have hlt' : n < 16777216 := by omega
        have hn0 : 0 ≤ n := hn.1
        have hx0 := hx.1
        have hx1 := hx.2
        have HU := Lib.hid hu
        clear hp hn hx hu
        go_wp2_with fail
        exact ⟨⟨k + 1, by omega, by go_num, by rw [HU.out]⟩, by simp [intOf]; omega⟩
      · obtain rfl : k = 4 := by omega
        go_wp2_with fail
        go_ret2
        exact ⟨rfl, rfl⟩
  · have ht := there4 A l.length c w hl
    rw [decide_eq_false h] at ht
    have HT := Lib.hid ht
    have HE : Hid (getV 4 l = 0 ∧ getE 4 l = 1) := Lib.hid ⟨if_pos (by omega), if_pos (by omega)⟩
    clear ht hr hB
    rw [HE.out.1, HE.out.2]
    go_enter Try.func82, Try.ntmps82
    go_wp2_with (first
      | (go_at_call 92; (with_reducible refine (HT.out).mono ?_); rintro e w' ⟨rfl, rfl⟩))
    go_ret2
    exact ⟨rfl, rfl⟩
set_option maxHeartbeats 400000 in
theorem rget2_any (A : Option Addr) (c : Nat) (l : List Int) (w : World) (hr : Rd w A (by8 l)) (hB : isB l) (hl : l.length ≤ 140737488355328) :
    Calls Try.prog 84 #[.slice A l.length c, .int .i64 0, .int .i64 2] w fun e w' => e = .returned (.tuple #[.int .u64 (getV 2 l), .int .i64 (getE 2 l)]) ∧ w = w' := by
  by_cases h : 2 ≤ l.length
  · have HR := Lib.hid hr
    have HB := Lib.hid hB
    have HE : Hid (getV 2 l = unb (l.take 2) ∧ getE 2 l = 0) := Lib.hid ⟨if_neg (by omega), if_neg (by omega)⟩
    have h5 : (2 : Int) ≤ (l.length : Int) := by omega
    have h6 : (0 : Int) ≤ (l.length : Int) - 2 := by omega
    clear hr hB
    rw [HE.out.1, HE.out.2]
    go_enter Try.func84, Try.ntmps84
    go_wp2_with fail
    go_loop [8, 9] (fun u v => ∃ k : Nat, k ≤ 2 ∧ v = .int .i64 k ∧ u = .int .u64 (unb (l.take k))) (fun _ v => 2 - (intOf v).toNat)
    case atStart => exact ⟨0, by omega, rfl, rfl⟩
    case round =>
      obtain ⟨k, hk, rfl, rfl⟩ := hrel
      by_cases hlt : k < 2
      · obtain ⟨ad, rfl, _, hcell⟩ := HR.out.at_ (k := k) (by rw [by8_length]; omega)
        rw [by8_get l k (by omega)] at hcell
        have hx := HB.out l[k] (List.getElem_mem (by omega))
        have hn := unb_range HB.out k (by omega)
        have hu := unb_take l k (by omega)
        have hp : (256 : Int) ^ k ≤ 16777216 := by
          have : k = 0 ∨ k = 1 ∨ k = 2 ∨ k = 3 := by omega
          rcases this with rfl | rfl | rfl | rfl <;> decide
        generalize l[k]'(by omega) = x at *
        generalize unb (l.take k) = n at *
        have hor := or_low n x (by omega) (by omega) (by omega) (by omega)
        have hlt' : n < 16777216 := by omega
        have hn0 : 0 ≤ n := hn.1
        have hx0 := hx.1
        have hx1 := hx.2
        have HU := Lib.hid hu
        have hkl : (k : Int) < (l.length : Int) := by omega
        clear hp hn hx hu
        go_wp2_with fail
        exact ⟨⟨k + 1, by omega, by go_num, by rw [HU.out]⟩, by simp [intOf]; omega⟩
      · obtain rfl : k = 2 := by omega
        go_wp2_with fail
        go_ret2
        exact ⟨rfl, rfl⟩
  · have HE : Hid (getV 2 l = 0 ∧ getE 2 l = 1) := Lib.hid ⟨if_pos (by omega), if_pos (by omega)⟩
    have h5 : (l.length : Int) - 2 < 0 := by omega
    have h6 : (l.length : Int) < 2 := by omega
    clear hr hB
    rw [HE.out.1, HE.out.2]
    go_enter Try.func84, Try.ntmps84
    go_wp2_with fail
    go_ret2
    exact ⟨rfl, rfl⟩
set_option maxHeartbeats 400000 in
theorem rget4_any (A : Option Addr) (c : Nat) (l : List Int) (w : World) (hr : Rd w A (by8 l)) (hB : isB l) (hl : l.length ≤ 140737488355328) :
    Calls Try.prog 84 #[.slice A l.length c, .int .i64 0, .int .i64 4] w fun e w' => e = .returned (.tuple #[.int .u64 (getV 4 l), .int .i64 (getE 4 l)]) ∧ w = w' := by
  by_cases h : 4 ≤ l.length
  · have HR := Lib.hid hr
    have HB := Lib.hid hB
    have HE : Hid (getV 4 l = unb (l.take 4) ∧ getE 4 l = 0) := Lib.hid ⟨if_neg (by omega), if_neg (by omega)⟩
    have h5 : (4 : Int) ≤ (l.length : Int) := by omega
    have h6 : (0 : Int) ≤ (l.length : Int) - 4 := by omega
    clear hr hB
    rw [HE.out.1, HE.out.2]
    go_enter Try.func84, Try.ntmps84
    go_wp2_with fail
    go_loop [8, 9] (fun u v => ∃ k : Nat, k ≤ 4 ∧ v = .int .i64 k ∧ u = .int .u64 (unb (l.take k))) (fun _ v => 4 - (intOf v).toNat)
    case atStart => exact ⟨0, by omega, rfl, rfl⟩
    case round =>
      obtain ⟨k, hk, rfl, rfl⟩ := hrel
      by_cases hlt : k < 4
      · obtain ⟨ad, rfl, _, hcell⟩ := HR.out.at_ (k := k) (by rw [by8_length]; omega)
        rw [by8_get l k (by omega)] at hcell
        have hx := HB.out l[k] (List.getElem_mem (by omega))
        have hn := unb_range HB.out k (by omega)
        have hu := unb_take l k (by omega)
        have hp : (256 : Int) ^ k ≤ 16777216 := by
          have : k = 0 ∨ k = 1 ∨ k = 2 ∨ k = 3 := by omega
          rcases this with rfl | rfl | rfl | rfl <;> decide
        generalize l[k]'(by omega) = x at *
        generalize unb (l.take k) = n at *
        have hor := or_low n x (by omega) (by omega) (by omega) (by omega)
        have hlt' : n < 16777216 := by omega
        have hn0 : 0 ≤ n := hn.1
        have hx0 := hx.1
        have hx1 := hx.2
        have HU := Lib.hid hu
        have hkl : (k : Int) < (l.length : Int) := by omega
        clear hp hn hx hu
        go_wp2_with fail
        exact ⟨⟨k + 1, by omega, by go_num, by rw [HU.out]⟩, by simp [intOf]; omega⟩
      · obtain rfl : k = 4 := by omega
        go_wp2_with fail
        go_ret2
        exact ⟨rfl, rfl⟩
  · have HE : Hid (getV 4 l = 0 ∧ getE 4 l = 1) := Lib.hid ⟨if_pos (by omega), if_pos (by omega)⟩
    have h5 : (l.length : Int) - 4 < 0 := by omega
    have h6 : (l.length : Int) < 4 := by omega
    clear hr hB
    rw [HE.out.1, HE.out.2]
    go_enter Try.func84, Try.ntmps84
    go_wp2_with fail
    go_ret2
    exact ⟨rfl, rfl⟩
end Go.Proofs.Ytceajiliahmkaaa
