/- sums.Sum of the program: a function of the bytes. -/
import Derived.Test.YtceajiliahmkaaaSums
import Derived.IntWalk
import Derived.Laws.Closers25b
namespace Go.Proofs.Ytceajiliahmkaaa
set_option linter.unusedVariables false
set_option linter.unusedSimpArgs false
set_option maxRecDepth 100000
open Go.RowKit

def crcBit (r : Int) : Int := bits .xor .u32 (r / 2) (bits .and .u32 2197175160 (IntKind.u32.wrap (-(bits .and .u32 r 1))))
def crcBits (r : Int) : Nat → Int
  | 0 => r
  | k + 1 => crcBit (crcBits r k)
def crcTo (r : Int) (l : List Int) : Nat → Int
  | 0 => r
  | k + 1 => crcBits (bits .xor .u32 (crcTo r l k) (l[k]?.getD 0)) 8
def isU (x : Int) : Prop := 0 ≤ x ∧ x < 4294967296
theorem bits_u32 (o : BinOp) (a b : Int) : isU (bits o .u32 a b) := by
  have := bits_within o .u32 a b
  simp only [IntKind.min, IntKind.max, IntKind.signed, IntKind.bits] at this
  unfold isU
  have h1 := this.1
  have h2 := this.2
  simp at h1 h2
  omega
theorem crcBits_u {r : Int} (h : isU r) (k : Nat) : isU (crcBits r k) := by
  induction k with
  | zero => exact h
  | succ k ih => rw [crcBits, crcBit]; exact bits_u32 _ _ _
theorem crcTo_u {r : Int} (h : isU r) (l : List Int) (k : Nat) : isU (crcTo r l k) := by
  induction k with
  | zero => exact h
  | succ k ih => rw [crcTo]; exact crcBits_u (bits_u32 _ _ _) 8
def crc (l : List Int) : Int := bits .xor .u32 IntKind.u32.max (crcTo 4294967295 l l.length)
theorem crc_u (l : List Int) : isU (crc l) := bits_u32 _ _ _
set_option maxHeartbeats 1600000 in
theorem more_any (A : Option Addr) (c : Nat) (l : List Int) (w : World) (hr : Rd w A (by8 l)) (hB : isB l) (hl : l.length ≤ 140737488351232) :
    Calls Try.prog 68 #[.int .u32 0, .slice A l.length c] w fun e w' => e = .returned (.int .u32 (crc l)) ∧ w = w' := by
  have HR := Lib.hid hr
  have HB := Lib.hid hB
  clear hr hB
  go_enter Try.func68, Try.ntmps68
  go_wp2_with fail
  go_loop [5, 7, 12, 20] (fun v5 _ v12 _ => ∃ k : Nat, k ≤ l.length ∧ v12 = .int .i64 (k : Int) ∧ v5 = .int .u32 (crcTo 4294967295 l k)) (fun _ _ v _ => l.length - (RowKit.intOf v).toNat)
  case atStart => exact ⟨0, by omega, rfl, rfl⟩
  case round =>
    obtain ⟨k, hk, rfl, rfl⟩ := hrel
    by_cases hlt : k < l.length
    · obtain ⟨ad, rfl, _, hcell⟩ := HR.out.at_ (k := k) (by rw [by8_length]; exact hlt)
      rw [by8_get l k hlt] at hcell
      have hx := HB.out.get k hlt
      have hU := crcTo_u (r := 4294967295) ⟨by omega, by omega⟩ l k
      have HS : Hid (crcTo 4294967295 l (k + 1) = crcBits (bits .xor .u32 (crcTo 4294967295 l k) l[k]) 8) := Lib.hid (by show crcBits (bits .xor .u32 _ (l[k]?.getD 0)) 8 = _; rw [List.getElem?_eq_getElem hlt]; rfl)
      generalize l[k] = x at hcell hx HS
      generalize crcTo 4294967295 l k = r at hU HS
      obtain ⟨hU0, hU1⟩ := hU
      obtain ⟨hx0, hx1⟩ := hx
      have hX := bits_u32 .xor r x
      obtain ⟨q, hq⟩ : ∃ q, bits .xor .u32 r x = q := ⟨_, rfl⟩
      rw [hq] at HS hX
      go_wp2_with fail
      go_loop [5, 20] (fun v5 v20 => ∃ j : Nat, j ≤ 8 ∧ v20 = .int .i64 (j : Int) ∧ v5 = .int .u32 (crcBits q j)) (fun _ v => 8 - (RowKit.intOf v).toNat)
      case atStart => exact ⟨0, by omega, rfl, rfl⟩
      case round =>
        obtain ⟨j, hj, rfl, rfl⟩ := hrel
        by_cases hj8 : j < 8
        · have hC := crcBits_u hX j
          have HC : Hid (crcBits q (j + 1) = crcBit (crcBits q j)) := Lib.hid rfl
          generalize crcBits q j = y at hC HC
          obtain ⟨hC0, hC1⟩ := hC
          go_wp2_with fail
          refine ⟨⟨j + 1, by omega, by go_num, by rw [HC.out]; rfl⟩, by simp [RowKit.intOf]; omega⟩
        · obtain rfl : j = 8 := by omega
          go_wp2_with fail
          refine ⟨⟨k + 1, by omega, by go_num, by rw [HS.out]⟩, by simp [RowKit.intOf]; omega⟩
    · obtain rfl : k = l.length := by omega
      go_wp2_with fail
      go_ret
      exact ⟨rfl, rfl⟩
theorem sum_any (A : Option Addr) (c : Nat) (l : List Int) (w : World) (hr : Rd w A (by8 l)) (hB : isB l) (hl : l.length ≤ 140737488351232) :
    Calls Try.prog 57 #[.slice A l.length c] w fun e w' => e = .returned (.int .u32 (crc l)) ∧ w = w' := by
  have HM := Lib.hid (more_any A c l w hr hB hl)
  clear hr hB
  go_enter Try.func57, Try.ntmps57
  go_wp2_with (first
    | (go_at_call 68; (with_reducible refine HM.out.mono ?_); rintro e w' ⟨rfl, rfl⟩))
  go_ret
  exact ⟨rfl, rfl⟩
end Go.Proofs.Ytceajiliahmkaaa
