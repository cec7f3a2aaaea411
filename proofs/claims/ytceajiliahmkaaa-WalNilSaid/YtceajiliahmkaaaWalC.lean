/- Layer 4: sealed bytes, sectors of numbers. -/
import Derived.Test.YtceajiliahmkaaaWalB
import Derived.Test.YtceajiliahmkaaaMk8
import Derived.Test.YtceajiliahmkaaaAppZ
namespace Go.Proofs.Ytceajiliahmkaaa
set_option linter.unusedVariables false
set_option linter.unusedSimpArgs false
set_option maxRecDepth 100000
open Go.RowKit

set_option maxHeartbeats 1600000 in
theorem wsealed_any (A : Option Addr) (c : Nat) (l : List Int) (An : Option Addr) (cn : Nat) (ns : List Int) (w : World) (hr : Rd w A (by8 l)) (hB : isB l) (hl : l.length ≤ 10000) (hrn : Rd w An (i64s ns)) (hn : ns.length ≤ 10) (h01 : ∀ n ∈ ns, 0 ≤ n ∧ n < 9223372036854775808) :
    Calls Try.prog 41 #[.slice A l.length c, .slice An ns.length cn] w fun e w' => ∃ A' c', e = .returned (.slice A' (sealL (n8 ns ++ l)).length c') ∧ (sealL (n8 ns ++ l)).length ≤ c' ∧
      w'.ownsRow w.heap.size 5 1 (.slice A' (sealL (n8 ns ++ l)).length c') (sealL (n8 ns ++ l)).length (by8 (sealL (n8 ns ++ l))) ∧ Below w.heap.size w w' := by
  have HR := Lib.hid hr
  have HRN := Lib.hid hrn
  have H01 := Lib.hid h01
  obtain ⟨pl, hpl⟩ : ∃ pl, n8 ns ++ l = pl := ⟨_, rfl⟩
  have hn8 := n8_length ns
  have HB2 := Lib.hid (show isB pl from hpl ▸ (n8_isB ns).append hB)
  have hpln : (n8 ns).length + l.length = pl.length := by rw [← hpl]; simp
  have HPN := Lib.hid hpln
  have HB8 := Lib.hid (show by8 (n8 ns) ++ by8 l = by8 pl by rw [← hpl]; simp [by8])
  rw [hpl]
  have hU := crc_u pl
  have hU0 := hU.1
  have hU1 := hU.2
  have HS := Lib.hid (sealL_length pl)
  have hpb : pl.length ≤ 10080 := by omega
  have hn8b : (n8 ns).length ≤ 80 := by omega
  clear hr hU hrn h01 hB hn8 hpln hpl
  generalize hcr : crc pl = r at hU0 hU1
  have HCR := Lib.hid hcr
  clear hcr
  go_enter Try.func41, Try.ntmps41
  go_wp2_with (first
    | (go_at_call 36; (with_reducible refine (newWriter_any _).mono ?_); rintro e w1 ⟨rfl, hw1, hb1⟩; have HW1 := Lib.hid hw1; have HB1 := Lib.hid hb1; clear hw1 hb1))
  go_loopw [7, 16] (fun _ v w2 => ∃ (k : Nat), k ≤ ns.length ∧ v = .int .i64 k ∧ IsWriter w2 w.heap.size w.heap.size (n8 (ns.take k)) 0 ∧ Below w.heap.size w w2) (fun _ v _ => ns.length - (intOf v).toNat)
  case atStart => exact ⟨0, by omega, rfl, HW1.out, HB1.out⟩
  case round =>
    obtain ⟨k, hk, rfl, hw, hb⟩ := hrel
    have HW := Lib.hid hw
    have HB := Lib.hid hb
    clear hw hb
    have hz := HB.out.size
    have hlen : (n8 (ns.take k)).length ≤ 80 := by rw [n8_length, List.length_take]; omega
    by_cases hlt : k < ns.length
    · obtain ⟨ad, rfl, hblk, hcell⟩ := (HRN.out.below HB.out).at_ (k := k) (by simp [i64s]; exact hlt)
      simp only [i64s, List.getElem_map] at hcell
      have hb0 := H01.out ns[k] (List.getElem_mem hlt)
      go_wp2_with (first | (go_at_call 37; refine (num8 w.heap.size w.heap.size (n8 (ns.take k)) ns[k] _ hz HW.out (by omega) (by omega) (by omega)).mono ?_; rintro e w3 ⟨rfl, hw3, hb3⟩; have HW3 := Lib.hid hw3; have HB3 := Lib.hid hb3; clear hw3 hb3))
      go_roundw
      case rel => exact ⟨k + 1, by omega, by go_num, by rw [n8_snoc ns k hlt]; exact HW3.out, HB.out.trans HB3.out⟩
      case measure => simp [intOf]; omega
    · have hk' : k = ns.length := by omega
      subst hk'
      rw [List.take_length] at HW hlen
      go_wp2_with (first
        | (go_at_call 38; (with_reducible refine (end_any w.heap.size w.heap.size (n8 ns) _ HW.out (by omega)).mono ?_); rintro e w3 ⟨A3, c3, rfl, hc3, ho3, hb3⟩; have HC3 := Lib.hid hc3; have HO3 := Lib.hid ho3; have HB3 := Lib.hid (HB.out.trans (hb3.mono hz)); have hz3 := HB3.out.size; have hz33 := hb3.size; clear ho3 hb3 hc3)
        | (at_builtin; refine wpL_append E8 rfl rfl HO3.out rfl (HR.out.below HB3.out) rfl (by simp [by8]) (by8_one l) pl.length (by8 pl) HPN.out HB8.out (by simp only [maxLen]; omega) (by omega) (by omega) ?_; intro A4 c4 w4 hc4 ho4 ht4 ha4; have HO4 := Lib.hid ho4; have HT4 := Lib.hid ht4; have HC4 := Lib.hid hc4; have HB4 := Lib.hid (bl_tr HB3.out ht4 (fun b hb => Nat.le_trans hz (own_ge HO3.out b hb))); clear ho4 ht4 hc4 ha4)
        | (go_at_call 36; (with_reducible refine (newWriter_any _).mono ?_); rintro e w5 ⟨rfl, hw5, hb5⟩; have HW5 := Lib.hid hw5; have HB5 := Lib.hid hb5; have hz5 := hb5.size; clear hw5 hb5)
        | (go_at_call 57; (with_reducible refine (sum_any A4 c4 pl _ ((Rd.of_own HO4.out).below HB5.out) HB2.out (by omega)).mono ?_); rintro e w6 ⟨rfl, rfl⟩; rw [HCR.out])
        | (go_at_call 37; (with_reducible refine (num4 w4.heap.size w4.heap.size [] r _ hz5 HW5.out (by simp) hU0 hU1).mono ?_); rintro e w7 ⟨rfl, hw7, hb7⟩; have HW7 := Lib.hid hw7; have HB7 := Lib.hid (HB5.out.trans hb7); have hz7 := HB7.out.size; clear hw7 hb7)
        | (go_at_call 38; (with_reducible refine (end_any w4.heap.size w4.heap.size ([] ++ be 4 r) _ HW7.out (by simp [be_length])).mono ?_); rintro e w8 ⟨A8, c8, rfl, hc8, ho8, hb8⟩; have HC8 := Lib.hid hc8; have HO8 := Lib.hid ho8; have HB8' := Lib.hid (bl_chain HB7.out hb8); have hz8 := hb8.size; clear ho8 hb8 hc8)
        | (at_builtin; refine wpL_append E8 rfl rfl HO8.out rfl ((Rd.of_own HO4.out).below HB8'.out) rfl (by simp [by8]) (by8_one _) (sealL pl).length (by8 (sealL pl)) (by simp [sealL, be_length]) (by rw [sealL, HCR.out]; simp [by8]) (by simp only [maxLen]; have := HS.out; omega) (by have := HS.out; omega) (by omega) ?_; intro A9 c9 w9 hc9 ho9 ht9 ha9; have HO9 := Lib.hid ho9; have HT9 := Lib.hid ht9; have HC9 := Lib.hid hc9; clear ho9 ht9 hc9))
      go_ret
      have hz4 := HB4.out.size
      refine ⟨A9, c9, rfl, HC9.out, ownsRow_base HO9.out (by omega), ?_⟩
      exact bl_tr (bl_chain HB4.out HB8'.out) HT9.out (fun b hb => Nat.le_trans (by omega) (own_ge HO8.out b hb))
def numSec (ns : List Int) : List Int := sealL (n8 ns ++ List.replicate (252 - 8 * ns.length) 0)
theorem numSec_length {ns : List Int} (h : ns.length ≤ 10) : (numSec ns).length = 256 := by unfold numSec; rw [sealL_length, List.length_append, n8_length, List.length_replicate]; omega
theorem numSec_isB (ns : List Int) : isB (numSec ns) := sealL_isB ((n8_isB ns).append (rep0_isB _))
theorem wsector_any (An : Option Addr) (cn : Nat) (ns : List Int) (w : World) (hrn : Rd w An (i64s ns)) (hn : ns.length ≤ 10) (h01 : ∀ n ∈ ns, 0 ≤ n ∧ n < 9223372036854775808) :
    Calls Try.prog 54 #[.slice An ns.length cn] w fun e w' => ∃ A' c', e = .returned (.slice A' 256 c') ∧ 256 ≤ c' ∧
      w'.ownsRow w.heap.size 5 1 (.slice A' 256 c') 256 (by8 (numSec ns)) ∧ Below w.heap.size w w' := by
  obtain ⟨z, hz⟩ : ∃ z, 252 - 8 * ns.length = z := ⟨_, rfl⟩
  have hz2 : (252 : Int) - 8 * (ns.length : Int) = (z : Int) := by omega
  have hmk := fun w => run_make8 z (z : Int) rfl (by omega) w
  have HRD := Lib.hid (Rd.zeros w z 5)
  have hlen := numSec_length hn
  have hss := wsealed_any (some ⟨w.heap.size, 0, none⟩) z (List.replicate z 0) An cn ns (w.alloc (.cells (Array.replicate z (.int .u8 0)) 5)) (by simpa [by8] using HRD.out) (rep0_isB _) (by simp; omega) (hrn.below (bl_alloc _ _)) hn h01
  unfold numSec at hlen ⊢
  rw [hz] at hlen ⊢
  rw [hlen, List.length_replicate] at hss
  have HSS := Lib.hid hss
  clear hrn h01 hss hlen
  go_enter Try.func54, Try.ntmps54
  go_wp2_with (first
    | (go_at_call 41; (with_reducible refine HSS.out.mono ?_); rintro e w1 ⟨A1, c1, rfl, hc1, ho1, hb1⟩; have HO1 := Lib.hid ho1; have HB1 := Lib.hid hb1; have HC1 := Lib.hid hc1; clear ho1 hb1 hc1))

  go_ret
  exact ⟨A1, c1, rfl, HC1.out, ownsRow_base HO1.out (by simp), bl_chain (bl_alloc _ _) HB1.out⟩
end Go.Proofs.Ytceajiliahmkaaa
