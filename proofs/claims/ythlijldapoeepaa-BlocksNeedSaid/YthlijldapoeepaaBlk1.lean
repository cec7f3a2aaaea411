/- Layer 6: the small functions. -/
import Derived.Test.YthlijldapoeepaaNum8
import Derived.Test.YthlijldapoeepaaGetN
import Derived.Test.YthlijldapoeepaaRdr
import Derived.Test.YthlijldapoeepaaCrcX
import Derived.Test.YthlijldapoeepaaAppZ
namespace Go.Proofs.Ythlijldapoeepaa
set_option linter.unusedVariables false
set_option linter.unusedSimpArgs false
set_option maxRecDepth 100000
open Go.RowKit

def rowsN (n : Nat) : Nat := (n + 2) / 3
theorem rows_any (n : Nat) (hn : n ≤ 256) (w : World) : Calls Try.prog 15 #[.int .i64 n] w fun e w' => e = .returned (.int .i64 (rowsN n)) ∧ w = w' := by
  go_enter Try.func15, Try.ntmps15
  go_wp2_with fail
  go_ret
  refine ⟨?_, rfl⟩
  simp only [rowsN]
  first | rfl | (congr 3; go_num) | (congr 3; omega)

def needI (n : Int) : Int := if n < 1 ∨ n > 256 then 0 else 19 + 2 * (rowsN n.toNat : Int)
theorem need_ok (n : Nat) (h0 : 1 ≤ n) (h1 : n ≤ 256) (w : World) : Calls Try.prog 5 #[.int .i64 n] w fun e w' => e = .returned (.int .i64 ((19 + 2 * rowsN n : Nat) : Int)) ∧ w = w' := by
  have hr : rowsN n ≤ 86 := by unfold rowsN; omega
  go_enter Try.func5, Try.ntmps5
  go_wp2_with (first | (go_at_call 15; refine (rows_any n h1 _).mono ?_; rintro e w1 ⟨rfl, rfl⟩))
  go_ret
  refine ⟨?_, rfl⟩
  first | rfl | (congr 3; go_num) | (congr 3; omega)
theorem need_no (n : Int) (h : n < 1 ∨ n > 256) (w : World) : Calls Try.prog 5 #[.int .i64 n] w fun e w' => e = .returned (.int .i64 0) ∧ w = w' := by
  by_cases h0 : n < 1
  · go_enter Try.func5, Try.ntmps5
    go_wp2_with fail
    go_ret
    exact ⟨rfl, rfl⟩
  · have h1 : n > 256 := by omega
    go_enter Try.func5, Try.ntmps5
    go_wp2_with fail
    go_ret
    exact ⟨rfl, rfl⟩

def n8 (ns : List Int) : List Int := ns.flatMap (be 8)
theorem n8_length (ns : List Int) : (n8 ns).length = 8 * ns.length := by
  induction ns with
  | nil => rfl
  | cons n ns ih => simp only [n8, List.flatMap_cons, List.length_append, be_length, List.length_cons] at ih ⊢; omega
theorem n8_isB (ns : List Int) : isB (n8 ns) := by
  intro x hx
  obtain ⟨n, _, hn⟩ := List.mem_flatMap.1 hx
  exact be_isB 8 n x hn
theorem n8_snoc (ns : List Int) (k : Nat) (h : k < ns.length) : n8 (ns.take (k + 1)) = n8 (ns.take k) ++ be 8 ns[k] := by
  simp only [n8]
  rw [List.take_succ_eq_append_getElem h, List.flatMap_append]
  simp

set_option maxHeartbeats 400000 in
theorem numbers_any (A : Option Addr) (c : Nat) (ns : List Int) (w : World) (hr : Rd w A (i64s ns)) (hn : ns.length ≤ 1000) (h01 : ∀ n ∈ ns, 0 ≤ n ∧ n < 9223372036854775808) :
    Calls Try.prog 52 #[.slice A ns.length c] w fun e w' => ∃ A' c', e = .returned (.slice A' (8 * ns.length) c') ∧ 8 * ns.length ≤ c' ∧
      w'.ownsRow w.heap.size 5 1 (.slice A' (8 * ns.length) c') (8 * ns.length) (by8 (n8 ns)) ∧ Below w.heap.size w w' := by
  have HR := Lib.hid hr
  have H01 := Lib.hid h01
  clear hr h01
  go_enter Try.func52, Try.ntmps52
  go_wp2_with (first | (go_at_call 49; refine (newWriter_any _).mono ?_; rintro e w1 ⟨rfl, hw1, hb1⟩; have HW1 := Lib.hid hw1; have HB1 := Lib.hid hb1; clear hw1 hb1))
  go_loopw [5, 11] (fun _ v w2 => ∃ (k : Nat), k ≤ ns.length ∧ v = .int .i64 k ∧ IsWriter w2 w.heap.size w.heap.size (n8 (ns.take k)) 0 ∧ Below w.heap.size w w2) (fun _ v _ => ns.length - (intOf v).toNat)
  case atStart => exact ⟨0, by omega, rfl, HW1.out, HB1.out⟩
  case round =>
    obtain ⟨k, hk, rfl, hw, hb⟩ := hrel
    have HW := Lib.hid hw
    have HB := Lib.hid hb
    clear hw hb
    have hz := HB.out.size
    have hlen : (n8 (ns.take k)).length ≤ 8000 := by rw [n8_length, List.length_take]; omega
    by_cases hlt : k < ns.length
    · obtain ⟨ad, rfl, hblk, hcell⟩ := (HR.out.below HB.out).at_ (k := k) (by simp [i64s]; exact hlt)
      simp only [i64s, List.getElem_map] at hcell
      have hb0 := H01.out ns[k] (List.getElem_mem hlt)
      go_wp2_with (first | (go_at_call 50; refine (num8 w.heap.size w.heap.size (n8 (ns.take k)) ns[k] _ hz HW.out (by omega) (by omega) (by omega)).mono ?_; rintro e w3 ⟨rfl, hw3, hb3⟩; have HW3 := Lib.hid hw3; have HB3 := Lib.hid hb3; clear hw3 hb3))
      go_roundw
      case rel => exact ⟨k + 1, by omega, by go_num, by rw [n8_snoc ns k hlt]; exact HW3.out, HB.out.trans HB3.out⟩
      case measure => simp [intOf]; omega
    · have hk' : k = ns.length := by omega
      subst hk'
      rw [List.take_length] at HW hlen
      go_wp2_with (first | (go_at_call 51; refine (end_any w.heap.size w.heap.size (n8 ns) _ HW.out (by omega)).mono ?_; rintro e w3 ⟨A', c', rfl, hc', ho', hb'⟩; have HC' := Lib.hid hc'; have HO' := Lib.hid ho'; have HB' := Lib.hid hb'; clear ho' hb' hc'))
      go_ret
      have e := n8_length ns
      refine ⟨A', c', by rw [e]; rfl, by have := HC'.out; omega, ?_, HB.out.trans (HB'.out.mono hz)⟩
      rw [← e]
      exact ownsRow_base HO'.out hz

def sealL (l : List Int) : List Int := be 4 (crc l) ++ l
theorem sealL_length (l : List Int) : (sealL l).length = l.length + 4 := by simp [sealL, be_length]; omega
theorem sealL_isB {l : List Int} (h : isB l) : isB (sealL l) := (be_isB 4 _).append h

set_option maxHeartbeats 800000 in
theorem sealed_any (A : Option Addr) (c : Nat) (l : List Int) (w : World) (hr : Rd w A (by8 l)) (hB : isB l) (hl : l.length ≤ 100000) :
    Calls Try.prog 53 #[.slice A l.length c] w fun e w' => ∃ A' c', e = .returned (.slice A' (sealL l).length c') ∧ (sealL l).length ≤ c' ∧
      w'.ownsRow w.heap.size 5 1 (.slice A' (sealL l).length c') (sealL l).length (by8 (sealL l)) ∧ Below w.heap.size w w' := by
  have HR := Lib.hid hr
  have hU := crc_u l
  have hU0 := hU.1
  have hU1 := hU.2
  have HS := Lib.hid (sealL_length l)
  clear hr hU
  generalize hcr : crc l = r at hU0 hU1
  have HCR := Lib.hid hcr
  clear hcr
  go_enter Try.func53, Try.ntmps53
  go_wp2_with (first
    | (go_at_call 49; refine (newWriter_any _).mono ?_; rintro e w1 ⟨rfl, hw1, hb1⟩; have HW1 := Lib.hid hw1; have HB1 := Lib.hid hb1; have hz1 := hb1.size; clear hw1 hb1)
    | (go_at_call 56; refine (sum_any A c l _ (HR.out.below HB1.out) hB (by omega)).mono ?_; rintro e w2 ⟨rfl, rfl⟩; rw [HCR.out])
    | (go_at_call 50; refine (num4 w.heap.size w.heap.size [] r _ hz1 HW1.out (by simp) hU0 hU1).mono ?_; rintro e w3 ⟨rfl, hw3, hb3⟩; have HW3 := Lib.hid hw3; have HB3 := Lib.hid hb3; have hz3 := hb3.size; clear hw3 hb3)
    | (go_at_call 51; refine (end_any w.heap.size w.heap.size ([] ++ be 4 r) _ HW3.out (by simp [be_length])).mono ?_; rintro e w4 ⟨A', c', rfl, hc', ho', hb'⟩; have HC' := Lib.hid hc'; have HO' := Lib.hid ho'; have HB' := Lib.hid hb'; clear ho' hb' hc')
    | (at_builtin; refine wpL_append E8 rfl rfl HO'.out rfl ((HR.out.below (HB1.out.trans HB3.out)).below HB'.out) rfl (by simp [by8]) (by8_one l) (sealL l).length (by8 (sealL l)) (by simp [sealL, be_length]) (by rw [sealL, HCR.out]; simp [by8]) (by simp only [maxLen]; have := HS.out; omega) (by have := HS.out; omega) (by have := HB'.out.size; omega) ?_; intro A5 c5 w5 hc5 ho5 ht5 ha5; have HO5 := Lib.hid ho5; have HT5 := Lib.hid ht5; have HC5 := Lib.hid hc5; clear ho5 ht5 hc5))
  go_ret
  refine ⟨A5, c5, rfl, HC5.out, ownsRow_base HO5.out (by omega), ?_⟩
  have t1 : Below w.heap.size w w4 := HB1.out.trans (HB3.out.trans (HB'.out.mono (by omega)))
  exact bl_tr t1 HT5.out (fun b hb => Nat.le_trans (by omega) (own_ge HO'.out b hb))

end Go.Proofs.Ythlijldapoeepaa
