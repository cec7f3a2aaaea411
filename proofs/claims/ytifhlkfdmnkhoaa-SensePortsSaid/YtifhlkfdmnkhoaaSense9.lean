/- Contracts of sense: Ports of both. -/
import Derived.Test.YtifhlkfdmnkhoaaSense8
namespace Go.Proofs.Ytifhlkfdmnkhoaa
set_option linter.unusedVariables false
open Go.RowKit

def okS (s : Int) : Bool := s == 0 || s == 2 || s == 14 || s == 15
/-- The rows of a machine in state s, the i-th. -/
def portR (s : Int) (i : Nat) : List Int := [s, 141, 0, (i : Int) + 1, 0, 0, 0, 1, 0, 0, 0, (i : Int) + 1]
def portRs (ss : List Int) : Nat → List Int
  | 0 => []
  | k + 1 => portRs ss k ++ portR (ss[k]?.getD 0) k
def portsOk (ss : List Int) : Bool := decide (ss.length ≤ 5) && ss.all okS
def portsM (ss : List Int) : List Int := be 4 (12 * (ss.length : Int)) ++ portRs ss ss.length
def portsL (ss : List Int) : List Int := if portsOk ss = true then portsM ss else []
def portsE (ss : List Int) : Int := if ss.length ≤ 5 then (if ss.all okS = true then 0 else 1) else 3
theorem portRs_length (ss : List Int) : ∀ k, (portRs ss k).length = 12 * k
  | 0 => rfl
  | k + 1 => by rw [portRs, List.length_append, portRs_length ss k]; simp [portR]; omega
theorem okS_cases {s : Int} (h : okS s = true) : s = 0 ∨ s = 2 ∨ s = 14 ∨ s = 15 := by
  unfold okS at h
  simp at h
  omega
theorem or_row : ∀ x ∈ [(0 : Int), 2, 14, 15], ∀ k : Fin 5, bits .or .i64 (bits .or .i64 (x * 16777216) 9240576) ((k.val : Int) + 1) = x * 16777216 + 9240576 + ((k.val : Int) + 1) := by decide +kernel
theorem or_row' {x : Int} (h : okS x = true) {k : Nat} (hk : k < 5) : bits .or .i64 (bits .or .i64 (x * 16777216) 9240576) ((k : Int) + 1) = x * 16777216 + 9240576 + ((k : Int) + 1) :=
  or_row x (by have := okS_cases h; simp; omega) ⟨k, hk⟩
theorem port_wds {x : Int} (h : okS x = true) {k : Nat} (hk : k < 5) : wds [x * 16777216 + 9240576 + ((k : Int) + 1), 1, (k : Int) + 1] = portR x k := by
  obtain rfl | rfl | rfl | rfl := okS_cases h <;> (simp [wds, be, portR]; omega)
theorem portsOk_yes {ss : List Int} (h5 : ss.length ≤ 5) (h : ∀ i, i < ss.length → okS (ss[i]?.getD 0) = true) : ss.all okS = true := by
  rw [List.all_eq_true]
  intro x hx
  obtain ⟨i, hi, rfl⟩ := List.getElem_of_mem hx
  have := h i hi
  rwa [List.getElem?_eq_getElem hi] at this
theorem portsOk_no {ss : List Int} {k : Nat} (hk : k < ss.length) (h : okS (ss[k]?.getD 0) = false) : ss.all okS = false := by
  rw [List.all_eq_false]
  refine ⟨ss[k], List.getElem_mem hk, ?_⟩
  rw [List.getElem?_eq_getElem hk] at h
  simpa using h

set_option maxHeartbeats 1000000 in
theorem ports_any (A : Option Addr) (c : Nat) (ss : List Int) (w : World) (hr : Rd w A (i64s ss)) (hn : ss.length ≤ 140737488351232) :
    Calls Try.prog 26 #[.slice A ss.length c] w (Ret8 w (portsL ss) (portsE ss)) := by
  by_cases h5 : ss.length ≤ 5
  · have HR := Lib.hid hr
    have L0 : Hid ((wds [12 * (ss.length : Int)]).length = 4) := Lib.hid (by rfl)
    have L1 : Hid (∀ m ∈ [12 * (ss.length : Int)], 0 ≤ m ∧ m < 4294967296) := Lib.hid (by simp; omega)
    have L2 : Hid (([12 * (ss.length : Int)]).length = 1) := Lib.hid (by rfl)
    have E0 : Hid (wds [12 * (ss.length : Int)] = be 4 (12 * (ss.length : Int))) := Lib.hid (by simp [wds])
    clear hr hn
    go_enter Try.func26, Try.ntmps26
    go_wp2_with (first | (go_at_call 32; (with_reducible refine (words_n _ _ 1 [12 * (ss.length : Int)] _ (Rd.newN w _ #[.int .i64 (12 * (ss.length : Int))]) L2.out (by omega) L1.out 4 (by omega)).mono ?_); rintro e w1 ⟨A1, c1, rfl, hc1, ho1, hb1⟩; have HO1 := Lib.hid ho1; have HB1 := Lib.hid hb1; clear ho1 hb1))
    have hb01 : Below w.heap.size w w1 := bl_chain (bl_alloc w _) HB1.out
    have hz1 := HB1.out.size
    simp at hz1
    have HB01 := Lib.hid hb01
    clear hb01
    go_loopw [4, 5, 6, 7, 18] (fun u _ _ _ v w2 => ∃ (k : Nat) (A' : Option Addr) (c' : Nat), k ≤ ss.length ∧ v = .int .i64 k ∧ u = .slice A' (4 + 12 * k) c' ∧ 4 + 12 * k ≤ c' ∧ w2.ownsRow w.heap.size 5 1 (.slice A' (4 + 12 * k) c') (4 + 12 * k) (by8 (be 4 (12 * (ss.length : Int)) ++ portRs ss k)) ∧ (∀ i, i < k → okS (ss[i]?.getD 0) = true) ∧ Below w.heap.size w w2) (fun _ _ _ _ v _ => ss.length - (intOf v).toNat)
    case atStart => exact ⟨0, A1, c1, by omega, rfl, rfl, hc1, by rw [← E0.out]; simpa [portRs] using ownsRow_base HO1.out (by simp), fun i hi => by omega, HB01.out⟩
    case round =>
      obtain ⟨k, A2, c2, hk, rfl, rfl, hc2, ho2, hal2, hb2⟩ := hrel
      have HO2 := Lib.hid ho2
      have HB2 := Lib.hid hb2
      have HA2 := Lib.hid hal2
      clear ho2 hb2 hal2
      have hz := HB2.out.size
      by_cases hlt : k < ss.length
      · obtain ⟨ad, rfl, _, hcell⟩ := (HR.out.below HB2.out).at_ (k := k) (by simp [i64s]; exact hlt)
        simp only [i64s, List.getElem_map] at hcell
        obtain ⟨x, hx⟩ : ∃ x, ss[k] = x := ⟨_, rfl⟩
        rw [hx] at hcell
        have HX : Hid (ss[k]?.getD 0 = x) := Lib.hid (by rw [List.getElem?_eq_getElem hlt]; exact hx)
        clear hx
        have hkk : k < 5 := by omega
        by_cases hok : okS x = true
        · obtain ⟨N, hN⟩ : ∃ N, bits .or .i64 (bits .or .i64 (x * 16777216) 9240576) ((k : Int) + 1) = N := ⟨_, rfl⟩
          have hN2 : N = x * 16777216 + 9240576 + ((k : Int) + 1) := hN.symm.trans (or_row' hok hkk)
          have W0 := port_wds hok hkk
          rw [← hN2] at W0
          have HN1 : Hid (∀ m ∈ [N, 1, (k : Int) + 1], 0 ≤ m ∧ m < 4294967296) := Lib.hid (by have := okS_cases hok; simp; omega)
          have HN2 : Hid (([N, 1, (k : Int) + 1]).length = 3) := Lib.hid rfl
          have M3 : Hid ((by8 (portR x k)).length = 12 * 1) := Lib.hid rfl
          have M4 : Hid (by8 (be 4 (12 * (ss.length : Int)) ++ portRs ss k) ++ by8 (portR x k) = by8 (be 4 (12 * (ss.length : Int)) ++ portRs ss (k + 1))) := Lib.hid (by rw [portRs, HX.out, ← by8_append, List.append_assoc])
          have HW0 := Lib.hid W0
          have HOK := Lib.hid hok
          clear hN2 W0
          obtain rfl | rfl | rfl | rfl := okS_cases hok
          all_goals
            clear hok
            simp only [Int.reduceMul] at hN
            go_wp2_with (first
              | (go_at_call 32; (with_reducible refine (words_n _ _ 3 [N, 1, (k : Int) + 1] _ (Rd.newN wr _ #[.int .i64 N, .int .i64 1, .int .i64 ((k : Int) + 1)]) HN2.out (by omega) HN1.out 12 (by omega)).mono ?_); rintro e w3 ⟨A3, c3, rfl, hc3, ho3, hb3⟩; rw [HW0.out] at ho3; have HR3 := Lib.hid (Rd.of_own ho3); have HB3 := Lib.hid (bl_chain (bl_alloc wr _) hb3); clear ho3 hb3)
              | (at_builtin; refine wpL_append E8 rfl rfl (own_below (B := 0) HO2.out HB3.out) rfl HR3.out rfl M3.out (by8_one _) (4 + 12 * (k + 1)) _ (by omega) M4.out (by simp only [maxLen]; omega) (by omega) (by have := HB3.out.size; omega) ?_; intro A4 c4 w4 hc4 ho4 ht4 _; have HO4 := Lib.hid ho4; have HB4 := Lib.hid (bl_tr (bl_chain HB2.out HB3.out) ht4 (fun x hx => own_ge HO2.out x hx)); clear ho4 ht4))
            go_roundw
            case rel => exact ⟨k + 1, A4, c4, by omega, by go_num, rfl, hc4, HO4.out, (fun i hi => by
              by_cases h : i = k
              · subst h; rw [HX.out]; exact HOK.out
              · exact HA2.out i (by omega)), HB4.out⟩
            case measure => simp [intOf]; omega
        · have hok' : okS x = false := by simpa using hok
          have HE : Hid (portsL ss = [] ∧ portsE ss = 1) := Lib.hid (by
            have := portsOk_no hlt (HX.out ▸ hok')
            unfold portsL portsE portsOk
            simp [this, h5])
          have q : (x == 0) = false ∧ (x == 2) = false ∧ (x == 14) = false ∧ (x == 15) = false := by
            unfold okS at hok'
            simpa [Bool.or_eq_false_iff, and_assoc] using hok'
          obtain ⟨q0, q2, q14, q15⟩ := q
          clear hok hok'
          go_wp2_with fail
          go_ret2
          rw [HE.out.1, HE.out.2]
          exact ⟨none, 0, rfl, by simp, ownsRow_emp _ _ _ _, HB2.out⟩
      · obtain rfl : k = ss.length := by omega
        have HE : Hid (portsL ss = portsM ss ∧ portsE ss = 0) := Lib.hid (by
          have := portsOk_yes h5 HA2.out
          unfold portsL portsE portsOk
          simp [this, h5])
        have HLN : Hid ((portsM ss).length = 4 + 12 * ss.length) := Lib.hid (by unfold portsM; rw [List.length_append, be_length, portRs_length])
        go_wp2_with fail
        go_ret2
        rw [HE.out.1, HE.out.2]
        exact ⟨A2, c2, by rw [HLN.out]; rfl, by rw [HLN.out]; exact hc2, by rw [HLN.out]; exact HO2.out, HB2.out⟩
  · have HE : Hid (portsL ss = [] ∧ portsE ss = 3) := Lib.hid (by
      unfold portsL portsE portsOk
      simp [h5])
    have h6 : (5 : Int) < ss.length := by omega
    rw [HE.out.1, HE.out.2]
    clear hr
    go_enter Try.func26, Try.ntmps26
    go_wp2_with fail
    go_ret2
    exact Ret8.nil _ _
end Go.Proofs.Ytifhlkfdmnkhoaa
