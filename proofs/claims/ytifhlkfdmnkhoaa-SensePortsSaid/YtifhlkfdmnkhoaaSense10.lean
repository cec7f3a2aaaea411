/- Contracts of sense: the reference's Ports. -/
import Derived.Test.YtifhlkfdmnkhoaaSense9
namespace Go.Proofs.Ytifhlkfdmnkhoaa
set_option linter.unusedVariables false
open Go.RowKit

set_option maxHeartbeats 1000000 in
theorem rports_any (A : Option Addr) (c : Nat) (ss : List Int) (w : World) (hr : Rd w A (i64s ss)) (hn : ss.length ≤ 140737488351232) :
    Calls Try.prog 27 #[.slice A ss.length c] w (Ret8 w (portsL ss) (portsE ss)) := by
  by_cases h5 : ss.length ≤ 5
  · have hmk := run_make8 4 4 rfl (by omega)
    have HRP := Lib.hid (Rd.zeros w 4 5)
    have E1 : Hid ((List.replicate 4 (0 : Int)).take 0 ++ be 4 (12 * (ss.length : Int)) ++ (List.replicate 4 0).drop (0 + 4) = be 4 (12 * (ss.length : Int))) := Lib.hid (by simp)
    have L1 : Hid ((List.replicate 4 (0 : Int)).length = 4) := Lib.hid (by rfl)
    have HR := Lib.hid hr
    clear hr hn
    go_enter Try.func27, Try.ntmps27
    go_wp2_with (first
      | (go_at_call 33; with_reducible refine (at_4 _ _ 0 0 4 (by omega) (List.replicate 4 0) (12 * (ss.length : Int)) _ HRP.out L1.out (by omega) (by omega) (by omega) (by omega) _ E1.out).mono ?_; rintro e w1 ⟨A1, c1, rfl, hc1, ho1, hb1⟩; have HO1 := Lib.hid ho1; have HB1 := Lib.hid hb1; clear ho1 hb1))
    have hb01 : Below w.heap.size w w1 := bl_chain (bl_alloc w _) HB1.out
    have hz1 := HB1.out.size
    simp at hz1
    have HB01 := Lib.hid hb01
    clear hb01
    go_loopw [4, 5, 6] (fun u v _ w2 => ∃ (k : Nat) (A' : Option Addr) (c' : Nat), k ≤ ss.length ∧ v = .int .i64 k ∧ u = .slice A' (4 + 12 * k) c' ∧ 4 + 12 * k ≤ c' ∧ w2.ownsRow w.heap.size 5 1 (.slice A' (4 + 12 * k) c') (4 + 12 * k) (by8 (be 4 (12 * (ss.length : Int)) ++ portRs ss k)) ∧ (∀ i, i < k → okS (ss[i]?.getD 0) = true) ∧ Below w.heap.size w w2) (fun _ v _ _ => ss.length - (intOf v).toNat)
    case atStart => exact ⟨0, A1, c1, by omega, rfl, rfl, hc1, by simpa [portRs] using ownsRow_base HO1.out (by simp), fun i hi => by omega, HB01.out⟩
    case round =>
      obtain ⟨k, A2, c2, hk, rfl, rfl, hc2, ho2, hal2, hb2⟩ := hrel
      have HO2 := Lib.hid ho2
      have HB2 := Lib.hid hb2
      have HA2 := Lib.hid hal2
      clear ho2 hb2 hal2
      have hz := HB2.out.size
      by_cases hlt : k < ss.length
      · obtain ⟨ad, rfl, _, hcell⟩ := (HR.out.below HB2.out).at_ (k := k) (by simp [i64s]; exact hlt)
        simp only [i64s, List.getElem_map] at hcell
        obtain ⟨x, hx⟩ : ∃ x, ss[k] = x := ⟨_, rfl⟩
        rw [hx] at hcell
        have HX : Hid (ss[k]?.getD 0 = x) := Lib.hid (by rw [List.getElem?_eq_getElem hlt]; exact hx)
        clear hx
        have hkk : k < 5 := by omega
        by_cases hok : okS x = true
        · have M3 : Hid ((by8 (portR x k)).length = 12 * 1) := Lib.hid rfl
          have M4 : Hid (by8 (be 4 (12 * (ss.length : Int)) ++ portRs ss k) ++ by8 (portR x k) = by8 (be 4 (12 * (ss.length : Int)) ++ portRs ss (k + 1))) := Lib.hid (by rw [portRs, HX.out, ← by8_append, List.append_assoc])
          have HOK := Lib.hid hok
          have hw8 : IntKind.u8.wrap ((k : Int) + 1) = (k : Int) + 1 := by show ((k : Int) + 1) % 256 = _; omega
          obtain rfl | rfl | rfl | rfl := okS_cases hok
          all_goals
            clear hok
            go_wp2_with (first
              | (at_builtin; refine wpL_append E8 rfl rfl (HO2.out.alloc _) rfl (Rd.newAt wr _ _ (by8 (portR _ k)) #[.int .u8 _, .int .u8 141, .int .u8 0, .int .u8 ((k : Int) + 1), .int .u8 0, .int .u8 0, .int .u8 0, .int .u8 1, .int .u8 0, .int .u8 0, .int .u8 0, .int .u8 ((k : Int) + 1)] 0 rfl rfl) rfl M3.out (by8_one _) (4 + 12 * (k + 1)) _ (by omega) M4.out (by simp only [maxLen]; omega) (by omega) (by simp; omega) ?_; intro A4 c4 w4 hc4 ho4 ht4 _; have HO4 := Lib.hid ho4; have HB4 := Lib.hid (bl_tr (bl_chain HB2.out (bl_alloc wr _)) ht4 (fun x hx => own_ge HO2.out x hx)); clear ho4 ht4))
            go_roundw
            case rel => exact ⟨k + 1, A4, c4, by omega, by go_num, rfl, hc4, HO4.out, (fun i hi => by
              by_cases h : i = k
              · subst h; rw [HX.out]; exact HOK.out
              · exact HA2.out i (by omega)), HB4.out⟩
            case measure => simp [intOf]; omega
        · have hok' : okS x = false := by simpa using hok
          have HE : Hid (portsL ss = [] ∧ portsE ss = 1) := Lib.hid (by
            have := portsOk_no hlt (HX.out ▸ hok')
            unfold portsL portsE portsOk
            simp [this, h5])
          have q : (x != 0) = true ∧ (x != 2) = true ∧ (x != 14) = true ∧ (x != 15) = true := by
            unfold okS at hok'
            simpa [Bool.or_eq_false_iff, and_assoc] using hok'
          obtain ⟨q0, q2, q14, q15⟩ := q
          clear hok hok'
          go_wp2_with fail
          go_ret2
          rw [HE.out.1, HE.out.2]
          exact ⟨none, 0, rfl, by simp, ownsRow_emp _ _ _ _, HB2.out⟩
      · obtain rfl : k = ss.length := by omega
        have HE : Hid (portsL ss = portsM ss ∧ portsE ss = 0) := Lib.hid (by
          have := portsOk_yes h5 HA2.out
          unfold portsL portsE portsOk
          simp [this, h5])
        have HLN : Hid ((portsM ss).length = 4 + 12 * ss.length) := Lib.hid (by unfold portsM; rw [List.length_append, be_length, portRs_length])
        go_wp2_with fail
        go_ret2
        rw [HE.out.1, HE.out.2]
        exact ⟨A2, c2, by rw [HLN.out]; rfl, by rw [HLN.out]; exact hc2, by rw [HLN.out]; exact HO2.out, HB2.out⟩
  · have HE : Hid (portsL ss = [] ∧ portsE ss = 3) := Lib.hid (by
      unfold portsL portsE portsOk
      simp [h5])
    have h6 : (5 : Int) < ss.length := by omega
    rw [HE.out.1, HE.out.2]
    clear hr
    go_enter Try.func27, Try.ntmps27
    go_wp2_with fail
    go_ret2
    exact Ret8.nil _ _
end Go.Proofs.Ytifhlkfdmnkhoaa
