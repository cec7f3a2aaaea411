/- Contracts of sense: the reference's States; the statement's same. -/
import Derived.Test.YtifhlkfdmnkhoaaSense11
namespace Go.Proofs.Ytifhlkfdmnkhoaa
set_option linter.unusedVariables false
open Go.RowKit

theorem isB_at {l : List Int} (h : isB l) {i : Nat} (hi : i < l.length) : 0 ≤ l[i]?.getD 0 ∧ l[i]?.getD 0 < 256 := h _ (by rw [List.getElem?_eq_getElem hi]; exact List.getElem_mem _)
theorem isB_portRs {ss : List Int} (h : ∀ i, i < ss.length → okS (ss[i]?.getD 0) = true) (h5 : ss.length ≤ 5) : ∀ k, k ≤ ss.length → isB (portRs ss k)
  | 0, _ => fun x hx => by simp [portRs] at hx
  | k + 1, hk => fun x hx => by
    rw [portRs, List.mem_append] at hx
    rcases hx with hx | hx
    · exact isB_portRs h h5 k (by omega) x hx
    · have := okS_cases (h k (by omega))
      simp only [portR, List.mem_cons, List.not_mem_nil, or_false] at hx
      omega
theorem isB_portsL {ss : List Int} (h : portsE ss = 0) : isB (portsL ss) := by
  have hok := portsE_ok h
  rw [show portsL ss = portsM ss from if_pos hok]
  unfold portsOk at hok
  simp only [Bool.and_eq_true, decide_eq_true_eq, List.all_eq_true] at hok
  intro x hx
  unfold portsM at hx
  rw [List.mem_append] at hx
  rcases hx with hx | hx
  · exact be_isB 4 _ x hx
  · exact isB_portRs (fun i hi => by rw [List.getElem?_eq_getElem hi]; exact hok.2 _ (List.getElem_mem hi)) hok.1 _ (Nat.le_refl _) x hx

set_option maxHeartbeats 1000000 in
theorem rstates_any (c : Nat) (A : Option Addr) (l : List Int) (w : World) (hr : Rd w A (by8 l)) (hB : isB l) (hl : l.length ≤ 140737488355328) (hc : l.length ≤ c) :
    Calls Try.prog 29 #[.slice A l.length c] w (RetI w (stL l) (stE l)) := by
  have HR := Lib.hid hr
  have HB := Lib.hid hB
  clear hr hB
  by_cases h4 : l.length < 4
  · have HF : Hid (stE l = 10 ∧ stL l = []) := Lib.hid (by
      have h10 : stE l = 10 := if_pos h4
      exact ⟨h10, by unfold stL; rw [h10]; rfl⟩)
    have i1 : (l.length : Int) < 4 := by omega
    go_enter Try.func29, Try.ntmps29
    go_wp2_with fail
    go_ret2
    rw [HF.out.1, HF.out.2]
    exact ⟨none, 0, rfl, Rd.nil, Below.refl _ _⟩
  · have HG := Lib.hid (rget4_any A c l w HR.out HB.out hl)
    have hg := HG.out
    rw [show getV 4 l = unb (l.take 4) from if_neg h4, show getE 4 l = 0 from if_neg h4] at hg
    obtain ⟨N, hN⟩ : ∃ N, unb (l.take 4) = N := ⟨_, rfl⟩
    have HM' := Lib.hid hN
    rw [hN] at hg
    have hN0 : 0 ≤ N ∧ N < 4294967296 := by rw [← hN]; have := unb_range HB.out 4 (by omega); simpa using this
    have hwN : IntKind.u64.wrap ((l.length : Int) - 4) = (l.length : Int) - 4 := by show ((l.length : Int) - 4) % 18446744073709551616 = _; omega
    have i1 : (4 : Int) ≤ (l.length : Int) := by omega
    have HG4 := Lib.hid hg
    clear hg HG hN
    by_cases hn : (l.length : Int) - 4 < N
    · have HF : Hid (stE l = 10 ∧ stL l = []) := Lib.hid (by
        have h10 : stE l = 10 := (if_neg h4).trans (if_pos (by rw [HM'.out]; exact hn))
        exact ⟨h10, by unfold stL; rw [h10]; rfl⟩)
      go_enter Try.func29, Try.ntmps29
      go_wp2_with (first
        | (go_at_call 39; (with_reducible refine (HG4.out).mono ?_); rintro e w' ⟨rfl, rfl⟩))
      go_ret2
      rw [HF.out.1, HF.out.2]
      exact ⟨none, 0, rfl, Rd.nil, Below.refl _ _⟩
    · go_enter Try.func29, Try.ntmps29
      go_wp2_with (first
        | (go_at_call 39; (with_reducible refine (HG4.out).mono ?_); rintro e w' ⟨rfl, rfl⟩))
      go_loopw [6, 7] (fun u v w2 => ∃ (k : Nat) (A2 : Option Addr) (c2 : Nat), k ≤ min 6 (stF l) ∧ v = .int .i64 ((4 + 12 * k : Nat) : Int) ∧ u = .slice A2 k c2 ∧ w2.ownsRow w.heap.size 3 1 (.slice A2 k c2) k (i64s (heads l k)) ∧ Below w.heap.size w w2) (fun _ v _ => l.length + 12 - (intOf v).toNat)
      case atStart => exact ⟨0, none, 0, by omega, rfl, rfl, ownsRow_emp _ _ _ _, Below.refl _ _⟩
      case round =>
        obtain ⟨k, A2, c2, hk, rfl, rfl, ho, hb⟩ := hrel
        have HO := Lib.hid ho
        have HBB := Lib.hid hb
        clear ho hb
        have hz := HBB.out.size
        have hfl : 12 * stF l ≤ l.length - 4 ∧ l.length - 4 < 12 * stF l + 12 := by unfold stF; omega
        by_cases hlt : k < stF l ∧ k ≤ 5
        · obtain ⟨hlt, h6⟩ := hlt
          · have j1 : ((4 + 12 * k : Nat) : Int) + 12 ≤ (l.length : Int) := by omega
            have j2 : (k : Int) ≤ 5 := by omega
            have hsn := heads_snoc l k
            obtain ⟨ad, rfl, _, hcell⟩ := (HR.out.below HBB.out).at_ (k := 4 + 12 * k) (by rw [by8_length]; omega)
            rw [by8_get l (4 + 12 * k) (by omega)] at hcell
            have hx := HB.out l[4 + 12 * k] (List.getElem_mem (by omega))
            rw [List.getElem?_eq_getElem (show 4 + 12 * k < l.length by omega), Option.getD_some] at hsn
            obtain ⟨x, hxx⟩ : ∃ x, l[4 + 12 * k]'(by omega) = x := ⟨_, rfl⟩
            rw [hxx] at hcell hx hsn
            have hwx : IntKind.i64.wrap x = x := IntWalk.i64_in _ (by omega)
            have M4 : Hid (i64s (heads l k) ++ [.int .i64 x] = i64s (heads l (k + 1))) := Lib.hid (by rw [hsn]; simp [i64s])
            have j3 : (0 : Int) ≤ ((4 + 12 * k : Nat) : Int) := by omega
            have j4 : ((4 + 12 * k : Nat) : Int) < (l.length : Int) := by omega
            clear hsn hxx
            go_wp2_with (first
              | (at_builtin; refine wpL_append EI rfl rfl (HO.out.alloc _) rfl (Rd.new1 wr _ (.int .i64 x)) rfl (by simp) (by simp [Value.oneCell']) (k + 1) _ rfl M4.out (by simp only [maxLen]; omega) (by omega) (by simp; omega) ?_; intro A4 c4 w4 hc4 ho4 ht4 _; have HO4 := Lib.hid ho4; have HB4 := Lib.hid (bl_tr (bl_chain HBB.out (bl_alloc wr _)) ht4 (fun x hx => own_ge HO.out x hx)); clear ho4 ht4))
            exact ⟨⟨k + 1, A4, c4, by omega, by rw [Nat.mul_succ]; go_num, rfl, HO4.out, HB4.out⟩, by simp [intOf]; omega⟩
        · have hex : (((4 + 12 * k : Nat) : Int) + 12 ≤ (l.length : Int) ∧ (5 : Int) < k) ∨ (l.length : Int) < ((4 + 12 * k : Nat) : Int) + 12 := by omega
          have hkm : k = min 6 (stF l) := by omega
          have hst := st_six l (by omega)
          rw [← hkm] at hst
          have hes : stE l = if stOk l = true then 0 else 11 := (if_neg h4).trans (if_neg (by rw [HM'.out]; omega))
          have hlh := heads_length l k
          have hnb : k ≤ 140737488351232 := by omega
          have hkf : stOk l = true → stF l = k := fun h => by
            unfold stOk portsOk at h
            simp only [Bool.and_eq_true, decide_eq_true_eq, heads_length] at h
            omega
          obtain ⟨hs, hhs⟩ : ∃ hs, heads l k = hs := ⟨_, rfl⟩
          rw [hhs] at hst HO hlh
          have HST := Lib.hid hst
          have HES := Lib.hid hes
          have HHS := Lib.hid hhs
          have HLH := Lib.hid hlh
          have HKF := Lib.hid hkf
          clear hst hes hhs hlh hkf hkm hlt hfl hk
          have hd : (portsE hs = 0 ∧ portsL hs = l) ∨ portsE hs ≠ 0 ∨ (portsE hs = 0 ∧ portsL hs ≠ l) := by
            by_cases h1 : portsE hs = 0
            · by_cases h2 : portsL hs = l
              · exact .inl ⟨h1, h2⟩
              · exact .inr (.inr ⟨h1, h2⟩)
            · exact .inr (.inl h1)
          have hp := rports_n A2 c2 k hs
          rcases hd with ⟨hE0, hq⟩ | hE0 | ⟨hE0, hq⟩
          · have HF : Hid (stE l = 0 ∧ stL l = hs) := Lib.hid (by
              have h0 : stE l = 0 := by rw [HES.out, if_pos (HST.out.1 ⟨hE0, hq⟩)]
              refine ⟨h0, ?_⟩
              unfold stL
              rw [if_pos h0, HKF.out (HST.out.1 ⟨hE0, hq⟩), HHS.out])
            rw [hE0, hq] at hp
            have HP := Lib.hid hp
            clear hp hE0 hq
            rcases hex with ⟨j1, j2⟩ | j1
            all_goals
              go_wp2_with (first
                | (go_at_call 27; (with_reducible refine (HP.out wr (Rd.of_own HO.out) HLH.out hnb).mono ?_); rintro e w8 ⟨A8, c8, rfl, hc8, ho, hb⟩; have k1 := conv8 l.length c8 (Rd.of_own ho) rfl; have k2 := conv8 l.length c (HR.out.below (bl_chain HBB.out hb)) rfl; have B8 := Lib.hid (bl_chain HBB.out hb); have Q8 := Lib.hid hb; clear ho hb))
              go_ret2
              rw [HF.out.1, HF.out.2]
              exact ⟨A2, c2, by rw [HLH.out]; rfl, Rd.of_own (own_below (B := 0) HO.out Q8.out), B8.out⟩
          · have HF : Hid (stE l = 11 ∧ stL l = []) := Lib.hid (by
              have h11 : stE l = 11 := by rw [HES.out, if_neg (fun h => hE0 (HST.out.2 h).1)]
              exact ⟨h11, by unfold stL; rw [h11]; rfl⟩)
            obtain ⟨e0, he0⟩ : ∃ e0, portsE hs = e0 := ⟨_, rfl⟩
            rw [he0] at hp hE0
            have HP := Lib.hid hp
            have hb0 : (e0 != 0) = true := by simpa using hE0
            clear hp he0 hE0
            rcases hex with ⟨j1, j2⟩ | j1
            all_goals
              go_wp2_with (first
                | (go_at_call 27; (with_reducible refine (HP.out wr (Rd.of_own HO.out) HLH.out hnb).mono ?_); rintro e w8 ⟨A8, c8, rfl, hc8, ho, hb⟩; have B8 := Lib.hid (bl_chain HBB.out hb); clear ho hb))
              go_ret2
              rw [HF.out.1, HF.out.2]
              exact ⟨none, 0, rfl, Rd.nil, B8.out⟩
          · have HF : Hid (stE l = 11 ∧ stL l = []) := Lib.hid (by
              have h11 : stE l = 11 := by rw [HES.out, if_neg (fun h => hq (HST.out.2 h).2)]
              exact ⟨h11, by unfold stL; rw [h11]; rfl⟩)
            have hsn := str_ne (isB_portsL hE0) HB.out hq
            rw [hE0] at hp
            have HP := Lib.hid hp
            clear hp hE0 hq
            rcases hex with ⟨j1, j2⟩ | j1
            all_goals
              go_wp2_with (first
                | (go_at_call 27; (with_reducible refine (HP.out wr (Rd.of_own HO.out) HLH.out hnb).mono ?_); rintro e w8 ⟨A8, c8, rfl, hc8, ho, hb⟩; have k1 := conv8 (portsL hs).length c8 (Rd.of_own ho) rfl; have k2 := conv8 l.length c (HR.out.below (bl_chain HBB.out hb)) rfl; have B8 := Lib.hid (bl_chain HBB.out hb); clear ho hb))
              go_ret2
              rw [HF.out.1, HF.out.2]
              exact ⟨none, 0, rfl, Rd.nil, B8.out⟩

/-! ### same -/
set_option maxHeartbeats 400000 in
theorem same_any (A B : Option Addr) (ca cb : Nat) (l : List Int) (w : World) (hr : Rd w A (i64s l)) (hs : Rd w B (i64s l)) (hl : l.length ≤ 140737488355328) :
    Calls Try.prog 30 #[.slice A l.length ca, .slice B l.length cb] w fun e w' => e = .returned (.bool true) ∧ Below w.heap.size w w' := by
  have HR := Lib.hid hr
  have HS := Lib.hid hs
  clear hr hs
  have hne : ((l.length : Int) != (l.length : Int)) = false := by simp
  go_enter Try.func30, Try.ntmps30
  go_wp2_with fail
  go_loopw [5] (fun v w2 => ∃ k : Nat, k ≤ l.length ∧ v = .int .i64 k ∧ Below w.heap.size w w2) (fun v _ => l.length - (intOf v).toNat)
  case atStart => exact ⟨0, by omega, rfl, Below.refl _ _⟩
  case round =>
    obtain ⟨k, hk, rfl, hb⟩ := hrel
    have HB := Lib.hid hb
    clear hb
    by_cases hlt : k < l.length
    · obtain ⟨ad, rfl, _, hc1⟩ := (HR.out.below HB.out).at_ (k := k) (by simp [i64s]; exact hlt)
      obtain ⟨bd, rfl, _, hc2⟩ := (HS.out.below HB.out).at_ (k := k) (by simp [i64s]; exact hlt)
      simp only [i64s, List.getElem_map] at hc1 hc2
      have hbn : (l[k] != l[k]) = false := by simp
      go_wp2_with fail
      go_quiet (fail)
      go_wp2_with fail
      exact ⟨⟨k + 1, by omega, by go_num, bl_chain HB.out ⟨rfl, rfl, rfl, Nat.le_refl _, fun _ _ => rfl⟩⟩, by simp [intOf]; omega⟩
    · have hk' : k = l.length := by omega
      subst hk'
      go_wp2_with fail
      go_ret
      exact ⟨rfl, HB.out⟩

end Go.Proofs.Ytifhlkfdmnkhoaa
