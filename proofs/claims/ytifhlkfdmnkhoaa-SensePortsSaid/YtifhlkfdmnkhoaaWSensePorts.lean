/- The walk of SensePorts. -/
import Derived.Test.YtifhlkfdmnkhoaaSense12
namespace Go.Proofs.Ytifhlkfdmnkhoaa
set_option linter.unusedVariables false
open Go.RowKit

theorem states_x (b off c n : Nat) (l : List Int) (w : World) (hr : Rd w (some ⟨b, off, none⟩) (by8 l)) (hb : b < w.heap.size) (hB : isB l) (hn : l.length = n) (hl : n ≤ 140737488355328) (hc : n ≤ c) (ss : List Int) (er : Int) (h1 : stL l = ss) (h2 : stE l = er) :
    Calls Try.prog 28 #[.slice (some ⟨b, off, none⟩) n c] w (RetI w ss er) := by
  subst hn h1 h2
  exact states_any b off c none l w hr hb hB hl hc

set_option maxHeartbeats 2000000 in
theorem sensePorts_walk (A : Option Addr) (c : Nat) (ss : List Int) (B : Option Addr) (d : Nat) (l : List Int) (w : World) (hr : Rd w A (i64s ss)) (hc : ss.length ≤ c) (hI : ∀ x ∈ ss, -9223372036854775808 ≤ x ∧ x ≤ 9223372036854775807) (hl : ss.length ≤ 17592186043904)
    (hs : Rd w B (by8 l)) (hd : l.length ≤ d) (hB : isB l) (hm : l.length ≤ 140737488351232) :
    Calls Try.prog 7 #[.slice A ss.length c, .slice B l.length d] w fun e w' => e = .returned (.bool true) ∧ Below w.heap.size w w' := by
  have HR := Lib.hid hr
  have HS := Lib.hid hs
  have HB := Lib.hid hB
  clear hr hs hB
  have HSL : Hid ((stL l).length ≤ 140737488355328) := Lib.hid (by
    unfold stL
    split
    · rw [heads_length]; unfold stF; omega
    · simp)
  obtain ⟨E, hE⟩ : ∃ E, portsE ss = E := ⟨_, rfl⟩
  by_cases hz : E = 0
  · subst hz
    have SB := Lib.hid (st_back hE)
    have HPB := Lib.hid (isB_portsL hE)
    have HPL : Hid (4 ≤ (portsL ss).length ∧ (portsL ss).length ≤ 140737488355328) := Lib.hid (by
      have hok := portsE_ok hE
      rw [show portsL ss = portsM ss from if_pos hok, portsM_length]
      unfold portsOk at hok
      simp only [Bool.and_eq_true, decide_eq_true_eq] at hok
      omega)
    have hp := ports_any A c ss
    have hq := rports_any A c ss
    rw [hE] at hp hq
    have HP := Lib.hid hp
    have HQ := Lib.hid hq
    clear hp hq hE
    go_enter Try.func7, Try.ntmps7
    go_wp2_with (first
      | (go_at_call 8; (with_reducible refine (lent_any B d l w HS.out hm).mono ?_); rintro e w1 ⟨g, cap, rfl, ho, hb⟩; have hcap := own_pre1 ho rfl; have O1 := Lib.hid (Rd.of_own ho); have B1 := Lib.hid hb; have hg := own_lt ho g rfl; clear ho hb)
      | (go_at_call 26; (with_reducible refine (HP.out w1 (HR.out.below B1.out) (by omega)).mono ?_); rintro e w2 ⟨A2, c2, rfl, hc2, ho, hb⟩; (obtain ⟨g2, rfl⟩ := ownsRow_addr ho (by have := HPL.out.1; omega)); have hg2 := own_lt ho g2 rfl; have O2 := Lib.hid (Rd.of_own ho); have B2 := Lib.hid hb; clear ho hb)
      | (go_at_call 27; (with_reducible refine (HQ.out w2 (HR.out.below (bl_chain B1.out B2.out)) (by omega)).mono ?_); rintro e w3 ⟨A3, c3, rfl, hc3, ho, hb⟩; have O3 := Lib.hid (Rd.of_own ho); have B3 := Lib.hid hb; clear ho hb)
      | (go_at_call 28; (with_reducible refine (states_x g 0 cap l.length l w3 (Rd.take_of (k := l.length) (O1.out.below (bl_chain B2.out B3.out)) _ (by simp [by8])) (by have h1 := B2.out.size; have h2 := B3.out.size; omega) HB.out rfl (by omega) (by omega) (stL l) (stE l) rfl rfl).mono ?_); rintro e w4 ⟨A4, c4, rfl, hr, hb⟩; have O4 := Lib.hid hr; have B4 := Lib.hid hb; clear hr hb)
      | (go_at_call 29; (with_reducible refine (rstates_any d B l w4 (HS.out.below (bl_chain B1.out (bl_chain B2.out (bl_chain B3.out B4.out)))) HB.out (by omega) hd).mono ?_); rintro e w5 ⟨A5, c5, rfl, hr, hb⟩; have k3 := conv8 (portsL ss).length c3 (O3.out.below (bl_chain B4.out hb)) rfl; have k2 := conv8 (portsL ss).length c2 (O2.out.below (bl_chain B3.out (bl_chain B4.out hb))) rfl; have O5 := Lib.hid hr; have B5 := Lib.hid hb; clear hr hb)
      | (go_at_call 30; (with_reducible refine (same_any A4 A5 c4 c5 (stL l) w5 (O4.out.below B5.out) O5.out HSL.out).mono ?_); rintro e w6 ⟨rfl, hb⟩; have B6 := Lib.hid hb; clear hb k2 k3)
      | (go_at_call 11; (with_reducible refine (kept_any B d g cap l w6 (HS.out.below (bl_chain B1.out (bl_chain B2.out (bl_chain B3.out (bl_chain B4.out (bl_chain B5.out B6.out)))))) (O1.out.below (bl_chain B2.out (bl_chain B3.out (bl_chain B4.out (bl_chain B5.out B6.out))))) hcap (by omega)).mono ?_); rintro e w' ⟨rfl, rfl⟩)
      | (go_at_call 28; (with_reducible refine (states_x g2 0 c2 (portsL ss).length (portsL ss) w6 (O2.out.below (bl_chain B3.out (bl_chain B4.out (bl_chain B5.out B6.out)))) (by have h1 := B3.out.size; have h2 := B4.out.size; have h3 := B5.out.size; have h4 := B6.out.size; omega) HPB.out rfl HPL.out.2 hc2 ss 0 SB.out.2 SB.out.1).mono ?_); rintro e w7 ⟨A7, c7, rfl, hr, hb⟩; have O7 := Lib.hid hr; have B7 := Lib.hid hb; clear hr hb)
      | (go_at_call 30; (with_reducible refine (same_any A7 A c7 c ss w7 O7.out (HR.out.below (bl_chain B1.out (bl_chain B2.out (bl_chain B3.out (bl_chain B4.out (bl_chain B5.out (bl_chain B6.out B7.out))))))) (by omega)).mono ?_); rintro e w8 ⟨rfl, hb⟩; have B8 := Lib.hid hb; clear hb)
      | (go_at_call 13; (with_reducible refine (known_any _).mono ?_); rintro e w9 ⟨rfl, hb⟩; have B9 := Lib.hid hb; clear hb))
    go_ret
    exact ⟨rfl, bl_chain B1.out (bl_chain B2.out (bl_chain B3.out (bl_chain B4.out (bl_chain B5.out (bl_chain B6.out (bl_chain B7.out (bl_chain B8.out B9.out)))))))⟩
  · have hp := ports_any A c ss
    have hq := rports_any A c ss
    rw [hE] at hp hq
    have HP := Lib.hid hp
    have HQ := Lib.hid hq
    have hb0 : (E != 0) = true := by simpa using hz
    clear hp hq hE hz
    go_enter Try.func7, Try.ntmps7
    go_wp2_with (first
      | (go_at_call 8; (with_reducible refine (lent_any B d l w HS.out hm).mono ?_); rintro e w1 ⟨g, cap, rfl, ho, hb⟩; have hcap := own_pre1 ho rfl; have O1 := Lib.hid (Rd.of_own ho); have B1 := Lib.hid hb; have hg := own_lt ho g rfl; clear ho hb)
      | (go_at_call 26; (with_reducible refine (HP.out w1 (HR.out.below B1.out) (by omega)).mono ?_); rintro e w2 ⟨A2, c2, rfl, hc2, ho, hb⟩; have O2 := Lib.hid (Rd.of_own ho); have B2 := Lib.hid hb; clear ho hb)
      | (go_at_call 27; (with_reducible refine (HQ.out w2 (HR.out.below (bl_chain B1.out B2.out)) (by omega)).mono ?_); rintro e w3 ⟨A3, c3, rfl, hc3, ho, hb⟩; have O3 := Lib.hid (Rd.of_own ho); have B3 := Lib.hid hb; clear ho hb)
      | (go_at_call 28; (with_reducible refine (states_x g 0 cap l.length l w3 (Rd.take_of (k := l.length) (O1.out.below (bl_chain B2.out B3.out)) _ (by simp [by8])) (by have h1 := B2.out.size; have h2 := B3.out.size; omega) HB.out rfl (by omega) (by omega) (stL l) (stE l) rfl rfl).mono ?_); rintro e w4 ⟨A4, c4, rfl, hr, hb⟩; have O4 := Lib.hid hr; have B4 := Lib.hid hb; clear hr hb)
      | (go_at_call 29; (with_reducible refine (rstates_any d B l w4 (HS.out.below (bl_chain B1.out (bl_chain B2.out (bl_chain B3.out B4.out)))) HB.out (by omega) hd).mono ?_); rintro e w5 ⟨A5, c5, rfl, hr, hb⟩; have k3 := conv8 (portsL ss).length c3 (O3.out.below (bl_chain B4.out hb)) rfl; have k2 := conv8 (portsL ss).length c2 (O2.out.below (bl_chain B3.out (bl_chain B4.out hb))) rfl; have O5 := Lib.hid hr; have B5 := Lib.hid hb; clear hr hb)
      | (go_at_call 30; (with_reducible refine (same_any A4 A5 c4 c5 (stL l) w5 (O4.out.below B5.out) O5.out HSL.out).mono ?_); rintro e w6 ⟨rfl, hb⟩; have B6 := Lib.hid hb; clear hb k2 k3)
      | (go_at_call 11; (with_reducible refine (kept_any B d g cap l w6 (HS.out.below (bl_chain B1.out (bl_chain B2.out (bl_chain B3.out (bl_chain B4.out (bl_chain B5.out B6.out)))))) (O1.out.below (bl_chain B2.out (bl_chain B3.out (bl_chain B4.out (bl_chain B5.out B6.out))))) hcap (by omega)).mono ?_); rintro e w' ⟨rfl, rfl⟩)
      | (go_at_call 13; (with_reducible refine (known_any _).mono ?_); rintro e w9 ⟨rfl, hb⟩; have B9 := Lib.hid hb; clear hb))
    go_ret
    exact ⟨rfl, bl_chain B1.out (bl_chain B2.out (bl_chain B3.out (bl_chain B4.out (bl_chain B5.out (bl_chain B6.out B9.out)))))⟩
end Go.Proofs.Ytifhlkfdmnkhoaa
