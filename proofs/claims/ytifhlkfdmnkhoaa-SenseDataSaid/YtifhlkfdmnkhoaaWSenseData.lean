/- The walk of SenseData. -/
import Derived.Test.YtifhlkfdmnkhoaaSense6
namespace Go.Proofs.Ytifhlkfdmnkhoaa
set_option linter.unusedVariables false
open Go.RowKit

theorem rdV_sense (k a q : Int) (h : okR k a q) : rdV (senseB k a q) 2 = k ∧ rdV (senseB k a q) 12 = a ∧ rdV (senseB k a q) 13 = q ∧ rdE (senseB k a q) = 0 := by
  have hl : ¬ (senseB k a q).length < 18 := by simp [senseB]
  have ho : rdOk (senseB k a q) := ⟨h, rfl⟩
  have e : ∀ i, rdV (senseB k a q) i = (senseB k a q).getD i 0 := fun i => (if_neg hl).trans (if_pos ho)
  exact ⟨e 2, e 12, e 13, (if_neg hl).trans (if_pos ho)⟩

set_option maxHeartbeats 1600000 in
theorem senseData_walk (s d : Value) (k a q : Int) (A : Option Addr) (c : Nat) (l : List Int) (w : World) (hr : Rd w A (by8 l)) (hc : l.length ≤ c) (hB : isB l) (hl : l.length ≤ 140737488351232) :
    Calls Try.prog 5 #[.agg #[s, .int .i64 k, .int .i64 a, .int .i64 q, d], .slice A l.length c] w fun e w' => e = .returned (.bool true) ∧ Below w.heap.size w w' := by
  have HR := Lib.hid (hr.below (bl_alloc w (.cells #[s, .int .i64 k, .int .i64 a, .int .i64 q, d] 34)))
  have BK := Lib.hid (Blk.newAt w w.heap.size 34 #[s, .int .i64 k, .int .i64 a, .int .i64 q, d] rfl)
  clear hr
  obtain ⟨L, hL⟩ : ∃ x, dataL k a q = x := ⟨_, rfl⟩
  obtain ⟨E, hE⟩ : ∃ x, dataE k a q = x := ⟨_, rfl⟩
  have HD := Lib.hid (data_any s d k a q)
  have HRD := Lib.hid (rdata_any s d k a q)
  rw [hL, hE] at HD HRD
  have hcase : (E = 0 ∧ okR k a q ∧ L = senseB k a q) ∨ (E = 1 ∧ L = []) := by
    subst hL; subst hE
    by_cases h : okR k a q
    · exact .inl ⟨if_pos h, h, if_pos h⟩
    · exact .inr ⟨if_neg h, if_neg h⟩
  have LB : Hid (isB L ∧ L.length ≤ 18) := Lib.hid (by
    rcases hcase with ⟨_, h, rfl⟩ | ⟨_, rfl⟩
    · exact ⟨senseB_isB h, by simp [senseB]⟩
    · exact ⟨isB.nil, by simp⟩)
  clear hL hE
  rcases hcase with ⟨rfl, hok, hLs⟩ | ⟨rfl, hL0⟩
  · have HOK := Lib.hid hok
    have HL := Lib.hid hLs
    have hrx : ∀ (A : Option Addr) (c : Nat) (w : World), Rd w A (by8 L) → Calls Try.prog 20 #[.slice A L.length c] w fun e w' => e = .returned (.tuple #[.int .i64 k, .int .i64 a, .int .i64 q, .int .i64 0]) ∧ Below w.heap.size w w' := fun A c w h => by
      have hh := read_any A c L w h LB.out.1 (by have := LB.out.2; omega)
      obtain ⟨r1, r2, r3, r4⟩ := rdV_sense k a q hok
      unfold RetRead at hh
      rw [hLs, r1, r2, r3, r4] at hh
      rw [hLs]
      exact hh
    have HRX := Lib.hid hrx
    clear hrx
    clear hok hLs
    go_enter Try.func5, Try.ntmps5
    go_wp2_with (first
      | (go_at_call 8; (with_reducible refine (lent_any A c l _ HR.out hl).mono ?_); rintro e w1 ⟨g, cap, rfl, ho1, hb1⟩; have hcap := own_pre1 ho1 rfl; have hbk := BK.out.keep hb1; have d0 := hbk.cell 0; have d1 := hbk.cell 1; have d2 := hbk.cell 2; have d3 := hbk.cell 3; have d4 := hbk.cell 4; simp at d0 d1 d2 d3 d4; have HR1 := Lib.hid (HR.out.below hb1); have HO1 := Lib.hid ho1; have HB1 := Lib.hid hb1; have HOL := Lib.hid (Rd.of_own (own_pre8 ho1)); clear ho1 hb1 hbk)
      | (go_at_call 18; (with_reducible refine (HD.out _).mono ?_); rintro e w2 ⟨A2, c2, rfl, hc2, hr2, hb2⟩; have hbk := (BK.out.keep HB1.out).keep hb2; have d0 := hbk.cell 0; have d1 := hbk.cell 1; have d2 := hbk.cell 2; have d3 := hbk.cell 3; have d4 := hbk.cell 4; simp at d0 d1 d2 d3 d4; have HR2 := Lib.hid hr2; have HB2 := Lib.hid hb2; clear hr2 hb2 hbk)
      | (go_at_call 19; (with_reducible refine (HRD.out _).mono ?_); rintro e w3 ⟨A3, c3, rfl, hc3, hr3, hb3⟩; have HR3 := Lib.hid hr3; have HB3 := Lib.hid hb3; have HB13 := Lib.hid (bl_chain HB2.out hb3); clear hr3 hb3)
      | (go_at_call 20; (with_reducible refine (read_any (some ⟨g, 0, none⟩) cap l _ (HOL.out.below HB13.out) hB (by omega)).mono ?_); rintro e w4 ⟨rfl, hb4⟩; have HB14 := Lib.hid (bl_chain HB13.out hb4); have HB4 := Lib.hid hb4; clear hb4)
      | (go_at_call 21; (with_reducible refine (rread_any A c l _ (HR1.out.below HB14.out) hB (by omega)).mono ?_); rintro e w5 ⟨rfl, hb5⟩; have HB15 := Lib.hid (bl_chain HB14.out hb5); have hb35 := bl_chain HB4.out hb5; have k3 := conv8 _ c3 (HR3.out.below hb35) rfl; have k2 := conv8 _ c2 (HR2.out.below (bl_chain HB3.out hb35)) rfl; have HR5 := Lib.hid (HR2.out.below (bl_chain HB3.out hb35)); clear hb5 hb35)
      | (go_at_call 11; (with_reducible refine (kept_any A c g cap l _ (HR1.out.below HB15.out) ((Rd.of_own HO1.out).below HB15.out) hcap hl).mono ?_); rintro e w6 ⟨rfl, rfl⟩)
      | (go_at_call 20; (with_reducible refine (HRX.out A2 c2 _ HR5.out).mono ?_); rintro e w7 ⟨rfl, hb7⟩; have hbk := ((BK.out.keep HB1.out).keep HB15.out).keep hb7; have d1 := hbk.cell 1; have d2 := hbk.cell 2; have d3 := hbk.cell 3; simp at d1 d2 d3; have HB7 := Lib.hid hb7; clear hb7 hbk)
      | (go_at_call 13; (with_reducible refine (known_any _).mono ?_); rintro e w8 ⟨rfl, hb8⟩; have HB8 := Lib.hid hb8; clear hb8))
    go_ret
    exact ⟨rfl, bl_chain (bl_alloc w _) (bl_chain HB1.out (bl_chain HB15.out (bl_chain HB7.out HB8.out)))⟩
  · clear hL0
    go_enter Try.func5, Try.ntmps5
    go_wp2_with (first
      | (go_at_call 8; (with_reducible refine (lent_any A c l _ HR.out hl).mono ?_); rintro e w1 ⟨g, cap, rfl, ho1, hb1⟩; have hcap := own_pre1 ho1 rfl; have hbk := BK.out.keep hb1; have d0 := hbk.cell 0; have d1 := hbk.cell 1; have d2 := hbk.cell 2; have d3 := hbk.cell 3; have d4 := hbk.cell 4; simp at d0 d1 d2 d3 d4; have HR1 := Lib.hid (HR.out.below hb1); have HO1 := Lib.hid ho1; have HB1 := Lib.hid hb1; have HOL := Lib.hid (Rd.of_own (own_pre8 ho1)); clear ho1 hb1 hbk)
      | (go_at_call 18; (with_reducible refine (HD.out _).mono ?_); rintro e w2 ⟨A2, c2, rfl, hc2, hr2, hb2⟩; have hbk := (BK.out.keep HB1.out).keep hb2; have d0 := hbk.cell 0; have d1 := hbk.cell 1; have d2 := hbk.cell 2; have d3 := hbk.cell 3; have d4 := hbk.cell 4; simp at d0 d1 d2 d3 d4; have HR2 := Lib.hid hr2; have HB2 := Lib.hid hb2; clear hr2 hb2 hbk)
      | (go_at_call 19; (with_reducible refine (HRD.out _).mono ?_); rintro e w3 ⟨A3, c3, rfl, hc3, hr3, hb3⟩; have HR3 := Lib.hid hr3; have HB3 := Lib.hid hb3; have HB13 := Lib.hid (bl_chain HB2.out hb3); clear hr3 hb3)
      | (go_at_call 20; (with_reducible refine (read_any (some ⟨g, 0, none⟩) cap l _ (HOL.out.below HB13.out) hB (by omega)).mono ?_); rintro e w4 ⟨rfl, hb4⟩; have HB14 := Lib.hid (bl_chain HB13.out hb4); have HB4 := Lib.hid hb4; clear hb4)
      | (go_at_call 21; (with_reducible refine (rread_any A c l _ (HR1.out.below HB14.out) hB (by omega)).mono ?_); rintro e w5 ⟨rfl, hb5⟩; have HB15 := Lib.hid (bl_chain HB14.out hb5); have hb35 := bl_chain HB4.out hb5; have k3 := conv8 _ c3 (HR3.out.below hb35) rfl; have k2 := conv8 _ c2 (HR2.out.below (bl_chain HB3.out hb35)) rfl; have HR5 := Lib.hid (HR2.out.below (bl_chain HB3.out hb35)); clear hb5 hb35)
      | (go_at_call 11; (with_reducible refine (kept_any A c g cap l _ (HR1.out.below HB15.out) ((Rd.of_own HO1.out).below HB15.out) hcap hl).mono ?_); rintro e w6 ⟨rfl, rfl⟩)
      | (go_at_call 13; (with_reducible refine (known_any _).mono ?_); rintro e w8 ⟨rfl, hb8⟩; have HB8 := Lib.hid hb8; clear hb8))
    go_ret
    exact ⟨rfl, bl_chain (bl_alloc w _) (bl_chain HB1.out (bl_chain HB15.out HB8.out))⟩

end Go.Proofs.Ytifhlkfdmnkhoaa
