/- The walk of SenseInquiry. -/
import Derived.Test.YtifhlkfdmnkhoaaDoorInq4
namespace Go.Proofs.YtifhlkfdmnkhoaaDoor
set_option linter.unusedVariables false
open Go.RowKit

theorem inqA (lun : Int) (w : World) (hk : Kin w) (h0 : 0 ≤ lun) (h1 : lun ≤ 255) : Calls Tryd.prog 4 #[.bool false, .int .i64 0, .int .i64 lun] w (RetI w 36 stdL 0) := inq_std lun w h0 h1
theorem inqB (lun : Int) (w : World) (hk : Kin w) (h0 : 0 ≤ lun) (h1 : lun ≤ 255) : Calls Tryd.prog 4 #[.bool true, .int .i64 0, .int .i64 lun] w (RetI w 7 pagesL 0) := inq_vital 0 lun w hk h0 h1
theorem inqC (lun : Int) (w : World) (hk : Kin w) (h0 : 0 ≤ lun) (h1 : lun ≤ 255) : Calls Tryd.prog 4 #[.bool true, .int .i64 128, .int .i64 lun] w (RetI w 15 (serP lun) 0) := inq_vital 128 lun w hk h0 h1
theorem inqD (lun : Int) (w : World) (hk : Kin w) (h0 : 0 ≤ lun) (h1 : lun ≤ 255) : Calls Tryd.prog 4 #[.bool true, .int .i64 131, .int .i64 lun] w (RetI w 19 (idsP lun) 0) := inq_vital 131 lun w hk h0 h1
theorem rinqA (lun : Int) (w : World) (h0 : 0 ≤ lun) (h1 : lun ≤ 255) : Calls Tryd.prog 5 #[.bool false, .int .i64 0, .int .i64 lun] w (RetI w 36 stdL 0) := rinq_std lun w h0 h1
theorem rinqB (lun : Int) (w : World) (h0 : 0 ≤ lun) (h1 : lun ≤ 255) : Calls Tryd.prog 5 #[.bool true, .int .i64 0, .int .i64 lun] w (RetI w 7 pagesL 0) := rinq_vital 0 lun w h0 h1
theorem rinqC (lun : Int) (w : World) (h0 : 0 ≤ lun) (h1 : lun ≤ 255) : Calls Tryd.prog 5 #[.bool true, .int .i64 128, .int .i64 lun] w (RetI w 15 (serP lun) 0) := rinq_vital 128 lun w h0 h1
theorem rinqD (lun : Int) (w : World) (h0 : 0 ≤ lun) (h1 : lun ≤ 255) : Calls Tryd.prog 5 #[.bool true, .int .i64 131, .int .i64 lun] w (RetI w 19 (idsP lun) 0) := rinq_vital 131 lun w h0 h1

set_option maxHeartbeats 800000 in
theorem inqlawA (lun : Int) (w : World) (hk : Kin w) (h0 : 0 ≤ lun) (h1 : lun ≤ 255) : Calls Tryd.prog 3 #[.bool false, .int .i64 0, .int .i64 lun] w fun e w' => e = .returned (.bool true) ∧ Below w.heap.size w w' := by
  have HK := Lib.hid hk
  have HL := Lib.hid (show (stdL : List Int).length = 36 from rfl)
  clear hk
  go_enter Tryd.func3, Tryd.ntmps3
  go_wp2_with (first
    | (go_at_call 4; (with_reducible refine (inqA lun _ HK.out h0 h1).mono ?_); rintro e w1 ⟨A1, c1, rfl, hc1, ho1, hb1⟩; have HO1 := Lib.hid ho1; have HB1 := Lib.hid hb1; clear ho1 hb1)
    | (go_at_call 5; (with_reducible refine (rinqA lun _ h0 h1).mono ?_); rintro e w2 ⟨A2, c2, rfl, hc2, ho2, hb2⟩; have k2 := conv8 _ c2 (Rd.of_own ho2) HL.out; have k1 := conv8 _ c1 ((Rd.of_own HO1.out).below hb2) HL.out; have HO2 := Lib.hid ho2; have HB2 := Lib.hid (bl_chain HB1.out hb2); have HP1 := Lib.hid (ownsRow_base (base' := 0) (own_below (B := 0) HO1.out hb2) (Nat.zero_le _)); clear ho2 hb2)
    | (go_at_call 7; (with_reducible refine (spoil_any A1 36 c1 _ _ HP1.out (by omega)).mono ?_); rintro e w3 ⟨rfl, ht3⟩; have HB3 := Lib.hid (bl_tr HB2.out ht3 (fun x hx => own_ge HO1.out x hx));
        have HQ2 := Lib.hid (ownsRow_tr HO2.out ht3 (fun b hb hx => by
          obtain ⟨g1, rfl⟩ := ownsRow_addr HO1.out (by omega)
          have e1 := ownsRow_ge HO2.out b hb
          have e2 := cell_block_lt ((Rd.of_own HO1.out).cell8 0 _ (List.getElem?_eq_getElem (show 0 < (stdL : List Int).length by rw [HL.out]; omega)))
          have e3 := (Blo.some_iff _ _).1 hx
          simp at e2 e3
          omega)); clear ht3 k1 k2)
    | (go_at_call 4; (with_reducible refine (inqA lun _ (HK.out.below HB3.out) h0 h1).mono ?_); rintro e w4 ⟨A3, c3, rfl, hc3, ho3, hb3⟩; have k2 := conv8 _ c2 (Rd.of_own (own_below (B := 0) HQ2.out hb3)) HL.out; have k3 := conv8 _ c3 (Rd.of_own ho3) HL.out; obtain ⟨g3, rfl⟩ := ownsRow_addr ho3 (by omega); have kc := (Rd.of_own ho3).cell8 4 31 rfl; have HB4 := Lib.hid (bl_chain HB3.out hb3); clear ho3 hb3)
    | (go_at_call 6; (with_reducible refine (known_any _).mono ?_); rintro e w7 ⟨rfl, hb7⟩; have HB7 := Lib.hid hb7; clear hb7))
  go_ret
  exact ⟨rfl, bl_chain HB4.out HB7.out⟩
set_option maxHeartbeats 800000 in
theorem inqlawB (lun : Int) (w : World) (hk : Kin w) (h0 : 0 ≤ lun) (h1 : lun ≤ 255) : Calls Tryd.prog 3 #[.bool true, .int .i64 0, .int .i64 lun] w fun e w' => e = .returned (.bool true) ∧ Below w.heap.size w w' := by
  have HK := Lib.hid hk
  have HL := Lib.hid (show (pagesL : List Int).length = 7 from rfl)
  clear hk
  go_enter Tryd.func3, Tryd.ntmps3
  go_wp2_with (first
    | (go_at_call 4; (with_reducible refine (inqB lun _ HK.out h0 h1).mono ?_); rintro e w1 ⟨A1, c1, rfl, hc1, ho1, hb1⟩; have HO1 := Lib.hid ho1; have HB1 := Lib.hid hb1; clear ho1 hb1)
    | (go_at_call 5; (with_reducible refine (rinqB lun _ h0 h1).mono ?_); rintro e w2 ⟨A2, c2, rfl, hc2, ho2, hb2⟩; have k2 := conv8 _ c2 (Rd.of_own ho2) HL.out; have k1 := conv8 _ c1 ((Rd.of_own HO1.out).below hb2) HL.out; have HO2 := Lib.hid ho2; have HB2 := Lib.hid (bl_chain HB1.out hb2); have HP1 := Lib.hid (ownsRow_base (base' := 0) (own_below (B := 0) HO1.out hb2) (Nat.zero_le _)); clear ho2 hb2)
    | (go_at_call 7; (with_reducible refine (spoil_any A1 7 c1 _ _ HP1.out (by omega)).mono ?_); rintro e w3 ⟨rfl, ht3⟩; have HB3 := Lib.hid (bl_tr HB2.out ht3 (fun x hx => own_ge HO1.out x hx));
        have HQ2 := Lib.hid (ownsRow_tr HO2.out ht3 (fun b hb hx => by
          obtain ⟨g1, rfl⟩ := ownsRow_addr HO1.out (by omega)
          have e1 := ownsRow_ge HO2.out b hb
          have e2 := cell_block_lt ((Rd.of_own HO1.out).cell8 0 _ (List.getElem?_eq_getElem (show 0 < (pagesL : List Int).length by rw [HL.out]; omega)))
          have e3 := (Blo.some_iff _ _).1 hx
          simp at e2 e3
          omega)); clear ht3 k1 k2)
    | (go_at_call 4; (with_reducible refine (inqB lun _ (HK.out.below HB3.out) h0 h1).mono ?_); rintro e w4 ⟨A3, c3, rfl, hc3, ho3, hb3⟩; have k2 := conv8 _ c2 (Rd.of_own (own_below (B := 0) HQ2.out hb3)) HL.out; have k3 := conv8 _ c3 (Rd.of_own ho3) HL.out; obtain ⟨g3, rfl⟩ := ownsRow_addr ho3 (by omega); have kc := (Rd.of_own ho3).cell8 3 3 rfl; have HB4 := Lib.hid (bl_chain HB3.out hb3); clear ho3 hb3)
    | (go_at_call 6; (with_reducible refine (known_any _).mono ?_); rintro e w7 ⟨rfl, hb7⟩; have HB7 := Lib.hid hb7; clear hb7))
  go_ret
  exact ⟨rfl, bl_chain HB4.out HB7.out⟩
set_option maxHeartbeats 800000 in
theorem inqlawC (lun : Int) (w : World) (hk : Kin w) (h0 : 0 ≤ lun) (h1 : lun ≤ 255) : Calls Tryd.prog 3 #[.bool true, .int .i64 128, .int .i64 lun] w fun e w' => e = .returned (.bool true) ∧ Below w.heap.size w w' := by
  have HK := Lib.hid hk
  have HL := Lib.hid (show ((serP lun) : List Int).length = 15 from rfl)
  clear hk
  go_enter Tryd.func3, Tryd.ntmps3
  go_wp2_with (first
    | (go_at_call 4; (with_reducible refine (inqC lun _ HK.out h0 h1).mono ?_); rintro e w1 ⟨A1, c1, rfl, hc1, ho1, hb1⟩; have HO1 := Lib.hid ho1; have HB1 := Lib.hid hb1; clear ho1 hb1)
    | (go_at_call 5; (with_reducible refine (rinqC lun _ h0 h1).mono ?_); rintro e w2 ⟨A2, c2, rfl, hc2, ho2, hb2⟩; have k2 := conv8 _ c2 (Rd.of_own ho2) HL.out; have k1 := conv8 _ c1 ((Rd.of_own HO1.out).below hb2) HL.out; have HO2 := Lib.hid ho2; have HB2 := Lib.hid (bl_chain HB1.out hb2); have HP1 := Lib.hid (ownsRow_base (base' := 0) (own_below (B := 0) HO1.out hb2) (Nat.zero_le _)); clear ho2 hb2)
    | (go_at_call 7; (with_reducible refine (spoil_any A1 15 c1 _ _ HP1.out (by omega)).mono ?_); rintro e w3 ⟨rfl, ht3⟩; have HB3 := Lib.hid (bl_tr HB2.out ht3 (fun x hx => own_ge HO1.out x hx));
        have HQ2 := Lib.hid (ownsRow_tr HO2.out ht3 (fun b hb hx => by
          obtain ⟨g1, rfl⟩ := ownsRow_addr HO1.out (by omega)
          have e1 := ownsRow_ge HO2.out b hb
          have e2 := cell_block_lt ((Rd.of_own HO1.out).cell8 0 _ (List.getElem?_eq_getElem (show 0 < ((serP lun) : List Int).length by rw [HL.out]; omega)))
          have e3 := (Blo.some_iff _ _).1 hx
          simp at e2 e3
          omega)); clear ht3 k1 k2)
    | (go_at_call 4; (with_reducible refine (inqC lun _ (HK.out.below HB3.out) h0 h1).mono ?_); rintro e w4 ⟨A3, c3, rfl, hc3, ho3, hb3⟩; have k2 := conv8 _ c2 (Rd.of_own (own_below (B := 0) HQ2.out hb3)) HL.out; have k3 := conv8 _ c3 (Rd.of_own ho3) HL.out; obtain ⟨g3, rfl⟩ := ownsRow_addr ho3 (by omega); have kc := (Rd.of_own ho3).cell8 3 11 rfl; have HB4 := Lib.hid (bl_chain HB3.out hb3); clear ho3 hb3)
    | (go_at_call 6; (with_reducible refine (known_any _).mono ?_); rintro e w7 ⟨rfl, hb7⟩; have HB7 := Lib.hid hb7; clear hb7))
  go_ret
  exact ⟨rfl, bl_chain HB4.out HB7.out⟩
set_option maxHeartbeats 800000 in
theorem inqlawD (lun : Int) (w : World) (hk : Kin w) (h0 : 0 ≤ lun) (h1 : lun ≤ 255) : Calls Tryd.prog 3 #[.bool true, .int .i64 131, .int .i64 lun] w fun e w' => e = .returned (.bool true) ∧ Below w.heap.size w w' := by
  have HK := Lib.hid hk
  have HL := Lib.hid (show ((idsP lun) : List Int).length = 19 from rfl)
  clear hk
  go_enter Tryd.func3, Tryd.ntmps3
  go_wp2_with (first
    | (go_at_call 4; (with_reducible refine (inqD lun _ HK.out h0 h1).mono ?_); rintro e w1 ⟨A1, c1, rfl, hc1, ho1, hb1⟩; have HO1 := Lib.hid ho1; have HB1 := Lib.hid hb1; clear ho1 hb1)
    | (go_at_call 5; (with_reducible refine (rinqD lun _ h0 h1).mono ?_); rintro e w2 ⟨A2, c2, rfl, hc2, ho2, hb2⟩; have k2 := conv8 _ c2 (Rd.of_own ho2) HL.out; have k1 := conv8 _ c1 ((Rd.of_own HO1.out).below hb2) HL.out; have HO2 := Lib.hid ho2; have HB2 := Lib.hid (bl_chain HB1.out hb2); have HP1 := Lib.hid (ownsRow_base (base' := 0) (own_below (B := 0) HO1.out hb2) (Nat.zero_le _)); clear ho2 hb2)
    | (go_at_call 7; (with_reducible refine (spoil_any A1 19 c1 _ _ HP1.out (by omega)).mono ?_); rintro e w3 ⟨rfl, ht3⟩; have HB3 := Lib.hid (bl_tr HB2.out ht3 (fun x hx => own_ge HO1.out x hx));
        have HQ2 := Lib.hid (ownsRow_tr HO2.out ht3 (fun b hb hx => by
          obtain ⟨g1, rfl⟩ := ownsRow_addr HO1.out (by omega)
          have e1 := ownsRow_ge HO2.out b hb
          have e2 := cell_block_lt ((Rd.of_own HO1.out).cell8 0 _ (List.getElem?_eq_getElem (show 0 < ((idsP lun) : List Int).length by rw [HL.out]; omega)))
          have e3 := (Blo.some_iff _ _).1 hx
          simp at e2 e3
          omega)); clear ht3 k1 k2)
    | (go_at_call 4; (with_reducible refine (inqD lun _ (HK.out.below HB3.out) h0 h1).mono ?_); rintro e w4 ⟨A3, c3, rfl, hc3, ho3, hb3⟩; have k2 := conv8 _ c2 (Rd.of_own (own_below (B := 0) HQ2.out hb3)) HL.out; have k3 := conv8 _ c3 (Rd.of_own ho3) HL.out; obtain ⟨g3, rfl⟩ := ownsRow_addr ho3 (by omega); have kc := (Rd.of_own ho3).cell8 3 15 rfl; have HB4 := Lib.hid (bl_chain HB3.out hb3); clear ho3 hb3)
    | (go_at_call 6; (with_reducible refine (known_any _).mono ?_); rintro e w7 ⟨rfl, hb7⟩; have HB7 := Lib.hid hb7; clear hb7))
  go_ret
  exact ⟨rfl, bl_chain HB4.out HB7.out⟩

set_option maxHeartbeats 800000 in
theorem inqlaw11 (v : Bool) (page lun : Int) (w : World) (hI : Calls Tryd.prog 4 #[.bool v, .int .i64 page, .int .i64 lun] w (RetI w 0 [] 11))
    (hR : ∀ w, Calls Tryd.prog 5 #[.bool v, .int .i64 page, .int .i64 lun] w (RetI w 0 [] 11)) : Calls Tryd.prog 3 #[.bool v, .int .i64 page, .int .i64 lun] w fun e w' => e = .returned (.bool true) ∧ Below w.heap.size w w' := by
  have HI := Lib.hid hI
  have HRR := Lib.hid hR
  clear hI hR
  go_enter Tryd.func3, Tryd.ntmps3
  go_wp2_with (first
    | (go_at_call 4; (with_reducible refine HI.out.mono ?_); rintro e w1 ⟨A1, c1, rfl, hc1, ho1, hb1⟩; have HO1 := Lib.hid ho1; have HB1 := Lib.hid hb1; clear ho1 hb1)
    | (go_at_call 5; (with_reducible refine (HRR.out _).mono ?_); rintro e w2 ⟨A2, c2, rfl, hc2, ho2, hb2⟩; have k2 := conv8 0 c2 (Rd.of_own ho2) rfl; have k1 := conv8 0 c1 ((Rd.of_own HO1.out).below hb2) rfl; have HB2 := Lib.hid (bl_chain HB1.out hb2); clear ho2 hb2)
    | (go_at_call 6; (with_reducible refine (known_any _).mono ?_); rintro e w7 ⟨rfl, hb7⟩; have HB7 := Lib.hid hb7; clear hb7))
  go_ret
  exact ⟨rfl, bl_chain HB2.out HB7.out⟩
set_option maxHeartbeats 800000 in
theorem inqlaw1 (v : Bool) (page lun : Int) (w : World) (hI : Calls Tryd.prog 4 #[.bool v, .int .i64 page, .int .i64 lun] w (RetI w 0 [] 1))
    (hR : ∀ w, Calls Tryd.prog 5 #[.bool v, .int .i64 page, .int .i64 lun] w (RetI w 0 [] 1)) : Calls Tryd.prog 3 #[.bool v, .int .i64 page, .int .i64 lun] w fun e w' => e = .returned (.bool true) ∧ Below w.heap.size w w' := by
  have HI := Lib.hid hI
  have HRR := Lib.hid hR
  clear hI hR
  go_enter Tryd.func3, Tryd.ntmps3
  go_wp2_with (first
    | (go_at_call 4; (with_reducible refine HI.out.mono ?_); rintro e w1 ⟨A1, c1, rfl, hc1, ho1, hb1⟩; have HO1 := Lib.hid ho1; have HB1 := Lib.hid hb1; clear ho1 hb1)
    | (go_at_call 5; (with_reducible refine (HRR.out _).mono ?_); rintro e w2 ⟨A2, c2, rfl, hc2, ho2, hb2⟩; have k2 := conv8 0 c2 (Rd.of_own ho2) rfl; have k1 := conv8 0 c1 ((Rd.of_own HO1.out).below hb2) rfl; have HB2 := Lib.hid (bl_chain HB1.out hb2); clear ho2 hb2)
    | (go_at_call 6; (with_reducible refine (known_any _).mono ?_); rintro e w7 ⟨rfl, hb7⟩; have HB7 := Lib.hid hb7; clear hb7))
  go_ret
  exact ⟨rfl, bl_chain HB2.out HB7.out⟩

theorem senseInquiry_walk (v : Bool) (page lun : Int) (w : World) (hk : Kin w) : Calls Tryd.prog 3 #[.bool v, .int .i64 page, .int .i64 lun] w fun e w' => e = .returned (.bool true) ∧ Below w.heap.size w w' := by
  by_cases hl : 0 ≤ lun ∧ lun ≤ 255
  · obtain ⟨h0, h1⟩ := hl
    cases v with
    | false =>
      by_cases p0 : page = 0
      · subst p0; exact inqlawA lun w hk h0 h1
      · exact inqlaw11 false page lun w (inq_form page lun w h0 h1 p0) (fun w => rinq_form page lun w h0 h1 p0)
    | true =>
      by_cases p0 : page = 0
      · subst p0; exact inqlawB lun w hk h0 h1
      by_cases p1 : page = 128
      · subst p1; exact inqlawC lun w hk h0 h1
      by_cases p2 : page = 131
      · subst p2; exact inqlawD lun w hk h0 h1
      have a := inq_vital page lun w hk h0 h1
      have b := fun w => rinq_vital page lun w h0 h1
      simp only [vN, vL, vE, p0, p1, p2, if_false] at a b
      exact inqlaw11 true page lun w a b
  · exact inqlaw1 v page lun w (inq_bad v page lun w hl) (fun w => rinq_bad v page lun w hl)

end Go.Proofs.YtifhlkfdmnkhoaaDoor
