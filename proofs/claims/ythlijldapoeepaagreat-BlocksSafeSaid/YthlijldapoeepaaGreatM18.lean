/- Layer 6: Replace, where it may be done. -/
import Derived.Test.YthlijldapoeepaaGreatM17
import Derived.Test.YthlijldapoeepaaGreatM10
import Derived.Test.YthlijldapoeepaaGreatM2
import Derived.Test.YthlijldapoeepaaGreatM11
import Derived.Test.YthlijldapoeepaaGreatM5
namespace Go.Proofs.YthlijldapoeepaaGreat
set_option linter.unusedVariables false
set_option linter.unusedSimpArgs false
set_option maxRecDepth 100000
open Go.RowKit Go.Shelf

section
variable {w w' : World} {s d g gm F : Nat} {x : ST} {dead : Bool} {L L2 : List (List Int)} {Mi Mm Md Rr : Nat → Prop} {D : Dk.DS}
theorem Aft.more {w' : World} {Md' Rr' Mi' : Nat → Prop} (h : Aft s w w' Md Rr Mi Md' Rr' Mi') (Mm : Nat → Prop) : Aft s w w' Md Rr (fun b => Mi b ∨ Mm b) Md' Rr' Mi' :=
  ⟨h.d, h.r, fun b hb => (h.i b hb).imp .inl id, h.t.mono (fun b _ h => h.imp id (fun h => h.imp .inl id))⟩
set_option maxHeartbeats 6400000 in
theorem replace_go (h : StAt w s d g F x dead D Md Rr L Mi) {Bm : Nat} {Dm : DataW Unit} (hmi : IsImg w gm L2 Bm Dm Mm) (hl : L2.length = L.length) (n : Int) (hw : wrongS x dead n = 0) (hR : Ready D F x L.length) (hM : ∀ b, Mm b → ¬ Md b ∧ ¬ Rr b ∧ b ≠ s) :
    Calls Tryz.prog 40 #[.pointer (some ⟨s, 0, none⟩), .int .i64 n, .pointer (some ⟨gm, 0, none⟩)] w (RetRep w s d F Md Rr Mi (fun b => Mm b ∧ b ≠ gm ∧ b ≠ Bm) (replR D F x L n L2)) := by
  have hm := hmi.toImg
  have hn : 0 ≤ n ∧ n ≤ 1152921504606846976 ∧ ¬ n ≤ x.n ∧ ¬ 1152921504606846976 < n := by
    unfold wrongS at hw
    split at hw
    · cases hw
    · split at hw
      · cases hw
      · have := hR.pos.2.1.1; omega
  have hdd : dead = false := by
    unfold wrongS at hw
    cases dead with
    | false => rfl
    | true => cases hw
  subst hdd
  have c2 := h.blk.cell 2
  have c4 := h.blk.cell 4
  have c5 := h.blk.cell 5
  have c7 := h.blk.cell 7
  simp [stCells] at c2 c4 c5 c7
  have hS1 := Lib.hid (fun k => size_drew h.img k)
  have hS2 := Lib.hid (fun k => size_drew hm k)
  rw [hl] at hS2
  have HH := Lib.hid h
  have HMI := Lib.hid hmi
  have HR := Lib.hid hR
  have HM := Lib.hid hM
  have HLE := Lib.hid hl
  have h256 := h.img.ok.hi
  obtain ⟨r, hr⟩ : ∃ r, rowsN L.length = r := ⟨_, rfl⟩
  have HRN := Lib.hid (fun W => rows_any L.length h256 W)
  have hr86 : r ≤ 86 := by rw [← hr]; unfold rowsN; omega
  rw [hr] at HRN
  obtain ⟨a, ha, ha1⟩ := hR.area
  have HA := Lib.hid ha
  rw [ha] at c5
  have hw1 : IntKind.i64.wrap ((1 : Int) - (a : Int)) = ((1 - a : Nat) : Int) := by rw [IntKind.wrap_i64]; omega
  obtain ⟨a', ha'⟩ : ∃ a', 1 - a = a' := ⟨_, rfl⟩
  have ha2 : a' ≤ 1 := by omega
  rw [ha'] at hw1
  have HAA : Hid (1 - x.area = (a' : Int)) := Lib.hid (by rw [ha]; omega)
  have HRE := Lib.hid hr
  have q1 : decide (n ≤ x.n) = false := decide_eq_false hn.2.2.1
  have q2 : decide (1152921504606846976 < n) = false := decide_eq_false hn.2.2.2
  have HNB := Lib.hid hn
  clear h hm hmi hR hM hl hw ha ha' hr hn
  go_enter Tryz.func40, Tryz.ntmps40
  go_wp2_with fail
  go_quiet (first
    | (go_at_call 59; exact Calls.quiet_of_same (hS1.out _))
    | (go_at_call 59; exact Calls.quiet_of_same (hS2.out _)))
  go_wp2_with (first
    | (go_at_call 59; (with_reducible refine (hS2.out _).mono ?_); rintro e w' ⟨rfl, rfl⟩)
    | (go_at_call 19; (with_reducible refine (HRN.out _).mono ?_); rintro e w' ⟨rfl, rfl⟩))
  have HST0 := Lib.hid (HH.out.below (bl_drewN w nq))
  have HMI0 := Lib.hid (HMI.out.below (bl_drewN w nq))
  have hz0 : w.heap.size = (w.drewN nq).heap.size := rfl
  have B0 := Lib.hid (bl_drewN w nq)
  clear c2 c4 c5 c7
  generalize w.drewN nq = W0 at HST0 HMI0 hz0 B0 ⊢
  go_loopw [8, 9, 53] (fun _ _ v W => ∃ k : Nat, k ≤ r ∧ v = .int .i64 (k : Int) ∧ (∃ M R, StAt W s d g F x false (rowsD D F a' L2 (List.range k)) M R L Mi ∧ Aft s w W Md Rr Mi M R Mi ∧ Tr Md w W)) (fun _ _ v _ => r - (intOf v).toNat)
  case atStart => exact ⟨0, by omega, rfl, Md, Rr, HST0.out, (Aft.refl s w Md Rr Mi).below B0.out, Tr.of_below B0.out⟩
  case round =>
    obtain ⟨k, hk, rfl, M, R, hst, haf, htr⟩ := hrel
    obtain ⟨q1, q2, q3, q4, q5⟩ := rowsD_keeps D F a' L2 (List.range k)
    rw [List.length_range] at q5
    have HST := Lib.hid hst
    have HAF := Lib.hid haf
    have HTR := Lib.hid htr
    have c0 := hst.blk.cell 0
    have himg : Img wr gm L2 Mm := (HMI.out.tr htr (fun b hb => (HM.out b hb).1)).toImg
    have HIMG := Lib.hid himg
    have HOK := Lib.hid himg.ok
    simp [stCells] at c0
    clear hst haf htr himg
    by_cases hlt : k < r
    · have HPN := Lib.hid (show rowsD D F a' L2 (List.range (k + 1)) = Dk.writeD (rowsD D F a' L2 (List.range k)) (rowAt F L2.length a' k : Nat) (rowL L2 k) by rw [List.range_succ, rowsD_snoc])
      have HQ0 := Lib.hid (show Dk.writeE (rowsD D F a' L2 (List.range k)) (rowAt F L2.length a' k : Nat) (rowL L2 k) = 0 from writeE_row HOK.out (q2.trans HR.out.dead) ha2 (by rw [HLE.out, HRE.out]; exact hlt) (by rw [q1, HLE.out]; exact HR.out.fit))
      have HQ5 := Lib.hid (show (rowsD D F a' L2 (List.range k)).gs.length < 1000000 from by have := HR.out.few; omega)
      clear q1 q2 q3 q4 q5
      generalize rowsD D F a' L2 (List.range k) = D1 at HST HPN HQ0 HQ5
      have hFF := HR.out.F
      have hat : rowAt F L2.length a' k ≤ 1000000 := by
        unfold rowAt
        rw [HLE.out, HRE.out]
        rcases (by omega : a' = 0 ∨ a' = 1) with rfl | rfl <;> omega
      obtain ⟨z, hz⟩ : ∃ z, rowAt F L2.length a' k = z := ⟨_, rfl⟩
      rw [hz] at HPN HQ0 hat
      have HZ := Lib.hid (show rowAt F L.length a' k = z by rw [← HLE.out]; exact hz)
      clear hz
      have HSS : Hid (wr.drew.cell? ⟨s, 0, none⟩ = some (.pointer (some ⟨d, 0, none⟩)) ∧ True) := Lib.hid ⟨c0, trivial⟩
      clear c0
      go_wp2_with fail
      refine held_startB (S := fun W => W.cell? ⟨s, 0, none⟩ = some (.pointer (some ⟨d, 0, none⟩)) ∧ True) (by kernel_rfl) ?_
      refine held_take (HSS.out) (i := 0) (v := ?_) rfl (by kernel_rfl) (by kernel_rfl) (by kernel_rfl) (fun _ _ _ h => h) (Or.inl ⟨by rfl, ?_⟩) ?_
      rotate_left
      · (intro W hSw; obtain ⟨s1, s2⟩ := hSw; go_simp; try with_reducible rfl)
      try simp only [Act.put, List.setIfInBounds_toArray, List.set_cons_zero, List.set_cons_succ]
      refine held_take (HSS.out) (i := 1) (v := ?_) rfl (by kernel_rfl) (by kernel_rfl) (by kernel_rfl) (fun _ _ _ h => h) (Or.inl ⟨by rfl, ?_⟩) ?_
      rotate_left
      · (intro W hSw; obtain ⟨s1, s2⟩ := hSw; go_simp; try with_reducible rfl)
      try simp only [Act.put, List.setIfInBounds_toArray, List.set_cons_zero, List.set_cons_succ]
      refine held_take (HSS.out) (i := 2) (v := ?_) rfl (by kernel_rfl) (by kernel_rfl) (by kernel_rfl) (fun _ _ _ h => h) (Or.inl ⟨by rfl, ?_⟩) ?_
      rotate_left
      · (intro W hSw; obtain ⟨s1, s2⟩ := hSw; go_simp; try with_reducible rfl)
      try simp only [Act.put, List.setIfInBounds_toArray, List.set_cons_zero, List.set_cons_succ]
      refine held_take (HSS.out) (i := 3) (v := ?_) rfl (by kernel_rfl) (by kernel_rfl) (by kernel_rfl) (fun _ _ _ h => h) (Or.inl ⟨by rfl, ?_⟩) ?_
      rotate_left
      · (intro W hSw; obtain ⟨s1, s2⟩ := hSw; go_simp; try with_reducible rfl)
      try simp only [Act.put, List.setIfInBounds_toArray, List.set_cons_zero, List.set_cons_succ]
      refine held_take (HSS.out) (i := 4) (v := ?_) rfl (by kernel_rfl) (by kernel_rfl) (by kernel_rfl) (fun _ _ _ h => h) (Or.inl ⟨by rfl, ?_⟩) ?_
      rotate_left
      · (intro W hSw; obtain ⟨s1, s2⟩ := hSw; go_simp; try with_reducible rfl)
      try simp only [Act.put, List.setIfInBounds_toArray, List.set_cons_zero, List.set_cons_succ]
      refine held_take (HSS.out) (i := 5) (v := ?_) rfl (by kernel_rfl) (by kernel_rfl) (by kernel_rfl) (fun _ _ _ h => h) (Or.inl ⟨by rfl, ?_⟩) ?_
      rotate_left
      · (intro W hSw; obtain ⟨s1, s2⟩ := hSw; go_simp; try with_reducible rfl)
      try simp only [Act.put, List.setIfInBounds_toArray, List.set_cons_zero, List.set_cons_succ]
      refine held_take (HSS.out) (i := 6) (v := ?_) rfl (by kernel_rfl) (by kernel_rfl) (by kernel_rfl) (fun _ _ _ h => h) (Or.inl ⟨by rfl, ?_⟩) ?_
      rotate_left
      · (intro W hSw; obtain ⟨s1, s2⟩ := hSw; go_simp; try with_reducible rfl)
      try simp only [Act.put, List.setIfInBounds_toArray, List.set_cons_zero, List.set_cons_succ]
      refine held_take (HSS.out) (i := 8) (v := ?_) rfl (by kernel_rfl) (by kernel_rfl) (by kernel_rfl) (fun _ _ _ h => h) (Or.inl ⟨by rfl, ?_⟩) ?_
      rotate_left
      · (intro W hSw; obtain ⟨s1, s2⟩ := hSw; go_simp; try with_reducible rfl)
      try simp only [Act.put, List.setIfInBounds_toArray, List.set_cons_zero, List.set_cons_succ]
      refine held_take (HSS.out) (i := 9) (v := ?_) rfl (by kernel_rfl) (by kernel_rfl) (by kernel_rfl) (fun _ _ _ h => h) (Or.inl ⟨by rfl, ?_⟩) ?_
      rotate_left
      · (intro W hSw; obtain ⟨s1, s2⟩ := hSw; go_simp; try with_reducible rfl)
      try simp only [Act.put, List.setIfInBounds_toArray, List.set_cons_zero, List.set_cons_succ]
      refine held_take (HSS.out) (i := 10) (v := ?_) rfl (by kernel_rfl) (by kernel_rfl) (by kernel_rfl) (fun _ _ _ h => h) (Or.inl ⟨by rfl, ?_⟩) ?_
      rotate_left
      · (intro W hSw; obtain ⟨s1, s2⟩ := hSw; go_simp; try with_reducible rfl)
      try simp only [Act.put, List.setIfInBounds_toArray, List.set_cons_zero, List.set_cons_succ]
      refine held_call (i := 7) (by kernel_rfl) rfl (fun K hK => ?_)
      go_simp
      (go_at_call 60; (with_reducible refine (place_at (w := wr.drew) (HST.out.blk.keep (bl_drew wr)) (Img.drewW HST.out.img) a' ha2 k (by omega) hFF z HZ.out).mono ?_); rintro e w3 ⟨rfl, hb3⟩; have B3 := Lib.hid (bl_chain (bl_drew wr) hb3); have HS3 := Lib.hid (show w3.cell? ⟨s, 0, none⟩ = some (.pointer (some ⟨d, 0, none⟩)) ∧ True from ⟨(hb3.cell (cell_block_lt HSS.out.1)).trans HSS.out.1, trivial⟩); clear hb3)
      refine hK.out _ _ (HS3.out) ?_
      clear hK K
      try simp only [Act.put, List.setIfInBounds_toArray, List.set_cons_zero, List.set_cons_succ]
      refine held_call (i := 11) (by kernel_rfl) rfl (fun K hK => ?_)
      go_simp
      (go_at_call 65; (with_reducible refine (row_any _ (HIMG.out.below B3.out) k (by omega)).mono ?_); rintro e w4 ⟨A4, c4, rfl, hc4, ho4, hb4⟩; have HO4 := Lib.hid ho4; have B4 := Lib.hid (bl_chain B3.out hb4); have HS4 := Lib.hid (show w4.cell? ⟨s, 0, none⟩ = some (.pointer (some ⟨d, 0, none⟩)) ∧ True from ⟨(hb4.cell (cell_block_lt HS3.out.1)).trans HS3.out.1, trivial⟩); clear ho4 hb4)
      refine hK.out _ _ (HS4.out) ?_
      clear hK K
      try simp only [Act.put, List.setIfInBounds_toArray, List.set_cons_zero, List.set_cons_succ]
      refine held_call (i := 12) (by kernel_rfl) rfl (fun K hK => ?_)
      go_simp
      (have HWR := row_write (c := c4) (HST.out.dsk.below B4.out) (Rd.of_own HO4.out) (rowL_length HOK.out k) (rowL_isB HOK.out k) HQ5.out _ hat HQ0.out; go_at_call 50; (with_reducible refine HWR.mono ?_); rintro e w5 ⟨rfl, M5, R5, hd5, hm5, hr5, ht5⟩; have HS5 := Lib.hid (show w5.cell? ⟨s, 0, none⟩ = some (.pointer (some ⟨d, 0, none⟩)) ∧ True from ⟨(ht5.cell (cell_block_lt HS4.out.1) HST.out.sd).trans HS4.out.1, trivial⟩); have HD5 := Lib.hid hd5; have HM5 := Lib.hid hm5; have HR5 := Lib.hid hr5; have HT5 := Lib.hid ht5; clear hd5 hm5 hr5 ht5 HWR)
      refine hK.out _ _ (HS5.out) ?_
      clear hK K
      try simp only [Act.put, List.setIfInBounds_toArray, List.set_cons_zero, List.set_cons_succ]
      refine held_take (HS5.out) (i := 13) (v := ?_) rfl (by kernel_rfl) (by kernel_rfl) (by kernel_rfl) (fun _ _ _ h => h) (Or.inl ⟨by rfl, ?_⟩) ?_
      rotate_left
      · (intro W hSw; obtain ⟨s1, s2⟩ := hSw; go_simp; try with_reducible rfl)
      try simp only [Act.put, List.setIfInBounds_toArray, List.set_cons_zero, List.set_cons_succ]
      refine wpAnyH_done (by kernel_rfl) ?_ _
      go_wp2_with fail
      go_roundw
      case measure => simp [intOf]; omega
      case rel =>
        refine ⟨k + 1, by omega, by go_num, M5, R5, ?_, (HAF.out.below B4.out).disk HM5.out HR5.out (HT5.out.mono (fun _ _ h => .inl h)), ?_⟩
        · rw [HPN.out]
          exact (HST.out.below B4.out).after (HT5.out.blk (HST.out.below B4.out).blk HST.out.sd) HD5.out (HT5.out.mono (fun _ _ h => .inl h)) HM5.out HR5.out
        · exact (HTR.out.then_below B4.out).trans HT5.out (fun b hb h => (HAF.out.d b h).resolve_right (by omega))
    · obtain rfl : k = r := by omega
      have HRD : Hid (replD D F x L2 = rowsD D F a' L2 (List.range k)) := Lib.hid (by unfold replD; rw [HAA.out, HLE.out, HRE.out]; rfl)
      have HAR : Hid (replR D F x L n L2 = _) := Lib.hid (by unfold replR; rfl)
      rw [HRD.out, HAA.out] at HAR
      have hok4 := HST.out.dsk.ok
      have hg4 : (rowsD D F a' L2 (List.range k)).gs.length < 1000000 := by have := HR.out.few; omega
      clear q1 q2 q3 q4 q5 HRD
      generalize rowsD D F a' L2 (List.range k) = D1 at HST HAR hok4 hg4
      obtain ⟨e1, he1⟩ : ∃ e1, Dk.flushE D1 = e1 := ⟨_, rfl⟩
      have HFL := Lib.hid (Dk.flush_any HST.out.dsk)
      rw [he1] at HFL HAR
      obtain ⟨G, hG, hG2⟩ := HR.out.gen
      have hFF := HR.out.F
      by_cases h1 : e1 = 0
      · subst h1
        have hfd := flushE_dead he1
        have HAR2 := Lib.hid (HAR.out.trans (if_neg (by simp)))
        have HX1 : Hid ((x.next n a' 0).pos) := Lib.hid ⟨⟨by simp only [ST.next]; omega, by simp only [ST.next]; omega⟩, ⟨HNB.out.1, by simp only [ST.next]; have := HNB.out.2.1; omega⟩, ⟨by simp only [ST.next]; omega, by simp only [ST.next]; omega⟩, by simp [ST.next]⟩
        have HMK := Lib.hid (fun (W : World) (M5 R5 : Nat → Prop) (h : StAt W s d g F x false (Dk.flushD D1) M5 R5 L Mi) => mark_any h n a' 0 G hG (by omega) HX1.out (by rw [hfd.2.1]; simp) hFF)
        clear HAR he1 hfd hok4 hg4 hG
        generalize Dk.flushD D1 = D2 at HFL HAR2 HMK
        obtain ⟨e2, he2⟩ : ∃ e2, markE D2 F (x.next n a' 0) = e2 := ⟨_, rfl⟩
        unfold RetMark at HMK
        rw [he2] at HMK HAR2
        clear he2
        generalize markD D2 F (x.next n a' 0) = D3 at HMK HAR2
        by_cases h2 : e2 = 0
        · subst h2
          have HAR3 := Lib.hid (HAR2.out.trans (if_neg (by simp)))
          rw [if_pos rfl] at HMK
          clear HAR2
          go_wp2_with (first
            | (go_at_call 52; (with_reducible refine HFL.out.mono ?_); rintro e w5 ⟨rfl, hd5, ht5⟩; have HST5 := Lib.hid (HST.out.after (ht5.blk HST.out.blk HST.out.sd) hd5 (ht5.mono (fun _ _ h => .inl h)) (fun _ h => .inl h) (fun _ h => .inl h)); have AF5 := Lib.hid (HAF.out.disk (fun _ h => .inl h) (fun _ h => .inl h) (ht5.mono (fun _ _ h => .inl h))); have HT5 := Lib.hid ht5; clear hd5 ht5)
            | (go_at_call 53; (with_reducible refine (HMK.out _ _ _ HST5.out).mono ?_); rintro e w6 ⟨M6, R6, rfl, hst6, hm6, hr6, ht6⟩; have AF6 := Lib.hid (AF5.out.disk hm6 hr6 ht6); have HST6 := Lib.hid hst6; have htt : Tr (fun b => Md b ∨ b = s) w w6 := ((HTR.out.trans HT5.out (fun b hb h => (HAF.out.d b h).resolve_right (by omega))).mono (fun _ _ h => .inl h)).trans ht6 (fun b hb h => h.imp (fun h => (HAF.out.d b h).resolve_right (by omega)) id); have HTT := Lib.hid htt; have HI6 := Lib.hid (HMI.out.tr htt (fun b hb h => h.elim (HM.out b hb).1 (HM.out b hb).2.2)); clear hst6 hm6 hr6 ht6 htt)
            | (go_at_call 49; (with_reducible refine (copy_any HI6.out).mono ?_); rintro e w7 ⟨g', B', D', rfl, h1, h2, h3, h4⟩; have H3 := Lib.hid h3; have H4 := Lib.hid h4; have HST7 := Lib.hid (HST6.out.below h4); have y2 := HST7.out.blk.cell 2; have f2 := HST7.out.blk.frozen 2; simp [stCells] at y2; have hb8 : IsSt (w7.setCell ⟨s, 2, none⟩ (.pointer (some ⟨g', 0, none⟩))) s d g' F (x.next n a' 0) false := Blk.set_ HST7.out.blk 2 (.pointer (some ⟨g', 0, none⟩)); have HB8 := Lib.hid hb8; have HT8 := Lib.hid ((Tr.refl (fun b => b = s) w7).setCell (p := ⟨s, 2, none⟩) (fun _ => rfl) (.pointer (some ⟨g', 0, none⟩))); clear h3 h4 hb8)
            | (go_at_call 54; (with_reducible refine (died_any HB8.out _).mono ?_); rintro e w9 ⟨rfl, hb9, ht9⟩; have HB9 := Lib.hid hb9; have HT9 := Lib.hid ht9; clear hb9 ht9))
          go_ret
          have hz6 := AF6.out.t.size
          have hz7 := H4.out.size
          have t9 : Tr (fun b => b = s) w7 w9 := HT8.out.trans HT9.out (fun _ _ h => h)
          have hsl := HH.out.blk.lt
          have hms : ∀ b, CopyM gm Bm Mm g' B' b → b ≠ s := fun b hb => by
            rcases hb with h | rfl | rfl
            · exact (HM.out b h.1).2.2
            · omega
            · omega
          have hi9 := H3.out.tr t9 hms
          have hd9 : Dk.IsDisk w9 d D3 M6 R6 := HST7.out.dsk.tr t9 (fun b hb e => HST7.out.sd (e ▸ hb)) (fun b hb e => HST7.out.sr (e ▸ hb))
          have hmlt := HMI.out.mlt
          rw [HAR3.out]
          refine ⟨g', M6, R6, _, rfl, ⟨HB9.out, hd9, hi9.toImg, HST7.out.sd, HST7.out.sr, fun h => hms s h rfl, fun b hb => ?_⟩, ⟨AF6.out.d, AF6.out.r, fun b hb => ?_, ?_⟩, (HTT.out.then_below H4.out).trans t9 (fun b _ h => .inr h)⟩
          · rcases hb with h | rfl | rfl
            · have := hmlt b h.1
              exact ⟨fun h2 => (AF6.out.d b h2).elim (HM.out b h.1).1 (fun h => by omega), fun h2 => (AF6.out.r b h2).elim (HM.out b h.1).2.1 (fun h => by omega)⟩
            · exact ⟨fun h2 => by have := HST6.out.dsk.mlt _ h2; omega, fun h2 => by have := HST6.out.dsk.rlt _ h2; omega⟩
            · exact ⟨fun h2 => by have := HST6.out.dsk.mlt _ h2; omega, fun h2 => by have := HST6.out.dsk.rlt _ h2; omega⟩
          · rcases hb with h | rfl | rfl
            · exact .inl (.inr h)
            · exact .inr (by omega)
            · exact .inr (by omega)
          · exact ((HTT.out.then_below H4.out).trans t9 (fun b _ h => .inr h)).mono (fun b _ h => h.imp id .inr)
        · have HAR3 := Lib.hid (HAR2.out.trans (if_pos h2))
          rw [if_neg h2] at HMK
          have k2 : (e2 == 0) = false := by simpa using h2
          clear HAR2 h2
          go_wp2_with (first
            | (go_at_call 52; (with_reducible refine HFL.out.mono ?_); rintro e w5 ⟨rfl, hd5, ht5⟩; have HST5 := Lib.hid (HST.out.after (ht5.blk HST.out.blk HST.out.sd) hd5 (ht5.mono (fun _ _ h => .inl h)) (fun _ h => .inl h) (fun _ h => .inl h)); have AF5 := Lib.hid (HAF.out.disk (fun _ h => .inl h) (fun _ h => .inl h) (ht5.mono (fun _ _ h => .inl h))); have HT5 := Lib.hid ht5; clear hd5 ht5)
            | (go_at_call 53; (with_reducible refine (HMK.out _ _ _ HST5.out).mono ?_); rintro e w6 ⟨M6, R6, rfl, hst6, hm6, hr6, ht6⟩; have AF6 := Lib.hid (AF5.out.disk hm6 hr6 ht6); have HST6 := Lib.hid hst6; have HTT := Lib.hid (((HTR.out.trans HT5.out (fun b hb h => (HAF.out.d b h).resolve_right (by omega))).mono (fun _ _ h => .inl h)).trans ht6 (fun b hb h => h.imp (fun h => (HAF.out.d b h).resolve_right (by omega)) id) : Tr (fun b => Md b ∨ b = s) w w6); clear hst6 hm6 hr6 ht6)
            | (go_at_call 54; (with_reducible refine (died_any HST6.out.blk _).mono ?_); rintro e w9 ⟨rfl, hb9, ht9⟩; have HB9 := Lib.hid hb9; have HT9 := Lib.hid ht9; clear hb9 ht9))
          go_ret
          rw [HAR3.out]
          exact ⟨g, M6, R6, Mi, rfl, HST6.out.died HB9.out HT9.out, (AF6.out.died HT9.out).more _, HTT.out.trans HT9.out (fun b _ h => .inr h)⟩
      · have HAR2 := Lib.hid (HAR.out.trans (if_pos h1))
        have k1 : (e1 == 0) = false := by simpa using h1
        clear HAR he1 h1 hok4 hg4
        generalize Dk.flushD D1 = D2 at HFL HAR2
        go_wp2_with (first
          | (go_at_call 52; (with_reducible refine HFL.out.mono ?_); rintro e w5 ⟨rfl, hd5, ht5⟩; have HST5 := Lib.hid (HST.out.after (ht5.blk HST.out.blk HST.out.sd) hd5 (ht5.mono (fun _ _ h => .inl h)) (fun _ h => .inl h) (fun _ h => .inl h)); have AF5 := Lib.hid (HAF.out.disk (fun _ h => .inl h) (fun _ h => .inl h) (ht5.mono (fun _ _ h => .inl h))); have HT5 := Lib.hid ht5; clear hd5 ht5)
          | (go_at_call 54; (with_reducible refine (died_any HST5.out.blk _).mono ?_); rintro e w6 ⟨rfl, hb6, ht6⟩; have HB6 := Lib.hid hb6; have HT6 := Lib.hid ht6; clear hb6 ht6))
        go_ret
        rw [HAR2.out]
        exact ⟨g, M, R, Mi, rfl, HST5.out.died HB6.out HT6.out, (AF5.out.died HT6.out).more _, ((HTR.out.trans HT5.out (fun b hb h => (HAF.out.d b h).resolve_right (by omega))).mono (fun _ _ h => .inl h)).trans HT6.out (fun b _ h => .inr h)⟩
end
end Go.Proofs.YthlijldapoeepaaGreat


/- The reference's Image: Has, Used, Read. -/

namespace Go.Proofs.YthlijldapoeepaaGreat
set_option linter.unusedVariables false
set_option linter.unusedSimpArgs false
set_option maxRecDepth 100000
open Go.RowKit Go.Shelf

section
variable {w : World} {r q c : Nat} {L : List (List Int)} {M : Nat → Prop}
theorem rhas_any (h : IsRef w r L q c M) (z : Int) (hz : -9223372036854775808 ≤ z ∧ z ≤ 9223372036854775807) : Calls Tryz.prog 77 #[.pointer (some ⟨r, 0, none⟩), .int .i64 z] w fun e w' => e = .returned (.bool (hasB L z)) ∧ w = w' := by
  have hok := h.ok.hi
  have c0 : w.cell? ⟨r, 0, none⟩ = some (.slice (some ⟨q, 0, none⟩) L.length c) := h.blk.cell 0
  by_cases h1 : 0 ≤ z
  · obtain ⟨n, rfl⟩ := Int.eq_ofNat_of_zero_le h1
    by_cases h2 : n < L.length
    · obtain ⟨A1, k1, hc, _⟩ := h.cell n h2
      have f1 : decide ((n : Int) < (L.length : Int)) = true := decide_eq_true (by omega)
      have hn1 : (n : Int) < (L.length : Int) := by omega
      by_cases h3 : bk L n = []
      · rw [show hasB L (n : Int) = false from decide_eq_false (by simp [h3])]
        have h30 : (bk L n).length = 0 := by rw [h3]; rfl
        rw [h30] at hc
        clear h h3
        go_enter Tryz.func77, Tryz.ntmps77
        go_wp2_with fail
        go_ret
        exact ⟨rfl, rfl⟩
      · rw [show hasB L (n : Int) = true from decide_eq_true ⟨by omega, by simpa using h3⟩]
        have h30 : (bk L n).length = 64 := ((h.ok.at_ n).resolve_left h3).1
        rw [h30] at hc
        clear h h3
        go_enter Tryz.func77, Tryz.ntmps77
        go_wp2_with fail
        go_ret
        exact ⟨rfl, rfl⟩
    · rw [show hasB L (n : Int) = false from decide_eq_false (by simp; exact bk_out (by omega))]
      have f1 : decide ((n : Int) < (L.length : Int)) = false := decide_eq_false (by omega)
      clear h
      go_enter Tryz.func77, Tryz.ntmps77
      go_wp2_with fail
      go_ret
      exact ⟨rfl, rfl⟩
  · rw [show hasB L z = false from decide_eq_false (by omega)]
    have f1 : decide (0 ≤ z) = false := decide_eq_false h1
    clear h
    go_enter Tryz.func77, Tryz.ntmps77
    go_wp2_with fail
    go_ret
    exact ⟨rfl, rfl⟩
theorem usedTo_succ' (L : List (List Int)) (k : Nat) : usedTo L (k + 1) = usedTo L k + (if hasB L (k : Int) = true then 1 else 0) := by
  show usedTo L k + (if bk L k = [] then 0 else 1) = _
  congr 1
  unfold hasB
  by_cases h : bk L k = []
  · simp [h]
  · simp [h]
theorem rused_any (h : IsRef w r L q c M) : Calls Tryz.prog 75 #[.pointer (some ⟨r, 0, none⟩)] w fun e w' => e = .returned (.int .i64 (used L)) ∧ w = w' := by
  have hok := h.ok.hi
  have c0 : w.cell? ⟨r, 0, none⟩ = some (.slice (some ⟨q, 0, none⟩) L.length c) := h.blk.cell 0
  have HH := Lib.hid h
  clear h
  go_enter Tryz.func75, Tryz.ntmps75
  go_wp2_with fail
  go_loop [3, 4] (fun v3 v4 => ∃ k : Nat, k ≤ L.length ∧ v4 = .int .i64 (k : Int) ∧ v3 = .int .i64 ((usedTo L k : Nat) : Int)) (fun _ v => L.length - (RowKit.intOf v).toNat)
  case atStart => exact ⟨0, by omega, rfl, rfl⟩
  case round =>
    obtain ⟨k, hk, rfl, rfl⟩ := hrel
    have hle := usedTo_le L k
    by_cases hlt : k < L.length
    · have HU := Lib.hid (usedTo_succ' L k)
      have HS := Lib.hid (rhas_any HH.out (k : Int) (by omega))
      rcases hh : hasB L (k : Int) with _ | _
      all_goals
        rw [hh] at HS HU
        clear hh
        go_wp2_with (first
          | (go_at_call 77; (with_reducible refine HS.out.mono ?_); rintro e w' ⟨rfl, rfl⟩))
        exact ⟨⟨k + 1, by omega, by go_num, by rw [HU.out]; go_num⟩, by simp [RowKit.intOf]; omega⟩
    · obtain rfl : k = L.length := by omega
      go_wp2_with fail
      go_ret
      exact ⟨rfl, rfl⟩
end
end Go.Proofs.YthlijldapoeepaaGreat

/- The reference's writer. -/

namespace Go.Proofs.YthlijldapoeepaaGreat
set_option linter.unusedVariables false
set_option linter.unusedSimpArgs false
set_option maxRecDepth 100000
open Go.RowKit

/-- A reference's writer at block g, all of its memory from B on. -/
def IsRWr (w : World) (B g : Nat) (l : List Int) : Prop := ∃ A c, Blk w g 129 #[.slice A l.length c, .int .i64 0] ∧ w.ownsRow B 5 1 (.slice A l.length c) l.length (by8 l) ∧ B ≤ g ∧ l.length ≤ c
theorem IsRWr.new (w : World) : IsRWr (w.alloc (.cells #[.slice none 0 0, .int .i64 0] 129)) w.heap.size w.heap.size [] :=
  ⟨none, 0, Blk.new _ _ _, ownsRow_emp _ _ _ _, Nat.le_refl _, Nat.le_refl _⟩
set_option maxHeartbeats 3200000 in
theorem rwr2 (B g : Nat) (l : List Int) (n : Int) (w : World) (hB : B ≤ w.heap.size) (hw : IsRWr w B g l) (hl : l.length ≤ 140737488351232) (h0 : 0 ≤ n) (h1 : n < 65536) :
    Calls Tryz.prog 74 #[.pointer (some ⟨g, 0, none⟩), .int .i64 2, .int .i64 n] w fun e w' => e = .returned (.tuple #[]) ∧ IsRWr w' B g (l ++ be 2 n) ∧ Below B w w' := by
  have HW := Lib.hid hw
  obtain ⟨A, c, hb, ho, hg, hc⟩ := hw
  have c0 := hb.cell 0
  have c1 := hb.cell 1
  have f0 := hb.frozen 0
  have f1 := hb.frozen 1
  simp at c0 c1
  clear ho hb
  go_enter Tryz.func74, Tryz.ntmps74
  go_wp2_with fail
  go_loopw [8] (fun v W => (∃ i k : Nat, i + k + 1 = 2 ∧ v = .int .i64 (i : Int) ∧ IsRWr W B g (l ++ (be 2 n).take k) ∧ Below B w W) ∨ (v = .int .i64 (-1) ∧ IsRWr W B g (l ++ be 2 n) ∧ Below B w W)) (fun v _ => (RowKit.intOf v + 1).toNat)
  case atStart => exact .inl ⟨2 - 1, 0, by omega, rfl, by simpa using HW.out, Below.refl _ _⟩
  case round =>
    rcases hrel with ⟨i, k, hik, rfl, ⟨A2, c2, hb2, ho2, hg2, hc2⟩, hbl⟩ | ⟨rfl, hw2, hbl⟩
    · have hll : (l ++ (be 2 n).take k).length = l.length + k := by rw [List.length_append, List.length_take, be_length]; omega
      rw [hll] at hb2 ho2 hc2
      have d0 := hb2.cell 0
      have d1 := hb2.cell 1
      have e0 := hb2.frozen 0
      simp at d0 d1
      have HO := Lib.hid ho2
      have HBK := Lib.hid hb2
      have HBL := Lib.hid hbl
      have hs := hbl.size
      have HT := Lib.hid (be_take_succ 2 k n (by omega))
      have hi : 2 - 1 - k = i := by omega
      rw [hi] at HT
      clear ho2 hb2 hbl
      go_wp2_with (first
        | (at_builtin; refine wpL_append E8 rfl rfl (HO.out.alloc _) rfl (Rd.newAt wr wr.heap.size _ [.int .u8 (n / 2 ^ (8 * i) % 256)] _ 0 rfl rfl) rfl (by rfl) (by simp [Value.oneCell']) (l.length + k + 1) (by8 (l ++ (be 2 n).take (k + 1))) rfl (by rw [HT.out]; simp [by8]) (by simp only [maxLen]; omega) (by omega) (by simp; omega) ?_; intro A3 c3 W3 hc3 ho3 ht3 ha3; have HO3 := Lib.hid ho3; have HT3 := Lib.hid ht3; have HB3 := Lib.hid (ht3.blk (HBK.out.alloc _) (own_blk HO.out HBK.out (by decide))); have g0 := HB3.out.cell 0; have g1 := HB3.out.frozen 0; simp at g0; clear ho3 ht3))
      have hW : IsRWr (W3.setCell ⟨g, 0, none⟩ (.slice A3 (l.length + k + 1) c3)) B g (l ++ (be 2 n).take (k + 1)) := by
        have hll2 : (l ++ (be 2 n).take (k + 1)).length = l.length + k + 1 := by rw [List.length_append, List.length_take, be_length]; omega
        refine ⟨A3, c3, ?_, ?_, hg, by rw [hll2]; exact hc3⟩
        · rw [hll2]; exact HB3.out.set_ 0 _
        · rw [hll2]; exact own_tr HO3.out ((Tr.refl (fun b => b = g) _).setCell (p := ⟨g, 0, none⟩) (fun _ => rfl) _) (fun b hx hq => own_blk HO3.out HB3.out (by decide) (hq ▸ hx))
      have hBl : Below B w (W3.setCell ⟨g, 0, none⟩ (.slice A3 (l.length + k + 1) c3)) := by
        have t1 : Tr (fun b => B ≤ b) w wr := ⟨HBL.out.os, HBL.out.tape, HBL.out.output, HBL.out.size, fun x hx hn => HBL.out.block x (by omega)⟩
        have t2 := (t1.alloc (.cells #[.int .u8 (n / 2 ^ (8 * i) % 256)] 5)).trans HT3.out (fun b _ h => own_ge HO.out b h)
        exact (t2.setCell (p := ⟨g, 0, none⟩) (fun _ => hg) _).to_below hB (fun _ h => h)
      refine ⟨?_, by simp [RowKit.intOf] <;> omega⟩
      by_cases h0 : i = 0
      · right
        rw [List.take_of_length_le (by rw [be_length]; omega)] at hW
        exact ⟨by subst h0; rfl, hW, hBl⟩
      · left
        exact ⟨i - 1, k + 1, by omega, by go_num, hW, hBl⟩
    · go_wp2_with fail
      go_end0
      exact ⟨rfl, hw2, hbl⟩
set_option maxHeartbeats 3200000 in
theorem rwr4 (B g : Nat) (l : List Int) (n : Int) (w : World) (hB : B ≤ w.heap.size) (hw : IsRWr w B g l) (hl : l.length ≤ 140737488351232) (h0 : 0 ≤ n) (h1 : n < 4294967296) :
    Calls Tryz.prog 74 #[.pointer (some ⟨g, 0, none⟩), .int .i64 4, .int .i64 n] w fun e w' => e = .returned (.tuple #[]) ∧ IsRWr w' B g (l ++ be 4 n) ∧ Below B w w' := by
  have HW := Lib.hid hw
  obtain ⟨A, c, hb, ho, hg, hc⟩ := hw
  have c0 := hb.cell 0
  have c1 := hb.cell 1
  have f0 := hb.frozen 0
  have f1 := hb.frozen 1
  simp at c0 c1
  clear ho hb
  go_enter Tryz.func74, Tryz.ntmps74
  go_wp2_with fail
  go_loopw [8] (fun v W => (∃ i k : Nat, i + k + 1 = 4 ∧ v = .int .i64 (i : Int) ∧ IsRWr W B g (l ++ (be 4 n).take k) ∧ Below B w W) ∨ (v = .int .i64 (-1) ∧ IsRWr W B g (l ++ be 4 n) ∧ Below B w W)) (fun v _ => (RowKit.intOf v + 1).toNat)
  case atStart => exact .inl ⟨4 - 1, 0, by omega, rfl, by simpa using HW.out, Below.refl _ _⟩
  case round =>
    rcases hrel with ⟨i, k, hik, rfl, ⟨A2, c2, hb2, ho2, hg2, hc2⟩, hbl⟩ | ⟨rfl, hw2, hbl⟩
    · have hll : (l ++ (be 4 n).take k).length = l.length + k := by rw [List.length_append, List.length_take, be_length]; omega
      rw [hll] at hb2 ho2 hc2
      have d0 := hb2.cell 0
      have d1 := hb2.cell 1
      have e0 := hb2.frozen 0
      simp at d0 d1
      have HO := Lib.hid ho2
      have HBK := Lib.hid hb2
      have HBL := Lib.hid hbl
      have hs := hbl.size
      have HT := Lib.hid (be_take_succ 4 k n (by omega))
      have hi : 4 - 1 - k = i := by omega
      rw [hi] at HT
      clear ho2 hb2 hbl
      go_wp2_with (first
        | (at_builtin; refine wpL_append E8 rfl rfl (HO.out.alloc _) rfl (Rd.newAt wr wr.heap.size _ [.int .u8 (n / 2 ^ (8 * i) % 256)] _ 0 rfl rfl) rfl (by rfl) (by simp [Value.oneCell']) (l.length + k + 1) (by8 (l ++ (be 4 n).take (k + 1))) rfl (by rw [HT.out]; simp [by8]) (by simp only [maxLen]; omega) (by omega) (by simp; omega) ?_; intro A3 c3 W3 hc3 ho3 ht3 ha3; have HO3 := Lib.hid ho3; have HT3 := Lib.hid ht3; have HB3 := Lib.hid (ht3.blk (HBK.out.alloc _) (own_blk HO.out HBK.out (by decide))); have g0 := HB3.out.cell 0; have g1 := HB3.out.frozen 0; simp at g0; clear ho3 ht3))
      have hW : IsRWr (W3.setCell ⟨g, 0, none⟩ (.slice A3 (l.length + k + 1) c3)) B g (l ++ (be 4 n).take (k + 1)) := by
        have hll2 : (l ++ (be 4 n).take (k + 1)).length = l.length + k + 1 := by rw [List.length_append, List.length_take, be_length]; omega
        refine ⟨A3, c3, ?_, ?_, hg, by rw [hll2]; exact hc3⟩
        · rw [hll2]; exact HB3.out.set_ 0 _
        · rw [hll2]; exact own_tr HO3.out ((Tr.refl (fun b => b = g) _).setCell (p := ⟨g, 0, none⟩) (fun _ => rfl) _) (fun b hx hq => own_blk HO3.out HB3.out (by decide) (hq ▸ hx))
      have hBl : Below B w (W3.setCell ⟨g, 0, none⟩ (.slice A3 (l.length + k + 1) c3)) := by
        have t1 : Tr (fun b => B ≤ b) w wr := ⟨HBL.out.os, HBL.out.tape, HBL.out.output, HBL.out.size, fun x hx hn => HBL.out.block x (by omega)⟩
        have t2 := (t1.alloc (.cells #[.int .u8 (n / 2 ^ (8 * i) % 256)] 5)).trans HT3.out (fun b _ h => own_ge HO.out b h)
        exact (t2.setCell (p := ⟨g, 0, none⟩) (fun _ => hg) _).to_below hB (fun _ h => h)
      refine ⟨?_, by simp [RowKit.intOf] <;> omega⟩
      by_cases h0 : i = 0
      · right
        rw [List.take_of_length_le (by rw [be_length]; omega)] at hW
        exact ⟨by subst h0; rfl, hW, hBl⟩
      · left
        exact ⟨i - 1, k + 1, by omega, by go_num, hW, hBl⟩
    · go_wp2_with fail
      go_end0
      exact ⟨rfl, hw2, hbl⟩
set_option maxHeartbeats 3200000 in
theorem rwr8 (B g : Nat) (l : List Int) (n : Int) (w : World) (hB : B ≤ w.heap.size) (hw : IsRWr w B g l) (hl : l.length ≤ 140737488351232) (h0 : 0 ≤ n) (h1 : n < 9223372036854775808) :
    Calls Tryz.prog 74 #[.pointer (some ⟨g, 0, none⟩), .int .i64 8, .int .i64 n] w fun e w' => e = .returned (.tuple #[]) ∧ IsRWr w' B g (l ++ be 8 n) ∧ Below B w w' := by
  have HW := Lib.hid hw
  obtain ⟨A, c, hb, ho, hg, hc⟩ := hw
  have c0 := hb.cell 0
  have c1 := hb.cell 1
  have f0 := hb.frozen 0
  have f1 := hb.frozen 1
  simp at c0 c1
  clear ho hb
  go_enter Tryz.func74, Tryz.ntmps74
  go_wp2_with fail
  go_loopw [8] (fun v W => (∃ i k : Nat, i + k + 1 = 8 ∧ v = .int .i64 (i : Int) ∧ IsRWr W B g (l ++ (be 8 n).take k) ∧ Below B w W) ∨ (v = .int .i64 (-1) ∧ IsRWr W B g (l ++ be 8 n) ∧ Below B w W)) (fun v _ => (RowKit.intOf v + 1).toNat)
  case atStart => exact .inl ⟨8 - 1, 0, by omega, rfl, by simpa using HW.out, Below.refl _ _⟩
  case round =>
    rcases hrel with ⟨i, k, hik, rfl, ⟨A2, c2, hb2, ho2, hg2, hc2⟩, hbl⟩ | ⟨rfl, hw2, hbl⟩
    · have hll : (l ++ (be 8 n).take k).length = l.length + k := by rw [List.length_append, List.length_take, be_length]; omega
      rw [hll] at hb2 ho2 hc2
      have d0 := hb2.cell 0
      have d1 := hb2.cell 1
      have e0 := hb2.frozen 0
      simp at d0 d1
      have HO := Lib.hid ho2
      have HBK := Lib.hid hb2
      have HBL := Lib.hid hbl
      have hs := hbl.size
      have HT := Lib.hid (be_take_succ 8 k n (by omega))
      have hi : 8 - 1 - k = i := by omega
      rw [hi] at HT
      clear ho2 hb2 hbl
      go_wp2_with (first
        | (at_builtin; refine wpL_append E8 rfl rfl (HO.out.alloc _) rfl (Rd.newAt wr wr.heap.size _ [.int .u8 (n / 2 ^ (8 * i) % 256)] _ 0 rfl rfl) rfl (by rfl) (by simp [Value.oneCell']) (l.length + k + 1) (by8 (l ++ (be 8 n).take (k + 1))) rfl (by rw [HT.out]; simp [by8]) (by simp only [maxLen]; omega) (by omega) (by simp; omega) ?_; intro A3 c3 W3 hc3 ho3 ht3 ha3; have HO3 := Lib.hid ho3; have HT3 := Lib.hid ht3; have HB3 := Lib.hid (ht3.blk (HBK.out.alloc _) (own_blk HO.out HBK.out (by decide))); have g0 := HB3.out.cell 0; have g1 := HB3.out.frozen 0; simp at g0; clear ho3 ht3))
      have hW : IsRWr (W3.setCell ⟨g, 0, none⟩ (.slice A3 (l.length + k + 1) c3)) B g (l ++ (be 8 n).take (k + 1)) := by
        have hll2 : (l ++ (be 8 n).take (k + 1)).length = l.length + k + 1 := by rw [List.length_append, List.length_take, be_length]; omega
        refine ⟨A3, c3, ?_, ?_, hg, by rw [hll2]; exact hc3⟩
        · rw [hll2]; exact HB3.out.set_ 0 _
        · rw [hll2]; exact own_tr HO3.out ((Tr.refl (fun b => b = g) _).setCell (p := ⟨g, 0, none⟩) (fun _ => rfl) _) (fun b hx hq => own_blk HO3.out HB3.out (by decide) (hq ▸ hx))
      have hBl : Below B w (W3.setCell ⟨g, 0, none⟩ (.slice A3 (l.length + k + 1) c3)) := by
        have t1 : Tr (fun b => B ≤ b) w wr := ⟨HBL.out.os, HBL.out.tape, HBL.out.output, HBL.out.size, fun x hx hn => HBL.out.block x (by omega)⟩
        have t2 := (t1.alloc (.cells #[.int .u8 (n / 2 ^ (8 * i) % 256)] 5)).trans HT3.out (fun b _ h => own_ge HO.out b h)
        exact (t2.setCell (p := ⟨g, 0, none⟩) (fun _ => hg) _).to_below hB (fun _ h => h)
      refine ⟨?_, by simp [RowKit.intOf] <;> omega⟩
      by_cases h0 : i = 0
      · right
        rw [List.take_of_length_le (by rw [be_length]; omega)] at hW
        exact ⟨by subst h0; rfl, hW, hBl⟩
      · left
        exact ⟨i - 1, k + 1, by omega, by go_num, hW, hBl⟩
    · go_wp2_with fail
      go_end0
      exact ⟨rfl, hw2, hbl⟩
set_option maxHeartbeats 400000 in
theorem rwEnd (B g : Nat) (l : List Int) (w : World) (hw : IsRWr w B g l) (hl : l.length ≤ 140737488351232) :
    Calls Tryz.prog 76 #[.pointer (some ⟨g, 0, none⟩)] w fun e w' => ∃ A' c', e = .returned (.tuple #[.slice A' l.length c', .int .i64 0]) ∧ l.length ≤ c' ∧
      w'.ownsRow w.heap.size 5 1 (.slice A' l.length c') l.length (by8 l) ∧ Below w.heap.size w w' := by
  obtain ⟨A, c, hb, ho, hg, hc⟩ := hw
  have c0 := hb.cell 0
  have c1 := hb.cell 1
  simp at c0 c1
  have HR := Lib.hid (Rd.of_own ho)
  clear ho hb
  go_enter Tryz.func76, Tryz.ntmps76
  go_wp2_with (first
    | (at_builtin; refine wpL_append E8 rfl rfl (ownsRow_emp w w.heap.size _ _) rfl HR.out rfl (by simp [by8]) (by8_one l) l.length (by8 l) (by simp) (by simp) (by simp only [maxLen]; omega) (by omega) (Nat.le_refl _) ?_; intro A1 c1 w1 hc1 ho1 ht1 _; have HO1 := Lib.hid ho1; have HT1 := Lib.hid ht1; clear ho1 ht1))
  go_ret2
  exact ⟨_, _, rfl, hc1, HO1.out, HT1.out.below (fun b _ => Blo.none b)⟩
end Go.Proofs.YthlijldapoeepaaGreat

/- The reference's Image: Bytes. -/

namespace Go.Proofs.YthlijldapoeepaaGreat
set_option linter.unusedVariables false
set_option linter.unusedSimpArgs false
set_option maxRecDepth 100000
open Go.RowKit Go.Shelf

theorem nums_flat_length (L : List (List Int)) (h : ImgOk L) (k : Nat) : ((numsTo L k).flatMap (e1 L)).length ≤ 66 * k := by
  have h1 := flat_length (e1 L) 66 (e1_length L h) (numsTo L k)
  have h2 := numsTo_length L k
  have h3 := usedTo_le L k
  have : 66 * (numsTo L k).length ≤ 66 * k := Nat.mul_le_mul_left _ (by omega)
  omega
section
variable {w : World} {r q c : Nat} {L : List (List Int)} {M : Nat → Prop}
set_option maxHeartbeats 3200000 in
theorem rbytes_any (h : IsRef w r L q c M) : Calls Tryz.prog 44 #[.pointer (some ⟨r, 0, none⟩)] w fun e w' => ∃ A c, e = .returned (.slice A (bytesL L).length c) ∧ (bytesL L).length ≤ c ∧ w'.ownsRow w.heap.size 5 1 (.slice A (bytesL L).length c) (bytesL L).length (by8 (bytesL L)) ∧ Below w.heap.size w w' := by
  have h256 := h.ok.hi
  have hle := used_le L
  have HH := Lib.hid h
  clear h
  have hb2 : (be 2 (L.length : Int)).length = 2 := be_length _ _
  obtain ⟨hd, hhd⟩ : ∃ hd, [] ++ be 2 (L.length : Int) ++ be 2 (used L : Int) = hd := ⟨_, rfl⟩
  have h4 : hd.length = 4 := by rw [← hhd]; simp [be_length]
  have HHD := Lib.hid hhd
  have HE4 := Lib.hid (show ∀ BB gg W, IsRWr W BB gg hd → Calls Tryz.prog 76 #[.pointer (some ⟨gg, 0, none⟩)] W fun e w' => ∃ A' c', e = .returned (.tuple #[.slice A' 4 c', .int .i64 0]) ∧ 4 ≤ c' ∧ w'.ownsRow W.heap.size 5 1 (.slice A' 4 c') 4 (by8 hd) ∧ Below W.heap.size W w' from fun BB gg W hw => by
    have := rwEnd BB gg hd W hw (by omega)
    rw [h4] at this
    exact this)
  have H4 := Lib.hid h4
  clear hhd h4
  have IA := Lib.hid (HH.out.below (bl_alloc w (.cells #[.slice none 0 0, .int .i64 0] 129)))
  have c0a : (w.alloc (.cells #[.slice none 0 0, .int .i64 0] 129)).cell? ⟨r, 0, none⟩ = some (.slice (some ⟨q, 0, none⟩) L.length c) := IA.out.blk.cell 0
  have W0 := Lib.hid (IsRWr.new w)
  go_enter Tryz.func44, Tryz.ntmps44
  go_wp2_with (first
    | (go_at_call 74; (with_reducible refine (rwr2 w.heap.size w.heap.size [] L.length _ (by simp) W0.out (by simp) (by omega) (by omega)).mono ?_); rintro e w2 ⟨rfl, hw, hb⟩; have W2 := Lib.hid hw; have hs2 := hb.size; have B2 := Lib.hid ((bl_alloc w _).trans hb); have I2 := Lib.hid (HH.out.below B2.out); clear hw hb)
    | (go_at_call 75; (with_reducible refine (rused_any I2.out).mono ?_); rintro e w' ⟨rfl, rfl⟩)
    | (go_at_call 74; (with_reducible refine (rwr2 w.heap.size w.heap.size ([] ++ be 2 L.length) (used L) w2 B2.out.size W2.out (by simp [hb2]) (by omega) (by omega)).mono ?_); rintro e w3 ⟨rfl, hw, hb⟩; rw [HHD.out] at hw; have W3 := Lib.hid hw; have B3 := Lib.hid (B2.out.trans hb); clear hw hb)
    | (go_at_call 76; (with_reducible refine (HE4.out _ _ w3 W3.out).mono ?_); rintro e w4 ⟨A4, c4, rfl, hc4, ho, hb⟩; have O4 := Lib.hid (ownsRow_base ho B3.out.size); have B4 := Lib.hid (bl_chain B3.out hb); clear ho hb))
  go_loopw [4, 6] (fun v4 v6 W => ∃ (i n1 : Nat) (A1 : Option Addr) (c1 : Nat), i ≤ L.length ∧ v6 = .int .i64 (i : Int) ∧ v4 = .slice A1 n1 c1 ∧ n1 ≤ c1 ∧ n1 = (hd ++ (numsTo L i).flatMap (e1 L)).length ∧ W.ownsRow w.heap.size 5 1 (.slice A1 n1 c1) n1 (by8 (hd ++ (numsTo L i).flatMap (e1 L))) ∧ Below w.heap.size w W) (fun _ v _ => L.length - (RowKit.intOf v).toNat)
  case atStart => exact ⟨0, 4, A4, c4, by omega, rfl, rfl, hc4, by simp [numsTo, H4.out], by simpa [numsTo] using O4.out, B4.out⟩
  case round =>
    obtain ⟨i, n1, A1, c1, hi, rfl, rfl, hc1, hn1, ho, hbl⟩ := hrel
    have HO := Lib.hid ho
    have HBL := Lib.hid hbl
    have HI := Lib.hid (HH.out.below hbl)
    have hs := hbl.size
    clear ho hbl
    have c0 : wr.cell? ⟨r, 0, none⟩ = some (.slice (some ⟨q, 0, none⟩) L.length c) := HI.out.blk.cell 0
    have hnl : n1 ≤ 4 + 66 * i := by
      have := nums_flat_length L HH.out.ok i
      rw [hn1, List.length_append, H4.out]
      omega
    by_cases hlt : i < L.length
    · have HS := Lib.hid (rhas_any HI.out (i : Int) (by omega))
      by_cases h0 : bk L i = []
      · have hh : hasB L (i : Int) = false := decide_eq_false (by simp [h0])
        rw [hh] at HS
        have HN : Hid (numsTo L (i + 1) = numsTo L i) := Lib.hid (by rw [numsTo, if_pos h0, List.append_nil])
        have HN1 := Lib.hid hn1
        clear hh h0 hn1
        go_wp2_with (first
          | (go_at_call 77; (with_reducible refine HS.out.mono ?_); rintro e w' ⟨rfl, rfl⟩))
        exact ⟨⟨i + 1, n1, A1, c1, by omega, by go_num, rfl, hc1, by rw [HN.out]; exact HN1.out, by rw [HN.out]; exact HO.out, HBL.out⟩, by simp [RowKit.intOf]; omega⟩
      · have hh : hasB L (i : Int) = true := decide_eq_true ⟨by omega, by simpa using h0⟩
        rw [hh] at HS
        have hl64 := ((HH.out.ok.at_ i).resolve_left h0).1
        obtain ⟨l0, hl0⟩ : ∃ l0, hd ++ (numsTo L i).flatMap (e1 L) = l0 := ⟨_, rfl⟩
        have HN : Hid (hd ++ (numsTo L (i + 1)).flatMap (e1 L) = l0 ++ [0, (i : Int)] ++ bk L i) := Lib.hid (by rw [numsTo, if_neg h0, List.flatMap_append, ← List.append_assoc, hl0]; simp [e1])
        rw [hl0] at hn1 HO
        have HN1 := Lib.hid hn1
        obtain ⟨A2, k2, hc, hr2⟩ := HI.out.cell i hlt
        have hr2' := Lib.hid hr2
        rw [hl64] at hc
        have HL64 := Lib.hid hl64
        have hz0 : (i : Int) / 256 = 0 := by omega
        have hmod : (i : Int) % 256 = i := by omega
        clear hh h0 hn1 hl0 hr2 hl64
        go_wp2_with (first
          | (go_at_call 77; (with_reducible refine HS.out.mono ?_); rintro e w' ⟨rfl, rfl⟩)
          | (at_builtin; refine wpL_append E8 rfl rfl (HO.out.alloc _) rfl (Rd.newAt wr wr.heap.size _ [.int .u8 0, .int .u8 (i : Int)] _ 0 rfl rfl) rfl (by rfl) (by simp [Value.oneCell']) (n1 + 2) (by8 (l0 ++ [0, (i : Int)])) rfl (by simp [by8]) (by simp only [maxLen]; omega) (by omega) (by simp; omega) ?_; intro A3 c3 w3 hc3 ho3 ht3 _; have HO3 := Lib.hid ho3; have B3' := Lib.hid (bl_tr (bl_chain HBL.out (bl_alloc wr _)) ht3 (fun x hx => own_ge HO.out x hx)); have HI3 := Lib.hid (HH.out.below B3'.out); have c03 : w3.cell? ⟨r, 0, none⟩ = some (.slice (some ⟨q, 0, none⟩) L.length c) := HI3.out.blk.cell 0; obtain ⟨A5, k5, hc5, hr5⟩ := HI3.out.cell i hlt; rw [HL64.out] at hc5; have HR5 := Lib.hid hr5; clear ho3 ht3 hr5)
          | (at_builtin; refine wpL_append E8 rfl rfl HO3.out rfl HR5.out rfl (by rw [by8_length, HL64.out]) (by8_one _) (n1 + 2 + 64) (by8 (l0 ++ [0, (i : Int)] ++ bk L i)) rfl (by rw [by8_append _ (bk L i)]) (by simp only [maxLen]; omega) (by omega) B3'.out.size ?_; intro A6 c6 w6 hc6 ho6 ht6 _; have HO6 := Lib.hid ho6; have B6 := Lib.hid (bl_tr B3'.out ht6 (fun x hx => own_ge HO3.out x hx)); clear ho6 ht6))
        exact ⟨⟨i + 1, n1 + 2 + 64, A6, c6, by omega, by go_num, rfl, hc6, by rw [HN.out, List.length_append, List.length_append, ← HN1.out, HL64.out]; rfl, by rw [HN.out]; exact HO6.out, B6.out⟩, by simp [RowKit.intOf]; omega⟩
    · obtain rfl : i = L.length := by omega
      have e : hd ++ (numsTo L L.length).flatMap (e1 L) = bytesL L := by rw [← HHD.out]; rfl
      rw [e] at hn1 HO
      have HN1 := Lib.hid hn1
      clear hn1 e
      go_wp2_with fail
      go_ret
      exact ⟨A1, c1, by rw [← HN1.out]; rfl, by rw [← HN1.out]; exact hc1, by rw [← HN1.out]; exact HO.out, HBL.out⟩
end
end Go.Proofs.YthlijldapoeepaaGreat
