/- BlocksPlays: the walk. -/
import Derived.Test.YthlijldapoeepaaGreatM21
namespace Go.Proofs.YthlijldapoeepaaGreat
set_option linter.unusedVariables false
set_option linter.unusedSimpArgs false
set_option maxRecDepth 100000
open Go.RowKit Go.Shelf

section
variable {w W : World} {s d p F : Nat} {x : ST} {D : Dk.DS} {L : List (List Int)}
theorem step_any {b : Nat} (h : Pl w W NoB s d p F x false D L L x.n) (hI : PInv D F x L b) (hb : b < 800000) (y : OpB) (hy : y.In w) :
    Calls Tryz.prog 10 #[.pointer (some ⟨s, 0, none⟩), .pointer (some ⟨p, 0, none⟩), .agg #[.int .i64 y.kind, .int .i64 y.n, .slice y.A y.l.length y.c, .slice y.B y.ks.length y.d]] W fun e W' => e = .returned (.bool true) ∧
      ∃ x' D' L', Pl w W' NoB s d p F x' false D' L' L' x'.n ∧ PInv D' F x' L' (b + 2) ∧ L'.length = L.length := by
  have hN : 0 ≤ x.n ∧ x.n ≤ 1152921504606846976 := ⟨hI.pos.2.1.1, hI.nn⟩
  have hR := hI.ready (by omega)
  by_cases hk : y.kind = 0 ∨ y.kind = 1 ∨ y.kind = 2 ∨ y.kind = 3
  · refine (step_apply h hR hI.calm hI.ok hN y hy y.kind hk).mono ?_
    rintro e W' ⟨rfl, hp⟩
    obtain ⟨a1, a2⟩ := hI.apply hb (numberN x.n y.n) y.l hy.rl
    exact ⟨rfl, _, _, _, hp, a1, a2⟩
  · by_cases h4 : y.kind = 4
    · rw [h4]
      refine (step_replace h hR hI.calm hN y hy).mono ?_
      rintro e W' ⟨rfl, hp⟩
      have hlo := hI.ok.lo
      have h256 := hI.ok.hi
      have hL2 : ImgOk (changeL (emptyL L.length) y.l) ∧ (changeL (emptyL L.length) y.l).length = L.length := by
        have he := emptyL_ok (n := L.length) hlo h256
        have hel : (emptyL L.length).length = L.length := by simp [emptyL]
        unfold changeL
        split
        · rename_i hc
          rw [hel] at hc
          exact ⟨chTo_ok he (lines_ok h256 hc hy.rl), by rw [chTo_length, hel]⟩
        · exact ⟨he, hel⟩
      obtain ⟨a1, a2⟩ := hI.replace hb (numberN x.n y.n) hL2.1 hL2.2
      exact ⟨rfl, _, _, _, hp, a1, a2⟩
    · refine (step_else h hN y y.kind ⟨fun e => hk (.inl e), fun e => hk (.inr (.inl e)), fun e => hk (.inr (.inr (.inl e))), fun e => hk (.inr (.inr (.inr e))), h4⟩).mono ?_
      rintro e W' ⟨rfl, hp⟩
      exact ⟨rfl, x, D, L, hp, ⟨hI.calm, hI.fit, hI.few, by have := hI.gen; show x.gen ≤ ((b + 2 : Nat) : Int); omega, hI.pos, hI.nn, hI.area, hI.op, hI.hF, hI.slots, hI.rows, hI.ok⟩, rfl⟩
/-- Opened again. -/
theorem reopen {b : Nat} (h : Pl w W NoB s d p F x false D L L x.n) (hI : PInv D F x L b) (z m : Int) (hz : z = (F : Int)) (hm : m = (L.length : Int)) :
    Calls Tryz.prog 8 #[.pointer (some ⟨d, 0, none⟩), .int .i64 z, .int .i64 m] W fun e W' => ∃ s', e = .returned (.tuple #[.pointer (some ⟨s', 0, none⟩), .int .i64 0]) ∧ Pl w W' NoB s' d p F x false D L L x.n := by
  obtain ⟨g, Md, Rr, Mi, r, q, c, M, h⟩ := h
  obtain ⟨t1, t2⟩ := hI.top
  have ha0 := hI.pos.2.2.1.1
  have ha1 := hI.area
  refine (open_okz z m hz hm x t1 h.st.dsk hI.hF x.area.toNat (by omega) (by omega) t2 hI.op).mono ?_
  rintro e W' ⟨s', g', Mi', rfl, hst, hs, hmi, hb⟩
  have hzw := h.bl.size
  have hml : ∀ b, (M b ∨ b = p) → b < W.heap.size := fun b hb => h.lt b (by rcases hb with hb | hb <;> simp [hb])
  refine ⟨s', rfl, g', Md, Rr, Mi', r, q, c, M, hst, h.rf.below hb, fun b hb => ⟨(h.ap b hb).1, (h.ap b hb).2.1, fun hq => by have := hml b hb; have := hmi b hq; omega, fun hq => by have := hml b hb; omega⟩, fun b hb => ⟨?_, id⟩, bl_chain h.bl hb, fun b hz => hz.elim⟩
  rcases hb with hb | hb | hb | hb | hb | hb
  · exact (h.lo b (.inl hb)).1
  · exact (h.lo b (.inr (.inl hb))).1
  · have := hmi b hb; omega
  · exact (h.lo b (.inr (.inr (.inr (.inl hb))))).1
  · omega
  · exact (h.lo b (.inr (.inr (.inr (.inr (.inr hb)))))).1
theorem psame {N : Int} (h : Pl w W NoB s d p F x false D L L x.n) : Calls Tryz.prog 11 #[.pointer (some ⟨s, 0, none⟩), .pointer (some ⟨p, 0, none⟩)] W fun e W' => e = .returned (.bool true) ∧ Pl w W' NoB s d p F x false D L L x.n := by
  obtain ⟨g, Md, Rr, Mi, r, q, c, M, h⟩ := h
  refine (same_any h.st.blk h.st.img h.rf).mono ?_
  rintro e W' ⟨rfl, hb⟩
  exact ⟨by simp [sameB], Pl.below ⟨g, Md, Rr, Mi, r, q, c, M, h⟩ hb⟩
theorem pdead (h : Pl w W NoB s d p F x false D L L x.n) : Calls Tryz.prog 12 #[.pointer (some ⟨s, 0, none⟩)] W fun e W' => e = .returned (.bool false) ∧ W = W' := by
  obtain ⟨g, Md, Rr, Mi, r, q, c, M, h⟩ := h
  exact bdead_any h.st.blk
end
set_option maxHeartbeats 6400000 in
theorem blocksPlays_walk (n : Int) (A : Option Addr) (c : Nat) (l : List OpB) (w : World) (hn : -9223372036854775808 ≤ n ∧ n ≤ 9223372036854775807) (hll : l.length ≤ 140737488351232) (hl : OpsBAt w A l) :
    Calls Tryz.prog 3 #[.int .i64 n, .slice A l.length c] w fun e w' => e = .returned (.bool true) ∧ Below w.heap.size w w' := by
  have HNA := Lib.hid (need_any n w)
  by_cases hin : n < 1 ∨ n > 256
  · have h0 : needI n = 0 := if_pos hin
    rw [h0] at HNA
    rcases (by omega : n < 1 ∨ (1 ≤ n ∧ 256 < n)) with h1 | ⟨h1, h2⟩
    all_goals
      clear hin
      go_enter Tryz.func3, Tryz.ntmps3
      go_wp2_with (first
        | (go_at_call 5; (with_reducible refine HNA.out.mono ?_); rintro e w' ⟨rfl, rfl⟩)
        | (go_at_call 6; (with_reducible refine (known_any _).mono ?_); rintro e w6 ⟨rfl, hb6⟩; have B6 := Lib.hid hb6; clear hb6))
      go_ret
      exact ⟨rfl, B6.out⟩
  · obtain ⟨m, rfl⟩ := Int.eq_ofNat_of_zero_le (show 0 ≤ n by omega)
    have hm1 : 1 ≤ m := by omega
    have hm2 : m ≤ 256 := by omega
    have hr : 19 + 2 * rowsN m ≤ 24 + m := by unfold rowsN; omega
    have HND := Lib.hid (need_ok m hm1 hm2 w)
    obtain ⟨k, hk⟩ : ∃ k, 19 + 2 * rowsN m = k := ⟨_, rfl⟩
    rw [hk] at HND hr
    have HK := Lib.hid hk
    have hk1 : 19 ≤ k := by omega
    have HDN := Lib.hid (Dk.new_ok (k + 3) w (by omega) (by omega))
    have HPI := Lib.hid (PInv.fresh (N := k + 3) (F := 2) (n := m) hm1 hm2 (by omega) (by omega) (by omega))
    have hel : (emptyL m).length = m := by simp [emptyL]
    have HRN := Lib.hid (fun W => rnew_ok m W hm1 hm2)
    have HL := Lib.hid hl
    have q1 : decide ((m : Int) < 1) = false := decide_eq_false (by omega)
    have q2 : decide ((256 : Int) < (m : Int)) = false := decide_eq_false (by omega)
    have q3 : decide ((k : Int) < 1) = false := decide_eq_false (by omega)
    have q4 : decide ((24 : Int) + (m : Int) < (k : Int)) = false := decide_eq_false (by omega)
    have q5 : (k : Int) + 3 = ((k + 3 : Nat) : Int) := by omega
    clear hin hk hl HNA
    obtain ⟨k3, hk3⟩ : ∃ k3, k + 3 = k3 := ⟨_, rfl⟩
    rw [hk3] at HDN HPI q5
    have HOP := Lib.hid (fun (W : World) (d : Nat) (Md Rr : Nat → Prop) (hd : Dk.IsDisk W d (freshD k3) Md Rr) => open_okz (F := 2) 2 (m : Int) rfl (by rw [hel]) ST.zero HPI.out.top.1 hd (by omega) 0 rfl (by omega) HPI.out.top.2 rfl)
    go_enter Tryz.func3, Tryz.ntmps3
    go_wp2_with (first
      | (go_at_call 5; (with_reducible refine HND.out.mono ?_); rintro e w' ⟨rfl, rfl⟩)
      | (go_at_call 7; (with_reducible refine HDN.out.mono ?_); rintro e w1 ⟨d, Md, rfl, hd1, hm1, hb1⟩; have HD1 := Lib.hid hd1; have HM1 := Lib.hid hm1; have B1 := Lib.hid hb1; clear hd1 hm1 hb1)
      | (go_at_call 8; (with_reducible refine (HOP.out _ _ _ _ HD1.out).mono ?_); rintro e w2 ⟨s, g, Mi, rfl, hs2, hs, hm2, hb2⟩; have HS2 := Lib.hid hs2; have HSS := Lib.hid hs; have HM2 := Lib.hid hm2; have B2 := Lib.hid hb2; clear hs2 hs hm2 hb2)
      | (go_at_call 9; (with_reducible refine (HRN.out _).mono ?_); rintro e w3 ⟨r, q, cc, M, rfl, hr3, hm3, hb3⟩; have HR3 := Lib.hid hr3; have HM3 := Lib.hid hm3; have B3 := Lib.hid hb3; clear hr3 hm3 hb3))
    have hz1 := B1.out.size
    have hz2 := B2.out.size
    have hz3 := B3.out.size
    have hp0 : Pl w (w3.alloc (.cells #[.pointer (some ⟨r, 0, none⟩), .int .i64 0] 37)) NoB s d w3.heap.size 2 ST.zero false (freshD k3) (emptyL m) (emptyL m) 0 := by
      have hbl := bl_alloc w3 (.cells #[.pointer (some ⟨r, 0, none⟩), .int .i64 0] 37)
      have hmd := HS2.out.dsk.mlt
      have hmi := HS2.out.img.mlt
      have hs2 := HS2.out.blk.lt
      have hmr := HR3.out.mlt
      refine ⟨g, Md, NoB, Mi, r, q, cc, M, (HS2.out.below B3.out).below hbl, ⟨Blk.new _ _ _, HR3.out.below hbl, fun h => by have := hmr _ h; omega⟩, fun b hb => ?_, fun b hb => ⟨?_, id⟩, bl_chain B1.out (bl_chain B2.out (bl_chain B3.out hbl)), fun b hz => hz.elim⟩
      · have hb2 : w2.heap.size ≤ b := hb.elim (HM3.out b) (fun e => by omega)
        exact ⟨fun h => by have := hmd b h; omega, fun h => h.elim, fun h => by have := hmi b h; omega, fun h => by omega⟩
      · rcases hb with hb | hb | hb | hb | hb | hb
        · exact HM1.out b hb
        · exact hb.elim
        · have := HM2.out b hb; omega
        · have := HM3.out b hb; omega
        · have := HSS.out; omega
        · omega
    have HP0 := Lib.hid hp0
    clear hp0 hz1 hz2 hz3 HS2 HR3 HM1 HM2 HM3 HD1 HSS B1 B2 B3
    generalize w3.alloc (.cells #[.pointer (some ⟨r, 0, none⟩), .int .i64 0] 37) = W0 at HP0 ⊢
    generalize w3.heap.size = p at HP0 ⊢
    go_loopw [8, 13, 14, 15] (fun v8 v13 _ _ W => ∃ (i s : Nat) (x : ST) (D : Dk.DS) (L : List (List Int)), i ≤ 40 ∧ i ≤ l.length ∧ v13 = .int .i64 (i : Int) ∧ v8 = .pointer (some ⟨s, 0, none⟩) ∧ Pl w W NoB s d p 2 x false D L L x.n ∧ PInv D 2 x L (2 * i) ∧ L.length = m) (fun _ v13 _ _ _ => 40 - (intOf v13).toNat)
    case atStart => exact ⟨0, s, ST.zero, freshD k3, emptyL m, by omega, by omega, rfl, rfl, HP0.out, HPI.out, hel⟩
    case round =>
      obtain ⟨i, s', x, D, L, hi, hil, rfl, rfl, hp, hpi, hlm⟩ := hrel
      have HP := Lib.hid hp
      have HI := Lib.hid hpi
      have HLM := Lib.hid hlm
      clear hp hpi hlm
      by_cases hlt : i < l.length
      · have z1 : decide ((i : Int) < (l.length : Int)) = true := decide_eq_true (by omega)
        by_cases hlt2 : i < 40
        · have z2 : decide ((i : Int) < 40) = true := decide_eq_true (by omega)
          obtain ⟨hy, b, o, rfl, hc⟩ := HL.out i hlt
          have hbl := HP.out.bl
          have x0 := (hbl.cell (cell_block_lt (hc 0 _ rfl))).trans (hc 0 _ rfl)
          have HCC := Lib.hid hc
          have HY := Lib.hid hy
          clear hc hy hbl
          generalize l[i] = y at x0 HCC HY
          simp only [Nat.add_zero] at x0
          have hcl : ∀ (V : World), Below w.heap.size w V → V.cell? ⟨b, o + i * 4, none⟩ = some (.int .i64 y.kind) ∧ V.cell? ⟨b, o + i * 4 + 1, none⟩ = some (.int .i64 y.n) ∧ V.cell? ⟨b, o + i * 4 + 2, none⟩ = some (.slice y.A y.l.length y.c) ∧ V.cell? ⟨b, o + i * 4 + 3, none⟩ = some (.slice y.B y.ks.length y.d) := fun V hV => by
            have t0 := (hV.cell (cell_block_lt (HCC.out 0 _ rfl))).trans (HCC.out 0 _ rfl)
            have t1 := (hV.cell (cell_block_lt (HCC.out 1 _ rfl))).trans (HCC.out 1 _ rfl)
            have t2 := (hV.cell (cell_block_lt (HCC.out 2 _ rfl))).trans (HCC.out 2 _ rfl)
            have t3 := (hV.cell (cell_block_lt (HCC.out 3 _ rfl))).trans (HCC.out 3 _ rfl)
            rw [← Nat.add_assoc] at t0 t1 t2 t3
            exact ⟨t0, t1, t2, t3⟩
          have HCL := Lib.hid hcl
          clear hcl HCC
          have HST := Lib.hid (fun (V : World) (s' : Nat) (h : Pl w V NoB s' d p 2 x false D L L x.n) => step_any h HI.out (by omega) y HY.out)
          by_cases h5 : y.kind = 5
          · have k5 : (y.kind == 5) = true := by simpa using h5
            have HRO := Lib.hid (reopen HP.out HI.out 2 (m : Int) rfl (by rw [HLM.out]))
            clear h5
            go_wp2_with (first
              | (go_at_call 8; (with_reducible refine HRO.out.mono ?_); rintro e w4 ⟨s4, rfl, hp4⟩; obtain ⟨y0, y1, y2, y3⟩ := HCL.out _ hp4.bl; have HP4 := Lib.hid hp4; clear hp4)
              | (go_at_call 10; (with_reducible refine (HST.out _ _ HP4.out).mono ?_); rintro e w5 ⟨rfl, x5, D5, L5, hp5, hi5, hl5⟩; have HP5 := Lib.hid hp5; have HI5 := Lib.hid hi5; have HL5 := Lib.hid hl5; clear hp5 hi5 hl5)
              | (go_at_call 11; (with_reducible refine (psame (N := 0) HP5.out).mono ?_); rintro e w6 ⟨rfl, hp6⟩; have HP6 := Lib.hid hp6; clear hp6)
              | (go_at_call 12; (with_reducible refine (pdead HP6.out).mono ?_); rintro e w7 ⟨rfl, rfl⟩))
            go_roundw
            case measure => simp [intOf]; omega
            case rel => exact ⟨i + 1, s4, x5, D5, L5, by omega, by omega, by go_num, rfl, HP6.out, HI5.out, HL5.out.trans HLM.out⟩
          · have k5 : (y.kind == 5) = false := by simpa using h5
            clear h5
            obtain ⟨y0, y1, y2, y3⟩ := HCL.out _ HP.out.bl
            clear x0
            go_wp2_with (first
              | (go_at_call 10; (with_reducible refine (HST.out _ _ HP.out).mono ?_); rintro e w5 ⟨rfl, x5, D5, L5, hp5, hi5, hl5⟩; have HP5 := Lib.hid hp5; have HI5 := Lib.hid hi5; have HL5 := Lib.hid hl5; clear hp5 hi5 hl5)
              | (go_at_call 11; (with_reducible refine (psame (N := 0) HP5.out).mono ?_); rintro e w6 ⟨rfl, hp6⟩; have HP6 := Lib.hid hp6; clear hp6)
              | (go_at_call 12; (with_reducible refine (pdead HP6.out).mono ?_); rintro e w7 ⟨rfl, rfl⟩))
            go_roundw
            case measure => simp [intOf]; omega
            case rel => exact ⟨i + 1, s', x5, D5, L5, by omega, by omega, by go_num, rfl, HP6.out, HI5.out, HL5.out.trans HLM.out⟩
        · have z2 : decide ((i : Int) < 40) = false := decide_eq_false (by omega)
          go_wp2_with (first
            | (go_at_call 6; (with_reducible refine (known_any _).mono ?_); rintro e w6 ⟨rfl, hb6⟩; have B6 := Lib.hid (bl_chain HP.out.bl hb6); clear hb6))
          go_ret
          exact ⟨rfl, B6.out⟩
      · have z1 : decide ((i : Int) < (l.length : Int)) = false := decide_eq_false (by omega)
        go_wp2_with (first
          | (go_at_call 6; (with_reducible refine (known_any _).mono ?_); rintro e w6 ⟨rfl, hb6⟩; have B6 := Lib.hid (bl_chain HP.out.bl hb6); clear hb6))
        go_ret
        exact ⟨rfl, B6.out⟩
end Go.Proofs.YthlijldapoeepaaGreat
