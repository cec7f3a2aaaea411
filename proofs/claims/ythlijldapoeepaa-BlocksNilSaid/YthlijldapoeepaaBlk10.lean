/- Layer 6: Open, where no journal is still to be done. -/
import Derived.Test.YthlijldapoeepaaBlk9
namespace Go.Proofs.Ythlijldapoeepaa
set_option linter.unusedVariables false
set_option linter.unusedSimpArgs false
set_option maxRecDepth 100000
open Go.RowKit Go.Shelf

/-- The state of the sectors looked at so far. -/
def topTo (D : Dk.DS) (F : Nat) : Nat → ST
  | 0 => ST.zero
  | i + 1 => if (readST (Dk.readD D (F + i : Nat) 1)).gen > (topTo D F i).gen then readST (Dk.readD D (F + i : Nat) 1) else topTo D F i
def top (D : Dk.DS) (F : Nat) : ST := topTo D F 2
def RetOpen (w : World) (d F : Nat) (x : ST) (D : Dk.DS) (Md Rr : Nat → Prop) (L : List (List Int)) (e : Ending) (w' : World) : Prop :=
  ∃ s g Mi, e = .returned (.tuple #[.pointer (some ⟨s, 0, none⟩), .int .i64 0]) ∧ StAt w' s d g F x false D Md Rr L Mi ∧ w.heap.size ≤ s ∧ (∀ b, Mi b → w.heap.size ≤ b) ∧ Below w.heap.size w w'
section
variable {w : World} {d F : Nat} {L : List (List Int)} {Md Rr : Nat → Prop} {D : Dk.DS}
theorem open_nil (w : World) (F n : Int) : Calls Try.prog 9 #[.pointer none, .int .i64 F, .int .i64 n] w fun e w' => e = .returned (.tuple #[.pointer none, .int .i64 2]) ∧ w = w' := by
  go_enter Try.func9, Try.ntmps9
  go_wp2_with fail
  go_ret2
  exact ⟨rfl, rfl⟩
theorem need_any (n : Int) (w : World) : Calls Try.prog 5 #[.int .i64 n] w fun e w' => e = .returned (.int .i64 (needI n)) ∧ w = w' := by
  by_cases h : n < 1 ∨ n > 256
  · have := need_no n h w
    unfold needI
    rw [if_pos h]
    exact this
  · obtain ⟨m, rfl⟩ := Int.eq_ofNat_of_zero_le (show 0 ≤ n by omega)
    have := need_ok m (by omega) (by omega) w
    unfold needI
    rw [if_neg h]
    exact this
def openBad (N : Nat) (F n : Int) : Prop := needI n = 0 ∨ F < 0 ∨ (N : Int) < F ∨ (N : Int) - F < needI n
set_option maxHeartbeats 1600000 in
theorem open_bad (hd : Dk.IsDisk w d D Md Rr) (F n : Int) (hF : -9223372036854775808 ≤ F ∧ F ≤ 9223372036854775807) (h : openBad D.n F n) : Calls Try.prog 9 #[.pointer (some ⟨d, 0, none⟩), .int .i64 F, .int .i64 n] w fun e w' => e = .returned (.tuple #[.pointer none, .int .i64 1]) ∧ w = w' := by
  have hm := hd.ok.most
  have HN := Lib.hid (need_any n w)
  have hb : 0 ≤ needI n ∧ needI n ≤ 1000 := by unfold needI rowsN; split <;> omega
  have HSZ := Lib.hid (Dk.size_any hd)
  obtain ⟨q, hq⟩ : ∃ q, needI n = q := ⟨_, rfl⟩
  unfold openBad at h
  rw [hq] at HN hb h
  clear hq hd
  rcases (by omega : q = 0 ∨ (¬ q = 0 ∧ F < 0) ∨ (¬ q = 0 ∧ ¬ F < 0 ∧ (D.n : Int) < F) ∨ (¬ q = 0 ∧ ¬ F < 0 ∧ ¬ (D.n : Int) < F ∧ (D.n : Int) - F < q)) with h1 | ⟨h1, h2⟩ | ⟨h1, h2, h3⟩ | ⟨h1, h2, h3, h4⟩
  all_goals
    clear h
    have k1 : ¬ q = 0 → (q == 0) = false := fun h => by simpa using h
    have k2 : (D.n : Int) < F → decide ((D.n : Int) < F) = true := fun h => decide_eq_true h
    go_enter Try.func9, Try.ntmps9
    go_wp2_with (first
      | (go_at_call 5; (with_reducible refine HN.out.mono ?_); rintro e w' ⟨rfl, rfl⟩)
      | (go_at_call 20; (with_reducible refine HSZ.out.mono ?_); rintro e w' ⟨rfl, rfl⟩))
    go_ret2
    exact ⟨rfl, rfl⟩
theorem readState_y (A : Option Addr) (c : Nat) (l : List Int) (y : ST) (hy : readST l = y) (w : World) (hr : Rd w A (by8 l)) (hB : isB l) (hl : l.length = 256) (hc : 256 ≤ c) (hm : c ≤ maxLen) :
    Calls Try.prog 23 #[.slice A 256 c] w fun e w' => e = .returned (.agg #[.int .i64 y.gen, .int .i64 y.n, .int .i64 y.area, .int .i64 y.op]) ∧ Below w.heap.size w w' := by
  subst hy
  exact readState_any A c l w hr hB hl hc hm
theorem readST_bounds (l : List Int) : 0 ≤ (readST l).gen ∧ (readST l).gen ≤ 1152921504606846976 := by
  unfold readST
  split
  · rename_i h
    have := h.2
    unfold ST.good at this
    omega
  · simp [ST.zero]
set_option maxHeartbeats 6400000 in
theorem open_ok (hd : Dk.IsDisk w d D Md Rr) (hF : F ≤ 100000) (a : Nat) (ha : (top D F).area = (a : Int)) (ha1 : a ≤ 1) (hL : LoadOk D F a L) (hop : (top D F).op = 0) :
    Calls Try.prog 9 #[.pointer (some ⟨d, 0, none⟩), .int .i64 (F : Int), .int .i64 (L.length : Int)] w (RetOpen w d F (top D F) D Md Rr L) := by
  have h256 := hL.ok.hi
  have h1 := hL.ok.lo
  have hfit := hL.fit
  have hm := hd.ok.most
  obtain ⟨r, hr⟩ : ∃ r, rowsN L.length = r := ⟨_, rfl⟩
  have HN := Lib.hid (need_ok L.length h1 h256 w)
  have HSZ := Lib.hid (Dk.size_any hd)
  have HNEW := Lib.hid (new_ok L.length w h1 h256)
  have HL := Lib.hid hL
  have HD := Lib.hid hd
  rw [hr] at hfit HN
  obtain ⟨q, hq⟩ : ∃ q, 19 + 2 * r = q := ⟨_, rfl⟩
  rw [hq] at HN
  have hq0 : 19 ≤ q := by omega
  have hfit2 : F + q ≤ D.n := by omega
  have HAE := Lib.hid ha
  have HOP := Lib.hid hop
  clear hL hd hq hr hfit ha hop
  have k1 : ((q : Int) == 0) = false := by simp; omega
  have k2 : decide ((F : Int) < 0) = false := decide_eq_false (by omega)
  have k3 : decide ((D.n : Int) < (F : Int)) = false := decide_eq_false (by omega)
  have k4 : decide ((D.n : Int) - (F : Int) < (q : Int)) = false := decide_eq_false (by omega)
  go_enter Try.func9, Try.ntmps9
  go_wp2_with (first
    | (go_at_call 5; (with_reducible refine HN.out.mono ?_); rintro e w' ⟨rfl, rfl⟩)
    | (go_at_call 20; (with_reducible refine HSZ.out.mono ?_); rintro e w' ⟨rfl, rfl⟩)
    | (go_at_call 21; (with_reducible refine HNEW.out.mono ?_); rintro e w2 ⟨g, Mi, rfl, hi2, hm2, hb2⟩; have HI2 := Lib.hid hi2; have HM2 := Lib.hid hm2; have B2 := Lib.hid hb2; clear hi2 hm2 hb2))
  have hb0 : IsSt (w2.alloc (.cells #[.pointer (some ⟨d, 0, none⟩), .int .i64 F, .pointer (some ⟨g, 0, none⟩), .int .i64 0, .int .i64 0, .int .i64 0, .int .i64 0, .bool false] 56)) w2.heap.size d g F ST.zero false := Blk.new w2 _ _
  have HS0 := Lib.hid hb0
  have B3 := Lib.hid (bl_chain B2.out (bl_alloc w2 (.cells #[.pointer (some ⟨d, 0, none⟩), .int .i64 F, .pointer (some ⟨g, 0, none⟩), .int .i64 0, .int .i64 0, .int .i64 0, .int .i64 0, .bool false] 56)))
  have HI3 := Lib.hid (HI2.out.below (bl_alloc w2 (.cells #[.pointer (some ⟨d, 0, none⟩), .int .i64 F, .pointer (some ⟨g, 0, none⟩), .int .i64 0, .int .i64 0, .int .i64 0, .int .i64 0, .bool false] 56)))
  have hz2 := B2.out.size
  have hMi : ∀ b, Mi b → b < w2.heap.size := HI2.out.mlt
  have HMI := Lib.hid hMi
  have hz3 : w2.heap.size + 1 = (w2.alloc (.cells #[.pointer (some ⟨d, 0, none⟩), .int .i64 F, .pointer (some ⟨g, 0, none⟩), .int .i64 0, .int .i64 0, .int .i64 0, .int .i64 0, .bool false] 56)).heap.size := by simp
  clear hb0 hMi
  generalize w2.alloc (.cells #[.pointer (some ⟨d, 0, none⟩), .int .i64 F, .pointer (some ⟨g, 0, none⟩), .int .i64 0, .int .i64 0, .int .i64 0, .int .i64 0, .bool false] 56) = W3 at HS0 B3 HI3 hz3 ⊢
  obtain ⟨s, hs⟩ : ∃ s, w2.heap.size = s := ⟨_, rfl⟩
  rw [hs] at HS0 hz3 hz2 HMI ⊢
  clear hs
  go_loopw [13, 14, 15, 16, 57] (fun _ _ _ _ v W => ∃ i : Nat, i ≤ 2 ∧ v = .int .i64 (i : Int) ∧ IsSt W s d g F (topTo D F i) false ∧ Tr (fun b => b = s) W3 W) (fun _ _ _ _ v _ => 2 - (intOf v).toNat)
  case atStart => exact ⟨0, by omega, rfl, HS0.out, Tr.refl _ _⟩
  case round =>
    obtain ⟨i, hi, rfl, hst, ht⟩ := hrel
    have HST := Lib.hid hst
    have HT := Lib.hid ht
    clear hst ht
    have hs3 : s < W3.heap.size := by omega
    have hdk : Dk.IsDisk wr d D Md Rr := (HD.out.below B3.out).tr HT.out (fun b hb e => by have := HD.out.mlt b hb; omega) (fun b hb e => by have := HD.out.rlt b hb; omega)
    have HDK := Lib.hid hdk
    clear hdk
    by_cases hlt : i < 2
    · obtain ⟨z, hz⟩ : ∃ z, F + i = z := ⟨_, rfl⟩
      have hz1 : (F : Int) + (i : Int) = (z : Int) := by omega
      have HRR := Lib.hid (row_read HDK.out z (by omega))
      have HTO : Hid (topTo D F (i + 1) = if (readST (Dk.readD D (z : Nat) 1)).gen > (topTo D F i).gen then readST (Dk.readD D (z : Nat) 1) else topTo D F i) := Lib.hid (by rw [← hz]; rfl)
      clear hz
      generalize Dk.readD D (z : Nat) 1 = l at HRR HTO
      obtain ⟨y, hy⟩ : ∃ y, readST l = y := ⟨_, rfl⟩
      obtain ⟨x, hx⟩ : ∃ x, topTo D F i = x := ⟨_, rfl⟩
      rw [hy, hx] at HTO
      rw [hx] at HST
      have HY := Lib.hid hy
      clear hy hx
      have c3 := HST.out.cell 3
      simp [stCells] at c3
      go_wp2_with (first
        | (go_at_call 22; (with_reducible refine HRR.out.mono ?_); rintro e w5 ⟨b5, c5, rfl, h56, hcm, hl, hB, hrd, hbb, hb5⟩; have HRD := Lib.hid hrd; have HBB := Lib.hid hB; have HLL := Lib.hid hl; have B5 := Lib.hid hb5; clear hl hB hrd hbb hb5)
        | (go_at_call 23; (with_reducible refine (readState_y _ _ l y HY.out _ HRD.out HBB.out HLL.out h56 hcm).mono ?_); rintro e w6 ⟨rfl, hb6⟩; have B6 := Lib.hid (bl_chain B5.out hb6); clear hb6))
      have hb7 := Blk.new w6 54 #[.int .i64 y.gen, .int .i64 y.n, .int .i64 y.area, .int .i64 y.op]
      have B7 := Lib.hid (bl_chain B6.out (bl_alloc w6 (.cells #[.int .i64 y.gen, .int .i64 y.n, .int .i64 y.area, .int .i64 y.op] 54)))
      have HS7 := Lib.hid (HST.out.keep B7.out)
      have HB7 := Lib.hid hb7
      clear hb7 c3
      generalize w6.alloc (.cells #[.int .i64 y.gen, .int .i64 y.n, .int .i64 y.area, .int .i64 y.op] 54) = W7 at B7 HS7 HB7 ⊢
      have y0 := HB7.out.cell 0
      have y1 := HB7.out.cell 1
      have y2 := HB7.out.cell 2
      have y3 := HB7.out.cell 3
      have c3 := HS7.out.cell 3
      have c4 := HS7.out.cell 4
      have c5 := HS7.out.cell 5
      have c6 := HS7.out.cell 6
      have f3 := HS7.out.frozen 3
      have f4 := HS7.out.frozen 4
      have f5 := HS7.out.frozen 5
      have f6 := HS7.out.frozen 6
      simp at y0 y1 y2 y3
      simp [stCells] at c3 c4 c5 c6
      by_cases hgt : y.gen > x.gen
      · have HT1 := Lib.hid (HTO.out.trans (if_pos hgt))
        have k5 : decide (x.gen < y.gen) = true := decide_eq_true hgt
        clear HTO
        go_quiet (fail)
        go_wp2_with fail
        go_roundw
        case measure => simp [intOf]; omega
        case rel =>
          refine ⟨i + 1, by omega, by go_num, ?_, ?_⟩
          · rw [HT1.out]
            exact Blk.set_ (Blk.set_ (Blk.set_ (Blk.set_ (HS7.out.keep (bl_drewN W7 _)) 3 (.int .i64 y.gen)) 4 (.int .i64 y.n)) 5 (.int .i64 y.area)) 6 (.int .i64 y.op)
          · exact ((((HT.out.then_below (bl_chain B7.out (bl_drewN W7 _))).setCell (p := ⟨s, 3, none⟩) (fun _ => rfl) _).setCell (p := ⟨s, 4, none⟩) (fun _ => rfl) _).setCell (p := ⟨s, 5, none⟩) (fun _ => rfl) _).setCell (p := ⟨s, 6, none⟩) (fun _ => rfl) _
      · have HT1 := Lib.hid (HTO.out.trans (if_neg hgt))
        have k5 : decide (x.gen < y.gen) = false := decide_eq_false hgt
        clear HTO
        go_quiet (fail)
        go_wp2_with fail
        go_roundw
        case measure => simp [intOf]; omega
        case rel =>
          exact ⟨i + 1, by omega, by go_num, by rw [HT1.out]; exact HS7.out.keep (bl_drewN W7 _), HT.out.then_below (bl_chain B7.out (bl_drewN W7 _))⟩
    · obtain rfl : i = 2 := by omega
      have HST2 : Hid (StAt wr s d g F (top D F) false D Md Rr (emptyL L.length) Mi) := Lib.hid
        ⟨HST.out, HDK.out, HI3.out.tr HT.out (fun b hb e => by have := HMI.out b hb; omega), fun h => by have := HD.out.mlt s h; omega, fun h => by have := HD.out.rlt s h; omega, fun h => by have := HMI.out s h; omega,
          fun b hb => ⟨fun h => by have := HD.out.mlt b h; have := HM2.out b hb; omega, fun h => by have := HD.out.rlt b h; have := HM2.out b hb; omega⟩⟩
      have HLD := Lib.hid (load_any HST2.out a HAE.out ha1 HL.out hF)
      have HTT := Lib.hid HT.out
      clear HT
      go_wp2_with (first
        | (go_at_call 24; (with_reducible refine HLD.out.mono ?_); rintro e w8 ⟨Mi8, rfl, hst8, hm8, ht8⟩; have c6 := hst8.blk.cell 6; simp [stCells] at c6; rw [HOP.out] at c6; have HST8 := Lib.hid hst8; have HM8 := Lib.hid hm8; have HT8 := Lib.hid ht8; clear hst8 hm8 ht8))
      go_ret2
      have hz := HTT.out.size
      have t8 : Below w.heap.size w w8 := bl_tr (bl_tr B3.out HTT.out (fun b e => by omega)) HT8.out (fun b hb => HM2.out b hb)
      exact ⟨s, g, Mi8, rfl, HST8.out, hz2, fun b hb => (HM8.out b hb).elim (HM2.out b) (fun h => by have := B3.out.size; omega), t8⟩
end
end Go.Proofs.Ythlijldapoeepaa
