/- sameRuns and alike of the laws of 05. -/
import Derived.Test.YtdddbpnllhnfdaaRefY3
import Derived.Test.YtdddbpnllhnfdaaStepX
namespace Go.Proofs.Ytdddbpnllhnfdaa
set_option linter.unusedVariables false
set_option linter.unusedSimpArgs false
set_option maxRecDepth 100000
open Go.RowKit Go.Shelf

set_option maxHeartbeats 1600000 in
theorem sameruns_true (A1 : Option Addr) (c1 : Nat) (vs1 : List Value) (A2 : Option Addr) (c2 : Nat) (vs2 : List Value) (l : List (Int × Nat)) (lo1 lo2 b1 b2 : Nat) (w : World) (hl : l.length ≤ 256) (ho1 : w.ownsRow b1 40 1 (.slice A1 l.length c1) l.length vs1) (hp1 : PairsAt w lo1 vs1 l) (ho2 : w.ownsRow b2 40 1 (.slice A2 l.length c2) l.length vs2) (hp2 : PairsAt w lo2 vs2 l) :
    Calls Try.prog 56 #[.slice A1 l.length c1, .slice A2 l.length c2] w fun e w' => e = .returned (.bool true) ∧ Below w.heap.size w w' := by
  have O1 := Lib.hid ho1
  have O2 := Lib.hid ho2
  have P1 := Lib.hid hp1
  have P2 := Lib.hid hp2
  have t0 : ((l.length : Int) != (l.length : Int)) = false := by simp
  clear ho1 ho2 hp1 hp2
  go_enter Try.func56, Try.ntmps56
  go_wp2_with fail
  go_loopw [5] (fun v W => ∃ i : Nat, i ≤ l.length ∧ v = .int .i64 (i : Int) ∧ Below w.heap.size w W) (fun v _ => l.length - (RowKit.intOf v).toNat)
  case atStart => exact ⟨0, by omega, rfl, Below.refl _ _⟩
  case round =>
    obtain ⟨i, hi, rfl, hW⟩ := hrel
    have HW := Lib.hid hW
    clear hW
    by_cases hlt : i < l.length
    · obtain ⟨⟨z, m⟩, hp⟩ : ∃ p, l[i]? = some p := ⟨l[i], List.getElem?_eq_getElem hlt⟩
      obtain ⟨bx, e1, _, e3⟩ := P1.out i _ hp
      obtain ⟨by_, f1, _, f3⟩ := P2.out i _ hp
      obtain ⟨ga, rfl⟩ := ownsRow_addr O1.out (by omega)
      obtain ⟨gb, rfl⟩ := ownsRow_addr O2.out (by omega)
      have y0 : wr.cell? ⟨ga, i, none⟩ = some (.slice (some ⟨bx, 0, none⟩) 2 2) := by
        obtain ⟨ad, e4, hc⟩ := Rd.of_own O1.out i _ e1
        injection e4 with e4
        subst e4
        rw [add_lit, Nat.zero_add] at hc
        exact (HW.out.cell (cell_block_lt hc)).trans hc
      have y1 : wr.cell? ⟨bx, 0, none⟩ = some (.int .i64 z) := (HW.out.cell e3.lt).trans (e3.cell 0)
      have y2 : wr.cell? ⟨bx, 1, none⟩ = some (.int .i64 (m : Int)) := (HW.out.cell e3.lt).trans (e3.cell 1)
      have z0 : wr.cell? ⟨gb, i, none⟩ = some (.slice (some ⟨by_, 0, none⟩) 2 2) := by
        obtain ⟨ad, e4, hc⟩ := Rd.of_own O2.out i _ f1
        injection e4 with e4
        subst e4
        rw [add_lit, Nat.zero_add] at hc
        exact (HW.out.cell (cell_block_lt hc)).trans hc
      have z1 : wr.cell? ⟨by_, 0, none⟩ = some (.int .i64 z) := (HW.out.cell f3.lt).trans (f3.cell 0)
      have z2 : wr.cell? ⟨by_, 1, none⟩ = some (.int .i64 (m : Int)) := (HW.out.cell f3.lt).trans (f3.cell 1)
      have t1 : (z != z) = false := by simp
      have t2 : ((m : Int) != (m : Int)) = false := by simp
      clear hp e1 e3 f1 f3
      go_wp2_with fail
      go_quiet (fail)
      go_wp2_with fail
      exact ⟨⟨i + 1, by omega, by go_num, bl_chain HW.out (bl_drewN _ _)⟩, by simp [RowKit.intOf]; omega⟩
    · go_wp2_with fail
      go_ret
      exact ⟨rfl, HW.out⟩
section
variable {w W : World} {g r : Nat} {L : List (List Int)}
theorem Duo.okL {Z : Nat → Prop} (h : Duo w W Z g r L L) : ImgOk L := by
  obtain ⟨B, D, M, q, c, M2, h1, _⟩ := h
  exact h1.ok
theorem Duo.pimg {Z : Nat → Prop} (h : Duo w W Z g r L L) : ∃ B D M, IsImg W g L B D M := by
  obtain ⟨B, D, M, q, c, M2, h1, _⟩ := h
  exact ⟨B, D, M, h1⟩
theorem Duo.pref {Z : Nat → Prop} (h : Duo w W Z g r L L) : ∃ q c M, IsRef W r L q c M := by
  obtain ⟨B, D, M, q, c, M2, _, h2, _⟩ := h
  exact ⟨q, c, M2, h2⟩
set_option maxHeartbeats 8000000 in
theorem alike_true (h : Duo w W NoB g r L L) (lba n : Int) (hb : -9223372036854775808 ≤ lba ∧ lba ≤ 9223372036854775807 ∧ -9223372036854775808 ≤ n ∧ n ≤ 9223372036854775807) :
    Calls Try.prog 30 #[.pointer (some ⟨g, 0, none⟩), .pointer (some ⟨r, 0, none⟩), .int .i64 lba, .int .i64 n] W fun e W' => e = .returned (.bool true) ∧ Duo w W' NoB g r L L ∧ Below W.heap.size W W' := by
  have HD := Lib.hid h
  have hok := Lib.hid h.okL
  obtain ⟨er, her⟩ : ∃ er, wrongE L.length lba n = er := ⟨_, rfl⟩
  have eE : (er != er) = false := by simp
  obtain ⟨RL, hRL⟩ : ∃ RL, readL L lba n = RL := ⟨_, rfl⟩
  have hRLl : RL.length ≤ 16384 := by
    rw [← hRL]
    unfold readL
    split
    · rename_i hin
      have := of_decide_eq_true hin
      rw [rdTo_length hok.out]
      have := hok.out.hi
      omega
    · simp
  obtain ⟨BL, hBL⟩ : ∃ BL, bytesL L = BL := ⟨_, rfl⟩
  obtain ⟨uL, huL⟩ : ∃ uL, used L = uL := ⟨_, rfl⟩
  obtain ⟨hL, hhL⟩ : ∃ hL, hasB L lba = hL := ⟨_, rfl⟩
  obtain ⟨rs, hrs⟩ : ∃ rs, runsG (nums L) = rs := ⟨_, rfl⟩
  have hrl : rs.length ≤ 256 := by rw [← hrs]; have := runsG_length_le (nums L); rw [nums_length] at this; have := used_le L; have := hok.out.hi; omega
  have hBLl : BL.length ≤ 20000 := by
    rw [← hBL]
    have := nums_flat_length L hok.out L.length
    have := hok.out.hi
    unfold bytesL nums
    rw [List.length_append, List.length_append, be_length, be_length]
    omega
  have HRD := Lib.hid (show ∀ W, Duo w W NoB g r L L → Calls Try.prog 15 #[.pointer (some ⟨g, 0, none⟩), .int .i64 lba, .int .i64 n] W (Ret8 W RL er) from fun W h => by
    obtain ⟨B, D, M, hI⟩ := h.pimg
    rw [← hRL, ← her]; exact read_any ⟨B, D, hI⟩ lba n hb)
  have HRR := Lib.hid (show ∀ W, Duo w W NoB g r L L → Calls Try.prog 52 #[.pointer (some ⟨r, 0, none⟩), .int .i64 lba, .int .i64 n] W (Ret8 W RL er) from fun W h => by
    obtain ⟨q, c, M, hI⟩ := h.pref
    rw [← hRL, ← her]; exact rread_any hI lba n hb)
  have HBY := Lib.hid (show ∀ W, Duo w W NoB g r L L → Calls Try.prog 13 #[.pointer (some ⟨g, 0, none⟩)] W fun e w' => ∃ A c, e = .returned (.slice A BL.length c) ∧ w'.ownsRow W.heap.size 5 1 (.slice A BL.length c) BL.length (by8 BL) ∧ Below W.heap.size W w' from fun W h => by
    obtain ⟨B, D, M, hI⟩ := h.pimg
    rw [← hBL]
    refine (bytes_any hI).mono ?_
    rintro e w' ⟨A, c, rfl, _, ho, hb⟩
    exact ⟨A, c, rfl, ho, hb⟩)
  have HRB := Lib.hid (show ∀ W (Z : Nat → Prop), Duo w W Z g r L L → Calls Try.prog 55 #[.pointer (some ⟨r, 0, none⟩)] W fun e w' => ∃ A c, e = .returned (.slice A BL.length c) ∧ w'.ownsRow W.heap.size 5 1 (.slice A BL.length c) BL.length (by8 BL) ∧ Below W.heap.size W w' from fun W Z h => by
    obtain ⟨q, c, M, hI⟩ := h.pref
    rw [← hBL]
    refine (rbytes_any hI).mono ?_
    rintro e w' ⟨A, c, rfl, _, ho, hb⟩
    exact ⟨A, c, rfl, ho, hb⟩)
  have HSZ := Lib.hid (show ∀ W (Z : Nat → Prop), Duo w W Z g r L L → Calls Try.prog 18 #[.pointer (some ⟨g, 0, none⟩)] W fun e w' => e = .returned (.int .i64 L.length) ∧ W = w' from fun W Z h => by
    obtain ⟨B, D, M, hI⟩ := h.pimg
    exact size_any ⟨B, D, hI⟩)
  have HUS := Lib.hid (show ∀ W (Z : Nat → Prop), Duo w W Z g r L L → Calls Try.prog 19 #[.pointer (some ⟨g, 0, none⟩)] W fun e w' => e = .returned (.int .i64 uL) ∧ W = w' from fun W Z h => by
    obtain ⟨B, D, M, hI⟩ := h.pimg
    rw [← huL]; exact used_any ⟨B, D, hI⟩)
  have HRU := Lib.hid (show ∀ W (Z : Nat → Prop), Duo w W Z g r L L → Calls Try.prog 53 #[.pointer (some ⟨r, 0, none⟩)] W fun e w' => e = .returned (.int .i64 uL) ∧ W = w' from fun W Z h => by
    obtain ⟨q, c, M, hI⟩ := h.pref
    rw [← huL]; exact rused_any hI)
  have HHS := Lib.hid (show ∀ W (Z : Nat → Prop), Duo w W Z g r L L → Calls Try.prog 16 #[.pointer (some ⟨g, 0, none⟩), .int .i64 lba] W fun e w' => e = .returned (.bool hL) ∧ W = w' from fun W Z h => by
    obtain ⟨B, D, M, hI⟩ := h.pimg
    rw [← hhL]; exact has_any ⟨B, D, hI⟩ lba (by omega))
  have HRH := Lib.hid (show ∀ W (Z : Nat → Prop), Duo w W Z g r L L → Calls Try.prog 54 #[.pointer (some ⟨r, 0, none⟩), .int .i64 lba] W fun e w' => e = .returned (.bool hL) ∧ W = w' from fun W Z h => by
    obtain ⟨q, c, M, hI⟩ := h.pref
    rw [← hhL]; exact rhas_any hI lba (by omega))
  have HRN := Lib.hid (show ∀ W (Z : Nat → Prop), Duo w W Z g r L L → Calls Try.prog 17 #[.pointer (some ⟨g, 0, none⟩)] W fun e w' => ∃ A c vs, e = .returned (.slice A rs.length c) ∧ w'.ownsRow W.heap.size 40 1 (.slice A rs.length c) rs.length vs ∧ PairsAt w' W.heap.size vs rs ∧ Below W.heap.size W w' from fun W Z h => by
    obtain ⟨B, D, M, hI⟩ := h.pimg
    rw [← hrs]
    refine (lruns_any hI).mono ?_
    rintro e w' ⟨A, c, vs, rfl, _, ho, hp, hb⟩
    exact ⟨A, c, vs, rfl, ho, hp, hb⟩)
  have HRS := Lib.hid (show ∀ W (Z : Nat → Prop), Duo w W Z g r L L → Calls Try.prog 57 #[.pointer (some ⟨r, 0, none⟩)] W fun e w' => ∃ A c vs, e = .returned (.slice A rs.length c) ∧ w'.ownsRow W.heap.size 40 1 (.slice A rs.length c) rs.length vs ∧ PairsAt w' W.heap.size vs rs ∧ Below W.heap.size W w' from fun W Z h => by
    obtain ⟨q, c, M, hI⟩ := h.pref
    rw [← hrs]
    refine (rruns_any hI).mono ?_
    rintro e w' ⟨A, c, vs, rfl, _, ho, hp, hb⟩
    exact ⟨A, c, vs, rfl, ho, hp, hb⟩)
  obtain ⟨SR, hSR⟩ : ∃ SR, strOfNums RL = SR := ⟨_, rfl⟩
  obtain ⟨SB, hSB⟩ : ∃ SB, strOfNums BL = SB := ⟨_, rfl⟩
  have HSR := Lib.hid hSR
  have HSB := Lib.hid hSB
  have tR : (SR.toList != SR.toList) = false := by simp
  have tB : (SB.toList != SB.toList) = false := by simp
  have tR2 : (SR.toList == SR.toList) = true := by simp
  have tB2 : (SB.toList == SB.toList) = true := by simp
  have tL : ((L.length : Int) != (L.length : Int)) = false := by simp
  have tU : ((uL : Int) != (uL : Int)) = false := by simp
  have tH : (hL != hL) = false := by simp
  clear her hRL hBL huL hhL hrs hSR hSB h
  go_enter Try.func30, Try.ntmps30
  go_wp2_with (first
    | (go_at_call 15; (with_reducible refine (HRD.out _ HD.out).mono ?_); rintro e w1 ⟨A1, c1, rfl, hc1, ho, hb⟩; have O1 := Lib.hid ho; have X1 := Lib.hid hb; have D1 := Lib.hid (HD.out.below hb); clear ho hb)
    | (go_at_call 52; (with_reducible refine (HRR.out _ D1.out).mono ?_); rintro e w2 ⟨A2, c2, rfl, hc2, ho, hb⟩; have O2 := Lib.hid ho; have X2 := Lib.hid (bl_chain X1.out hb); have Y1 := Lib.hid (own_below (B := 0) O1.out hb); have D2 := Lib.hid (D1.out.below hb); clear ho hb)
    | (go_at_call 13; (with_reducible refine (HBY.out _ D2.out).mono ?_); rintro e w3 ⟨A3, c3, rfl, ho, hb⟩; have O3 := Lib.hid ho; have X3 := Lib.hid (bl_chain X2.out hb); have Y2 := Lib.hid (own_below (B := 0) O2.out hb); have Z1 := Lib.hid (own_below (B := 0) Y1.out hb); clear ho hb))
  have hz1 := X1.out.size
  have hz2 := X2.out.size
  have hz3 := X3.out.size
  have D3 := Lib.hid ((HD.out.avoid X3.out (Z' := fun x => W.heap.size ≤ x ∧ x < w3.heap.size) (fun x hx => hx)).below (bl_drew w3))
  have k1 := ext_on (ext_conv (c := c1) (Rd.of_own Z1.out) rfl) (bl_drew w3)
  have k2 := ext_on (ext_conv (c := c2) (Rd.of_own Y2.out) rfl) (bl_drew w3)
  have k3 := ext_on (ext_conv (c := c3) (Rd.of_own O3.out) rfl) (bl_drew w3)
  rw [HSR.out] at k1 k2
  rw [HSB.out] at k3
  obtain ⟨q, cc, M2, hR3⟩ := D3.out.pref
  have hlr := hR3.blk.lt
  have c0 : ∀ W, Ext w3.drew W → W.cell? ⟨r, 0, none⟩ = some (.slice (some ⟨q, 0, none⟩) L.length cc) := fun W h => (h.cell hlr).trans (hR3.blk.cell 0)
  clear hR3
  refine ext_start (by kernel_rfl) ?_
  refine ext_take (i := 0) (v := ?_) rfl (by kernel_rfl) (by kernel_rfl) (by kernel_rfl) (fun _ _ _ h => h) (Or.inl ⟨by rfl, ?_⟩) ?_
  rotate_left
  · (intro W hSw; go_simp; try with_reducible rfl)
  try simp only [Act.put, List.setIfInBounds_toArray, List.set_cons_zero, List.set_cons_succ]
  refine ext_take (i := 1) (v := ?_) rfl (by kernel_rfl) (by kernel_rfl) (by kernel_rfl) (fun _ _ _ h => h) (Or.inl ⟨by rfl, ?_⟩) ?_
  rotate_left
  · (intro W hSw; go_simp; try with_reducible rfl)
  try simp only [Act.put, List.setIfInBounds_toArray, List.set_cons_zero, List.set_cons_succ]
  refine ext_take (i := 2) (v := ?_) rfl (by kernel_rfl) (by kernel_rfl) (by kernel_rfl) (fun _ _ _ h => h) (Or.inl ⟨by rfl, ?_⟩) ?_
  rotate_left
  · (intro W hSw; go_simp; try with_reducible rfl)
  try simp only [Act.put, List.setIfInBounds_toArray, List.set_cons_zero, List.set_cons_succ]
  refine ext_take (i := 3) (v := ?_) rfl (by kernel_rfl) (by kernel_rfl) (by kernel_rfl) (fun _ _ _ h => h) (Or.inl ⟨by rfl, ?_⟩) ?_
  rotate_left
  · (intro W hSw; go_simp; try with_reducible rfl)
  try simp only [Act.put, List.setIfInBounds_toArray, List.set_cons_zero, List.set_cons_succ]
  refine ext_take (i := 4) (v := ?_) rfl (by kernel_rfl) (by kernel_rfl) (by kernel_rfl) (fun _ _ _ h => h) (Or.inl ⟨by rfl, ?_⟩) ?_
  rotate_left
  · (intro W hSw; go_simp; try with_reducible rfl)
  try simp only [Act.put, List.setIfInBounds_toArray, List.set_cons_zero, List.set_cons_succ]
  refine ext_take (i := 5) (v := ?_) rfl (by kernel_rfl) (by kernel_rfl) (by kernel_rfl) (fun _ _ _ h => h) (Or.inl ⟨by rfl, ?_⟩) ?_
  rotate_left
  · (intro W hSw; go_simp; try with_reducible rfl)
  try simp only [Act.put, List.setIfInBounds_toArray, List.set_cons_zero, List.set_cons_succ]
  first
    | (refine ext_take (i := 6) (v := ?_) rfl (by kernel_rfl) (by kernel_rfl) (by kernel_rfl) (fun _ _ _ h => h) (Or.inl ⟨by rfl, ?_⟩) ?_; rotate_left; · (intro W hSw; go_simp; try with_reducible rfl))
    | refine ext_take (i := 6) (v := undef) rfl (by kernel_rfl) (by kernel_rfl) (by kernel_rfl) (fun _ _ _ h => h) (Or.inr ⟨by rfl, rfl⟩) ?_
  try simp only [Act.put, List.setIfInBounds_toArray, List.set_cons_zero, List.set_cons_succ]
  first
    | (refine ext_take (i := 7) (v := ?_) rfl (by kernel_rfl) (by kernel_rfl) (by kernel_rfl) (fun _ _ _ h => h) (Or.inl ⟨by rfl, ?_⟩) ?_; rotate_left; · (intro W hSw; go_simp; try with_reducible rfl))
    | refine ext_take (i := 7) (v := undef) rfl (by kernel_rfl) (by kernel_rfl) (by kernel_rfl) (fun _ _ _ h => h) (Or.inr ⟨by rfl, rfl⟩) ?_
  try simp only [Act.put, List.setIfInBounds_toArray, List.set_cons_zero, List.set_cons_succ]
  first
    | (refine ext_take (i := 8) (v := ?_) rfl (by kernel_rfl) (by kernel_rfl) (by kernel_rfl) (fun _ _ _ h => h) (Or.inl ⟨by rfl, ?_⟩) ?_; rotate_left; · (intro W hSw; go_simp; try with_reducible rfl))
    | refine ext_take (i := 8) (v := undef) rfl (by kernel_rfl) (by kernel_rfl) (by kernel_rfl) (fun _ _ _ h => h) (Or.inr ⟨by rfl, rfl⟩) ?_
  try simp only [Act.put, List.setIfInBounds_toArray, List.set_cons_zero, List.set_cons_succ]
  refine ext_take (i := 9) (v := ?_) rfl (by kernel_rfl) (by kernel_rfl) (by kernel_rfl) (fun _ _ _ h => h) (Or.inl ⟨by rfl, ?_⟩) ?_
  rotate_left
  · (intro W hSw; go_simp; try with_reducible rfl)
  try simp only [Act.put, List.setIfInBounds_toArray, List.set_cons_zero, List.set_cons_succ]
  refine ext_take (i := 10) (v := ?_) rfl (by kernel_rfl) (by kernel_rfl) (by kernel_rfl) (fun _ _ _ h => h) (Or.inl ⟨by rfl, ?_⟩) ?_
  rotate_left
  · (intro W hSw; go_simp; try with_reducible rfl)
  try simp only [Act.put, List.setIfInBounds_toArray, List.set_cons_zero, List.set_cons_succ]
  first
    | (refine ext_take (i := 11) (v := ?_) rfl (by kernel_rfl) (by kernel_rfl) (by kernel_rfl) (fun _ _ _ h => h) (Or.inl ⟨by rfl, ?_⟩) ?_; rotate_left; · (intro W hSw; go_simp; try with_reducible rfl))
    | refine ext_take (i := 11) (v := undef) rfl (by kernel_rfl) (by kernel_rfl) (by kernel_rfl) (fun _ _ _ h => h) (Or.inr ⟨by rfl, rfl⟩) ?_
  try simp only [Act.put, List.setIfInBounds_toArray, List.set_cons_zero, List.set_cons_succ]
  first
    | (refine ext_take (i := 13) (v := ?_) rfl (by kernel_rfl) (by kernel_rfl) (by kernel_rfl) (fun _ _ _ h => h) (Or.inl ⟨by rfl, ?_⟩) ?_; rotate_left; · (intro W hSw; go_simp; try with_reducible rfl))
    | refine ext_take (i := 13) (v := undef) rfl (by kernel_rfl) (by kernel_rfl) (by kernel_rfl) (fun _ _ _ h => h) (Or.inr ⟨by rfl, rfl⟩) ?_
  try simp only [Act.put, List.setIfInBounds_toArray, List.set_cons_zero, List.set_cons_succ]
  first
    | (refine ext_take (i := 14) (v := ?_) rfl (by kernel_rfl) (by kernel_rfl) (by kernel_rfl) (fun _ _ _ h => h) (Or.inl ⟨by rfl, ?_⟩) ?_; rotate_left; · (intro W hSw; go_simp; try with_reducible rfl))
    | refine ext_take (i := 14) (v := undef) rfl (by kernel_rfl) (by kernel_rfl) (by kernel_rfl) (fun _ _ _ h => h) (Or.inr ⟨by rfl, rfl⟩) ?_
  try simp only [Act.put, List.setIfInBounds_toArray, List.set_cons_zero, List.set_cons_succ]
  first
    | (refine ext_take (i := 15) (v := ?_) rfl (by kernel_rfl) (by kernel_rfl) (by kernel_rfl) (fun _ _ _ h => h) (Or.inl ⟨by rfl, ?_⟩) ?_; rotate_left; · (intro W hSw; go_simp; try with_reducible rfl))
    | refine ext_take (i := 15) (v := undef) rfl (by kernel_rfl) (by kernel_rfl) (by kernel_rfl) (fun _ _ _ h => h) (Or.inr ⟨by rfl, rfl⟩) ?_
  try simp only [Act.put, List.setIfInBounds_toArray, List.set_cons_zero, List.set_cons_succ]
  first
    | (refine ext_take (i := 16) (v := ?_) rfl (by kernel_rfl) (by kernel_rfl) (by kernel_rfl) (fun _ _ _ h => h) (Or.inl ⟨by rfl, ?_⟩) ?_; rotate_left; · (intro W hSw; go_simp; try with_reducible rfl))
    | refine ext_take (i := 16) (v := undef) rfl (by kernel_rfl) (by kernel_rfl) (by kernel_rfl) (fun _ _ _ h => h) (Or.inr ⟨by rfl, rfl⟩) ?_
  try simp only [Act.put, List.setIfInBounds_toArray, List.set_cons_zero, List.set_cons_succ]
  first
    | (refine ext_take (i := 17) (v := ?_) rfl (by kernel_rfl) (by kernel_rfl) (by kernel_rfl) (fun _ _ _ h => h) (Or.inl ⟨by rfl, ?_⟩) ?_; rotate_left; · (intro W hSw; go_simp; try with_reducible rfl))
    | refine ext_take (i := 17) (v := undef) rfl (by kernel_rfl) (by kernel_rfl) (by kernel_rfl) (fun _ _ _ h => h) (Or.inr ⟨by rfl, rfl⟩) ?_
  try simp only [Act.put, List.setIfInBounds_toArray, List.set_cons_zero, List.set_cons_succ]
  refine ext_call (i := 12) (by kernel_rfl) rfl (fun K hK => ?_)
  go_simp
  (go_at_call 18; (with_reducible refine (HSZ.out _ _ D3.out).mono ?_); rintro e w' ⟨rfl, rfl⟩)
  refine hK.out _ _ (Below.refl _ _) ?_
  clear hK K
  try simp only [Act.put, List.setIfInBounds_toArray, List.set_cons_zero, List.set_cons_succ]
  first
    | (refine ext_take (i := 18) (v := ?_) rfl (by kernel_rfl) (by kernel_rfl) (by kernel_rfl) (fun _ _ _ h => h) (Or.inl ⟨by rfl, ?_⟩) ?_; rotate_left; · (intro W hSw; go_simp; try with_reducible rfl))
    | refine ext_take (i := 18) (v := undef) rfl (by kernel_rfl) (by kernel_rfl) (by kernel_rfl) (fun _ _ _ h => h) (Or.inr ⟨by rfl, rfl⟩) ?_
  try simp only [Act.put, List.setIfInBounds_toArray, List.set_cons_zero, List.set_cons_succ]
  refine ext_take (i := 19) (v := ?_) rfl (by kernel_rfl) (by kernel_rfl) (by kernel_rfl) (fun _ _ _ h => h) (Or.inl ⟨by rfl, ?_⟩) ?_
  rotate_left
  · (intro W hSw; go_simp; try with_reducible rfl)
  try simp only [Act.put, List.setIfInBounds_toArray, List.set_cons_zero, List.set_cons_succ]
  refine ext_take (i := 20) (v := ?_) rfl (by kernel_rfl) (by kernel_rfl) (by kernel_rfl) (fun _ _ _ h => h) (Or.inl ⟨by rfl, ?_⟩) ?_
  rotate_left
  · (intro W hSw; go_simp; try with_reducible rfl)
  try simp only [Act.put, List.setIfInBounds_toArray, List.set_cons_zero, List.set_cons_succ]
  first
    | (refine ext_take (i := 21) (v := ?_) rfl (by kernel_rfl) (by kernel_rfl) (by kernel_rfl) (fun _ _ _ h => h) (Or.inl ⟨by rfl, ?_⟩) ?_; rotate_left; · (intro W hSw; go_simp; try with_reducible rfl))
    | refine ext_take (i := 21) (v := undef) rfl (by kernel_rfl) (by kernel_rfl) (by kernel_rfl) (fun _ _ _ h => h) (Or.inr ⟨by rfl, rfl⟩) ?_
  try simp only [Act.put, List.setIfInBounds_toArray, List.set_cons_zero, List.set_cons_succ]
  first
    | (refine ext_take (i := 23) (v := ?_) rfl (by kernel_rfl) (by kernel_rfl) (by kernel_rfl) (fun _ _ _ h => h) (Or.inl ⟨by rfl, ?_⟩) ?_; rotate_left; · (intro W hSw; go_simp; try with_reducible rfl))
    | refine ext_take (i := 23) (v := undef) rfl (by kernel_rfl) (by kernel_rfl) (by kernel_rfl) (fun _ _ _ h => h) (Or.inr ⟨by rfl, rfl⟩) ?_
  try simp only [Act.put, List.setIfInBounds_toArray, List.set_cons_zero, List.set_cons_succ]
  refine ext_call (i := 22) (by kernel_rfl) rfl (fun K hK => ?_)
  go_simp
  (go_at_call 19; (with_reducible refine (HUS.out _ _ D3.out).mono ?_); rintro e w' ⟨rfl, rfl⟩)
  refine hK.out _ _ (Below.refl _ _) ?_
  clear hK K
  try simp only [Act.put, List.setIfInBounds_toArray, List.set_cons_zero, List.set_cons_succ]
  refine ext_call (i := 24) (by kernel_rfl) rfl (fun K hK => ?_)
  go_simp
  (go_at_call 53; (with_reducible refine (HRU.out _ _ D3.out).mono ?_); rintro e w' ⟨rfl, rfl⟩)
  refine hK.out _ _ (Below.refl _ _) ?_
  clear hK K
  try simp only [Act.put, List.setIfInBounds_toArray, List.set_cons_zero, List.set_cons_succ]
  first
    | (refine ext_take (i := 25) (v := ?_) rfl (by kernel_rfl) (by kernel_rfl) (by kernel_rfl) (fun _ _ _ h => h) (Or.inl ⟨by rfl, ?_⟩) ?_; rotate_left; · (intro W hSw; go_simp; try with_reducible rfl))
    | refine ext_take (i := 25) (v := undef) rfl (by kernel_rfl) (by kernel_rfl) (by kernel_rfl) (fun _ _ _ h => h) (Or.inr ⟨by rfl, rfl⟩) ?_
  try simp only [Act.put, List.setIfInBounds_toArray, List.set_cons_zero, List.set_cons_succ]
  refine ext_take (i := 26) (v := ?_) rfl (by kernel_rfl) (by kernel_rfl) (by kernel_rfl) (fun _ _ _ h => h) (Or.inl ⟨by rfl, ?_⟩) ?_
  rotate_left
  · (intro W hSw; go_simp; try with_reducible rfl)
  try simp only [Act.put, List.setIfInBounds_toArray, List.set_cons_zero, List.set_cons_succ]
  refine ext_take (i := 27) (v := ?_) rfl (by kernel_rfl) (by kernel_rfl) (by kernel_rfl) (fun _ _ _ h => h) (Or.inl ⟨by rfl, ?_⟩) ?_
  rotate_left
  · (intro W hSw; go_simp; try with_reducible rfl)
  try simp only [Act.put, List.setIfInBounds_toArray, List.set_cons_zero, List.set_cons_succ]
  first
    | (refine ext_take (i := 28) (v := ?_) rfl (by kernel_rfl) (by kernel_rfl) (by kernel_rfl) (fun _ _ _ h => h) (Or.inl ⟨by rfl, ?_⟩) ?_; rotate_left; · (intro W hSw; go_simp; try with_reducible rfl))
    | refine ext_take (i := 28) (v := undef) rfl (by kernel_rfl) (by kernel_rfl) (by kernel_rfl) (fun _ _ _ h => h) (Or.inr ⟨by rfl, rfl⟩) ?_
  try simp only [Act.put, List.setIfInBounds_toArray, List.set_cons_zero, List.set_cons_succ]
  first
    | (refine ext_take (i := 29) (v := ?_) rfl (by kernel_rfl) (by kernel_rfl) (by kernel_rfl) (fun _ _ _ h => h) (Or.inl ⟨by rfl, ?_⟩) ?_; rotate_left; · (intro W hSw; go_simp; try with_reducible rfl))
    | refine ext_take (i := 29) (v := undef) rfl (by kernel_rfl) (by kernel_rfl) (by kernel_rfl) (fun _ _ _ h => h) (Or.inr ⟨by rfl, rfl⟩) ?_
  try simp only [Act.put, List.setIfInBounds_toArray, List.set_cons_zero, List.set_cons_succ]
  first
    | (refine ext_take (i := 31) (v := ?_) rfl (by kernel_rfl) (by kernel_rfl) (by kernel_rfl) (fun _ _ _ h => h) (Or.inl ⟨by rfl, ?_⟩) ?_; rotate_left; · (intro W hSw; go_simp; try with_reducible rfl))
    | refine ext_take (i := 31) (v := undef) rfl (by kernel_rfl) (by kernel_rfl) (by kernel_rfl) (fun _ _ _ h => h) (Or.inr ⟨by rfl, rfl⟩) ?_
  try simp only [Act.put, List.setIfInBounds_toArray, List.set_cons_zero, List.set_cons_succ]
  first
    | (refine ext_take (i := 32) (v := ?_) rfl (by kernel_rfl) (by kernel_rfl) (by kernel_rfl) (fun _ _ _ h => h) (Or.inl ⟨by rfl, ?_⟩) ?_; rotate_left; · (intro W hSw; go_simp; try with_reducible rfl))
    | refine ext_take (i := 32) (v := undef) rfl (by kernel_rfl) (by kernel_rfl) (by kernel_rfl) (fun _ _ _ h => h) (Or.inr ⟨by rfl, rfl⟩) ?_
  try simp only [Act.put, List.setIfInBounds_toArray, List.set_cons_zero, List.set_cons_succ]
  refine ext_call (i := 30) (by kernel_rfl) rfl (fun K hK => ?_)
  go_simp
  (go_at_call 16; (with_reducible refine (HHS.out _ _ D3.out).mono ?_); rintro e w' ⟨rfl, rfl⟩)
  refine hK.out _ _ (Below.refl _ _) ?_
  clear hK K
  try simp only [Act.put, List.setIfInBounds_toArray, List.set_cons_zero, List.set_cons_succ]
  refine ext_call (i := 33) (by kernel_rfl) rfl (fun K hK => ?_)
  go_simp
  (go_at_call 54; (with_reducible refine (HRH.out _ _ D3.out).mono ?_); rintro e w' ⟨rfl, rfl⟩)
  refine hK.out _ _ (Below.refl _ _) ?_
  clear hK K
  try simp only [Act.put, List.setIfInBounds_toArray, List.set_cons_zero, List.set_cons_succ]
  first
    | (refine ext_take (i := 34) (v := ?_) rfl (by kernel_rfl) (by kernel_rfl) (by kernel_rfl) (fun _ _ _ h => h) (Or.inl ⟨by rfl, ?_⟩) ?_; rotate_left; · (intro W hSw; go_simp; try with_reducible rfl))
    | refine ext_take (i := 34) (v := undef) rfl (by kernel_rfl) (by kernel_rfl) (by kernel_rfl) (fun _ _ _ h => h) (Or.inr ⟨by rfl, rfl⟩) ?_
  try simp only [Act.put, List.setIfInBounds_toArray, List.set_cons_zero, List.set_cons_succ]
  refine ext_take (i := 35) (v := ?_) rfl (by kernel_rfl) (by kernel_rfl) (by kernel_rfl) (fun _ _ _ h => h) (Or.inl ⟨by rfl, ?_⟩) ?_
  rotate_left
  · (intro W hSw; go_simp; try with_reducible rfl)
  try simp only [Act.put, List.setIfInBounds_toArray, List.set_cons_zero, List.set_cons_succ]
  refine ext_take (i := 36) (v := ?_) rfl (by kernel_rfl) (by kernel_rfl) (by kernel_rfl) (fun _ _ _ h => h) (Or.inl ⟨by rfl, ?_⟩) ?_
  rotate_left
  · (intro W hSw; go_simp; try with_reducible rfl)
  try simp only [Act.put, List.setIfInBounds_toArray, List.set_cons_zero, List.set_cons_succ]
  first
    | (refine ext_take (i := 37) (v := ?_) rfl (by kernel_rfl) (by kernel_rfl) (by kernel_rfl) (fun _ _ _ h => h) (Or.inl ⟨by rfl, ?_⟩) ?_; rotate_left; · (intro W hSw; go_simp; try with_reducible rfl))
    | refine ext_take (i := 37) (v := undef) rfl (by kernel_rfl) (by kernel_rfl) (by kernel_rfl) (fun _ _ _ h => h) (Or.inr ⟨by rfl, rfl⟩) ?_
  try simp only [Act.put, List.setIfInBounds_toArray, List.set_cons_zero, List.set_cons_succ]
  first
    | (refine ext_take (i := 38) (v := ?_) rfl (by kernel_rfl) (by kernel_rfl) (by kernel_rfl) (fun _ _ _ h => h) (Or.inl ⟨by rfl, ?_⟩) ?_; rotate_left; · (intro W hSw; go_simp; try with_reducible rfl))
    | refine ext_take (i := 38) (v := undef) rfl (by kernel_rfl) (by kernel_rfl) (by kernel_rfl) (fun _ _ _ h => h) (Or.inr ⟨by rfl, rfl⟩) ?_
  try simp only [Act.put, List.setIfInBounds_toArray, List.set_cons_zero, List.set_cons_succ]
  first
    | (refine ext_take (i := 39) (v := ?_) rfl (by kernel_rfl) (by kernel_rfl) (by kernel_rfl) (fun _ _ _ h => h) (Or.inl ⟨by rfl, ?_⟩) ?_; rotate_left; · (intro W hSw; go_simp; try with_reducible rfl))
    | refine ext_take (i := 39) (v := undef) rfl (by kernel_rfl) (by kernel_rfl) (by kernel_rfl) (fun _ _ _ h => h) (Or.inr ⟨by rfl, rfl⟩) ?_
  try simp only [Act.put, List.setIfInBounds_toArray, List.set_cons_zero, List.set_cons_succ]
  refine ext_call (i := 40) (by kernel_rfl) rfl (fun K hK => ?_)
  go_simp
  (go_at_call 55; (with_reducible refine (HRB.out _ _ D3.out).mono ?_); rintro e w4 ⟨A4, c4, rfl, ho, hb⟩; have k4 := ext_conv (c := c4) (Rd.of_own ho) rfl; rw [HSB.out] at k4; have X4 := Lib.hid hb; have D4 := Lib.hid (D3.out.below hb); clear ho hb)
  refine hK.out _ _ (X4.out) ?_
  clear hK K
  try simp only [Act.put, List.setIfInBounds_toArray, List.set_cons_zero, List.set_cons_succ]
  first
    | (refine ext_take (i := 41) (v := ?_) rfl (by kernel_rfl) (by kernel_rfl) (by kernel_rfl) (fun _ _ _ h => h) (Or.inl ⟨by rfl, ?_⟩) ?_; rotate_left; · (intro W hSw; go_simp; try with_reducible rfl))
    | refine ext_take (i := 41) (v := undef) rfl (by kernel_rfl) (by kernel_rfl) (by kernel_rfl) (fun _ _ _ h => h) (Or.inr ⟨by rfl, rfl⟩) ?_
  try simp only [Act.put, List.setIfInBounds_toArray, List.set_cons_zero, List.set_cons_succ]
  first
    | (refine ext_take (i := 42) (v := ?_) rfl (by kernel_rfl) (by kernel_rfl) (by kernel_rfl) (fun _ _ _ h => h) (Or.inl ⟨by rfl, ?_⟩) ?_; rotate_left; · (intro W hSw; go_simp; try with_reducible rfl))
    | refine ext_take (i := 42) (v := undef) rfl (by kernel_rfl) (by kernel_rfl) (by kernel_rfl) (fun _ _ _ h => h) (Or.inr ⟨by rfl, rfl⟩) ?_
  try simp only [Act.put, List.setIfInBounds_toArray, List.set_cons_zero, List.set_cons_succ]
  refine ext_take (i := 43) (v := ?_) rfl (by kernel_rfl) (by kernel_rfl) (by kernel_rfl) (fun _ _ _ h => h) (Or.inl ⟨by rfl, ?_⟩) ?_
  rotate_left
  · (intro W hSw; go_simp; try with_reducible rfl)
  try simp only [Act.put, List.setIfInBounds_toArray, List.set_cons_zero, List.set_cons_succ]
  refine ext_take (i := 44) (v := ?_) rfl (by kernel_rfl) (by kernel_rfl) (by kernel_rfl) (fun _ _ _ h => h) (Or.inl ⟨by rfl, ?_⟩) ?_
  rotate_left
  · (intro W hSw; go_simp; try with_reducible rfl)
  try simp only [Act.put, List.setIfInBounds_toArray, List.set_cons_zero, List.set_cons_succ]
  first
    | (refine ext_take (i := 45) (v := ?_) rfl (by kernel_rfl) (by kernel_rfl) (by kernel_rfl) (fun _ _ _ h => h) (Or.inl ⟨by rfl, ?_⟩) ?_; rotate_left; · (intro W hSw; go_simp; try with_reducible rfl))
    | refine ext_take (i := 45) (v := undef) rfl (by kernel_rfl) (by kernel_rfl) (by kernel_rfl) (fun _ _ _ h => h) (Or.inr ⟨by rfl, rfl⟩) ?_
  try simp only [Act.put, List.setIfInBounds_toArray, List.set_cons_zero, List.set_cons_succ]
  first
    | (refine ext_take (i := 47) (v := ?_) rfl (by kernel_rfl) (by kernel_rfl) (by kernel_rfl) (fun _ _ _ h => h) (Or.inl ⟨by rfl, ?_⟩) ?_; rotate_left; · (intro W hSw; go_simp; try with_reducible rfl))
    | refine ext_take (i := 47) (v := undef) rfl (by kernel_rfl) (by kernel_rfl) (by kernel_rfl) (fun _ _ _ h => h) (Or.inr ⟨by rfl, rfl⟩) ?_
  try simp only [Act.put, List.setIfInBounds_toArray, List.set_cons_zero, List.set_cons_succ]
  refine ext_call (i := 46) (by kernel_rfl) rfl (fun K hK => ?_)
  go_simp
  (go_at_call 17; (with_reducible refine (HRN.out _ _ D4.out).mono ?_); rintro e w5 ⟨A5, c5, vs5, rfl, ho, hp, hb⟩; have O5 := Lib.hid ho; have P5 := Lib.hid hp; have X5 := Lib.hid hb; have D5 := Lib.hid (D4.out.below hb); clear ho hp hb)
  refine hK.out _ _ (X5.out) ?_
  clear hK K
  try simp only [Act.put, List.setIfInBounds_toArray, List.set_cons_zero, List.set_cons_succ]
  refine ext_call (i := 48) (by kernel_rfl) rfl (fun K hK => ?_)
  go_simp
  (go_at_call 57; (with_reducible refine (HRS.out _ _ D5.out).mono ?_); rintro e w6 ⟨A6, c6, vs6, rfl, ho, hp, hb⟩; have SR6 := Lib.hid (sameruns_true A5 c5 vs5 A6 c6 vs6 rs _ _ 0 _ w6 hrl (own_below (B := 0) (ownsRow_base O5.out (Nat.zero_le _)) hb) (P5.out.tr (Tr.of_below (F := NoB) hb) (fun _ _ _ h => h)) ho hp); have X6 := Lib.hid hb; have D6 := Lib.hid (D5.out.below hb); clear ho hp hb)
  refine hK.out _ _ (X6.out) ?_
  clear hK K
  try simp only [Act.put, List.setIfInBounds_toArray, List.set_cons_zero, List.set_cons_succ]
  refine ext_call (i := 49) (by kernel_rfl) rfl (fun K hK => ?_)
  go_simp
  (go_at_call 56; (with_reducible refine SR6.out.mono ?_); rintro e w7 ⟨rfl, hb⟩; have X7 := Lib.hid hb; have D7 := Lib.hid (D6.out.below hb); clear hb)
  refine hK.out _ _ (X7.out) ?_
  clear hK K
  try simp only [Act.put, List.setIfInBounds_toArray, List.set_cons_zero, List.set_cons_succ]
  first
    | (refine ext_take (i := 50) (v := ?_) rfl (by kernel_rfl) (by kernel_rfl) (by kernel_rfl) (fun _ _ _ h => h) (Or.inl ⟨by rfl, ?_⟩) ?_; rotate_left; · (intro W hSw; go_simp; try with_reducible rfl))
    | refine ext_take (i := 50) (v := undef) rfl (by kernel_rfl) (by kernel_rfl) (by kernel_rfl) (fun _ _ _ h => h) (Or.inr ⟨by rfl, rfl⟩) ?_
  try simp only [Act.put, List.setIfInBounds_toArray, List.set_cons_zero, List.set_cons_succ]
  refine ext_take (i := 51) (v := ?_) rfl (by kernel_rfl) (by kernel_rfl) (by kernel_rfl) (fun _ _ _ h => h) (Or.inl ⟨by rfl, ?_⟩) ?_
  rotate_left
  · (intro W hSw; go_simp; try with_reducible rfl)
  try simp only [Act.put, List.setIfInBounds_toArray, List.set_cons_zero, List.set_cons_succ]
  refine wpAnyH_done (by kernel_rfl) ?_ _
  have X37 := Lib.hid (bl_chain (bl_drew w3) (bl_chain X4.out (bl_chain X5.out (bl_chain X6.out X7.out))))
  have P1 := Lib.hid (own_below (B := 0) Z1.out X37.out)
  have P3 := Lib.hid (own_below (B := 0) O3.out X37.out)
  go_wp2_with (first
    | (go_at_call 26; (with_reducible refine (spoil_any A1 RL.length c1 (by8 RL) _ (ownsRow_base P1.out (Nat.zero_le _)) (by omega)).mono ?_); rintro e w8 ⟨rfl, ht⟩; have D8 := Lib.hid (D7.out.turn ht (fun x hx => ⟨own_ge O1.out x hx, by have := own_lt Z1.out x hx; omega⟩) (fun x hx => Nat.le_trans HD.out.bl.size (own_ge O1.out x hx))); have B8 := Lib.hid (bl_tr (bl_chain X3.out X37.out) ht (fun x hx => own_ge O1.out x hx)); have P8 := Lib.hid (own_tr P3.out ht (fun x hx hx2 => by have := own_ge O3.out x hx; have := own_lt O1.out x hx2; have := own_lt Y1.out x hx2; omega)); clear ht)
    | (go_at_call 26; (with_reducible refine (spoil_any A3 BL.length c3 (by8 BL) _ (ownsRow_base P8.out (Nat.zero_le _)) (by omega)).mono ?_); rintro e w9 ⟨rfl, ht⟩; have D9 := Lib.hid (D8.out.turn ht (fun x hx => ⟨by have := own_ge O3.out x hx; omega, own_lt O3.out x hx⟩) (fun x hx => by have := own_ge O3.out x hx; have := HD.out.bl.size; omega)); have B9 := Lib.hid (bl_tr B8.out ht (fun x hx => by have := own_ge O3.out x hx; omega)); clear ht))
  go_ret
  exact ⟨rfl, D9.out.forget, B9.out⟩
end
end Go.Proofs.Ytdddbpnllhnfdaa
