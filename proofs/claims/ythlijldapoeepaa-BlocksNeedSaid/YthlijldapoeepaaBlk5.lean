/- Layer 6: mark. -/
import Derived.Test.YthlijldapoeepaaBlk4
import Derived.Test.YthlijldapoeepaaRangeG
namespace Go.Proofs.Ythlijldapoeepaa
set_option linter.unusedVariables false
set_option linter.unusedSimpArgs false
set_option maxRecDepth 100000
open Go.RowKit

theorem held_startB {P : Program} {ops : Array Oper} {Q : Exit → Act → World → Prop} {S : World → Prop} {id : Nat} {a : Act} {w : World} (hm : P.follows .mixedOrders = true)
    (h : wpAnyH P .any ops Q S ops.size (Array.replicate ops.size false) a w.drew) : (Code.region id ops true).wp P Q a w := wp_region_held hm h
section
variable {w : World} {s d g F : Nat} {x : ST} {dead : Bool} {L : List (List Int)} {Mi Md Rr : Nat → Prop} {D : Dk.DS}
theorem StAt.after (h : StAt w s d g F x dead D Md Rr L Mi) {w' : World} {x' : ST} {dead' : Bool} {D' : Dk.DS} {Md' Rr' : Nat → Prop} (hb : IsSt w' s d g F x' dead') (hd : Dk.IsDisk w' d D' Md' Rr') (ht : Tr (fun b => Md b ∨ b = s) w w')
    (hm : ∀ b, Md' b → Md b ∨ w.heap.size ≤ b) (hr : ∀ b, Rr' b → Rr b ∨ w.heap.size ≤ b) : StAt w' s d g F x' dead' D' Md' Rr' L Mi :=
  ⟨hb, hd, h.img.tr ht (fun b hb hf => hf.elim (h.di b hb).1 (fun e => h.si (e ▸ hb))), fun hq => (hm s hq).elim h.sd (fun e => by have := h.blk.lt; omega), fun hq => (hr s hq).elim h.sr (fun e => by have := h.blk.lt; omega), h.si,
    fun b hb => ⟨fun hq => (hm b hq).elim (h.di b hb).1 (fun e => by have := h.img.mlt b hb; omega), fun hq => (hr b hq).elim (h.di b hb).2 (fun e => by have := h.img.mlt b hb; omega)⟩⟩
/-- The next state. -/
def ST.next (x : ST) (n area op : Int) : ST := ⟨x.gen + 1, n, area, op⟩
def markAt (F : Nat) (x' : ST) : Nat := F + x'.gen.toNat % 2
def markE (D : Dk.DS) (F : Nat) (x' : ST) : Int := if Dk.writeE D (markAt F x') x'.sector = 0 then Dk.flushE (Dk.writeD D (markAt F x') x'.sector) else Dk.writeE D (markAt F x') x'.sector
def markD (D : Dk.DS) (F : Nat) (x' : ST) : Dk.DS := if Dk.writeE D (markAt F x') x'.sector = 0 then Dk.flushD (Dk.writeD D (markAt F x') x'.sector) else Dk.writeD D (markAt F x') x'.sector

theorem mark_write (hd : Dk.IsDisk w d D Md Rr) {A : Option Addr} {c : Nat} {l : List Int} (hr : Rd w A (by8 l)) (hl : l.length = 256) (hB : isB l) (hfew : D.gs.length < 1000000) (a : Nat) (ha : a ≤ 1000000) :
    Calls Try.prog 30 #[.pointer (some ⟨d, 0, none⟩), .int .i64 (a : Int), .slice A 256 c] w (Dk.RetW w d Md Rr (Dk.writeD D a l) (Dk.writeE D a l)) := by
  have h := Dk.write_any A c l a hd hr hB (by omega) hfew (by omega)
  rw [hl] at h
  exact h
def RetMark (w : World) (s d g F : Nat) (x x' : ST) (dead : Bool) (D : Dk.DS) (Md Rr : Nat → Prop) (L : List (List Int)) (Mi : Nat → Prop) (e : Ending) (w' : World) : Prop :=
  ∃ Md' Rr', e = .returned (.int .i64 (markE D F x')) ∧ StAt w' s d g F (if markE D F x' = 0 then x' else x) dead (markD D F x') Md' Rr' L Mi ∧ (∀ b, Md' b → Md b ∨ w.heap.size ≤ b) ∧ (∀ b, Rr' b → Rr b ∨ w.heap.size ≤ b) ∧ Tr (fun b => Md b ∨ b = s) w w'
set_option maxHeartbeats 3200000 in
theorem mark_any (h : StAt w s d g F x dead D Md Rr L Mi) (n area op : Int) (G : Nat) (hG : x.gen = (G : Int)) (hG2 : G < 1000000) (hx : (x.next n area op).pos) (hfew : D.gs.length < 1000000) (hF : F ≤ 100000) :
    Calls Try.prog 33 #[.pointer (some ⟨s, 0, none⟩), .int .i64 n, .int .i64 area, .int .i64 op] w (RetMark w s d g F x (x.next n area op) dead D Md Rr L Mi) := by
  have HH := Lib.hid h
  have c0 := h.blk.cell 0
  have c1 := h.blk.cell 1
  have c3 := h.blk.cell 3
  have hs := h.blk.lt
  simp [stCells] at c0 c1 c3
  rw [hG] at c3
  have hgw : IntKind.i64.wrap ((G : Int) + 1) = (G : Int) + 1 := by rw [IntKind.wrap_i64]; omega
  have hxc : (x.next n area op).cells = #[.int .i64 ((G : Int) + 1), .int .i64 n, .int .i64 area, .int .i64 op] := by rw [ST.next, hG]; rfl
  have HSEC := Lib.hid (fun W => sector_any (x.next n area op) hx W)
  rw [hxc] at HSEC
  have HL := Lib.hid (x.next n area op).sector_length
  have HB := Lib.hid (x.next n area op).sector_isB
  obtain ⟨z, hz⟩ : ∃ z : Int, ((F + (G + 1) % 2 : Nat) : Int) = z := ⟨_, rfl⟩
  have hma : ((markAt F (x.next n area op) : Nat) : Int) = z := by unfold markAt ST.next; rw [hG, ← hz]; simp
  have HE : Hid (markE D F (x.next n area op) = if Dk.writeE D z (x.next n area op).sector = 0 then Dk.flushE (Dk.writeD D z (x.next n area op).sector) else Dk.writeE D z (x.next n area op).sector) := Lib.hid (by unfold markE; rw [hma])
  have HDD : Hid (markD D F (x.next n area op) = if Dk.writeE D z (x.next n area op).sector = 0 then Dk.flushD (Dk.writeD D z (x.next n area op).sector) else Dk.writeD D z (x.next n area op).sector) := Lib.hid (by unfold markD; rw [hma])
  clear hma
  generalize (x.next n area op).sector = l at HSEC HL HB HE HDD
  have hrem : Int.tmod ((G : Int) + 1) 2 = ((G : Int) + 1) % 2 := by rw [Int.tmod_eq_emod_of_nonneg (by omega)]
  have hsw : IntKind.i64.wrap ((F : Int) + ((G : Int) + 1) % 2) = z := by rw [IntKind.wrap_i64]; omega
  have HSW := Lib.hid hsw
  have HZZ := Lib.hid hz
  clear hsw hz
  have HXC := Lib.hid hxc
  clear h hxc
  go_enter Try.func33, Try.ntmps33
  go_wp2_with fail
  have HW1 := Lib.hid (bl_alloc w (.cells #[.int .i64 ((G : Int) + 1), .int .i64 n, .int .i64 area, .int .i64 op] 54))
  have HX1 := Lib.hid (Blk.new w 54 #[.int .i64 ((G : Int) + 1), .int .i64 n, .int .i64 area, .int .i64 op])
  have HD1 := Lib.hid (HH.out.dsk.below HW1.out)
  have HZ : Hid (w.heap.size < (w.alloc (.cells #[.int .i64 ((G : Int) + 1), .int .i64 n, .int .i64 area, .int .i64 op] 54)).heap.size) := Lib.hid (by simp)
  have HI1 := Lib.hid (HH.out.blk.keep HW1.out)
  generalize w.alloc (.cells #[.int .i64 ((G : Int) + 1), .int .i64 n, .int .i64 area, .int .i64 op] 54) = W1 at HW1 HX1 HD1 HI1 HZ ⊢
  have hs0 : W1.drew.cell? ⟨s, 0, none⟩ = some (.pointer (some ⟨d, 0, none⟩)) ∧ W1.drew.cell? ⟨s, 1, none⟩ = some (.int .i64 F) ∧ W1.drew.cell? ⟨w.heap.size, 0, none⟩ = some (.int .i64 ((G : Int) + 1)) ∧ W1.drew.cell? ⟨w.heap.size, 1, none⟩ = some (.int .i64 n) ∧ W1.drew.cell? ⟨w.heap.size, 2, none⟩ = some (.int .i64 area) ∧ W1.drew.cell? ⟨w.heap.size, 3, none⟩ = some (.int .i64 op) :=
    ⟨HI1.out.cell 0, HI1.out.cell 1, HX1.out.cell 0, HX1.out.cell 1, HX1.out.cell 2, HX1.out.cell 3⟩
  have HS := Lib.hid hs0
  clear hs0 c0 c1 c3
  refine held_startB (S := fun W' => W'.cell? ⟨s, 0, none⟩ = some (.pointer (some ⟨d, 0, none⟩)) ∧ W'.cell? ⟨s, 1, none⟩ = some (.int .i64 F) ∧ W'.cell? ⟨w.heap.size, 0, none⟩ = some (.int .i64 ((G : Int) + 1)) ∧ W'.cell? ⟨w.heap.size, 1, none⟩ = some (.int .i64 n) ∧ W'.cell? ⟨w.heap.size, 2, none⟩ = some (.int .i64 area) ∧ W'.cell? ⟨w.heap.size, 3, none⟩ = some (.int .i64 op)) (by kernel_rfl) ?_
  refine held_take (HS.out) (i := 0) (v := ?_) rfl (by kernel_rfl) (by kernel_rfl) (by kernel_rfl) (fun _ _ _ h => h) (Or.inl ⟨by rfl, ?_⟩) ?_
  rotate_left
  · (intro W hSw; obtain ⟨s1, s2, s3, s4, s5, s6⟩ := hSw; go_simp; try with_reducible rfl)
  try simp only [Act.put, List.setIfInBounds_toArray, List.set_cons_zero, List.set_cons_succ]
  refine held_take (HS.out) (i := 1) (v := ?_) rfl (by kernel_rfl) (by kernel_rfl) (by kernel_rfl) (fun _ _ _ h => h) (Or.inl ⟨by rfl, ?_⟩) ?_
  rotate_left
  · (intro W hSw; obtain ⟨s1, s2, s3, s4, s5, s6⟩ := hSw; go_simp; try with_reducible rfl)
  try simp only [Act.put, List.setIfInBounds_toArray, List.set_cons_zero, List.set_cons_succ]
  refine held_take (HS.out) (i := 2) (v := ?_) rfl (by kernel_rfl) (by kernel_rfl) (by kernel_rfl) (fun _ _ _ h => h) (Or.inl ⟨by rfl, ?_⟩) ?_
  rotate_left
  · (intro W hSw; obtain ⟨s1, s2, s3, s4, s5, s6⟩ := hSw; go_simp; try with_reducible rfl)
  try simp only [Act.put, List.setIfInBounds_toArray, List.set_cons_zero, List.set_cons_succ]
  refine held_take (HS.out) (i := 3) (v := ?_) rfl (by kernel_rfl) (by kernel_rfl) (by kernel_rfl) (fun _ _ _ h => h) (Or.inl ⟨by rfl, ?_⟩) ?_
  rotate_left
  · (intro W hSw; obtain ⟨s1, s2, s3, s4, s5, s6⟩ := hSw; go_simp; try with_reducible rfl)
  try simp only [Act.put, List.setIfInBounds_toArray, List.set_cons_zero, List.set_cons_succ]
  refine held_take (HS.out) (i := 4) (v := ?_) rfl (by kernel_rfl) (by kernel_rfl) (by kernel_rfl) (fun _ _ _ h => h) (Or.inl ⟨by rfl, ?_⟩) ?_
  rotate_left
  · (intro W hSw; obtain ⟨s1, s2, s3, s4, s5, s6⟩ := hSw; go_simp; try with_reducible rfl)
  try simp only [Act.put, List.setIfInBounds_toArray, List.set_cons_zero, List.set_cons_succ]
  refine held_take (HS.out) (i := 5) (v := ?_) rfl (by kernel_rfl) (by kernel_rfl) (by kernel_rfl) (fun _ _ _ h => h) (Or.inl ⟨by rfl, ?_⟩) ?_
  rotate_left
  · (intro W hSw; obtain ⟨s1, s2, s3, s4, s5, s6⟩ := hSw; go_simp; try with_reducible rfl)
  try simp only [Act.put, List.setIfInBounds_toArray, List.set_cons_zero, List.set_cons_succ]
  refine held_take (HS.out) (i := 6) (v := ?_) rfl (by kernel_rfl) (by kernel_rfl) (by kernel_rfl) (fun _ _ _ h => h) (Or.inl ⟨by rfl, ?_⟩) ?_
  rotate_left
  · (intro W hSw; obtain ⟨s1, s2, s3, s4, s5, s6⟩ := hSw; go_simp; try with_reducible rfl)
  try simp only [Act.put, List.setIfInBounds_toArray, List.set_cons_zero, List.set_cons_succ]
  refine held_take (HS.out) (i := 7) (v := ?_) rfl (by kernel_rfl) (by kernel_rfl) (by kernel_rfl) (fun _ _ _ h => h) (Or.inl ⟨by rfl, ?_⟩) ?_
  rotate_left
  · (intro W hSw; obtain ⟨s1, s2, s3, s4, s5, s6⟩ := hSw; go_simp; try with_reducible rfl)
  try simp only [Act.put, List.setIfInBounds_toArray, List.set_cons_zero, List.set_cons_succ]
  refine held_take (HS.out) (i := 8) (v := ?_) rfl (by kernel_rfl) (by kernel_rfl) (by kernel_rfl) (fun _ _ _ h => h) (Or.inl ⟨by rfl, ?_⟩) ?_
  rotate_left
  · (intro W hSw; obtain ⟨s1, s2, s3, s4, s5, s6⟩ := hSw; go_simp; try with_reducible rfl)
  try simp only [Act.put, List.setIfInBounds_toArray, List.set_cons_zero, List.set_cons_succ]
  refine held_take (HS.out) (i := 9) (v := ?_) rfl (by kernel_rfl) (by kernel_rfl) (by kernel_rfl) (fun _ _ _ h => h) (Or.inl ⟨by rfl, ?_⟩) ?_
  rotate_left
  · (intro W hSw; obtain ⟨s1, s2, s3, s4, s5, s6⟩ := hSw; go_simp; try with_reducible rfl)
  try simp only [Act.put, List.setIfInBounds_toArray, List.set_cons_zero, List.set_cons_succ]
  refine held_take (HS.out) (i := 10) (v := ?_) rfl (by kernel_rfl) (by kernel_rfl) (by kernel_rfl) (fun _ _ _ h => h) (Or.inl ⟨by rfl, ?_⟩) ?_
  rotate_left
  · (intro W hSw; obtain ⟨s1, s2, s3, s4, s5, s6⟩ := hSw; go_simp; try with_reducible rfl)
  try simp only [Act.put, List.setIfInBounds_toArray, List.set_cons_zero, List.set_cons_succ]
  refine held_take (HS.out) (i := 11) (v := ?_) rfl (by kernel_rfl) (by kernel_rfl) (by kernel_rfl) (fun _ _ _ h => h) (Or.inl ⟨by rfl, ?_⟩) ?_
  rotate_left
  · (intro W hSw; obtain ⟨s1, s2, s3, s4, s5, s6⟩ := hSw; go_simp; try with_reducible rfl)
  try simp only [Act.put, List.setIfInBounds_toArray, List.set_cons_zero, List.set_cons_succ]
  refine held_take (HS.out) (i := 12) (v := ?_) rfl (by kernel_rfl) (by kernel_rfl) (by kernel_rfl) (fun _ _ _ h => h) (Or.inl ⟨by rfl, ?_⟩) ?_
  rotate_left
  · (intro W hSw; obtain ⟨s1, s2, s3, s4, s5, s6⟩ := hSw; go_simp; try with_reducible rfl)
  try simp only [Act.put, List.setIfInBounds_toArray, List.set_cons_zero, List.set_cons_succ]
  refine held_call (i := 13) (by kernel_rfl) rfl (fun K hK => ?_)
  go_simp
  (go_at_call 54; (with_reducible refine (HSEC.out _).mono ?_); rintro e w2 ⟨A2, c2, rfl, hc2, ho2, hb2⟩; have HO2 := Lib.hid ho2; have HB2 := Lib.hid (bl_of_drew hb2); have HI2 := Lib.hid (HI1.out.keep HB2.out); have HX2 := Lib.hid (HX1.out.keep HB2.out); have HD2 := Lib.hid (HD1.out.below HB2.out); have HS2 := Lib.hid (show w2.cell? ⟨s, 0, none⟩ = some (.pointer (some ⟨d, 0, none⟩)) ∧ w2.cell? ⟨s, 1, none⟩ = some (.int .i64 F) ∧ w2.cell? ⟨w.heap.size, 0, none⟩ = some (.int .i64 ((G : Int) + 1)) ∧ w2.cell? ⟨w.heap.size, 1, none⟩ = some (.int .i64 n) ∧ w2.cell? ⟨w.heap.size, 2, none⟩ = some (.int .i64 area) ∧ w2.cell? ⟨w.heap.size, 3, none⟩ = some (.int .i64 op) from ⟨HI2.out.cell 0, HI2.out.cell 1, HX2.out.cell 0, HX2.out.cell 1, HX2.out.cell 2, HX2.out.cell 3⟩); clear ho2 hb2)
  refine hK.out _ _ (HS2.out) ?_
  clear hK K
  try simp only [Act.put, List.setIfInBounds_toArray, List.set_cons_zero, List.set_cons_succ]
  refine held_call (i := 14) (by kernel_rfl) rfl (fun K hK => ?_)
  go_simp
  (have HWR := mark_write (c := c2) HD2.out (Rd.of_own HO2.out) HL.out HB.out hfew (F + (G + 1) % 2) (by omega); rw [HZZ.out] at HWR; rw [HSW.out]; go_at_call 30; (with_reducible refine HWR.mono ?_); rintro e w3 ⟨rfl, Md3, Rr3, hd3, hm3, hr3, ht3⟩; have HD3 := Lib.hid hd3; have HM3 := Lib.hid hm3; have HR3 := Lib.hid hr3; have HT3 := Lib.hid ht3; have HI3 := Lib.hid (ht3.blk HI2.out HH.out.sd); have HX3 := Lib.hid (ht3.blk HX2.out (fun hm => by have := HH.out.dsk.mlt _ hm; omega)); have HS3 := Lib.hid (show w3.cell? ⟨s, 0, none⟩ = some (.pointer (some ⟨d, 0, none⟩)) ∧ w3.cell? ⟨s, 1, none⟩ = some (.int .i64 F) ∧ w3.cell? ⟨w.heap.size, 0, none⟩ = some (.int .i64 ((G : Int) + 1)) ∧ w3.cell? ⟨w.heap.size, 1, none⟩ = some (.int .i64 n) ∧ w3.cell? ⟨w.heap.size, 2, none⟩ = some (.int .i64 area) ∧ w3.cell? ⟨w.heap.size, 3, none⟩ = some (.int .i64 op) from ⟨HI3.out.cell 0, HI3.out.cell 1, HX3.out.cell 0, HX3.out.cell 1, HX3.out.cell 2, HX3.out.cell 3⟩); clear hd3 hm3 hr3 ht3)
  refine hK.out _ _ (HS3.out) ?_
  clear hK K
  try simp only [Act.put, List.setIfInBounds_toArray, List.set_cons_zero, List.set_cons_succ]
  refine held_take (HS3.out) (i := 15) (v := ?_) rfl (by kernel_rfl) (by kernel_rfl) (by kernel_rfl) (fun _ _ _ h => h) (Or.inl ⟨by rfl, ?_⟩) ?_
  rotate_left
  · (intro W hSw; obtain ⟨s1, s2, s3, s4, s5, s6⟩ := hSw; go_simp; try with_reducible rfl)
  try simp only [Act.put, List.setIfInBounds_toArray, List.set_cons_zero, List.set_cons_succ]
  refine wpAnyH_done (by kernel_rfl) ?_ _
  generalize Dk.writeE D z l = e1 at HE HDD ⊢
  generalize Dk.writeD D z l = D1 at HE HDD HD3 ⊢
  generalize hfe : Dk.flushE D1 = e2 at HE HDD ⊢
  have HFE := Lib.hid hfe
  clear hfe
  have hz2 := HW1.out.size
  have hz3 := HB2.out.size
  have hm3 : ∀ b, Md3 b → Md b ∨ w.heap.size ≤ b := fun b hb => (HM3.out b hb).imp id (fun h => by omega)
  have hr3 : ∀ b, Rr3 b → Rr b ∨ w.heap.size ≤ b := fun b hb => (HR3.out b hb).imp id (fun h => by omega)
  have hs3 : ¬ Md3 s := fun hq => (hm3 s hq).elim HH.out.sd (fun e => by omega)
  have hx3 : ¬ Md3 w.heap.size := fun hq => (HM3.out _ hq).elim (fun h => by have := HH.out.dsk.mlt _ h; omega) (fun e => by have := HZ.out; omega)
  have t3 : Tr (fun b => Md b ∨ b = s) w w3 := ((Tr.of_below HW1.out).then_below HB2.out).trans HT3.out (fun b _ h => .inl h)
  have HT := Lib.hid t3
  have HM := Lib.hid hm3
  have HR := Lib.hid hr3
  have HN := Lib.hid hs3
  have HNX := Lib.hid hx3
  clear hz2 hz3 hm3 hr3 hs3 hx3 t3
  have c0 := HI3.out.cell 0
  simp [stCells] at c0
  by_cases h1 : e1 = 0
  · subst h1
    by_cases h2 : e2 = 0
    · subst h2
      have HE1 := Lib.hid (HE.out.trans (if_pos rfl))
      have HD0 := Lib.hid (HDD.out.trans (if_pos rfl))
      clear HE HDD
      have x0 := HX3.out.cell 0
      go_wp2_with (first
        | (go_at_call 32; (with_reducible refine (Dk.flush_any HD3.out).mono ?_); rintro e w4 ⟨rfl, hd4, ht4⟩; rw [HFE.out]; have HD4 := Lib.hid hd4; have HT4 := Lib.hid ht4; have HI4 := Lib.hid (ht4.blk HI3.out HN.out); have hx4 := ht4.blk HX3.out HNX.out; have y0 := hx4.cell 0; have y1 := hx4.cell 1; have y2 := hx4.cell 2; have y3 := hx4.cell 3; have f3 := HI4.out.frozen 3; have f4 := HI4.out.frozen 4; have f5 := HI4.out.frozen 5; have f6 := HI4.out.frozen 6; have q3 := HI4.out.cell 3; have q4 := HI4.out.cell 4; have q5 := HI4.out.cell 5; have q6 := HI4.out.cell 6; simp at y0 y1 y2 y3; simp [stCells] at q3 q4 q5 q6; clear hd4 ht4 hx4))
      go_ret
      have hb : IsSt ((((w4.setCell ⟨s, 3, none⟩ (.int .i64 ((G : Int) + 1))).setCell ⟨s, 4, none⟩ (.int .i64 n)).setCell ⟨s, 5, none⟩ (.int .i64 area)).setCell ⟨s, 6, none⟩ (.int .i64 op)) s d g F (x.next n area op) dead := by
        have h := (((HI4.out.set_ 3 (.int .i64 ((G : Int) + 1))).set_ 4 (.int .i64 n)).set_ 5 (.int .i64 area)).set_ 6 (.int .i64 op)
        unfold IsSt ST.next
        rw [hG]
        exact h
      have tt : Tr (fun b => b = s) w4 ((((w4.setCell ⟨s, 3, none⟩ (.int .i64 ((G : Int) + 1))).setCell ⟨s, 4, none⟩ (.int .i64 n)).setCell ⟨s, 5, none⟩ (.int .i64 area)).setCell ⟨s, 6, none⟩ (.int .i64 op)) :=
        ((((Tr.refl (fun b => b = s) w4).setCell (p := ⟨s, 3, none⟩) (fun _ => rfl) _).setCell (p := ⟨s, 4, none⟩) (fun _ => rfl) _).setCell (p := ⟨s, 5, none⟩) (fun _ => rfl) _).setCell (p := ⟨s, 6, none⟩) (fun _ => rfl) _
      have hd := HD4.out.tr tt (fun b hm e => HN.out (e ▸ hm)) (fun b hr e => (HR.out _ hr).elim (fun h => HH.out.sr (e ▸ h)) (fun h => by omega))
      have t4 : Tr (fun b => Md b ∨ b = s) w w4 := HT.out.trans HT4.out (fun b hb h => .inl ((HM.out b h).resolve_right (by omega)))
      have t5 := t4.trans tt (fun b _ h => .inr h)
      unfold RetMark
      rw [HE1.out, HD0.out, if_pos rfl]
      exact ⟨Md3, Rr3, rfl, HH.out.after hb hd t5 HM.out HR.out, HM.out, HR.out, t5⟩
    · have HE1 := Lib.hid (HE.out.trans (if_pos rfl))
      have HD0 := Lib.hid (HDD.out.trans (if_pos rfl))
      have k2 : (e2 == 0) = false := by simp [h2]
      clear HE HDD
      go_wp2_with (first
        | (go_at_call 32; (with_reducible refine (Dk.flush_any HD3.out).mono ?_); rintro e w4 ⟨rfl, hd4, ht4⟩; rw [HFE.out]; have HD4 := Lib.hid hd4; have HT4 := Lib.hid ht4; have HI4 := Lib.hid (ht4.blk HI3.out HN.out); clear hd4 ht4))
      go_ret
      unfold RetMark
      rw [HE1.out, HD0.out, if_neg h2]
      have t4 : Tr (fun b => Md b ∨ b = s) w w4 := HT.out.trans HT4.out (fun b hb h => .inl ((HM.out b h).resolve_right (by omega)))
      exact ⟨Md3, Rr3, rfl, HH.out.after HI4.out HD4.out t4 HM.out HR.out, HM.out, HR.out, t4⟩
  · have HE1 := Lib.hid (HE.out.trans (if_neg h1))
    have HD0 := Lib.hid (HDD.out.trans (if_neg h1))
    have k1 : (e1 == 0) = false := by simp [h1]
    clear HE HDD
    go_wp2_with fail
    go_ret
    unfold RetMark
    rw [HE1.out, HD0.out, if_neg h1]
    exact ⟨Md3, Rr3, rfl, HH.out.after HI3.out HD3.out HT.out HM.out HR.out, HM.out, HR.out, HT.out⟩
end
end Go.Proofs.Ythlijldapoeepaa
