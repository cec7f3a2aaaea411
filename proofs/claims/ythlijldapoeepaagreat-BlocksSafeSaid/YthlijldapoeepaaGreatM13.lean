/- Layer 6: mark. -/
import Derived.Test.YthlijldapoeepaaGreatM12
import Derived.Test.YthlijldapoeepaaGreatM7
import Derived.Test.YthlijldapoeepaaGreatM10
namespace Go.Proofs.YthlijldapoeepaaGreat
set_option linter.unusedVariables false
set_option linter.unusedSimpArgs false
set_option maxRecDepth 100000
open Go.RowKit

theorem held_startB {P : Program} {ops : Array Oper} {Q : Exit → Act → World → Prop} {S : World → Prop} {id : Nat} {a : Act} {w : World} (hm : P.follows .mixedOrders = true)
    (h : wpAnyH P .any ops Q S ops.size (Array.replicate ops.size false) a w.drew) : (Code.region id ops true).wp P Q a w := wp_region_held hm h
section
variable {w : World} {s d g F : Nat} {x : ST} {dead : Bool} {L : List (List Int)} {Mi Md Rr : Nat → Prop} {D : Dk.DS}
theorem StAt.after (h : StAt w s d g F x dead D Md Rr L Mi) {w' : World} {x' : ST} {dead' : Bool} {D' : Dk.DS} {Md' Rr' : Nat → Prop} (hb : IsSt w' s d g F x' dead') (hd : Dk.IsDisk w' d D' Md' Rr') (ht : Tr (fun b => Md b ∨ b = s) w w')
    (hm : ∀ b, Md' b → Md b ∨ w.heap.size ≤ b) (hr : ∀ b, Rr' b → Rr b ∨ w.heap.size ≤ b) : StAt w' s d g F x' dead' D' Md' Rr' L Mi :=
  ⟨hb, hd, h.img.tr ht (fun b hb hf => hf.elim (h.di b hb).1 (fun e => h.si (e ▸ hb))), fun hq => (hm s hq).elim h.sd (fun e => by have := h.blk.lt; omega), fun hq => (hr s hq).elim h.sr (fun e => by have := h.blk.lt; omega), h.si,
    fun b hb => ⟨fun hq => (hm b hq).elim (h.di b hb).1 (fun e => by have := h.img.mlt b hb; omega), fun hq => (hr b hq).elim (h.di b hb).2 (fun e => by have := h.img.mlt b hb; omega)⟩⟩
/-- The next state. -/
def ST.next (x : ST) (n area op : Int) : ST := ⟨x.gen + 1, n, area, op⟩
def markAt (F : Nat) (x' : ST) : Nat := F + x'.gen.toNat % 2
def markE (D : Dk.DS) (F : Nat) (x' : ST) : Int := if Dk.writeE D (markAt F x') x'.sector = 0 then Dk.flushE (Dk.writeD D (markAt F x') x'.sector) else Dk.writeE D (markAt F x') x'.sector
def markD (D : Dk.DS) (F : Nat) (x' : ST) : Dk.DS := if Dk.writeE D (markAt F x') x'.sector = 0 then Dk.flushD (Dk.writeD D (markAt F x') x'.sector) else Dk.writeD D (markAt F x') x'.sector

theorem mark_write (hd : Dk.IsDisk w d D Md Rr) {A : Option Addr} {c : Nat} {l : List Int} (hr : Rd w A (by8 l)) (hl : l.length = 256) (hB : isB l) (hfew : D.gs.length < 1000000) (a : Nat) (ha : a ≤ 1000000) :
    Calls Tryz.prog 50 #[.pointer (some ⟨d, 0, none⟩), .int .i64 (a : Int), .slice A 256 c] w (Dk.RetW w d Md Rr (Dk.writeD D a l) (Dk.writeE D a l)) := by
  have h := Dk.write_any A c l a hd hr hB (by omega) hfew (by omega)
  rw [hl] at h
  exact h
def RetMark (w : World) (s d g F : Nat) (x x' : ST) (dead : Bool) (D : Dk.DS) (Md Rr : Nat → Prop) (L : List (List Int)) (Mi : Nat → Prop) (e : Ending) (w' : World) : Prop :=
  ∃ Md' Rr', e = .returned (.int .i64 (markE D F x')) ∧ StAt w' s d g F (if markE D F x' = 0 then x' else x) dead (markD D F x') Md' Rr' L Mi ∧ (∀ b, Md' b → Md b ∨ w.heap.size ≤ b) ∧ (∀ b, Rr' b → Rr b ∨ w.heap.size ≤ b) ∧ Tr (fun b => Md b ∨ b = s) w w'
set_option maxHeartbeats 3200000 in
theorem mark_any (h : StAt w s d g F x dead D Md Rr L Mi) (n area op : Int) (G : Nat) (hG : x.gen = (G : Int)) (hG2 : G < 1000000) (hx : (x.next n area op).pos) (hfew : D.gs.length < 1000000) (hF : F ≤ 100000) :
    Calls Tryz.prog 53 #[.pointer (some ⟨s, 0, none⟩), .int .i64 n, .int .i64 area, .int .i64 op] w (RetMark w s d g F x (x.next n area op) dead D Md Rr L Mi) := by
  have HH := Lib.hid h
  have c0 := h.blk.cell 0
  have c1 := h.blk.cell 1
  have c3 := h.blk.cell 3
  have hs := h.blk.lt
  simp [stCells] at c0 c1 c3
  rw [hG] at c3
  have hgw : IntKind.i64.wrap ((G : Int) + 1) = (G : Int) + 1 := by rw [IntKind.wrap_i64]; omega
  have hxc : (x.next n area op).cells = #[.int .i64 ((G : Int) + 1), .int .i64 n, .int .i64 area, .int .i64 op] := by rw [ST.next, hG]; rfl
  have HSEC := Lib.hid (fun W => sector_any (x.next n area op) hx W)
  rw [hxc] at HSEC
  have HL := Lib.hid (x.next n area op).sector_length
  have HB := Lib.hid (x.next n area op).sector_isB
  obtain ⟨z, hz⟩ : ∃ z : Int, ((F + (G + 1) % 2 : Nat) : Int) = z := ⟨_, rfl⟩
  have hma : ((markAt F (x.next n area op) : Nat) : Int) = z := by unfold markAt ST.next; rw [hG, ← hz]; simp
  have HE : Hid (markE D F (x.next n area op) = if Dk.writeE D z (x.next n area op).sector = 0 then Dk.flushE (Dk.writeD D z (x.next n area op).sector) else Dk.writeE D z (x.next n area op).sector) := Lib.hid (by unfold markE; rw [hma])
  have HDD : Hid (markD D F (x.next n area op) = if Dk.writeE D z (x.next n area op).sector = 0 then Dk.flushD (Dk.writeD D z (x.next n area op).sector) else Dk.writeD D z (x.next n area op).sector) := Lib.hid (by unfold markD; rw [hma])
  clear hma
  generalize (x.next n area op).sector = l at HSEC HL HB HE HDD
  have hrem : Int.tmod ((G : Int) + 1) 2 = ((G : Int) + 1) % 2 := by rw [Int.tmod_eq_emod_of_nonneg (by omega)]
  have hsw : IntKind.i64.wrap ((F : Int) + ((G : Int) + 1) % 2) = z := by rw [IntKind.wrap_i64]; omega
  have HSW := Lib.hid hsw
  have HZZ := Lib.hid hz
  clear hsw hz
  have HXC := Lib.hid hxc
  clear h hxc
  go_enter Tryz.func53, Tryz.ntmps53
  go_wp2_with fail
  have HW1 := Lib.hid (bl_alloc w (.cells #[.int .i64 ((G : Int) + 1), .int .i64 n, .int .i64 area, .int .i64 op] 64))
  have HX1 := Lib.hid (Blk.new w 64 #[.int .i64 ((G : Int) + 1), .int .i64 n, .int .i64 area, .int .i64 op])
  have HD1 := Lib.hid (HH.out.dsk.below HW1.out)
  have HZ : Hid (w.heap.size < (w.alloc (.cells #[.int .i64 ((G : Int) + 1), .int .i64 n, .int .i64 area, .int .i64 op] 64)).heap.size) := Lib.hid (by simp)
  have HI1 := Lib.hid (HH.out.blk.keep HW1.out)
  generalize w.alloc (.cells #[.int .i64 ((G : Int) + 1), .int .i64 n, .int .i64 area, .int .i64 op] 64) = W1 at HW1 HX1 HD1 HI1 HZ ⊢
  have hs0 : W1.drew.cell? ⟨s, 0, none⟩ = some (.pointer (some ⟨d, 0, none⟩)) ∧ W1.drew.cell? ⟨s, 1, none⟩ = some (.int .i64 F) ∧ W1.drew.cell? ⟨w.heap.size, 0, none⟩ = some (.int .i64 ((G : Int) + 1)) ∧ W1.drew.cell? ⟨w.heap.size, 1, none⟩ = some (.int .i64 n) ∧ W1.drew.cell? ⟨w.heap.size, 2, none⟩ = some (.int .i64 area) ∧ W1.drew.cell? ⟨w.heap.size, 3, none⟩ = some (.int .i64 op) :=
    ⟨HI1.out.cell 0, HI1.out.cell 1, HX1.out.cell 0, HX1.out.cell 1, HX1.out.cell 2, HX1.out.cell 3⟩
  have HS := Lib.hid hs0
  clear hs0 c0 c1 c3
  refine held_startB (S := fun W' => W'.cell? ⟨s, 0, none⟩ = some (.pointer (some ⟨d, 0, none⟩)) ∧ W'.cell? ⟨s, 1, none⟩ = some (.int .i64 F) ∧ W'.cell? ⟨w.heap.size, 0, none⟩ = some (.int .i64 ((G : Int) + 1)) ∧ W'.cell? ⟨w.heap.size, 1, none⟩ = some (.int .i64 n) ∧ W'.cell? ⟨w.heap.size, 2, none⟩ = some (.int .i64 area) ∧ W'.cell? ⟨w.heap.size, 3, none⟩ = some (.int .i64 op)) (by kernel_rfl) ?_
  refine held_take (HS.out) (i := 0) (v := ?_) rfl (by kernel_rfl) (by kernel_rfl) (by kernel_rfl) (fun _ _ _ h => h) (Or.inl ⟨by rfl, ?_⟩) ?_
  rotate_left
  · (intro W hSw; obtain ⟨s1, s2, s3, s4, s5, s6⟩ := hSw; go_simp; try with_reducible rfl)
  try simp only [Act.put, List.setIfInBounds_toArray, List.set_cons_zero, List.set_cons_succ]
  refine held_take (HS.out) (i := 1) (v := ?_) rfl (by kernel_rfl) (by kernel_rfl) (by kernel_rfl) (fun _ _ _ h => h) (Or.inl ⟨by rfl, ?_⟩) ?_
  rotate_left
  · (intro W hSw; obtain ⟨s1, s2, s3, s4, s5, s6⟩ := hSw; go_simp; try with_reducible rfl)
  try simp only [Act.put, List.setIfInBounds_toArray, List.set_cons_zero, List.set_cons_succ]
  refine held_take (HS.out) (i := 2) (v := ?_) rfl (by kernel_rfl) (by kernel_rfl) (by kernel_rfl) (fun _ _ _ h => h) (Or.inl ⟨by rfl, ?_⟩) ?_
  rotate_left
  · (intro W hSw; obtain ⟨s1, s2, s3, s4, s5, s6⟩ := hSw; go_simp; try with_reducible rfl)
  try simp only [Act.put, List.setIfInBounds_toArray, List.set_cons_zero, List.set_cons_succ]
  refine held_take (HS.out) (i := 3) (v := ?_) rfl (by kernel_rfl) (by kernel_rfl) (by kernel_rfl) (fun _ _ _ h => h) (Or.inl ⟨by rfl, ?_⟩) ?_
  rotate_left
  · (intro W hSw; obtain ⟨s1, s2, s3, s4, s5, s6⟩ := hSw; go_simp; try with_reducible rfl)
  try simp only [Act.put, List.setIfInBounds_toArray, List.set_cons_zero, List.set_cons_succ]
  refine held_take (HS.out) (i := 4) (v := ?_) rfl (by kernel_rfl) (by kernel_rfl) (by kernel_rfl) (fun _ _ _ h => h) (Or.inl ⟨by rfl, ?_⟩) ?_
  rotate_left
  · (intro W hSw; obtain ⟨s1, s2, s3, s4, s5, s6⟩ := hSw; go_simp; try with_reducible rfl)
  try simp only [Act.put, List.setIfInBounds_toArray, List.set_cons_zero, List.set_cons_succ]
  refine held_take (HS.out) (i := 5) (v := ?_) rfl (by kernel_rfl) (by kernel_rfl) (by kernel_rfl) (fun _ _ _ h => h) (Or.inl ⟨by rfl, ?_⟩) ?_
  rotate_left
  · (intro W hSw; obtain ⟨s1, s2, s3, s4, s5, s6⟩ := hSw; go_simp; try with_reducible rfl)
  try simp only [Act.put, List.setIfInBounds_toArray, List.set_cons_zero, List.set_cons_succ]
  refine held_take (HS.out) (i := 6) (v := ?_) rfl (by kernel_rfl) (by kernel_rfl) (by kernel_rfl) (fun _ _ _ h => h) (Or.inl ⟨by rfl, ?_⟩) ?_
  rotate_left
  · (intro W hSw; obtain ⟨s1, s2, s3, s4, s5, s6⟩ := hSw; go_simp; try with_reducible rfl)
  try simp only [Act.put, List.setIfInBounds_toArray, List.set_cons_zero, List.set_cons_succ]
  refine held_take (HS.out) (i := 7) (v := ?_) rfl (by kernel_rfl) (by kernel_rfl) (by kernel_rfl) (fun _ _ _ h => h) (Or.inl ⟨by rfl, ?_⟩) ?_
  rotate_left
  · (intro W hSw; obtain ⟨s1, s2, s3, s4, s5, s6⟩ := hSw; go_simp; try with_reducible rfl)
  try simp only [Act.put, List.setIfInBounds_toArray, List.set_cons_zero, List.set_cons_succ]
  refine held_take (HS.out) (i := 8) (v := ?_) rfl (by kernel_rfl) (by kernel_rfl) (by kernel_rfl) (fun _ _ _ h => h) (Or.inl ⟨by rfl, ?_⟩) ?_
  rotate_left
  · (intro W hSw; obtain ⟨s1, s2, s3, s4, s5, s6⟩ := hSw; go_simp; try with_reducible rfl)
  try simp only [Act.put, List.setIfInBounds_toArray, List.set_cons_zero, List.set_cons_succ]
  refine held_take (HS.out) (i := 9) (v := ?_) rfl (by kernel_rfl) (by kernel_rfl) (by kernel_rfl) (fun _ _ _ h => h) (Or.inl ⟨by rfl, ?_⟩) ?_
  rotate_left
  · (intro W hSw; obtain ⟨s1, s2, s3, s4, s5, s6⟩ := hSw; go_simp; try with_reducible rfl)
  try simp only [Act.put, List.setIfInBounds_toArray, List.set_cons_zero, List.set_cons_succ]
  refine held_take (HS.out) (i := 10) (v := ?_) rfl (by kernel_rfl) (by kernel_rfl) (by kernel_rfl) (fun _ _ _ h => h) (Or.inl ⟨by rfl, ?_⟩) ?_
  rotate_left
  · (intro W hSw; obtain ⟨s1, s2, s3, s4, s5, s6⟩ := hSw; go_simp; try with_reducible rfl)
  try simp only [Act.put, List.setIfInBounds_toArray, List.set_cons_zero, List.set_cons_succ]
  refine held_take (HS.out) (i := 11) (v := ?_) rfl (by kernel_rfl) (by kernel_rfl) (by kernel_rfl) (fun _ _ _ h => h) (Or.inl ⟨by rfl, ?_⟩) ?_
  rotate_left
  · (intro W hSw; obtain ⟨s1, s2, s3, s4, s5, s6⟩ := hSw; go_simp; try with_reducible rfl)
  try simp only [Act.put, List.setIfInBounds_toArray, List.set_cons_zero, List.set_cons_succ]
  refine held_take (HS.out) (i := 12) (v := ?_) rfl (by kernel_rfl) (by kernel_rfl) (by kernel_rfl) (fun _ _ _ h => h) (Or.inl ⟨by rfl, ?_⟩) ?_
  rotate_left
  · (intro W hSw; obtain ⟨s1, s2, s3, s4, s5, s6⟩ := hSw; go_simp; try with_reducible rfl)
  try simp only [Act.put, List.setIfInBounds_toArray, List.set_cons_zero, List.set_cons_succ]
  refine held_call (i := 13) (by kernel_rfl) rfl (fun K hK => ?_)
  go_simp
  (go_at_call 81; (with_reducible refine (HSEC.out _).mono ?_); rintro e w2 ⟨A2, c2, rfl, hc2, ho2, hb2⟩; have HO2 := Lib.hid ho2; have HB2 := Lib.hid (bl_of_drew hb2); have HI2 := Lib.hid (HI1.out.keep HB2.out); have HX2 := Lib.hid (HX1.out.keep HB2.out); have HD2 := Lib.hid (HD1.out.below HB2.out); have HS2 := Lib.hid (show w2.cell? ⟨s, 0, none⟩ = some (.pointer (some ⟨d, 0, none⟩)) ∧ w2.cell? ⟨s, 1, none⟩ = some (.int .i64 F) ∧ w2.cell? ⟨w.heap.size, 0, none⟩ = some (.int .i64 ((G : Int) + 1)) ∧ w2.cell? ⟨w.heap.size, 1, none⟩ = some (.int .i64 n) ∧ w2.cell? ⟨w.heap.size, 2, none⟩ = some (.int .i64 area) ∧ w2.cell? ⟨w.heap.size, 3, none⟩ = some (.int .i64 op) from ⟨HI2.out.cell 0, HI2.out.cell 1, HX2.out.cell 0, HX2.out.cell 1, HX2.out.cell 2, HX2.out.cell 3⟩); clear ho2 hb2)
  refine hK.out _ _ (HS2.out) ?_
  clear hK K
  try simp only [Act.put, List.setIfInBounds_toArray, List.set_cons_zero, List.set_cons_succ]
  refine held_call (i := 14) (by kernel_rfl) rfl (fun K hK => ?_)
  go_simp
  (have HWR := mark_write (c := c2) HD2.out (Rd.of_own HO2.out) HL.out HB.out hfew (F + (G + 1) % 2) (by omega); rw [HZZ.out] at HWR; rw [HSW.out]; go_at_call 50; (with_reducible refine HWR.mono ?_); rintro e w3 ⟨rfl, Md3, Rr3, hd3, hm3, hr3, ht3⟩; have HD3 := Lib.hid hd3; have HM3 := Lib.hid hm3; have HR3 := Lib.hid hr3; have HT3 := Lib.hid ht3; have HI3 := Lib.hid (ht3.blk HI2.out HH.out.sd); have HX3 := Lib.hid (ht3.blk HX2.out (fun hm => by have := HH.out.dsk.mlt _ hm; omega)); have HS3 := Lib.hid (show w3.cell? ⟨s, 0, none⟩ = some (.pointer (some ⟨d, 0, none⟩)) ∧ w3.cell? ⟨s, 1, none⟩ = some (.int .i64 F) ∧ w3.cell? ⟨w.heap.size, 0, none⟩ = some (.int .i64 ((G : Int) + 1)) ∧ w3.cell? ⟨w.heap.size, 1, none⟩ = some (.int .i64 n) ∧ w3.cell? ⟨w.heap.size, 2, none⟩ = some (.int .i64 area) ∧ w3.cell? ⟨w.heap.size, 3, none⟩ = some (.int .i64 op) from ⟨HI3.out.cell 0, HI3.out.cell 1, HX3.out.cell 0, HX3.out.cell 1, HX3.out.cell 2, HX3.out.cell 3⟩); clear hd3 hm3 hr3 ht3)
  refine hK.out _ _ (HS3.out) ?_
  clear hK K
  try simp only [Act.put, List.setIfInBounds_toArray, List.set_cons_zero, List.set_cons_succ]
  refine held_take (HS3.out) (i := 15) (v := ?_) rfl (by kernel_rfl) (by kernel_rfl) (by kernel_rfl) (fun _ _ _ h => h) (Or.inl ⟨by rfl, ?_⟩) ?_
  rotate_left
  · (intro W hSw; obtain ⟨s1, s2, s3, s4, s5, s6⟩ := hSw; go_simp; try with_reducible rfl)
  try simp only [Act.put, List.setIfInBounds_toArray, List.set_cons_zero, List.set_cons_succ]
  refine wpAnyH_done (by kernel_rfl) ?_ _
  generalize Dk.writeE D z l = e1 at HE HDD ⊢
  generalize Dk.writeD D z l = D1 at HE HDD HD3 ⊢
  generalize hfe : Dk.flushE D1 = e2 at HE HDD ⊢
  have HFE := Lib.hid hfe
  clear hfe
  have hz2 := HW1.out.size
  have hz3 := HB2.out.size
  have hm3 : ∀ b, Md3 b → Md b ∨ w.heap.size ≤ b := fun b hb => (HM3.out b hb).imp id (fun h => by omega)
  have hr3 : ∀ b, Rr3 b → Rr b ∨ w.heap.size ≤ b := fun b hb => (HR3.out b hb).imp id (fun h => by omega)
  have hs3 : ¬ Md3 s := fun hq => (hm3 s hq).elim HH.out.sd (fun e => by omega)
  have hx3 : ¬ Md3 w.heap.size := fun hq => (HM3.out _ hq).elim (fun h => by have := HH.out.dsk.mlt _ h; omega) (fun e => by have := HZ.out; omega)
  have t3 : Tr (fun b => Md b ∨ b = s) w w3 := ((Tr.of_below HW1.out).then_below HB2.out).trans HT3.out (fun b _ h => .inl h)
  have HT := Lib.hid t3
  have HM := Lib.hid hm3
  have HR := Lib.hid hr3
  have HN := Lib.hid hs3
  have HNX := Lib.hid hx3
  clear hz2 hz3 hm3 hr3 hs3 hx3 t3
  have c0 := HI3.out.cell 0
  simp [stCells] at c0
  by_cases h1 : e1 = 0
  · subst h1
    by_cases h2 : e2 = 0
    · subst h2
      have HE1 := Lib.hid (HE.out.trans (if_pos rfl))
      have HD0 := Lib.hid (HDD.out.trans (if_pos rfl))
      clear HE HDD
      have x0 := HX3.out.cell 0
      go_wp2_with (first
        | (go_at_call 52; (with_reducible refine (Dk.flush_any HD3.out).mono ?_); rintro e w4 ⟨rfl, hd4, ht4⟩; rw [HFE.out]; have HD4 := Lib.hid hd4; have HT4 := Lib.hid ht4; have HI4 := Lib.hid (ht4.blk HI3.out HN.out); have hx4 := ht4.blk HX3.out HNX.out; have y0 := hx4.cell 0; have y1 := hx4.cell 1; have y2 := hx4.cell 2; have y3 := hx4.cell 3; have f3 := HI4.out.frozen 3; have f4 := HI4.out.frozen 4; have f5 := HI4.out.frozen 5; have f6 := HI4.out.frozen 6; have q3 := HI4.out.cell 3; have q4 := HI4.out.cell 4; have q5 := HI4.out.cell 5; have q6 := HI4.out.cell 6; simp at y0 y1 y2 y3; simp [stCells] at q3 q4 q5 q6; clear hd4 ht4 hx4))
      go_ret
      have hb : IsSt ((((w4.setCell ⟨s, 3, none⟩ (.int .i64 ((G : Int) + 1))).setCell ⟨s, 4, none⟩ (.int .i64 n)).setCell ⟨s, 5, none⟩ (.int .i64 area)).setCell ⟨s, 6, none⟩ (.int .i64 op)) s d g F (x.next n area op) dead := by
        have h := (((HI4.out.set_ 3 (.int .i64 ((G : Int) + 1))).set_ 4 (.int .i64 n)).set_ 5 (.int .i64 area)).set_ 6 (.int .i64 op)
        unfold IsSt ST.next
        rw [hG]
        exact h
      have tt : Tr (fun b => b = s) w4 ((((w4.setCell ⟨s, 3, none⟩ (.int .i64 ((G : Int) + 1))).setCell ⟨s, 4, none⟩ (.int .i64 n)).setCell ⟨s, 5, none⟩ (.int .i64 area)).setCell ⟨s, 6, none⟩ (.int .i64 op)) :=
        ((((Tr.refl (fun b => b = s) w4).setCell (p := ⟨s, 3, none⟩) (fun _ => rfl) _).setCell (p := ⟨s, 4, none⟩) (fun _ => rfl) _).setCell (p := ⟨s, 5, none⟩) (fun _ => rfl) _).setCell (p := ⟨s, 6, none⟩) (fun _ => rfl) _
      have hd := HD4.out.tr tt (fun b hm e => HN.out (e ▸ hm)) (fun b hr e => (HR.out _ hr).elim (fun h => HH.out.sr (e ▸ h)) (fun h => by omega))
      have t4 : Tr (fun b => Md b ∨ b = s) w w4 := HT.out.trans HT4.out (fun b hb h => .inl ((HM.out b h).resolve_right (by omega)))
      have t5 := t4.trans tt (fun b _ h => .inr h)
      unfold RetMark
      rw [HE1.out, HD0.out, if_pos rfl]
      exact ⟨Md3, Rr3, rfl, HH.out.after hb hd t5 HM.out HR.out, HM.out, HR.out, t5⟩
    · have HE1 := Lib.hid (HE.out.trans (if_pos rfl))
      have HD0 := Lib.hid (HDD.out.trans (if_pos rfl))
      have k2 : (e2 == 0) = false := by simp [h2]
      clear HE HDD
      go_wp2_with (first
        | (go_at_call 52; (with_reducible refine (Dk.flush_any HD3.out).mono ?_); rintro e w4 ⟨rfl, hd4, ht4⟩; rw [HFE.out]; have HD4 := Lib.hid hd4; have HT4 := Lib.hid ht4; have HI4 := Lib.hid (ht4.blk HI3.out HN.out); clear hd4 ht4))
      go_ret
      unfold RetMark
      rw [HE1.out, HD0.out, if_neg h2]
      have t4 : Tr (fun b => Md b ∨ b = s) w w4 := HT.out.trans HT4.out (fun b hb h => .inl ((HM.out b h).resolve_right (by omega)))
      exact ⟨Md3, Rr3, rfl, HH.out.after HI4.out HD4.out t4 HM.out HR.out, HM.out, HR.out, t4⟩
  · have HE1 := Lib.hid (HE.out.trans (if_neg h1))
    have HD0 := Lib.hid (HDD.out.trans (if_neg h1))
    have k1 : (e1 == 0) = false := by simp [h1]
    clear HE HDD
    go_wp2_with fail
    go_ret
    unfold RetMark
    rw [HE1.out, HD0.out, if_neg h1]
    exact ⟨Md3, Rr3, rfl, HH.out.after HI3.out HD3.out HT.out HM.out HR.out, HM.out, HR.out, HT.out⟩
end
end Go.Proofs.YthlijldapoeepaaGreat

/- The reference's store (06): next, Apply, Replace, Copy. -/

namespace Go.Proofs.YthlijldapoeepaaGreat
set_option linter.unusedVariables false
set_option linter.unusedSimpArgs false
set_option maxRecDepth 100000
open Go.RowKit Go.Shelf

/-- A store of the reference. -/
structure IsRSt (w : World) (p r q c : Nat) (L : List (List Int)) (N : Int) (M : Nat → Prop) : Prop where
  blk : Blk w p 37 #[.pointer (some ⟨r, 0, none⟩), .int .i64 N]
  ref : IsRef w r L q c M
  mp : ¬ M p
section
variable {w w' w0 : World} {p r q c r2 q2 c2 : Nat} {L L2 : List (List Int)} {N : Int} {M M2 F : Nat → Prop}
theorem IsRSt.tr (h : IsRSt w p r q c L N M) (ht : Tr F w w') (hM : ∀ b, M b → ¬ F b) (hp : ¬ F p) : IsRSt w' p r q c L N M := ⟨ht.blk h.blk hp, h.ref.tr ht hM, h.mp⟩
theorem IsRSt.below (h : IsRSt w p r q c L N M) (hb : Below w.heap.size w w') : IsRSt w' p r q c L N M := ⟨h.blk.keep hb, h.ref.below hb, h.mp⟩
def nextOk (N n : Int) : Bool := decide (N < n) && decide (n ≤ 1152921504606846976)
theorem rsnext_any (hb : Blk w p 37 #[.pointer (some ⟨r, 0, none⟩), .int .i64 N]) (n : Int) : Calls Tryz.prog 66 #[.pointer (some ⟨p, 0, none⟩), .int .i64 n] w fun e w' => e = .returned (.bool (nextOk N n)) ∧ w = w' := by
  have c1 := hb.cell 1
  simp at c1
  have HN : Hid (nextOk N n = (decide (N < n) && decide (n ≤ 1152921504606846976))) := Lib.hid rfl
  clear hb
  by_cases h1 : N < n
  · have q1 : decide (N < n) = true := decide_eq_true h1
    have q2 : decide (n ≤ N) = false := decide_eq_false (by omega)
    go_enter Tryz.func66, Tryz.ntmps66
    go_wp2_with fail
    go_ret
    exact ⟨by rw [HN.out, q1, Bool.true_and]; rfl, rfl⟩
  · have q1 : decide (N < n) = false := decide_eq_false h1
    clear h1
    go_enter Tryz.func66, Tryz.ntmps66
    go_wp2_with fail
    go_ret
    exact ⟨by rw [HN.out, q1, Bool.false_and]; rfl, rfl⟩
def rapE (N : Int) (m : Nat) (n : Int) (l : List ChS) : Int := if nextOk N n = true ∧ chRight m l = true then (if 64 < l.length then 3 else 0) else 1
def RetRAp (w : World) (p r q c : Nat) (L' : List (List Int)) (N' : Int) (M : Nat → Prop) (err : Int) (e : Ending) (w' : World) : Prop :=
  ∃ M', e = .returned (.int .i64 err) ∧ IsRSt w' p r q c L' N' M' ∧ (∀ b, M' b → M b ∨ w.heap.size ≤ b) ∧ Tr (fun b => b = q ∨ b = p) w w'
set_option maxHeartbeats 1600000 in
theorem rsapply_any (h : IsRSt w p r q c L N M) (n : Int) (A : Option Addr) (k : Nat) (l : List ChS) (hl : l.length ≤ 140737488351232) (hA : ChsAt w0 A l) (hb0 : Below w0.heap.size w0 w) (hq0 : w0.heap.size ≤ q) :
    Calls Tryz.prog 36 #[.pointer (some ⟨p, 0, none⟩), .int .i64 n, .slice A l.length k] w (RetRAp w p r q c (if rapE N L.length n l = 0 then chTo L l else L) (if rapE N L.length n l = 0 then n else N) M (rapE N L.length n l)) := by
  have HX := Lib.hid (rsnext_any h.blk n)
  have HRT := Lib.hid (rright_any h.ref A k l hl hA hb0)
  have hbl := h.blk
  have c0 := h.blk.cell 0
  simp at c0
  have HH := Lib.hid h
  have HA := Lib.hid hA
  have HB0 := Lib.hid hb0
  have HE : Hid (rapE N L.length n l = if nextOk N n = true ∧ chRight L.length l = true then (if 64 < l.length then 3 else 0) else 1) := Lib.hid rfl
  obtain ⟨b1, hb1⟩ : ∃ b1, nextOk N n = b1 := ⟨_, rfl⟩
  obtain ⟨b2, hb2⟩ : ∃ b2, chRight L.length l = b2 := ⟨_, rfl⟩
  have HB2 := Lib.hid hb2
  rw [hb1] at HX HE
  rw [hb2] at HRT HE
  have hplt := h.blk.lt
  clear h hA hb0 hb1 hb2 hbl
  cases b1 with
  | false =>
    have HE1 : Hid (rapE N L.length n l = 1) := Lib.hid (by rw [HE.out]; simp)
    clear HE
    rw [HE1.out, if_neg (by decide), if_neg (by decide)]
    go_enter Tryz.func36, Tryz.ntmps36
    go_wp2_with (first
      | (go_at_call 66; (with_reducible refine HX.out.mono ?_); rintro e w' ⟨rfl, rfl⟩))
    go_ret
    exact ⟨M, rfl, HH.out, fun b h => .inl h, Tr.refl _ _⟩
  | true =>
    cases b2 with
    | false =>
      have HE1 : Hid (rapE N L.length n l = 1) := Lib.hid (by rw [HE.out]; simp)
      clear HE
      rw [HE1.out, if_neg (by decide), if_neg (by decide)]
      go_enter Tryz.func36, Tryz.ntmps36
      go_wp2_with (first
        | (go_at_call 66; (with_reducible refine HX.out.mono ?_); rintro e w' ⟨rfl, rfl⟩)
        | (go_at_call 67; (with_reducible refine HRT.out.mono ?_); rintro e w1 ⟨rfl, hb1⟩; have HB1 := Lib.hid hb1; clear hb1))
      go_ret
      exact ⟨M, rfl, HH.out.below HB1.out, fun b h => .inl h, Tr.of_below HB1.out⟩
    | true =>
      by_cases h64 : 64 < l.length
      · have HE1 : Hid (rapE N L.length n l = 3) := Lib.hid (by rw [HE.out]; simp [h64])
        have q1 : (64 : Int) < (l.length : Int) := by omega
        clear HE h64
        rw [HE1.out, if_neg (by decide), if_neg (by decide)]
        go_enter Tryz.func36, Tryz.ntmps36
        go_wp2_with (first
          | (go_at_call 66; (with_reducible refine HX.out.mono ?_); rintro e w' ⟨rfl, rfl⟩)
          | (go_at_call 67; (with_reducible refine HRT.out.mono ?_); rintro e w1 ⟨rfl, hb1⟩; have HB1 := Lib.hid hb1; clear hb1))
        go_ret
        exact ⟨M, rfl, HH.out.below HB1.out, fun b h => .inl h, Tr.of_below HB1.out⟩
      · have HE1 : Hid (rapE N L.length n l = 0) := Lib.hid (by rw [HE.out]; simp [h64])
        have q1 : ¬ (64 : Int) < (l.length : Int) := by omega
        have HC : Hid (changeL L l = chTo L l ∧ changeE L.length l = 0) := Lib.hid ⟨if_pos HB2.out, if_pos HB2.out⟩
        clear HE h64
        rw [HE1.out, if_pos rfl, if_pos rfl]
        go_enter Tryz.func36, Tryz.ntmps36
        go_wp2_with (first
          | (go_at_call 66; (with_reducible refine HX.out.mono ?_); rintro e w' ⟨rfl, rfl⟩)
          | (go_at_call 67; (with_reducible refine HRT.out.mono ?_); rintro e w1 ⟨rfl, hb1⟩; have HB1 := Lib.hid hb1; have HS1 := Lib.hid (HH.out.below hb1); have c1 := HS1.out.blk.cell 0; simp at c1; clear hb1)
          | (go_at_call 68; (with_reducible refine (rchange_any HS1.out.ref A k l hl HA.out (bl_chain HB0.out HB1.out) hq0).mono ?_); rintro e w2 ⟨M2, rfl, hr2, hm2, ht2⟩; have hb2 := ht2.blk HS1.out.blk (fun e => HS1.out.mp (e ▸ HS1.out.ref.mq)); have d1 := hb2.cell 1; have f1 := hb2.frozen 1; simp at d1; have HBK2 := Lib.hid hb2; have HR2 := Lib.hid hr2; have HM2 := Lib.hid hm2; have HT2 := Lib.hid ht2; clear hb2 hr2 hm2 ht2))
        go_ret
        have hz1 := HB1.out.size
        have ts : Tr (fun b => b = p) w2 (w2.setCell ⟨p, 1, none⟩ (.int .i64 n)) := (Tr.refl (fun b => b = p) w2).setCell (p := ⟨p, 1, none⟩) (fun _ => rfl) _
        have hmp : ¬ M2 p := fun h => (HM2.out p h).elim HH.out.mp (fun h => by omega)
        have hr2 := HR2.out
        rw [HC.out.1] at hr2
        exact ⟨M2, rfl, ⟨HBK2.out.set_ 1 _, hr2.tr ts (fun b hb e => hmp (e ▸ hb)), hmp⟩, fun b hb => (HM2.out b hb).imp id (fun h => by omega), ((Tr.of_below HB1.out).trans HT2.out (fun b _ h => .inl h)).trans ts (fun b _ h => .inr h)⟩
def RetRRe (w : World) (p r2 q2 : Nat) (L2 : List (List Int)) (n : Int) (M2 : Nat → Prop) (e : Ending) (w' : World) : Prop :=
  ∃ r' q' c', e = .returned (.int .i64 0) ∧ IsRSt w' p r' q' c' L2 n (RCopyM r2 q2 M2 r' q') ∧ w.heap.size ≤ r' ∧ w.heap.size ≤ q' ∧ Tr (fun b => b = p) w w'
set_option maxHeartbeats 1600000 in
theorem rsreplace_no (h : IsRSt w p r q c L N M) (h2 : IsRef w r2 L2 q2 c2 M2) (n : Int) (hn : nextOk N n = false) :
    Calls Tryz.prog 41 #[.pointer (some ⟨p, 0, none⟩), .int .i64 n, .pointer (some ⟨r2, 0, none⟩)] w fun e w' => e = .returned (.int .i64 1) ∧ Below w.heap.size w w' := by
  have HX := Lib.hid (fun k => rsnext_any (w := w.drewN k) (h.blk.drewN k) n)
  rw [hn] at HX
  clear h h2 hn
  go_enter Tryz.func41, Tryz.ntmps41
  go_wp2_with fail
  go_quiet (first | (go_at_call 66; exact Calls.quiet_of_same ((HX.out _).mono (fun _ _ ⟨a, b⟩ => ⟨a, b.symm⟩))))
  go_wp2_with fail
  go_ret
  exact ⟨rfl, bl_drewN _ _⟩
set_option maxHeartbeats 3200000 in
theorem rsreplace_any (h : IsRSt w p r q c L N M) (h2 : IsRef w r2 L2 q2 c2 M2) (hl : L2.length = L.length) (hp : ¬ M2 p) (n : Int) (hn : nextOk N n = true) :
    Calls Tryz.prog 41 #[.pointer (some ⟨p, 0, none⟩), .int .i64 n, .pointer (some ⟨r2, 0, none⟩)] w (RetRRe w p r2 q2 L2 n M2) := by
  have HX := Lib.hid (fun k => rsnext_any (w := w.drewN k) (h.blk.drewN k) n)
  rw [hn] at HX
  have c0 := h.blk.cell 0
  have d0 := h.ref.c0
  have d2 := h2.c0
  simp at c0
  rw [hl] at d2
  have HH := Lib.hid h
  have H2 := Lib.hid h2
  have hplt := h.blk.lt
  clear h h2 hn
  go_enter Tryz.func41, Tryz.ntmps41
  go_wp2_with fail
  go_quiet (first | (go_at_call 66; exact Calls.quiet_of_same ((HX.out _).mono (fun _ _ ⟨a, b⟩ => ⟨a, b.symm⟩))))
  have HC := Lib.hid (rcopy_any (H2.out.below (bl_drewN w nq)))
  have HS0 := Lib.hid (HH.out.below (bl_drewN w nq))
  have B0 := Lib.hid (bl_drewN w nq)
  have hz0 : (w.drewN nq).heap.size = w.heap.size := rfl
  generalize w.drewN nq = W0 at HC HS0 B0 hz0 ⊢
  go_wp2_with (first | (go_at_call 45; (with_reducible refine HC.out.mono ?_); rintro e w1 ⟨r', q', c', rfl, h1, h2, h3, h4⟩; have hb1 := HS0.out.blk.keep h4; have y0 := hb1.cell 0; have y1 := hb1.cell 1; have f0 := hb1.frozen 0; have f1 := hb1.frozen 1; simp at y0 y1; have HB1 := Lib.hid hb1; have H3 := Lib.hid h3; have H4 := Lib.hid h4; clear hb1 h3 h4))
  go_ret
  have ts : Tr (fun b => b = p) w1 ((w1.setCell ⟨p, 0, none⟩ (.pointer (some ⟨r', 0, none⟩))).setCell ⟨p, 1, none⟩ (.int .i64 n)) := ((Tr.refl (fun b => b = p) w1).setCell (p := ⟨p, 0, none⟩) (fun _ => rfl) _).setCell (p := ⟨p, 1, none⟩) (fun _ => rfl) _
  have hmp : ¬ RCopyM r2 q2 M2 r' q' p := by
    rintro (h | h | h)
    · exact hp h.1
    · omega
    · omega
  exact ⟨r', q', c', rfl, ⟨(HB1.out.set_ 0 _).set_ 1 _, H3.out.tr ts (fun b hb e => hmp (e ▸ hb)), hmp⟩, by omega, by omega, (Tr.of_below (bl_chain B0.out H4.out)).trans ts (fun _ _ h => h)⟩
def RetRSC (w : World) (r q : Nat) (L : List (List Int)) (N : Int) (M : Nat → Prop) (e : Ending) (w' : World) : Prop :=
  ∃ p' r' q' c', e = .returned (.pointer (some ⟨p', 0, none⟩)) ∧ IsRSt w' p' r' q' c' L N (RCopyM r q M r' q') ∧ w.heap.size ≤ p' ∧ w.heap.size ≤ r' ∧ w.heap.size ≤ q' ∧ Below w.heap.size w w'
set_option maxHeartbeats 3200000 in
theorem rscopy_any (h : IsRSt w p r q c L N M) : Calls Tryz.prog 15 #[.pointer (some ⟨p, 0, none⟩)] w (RetRSC w r q L N M) := by
  have c0 := h.blk.cell 0
  have c1 := h.blk.cell 1
  simp at c0 c1
  have HH := Lib.hid h
  have HSS : Hid (w.drew.cell? ⟨p, 0, none⟩ = some (.pointer (some ⟨r, 0, none⟩)) ∧ w.drew.cell? ⟨p, 1, none⟩ = some (.int .i64 N)) := Lib.hid ⟨c0, c1⟩
  clear h c0 c1
  go_enter Tryz.func15, Tryz.ntmps15
  go_wp2_with fail
  refine held_startB (S := fun W => W.cell? ⟨p, 0, none⟩ = some (.pointer (some ⟨r, 0, none⟩)) ∧ W.cell? ⟨p, 1, none⟩ = some (.int .i64 N)) (by kernel_rfl) ?_
  refine held_take (HSS.out) (i := 0) (v := ?_) rfl (by kernel_rfl) (by kernel_rfl) (by kernel_rfl) (fun _ _ _ h => h) (Or.inl ⟨by rfl, ?_⟩) ?_
  rotate_left
  · (intro W hSw; obtain ⟨s1, s2⟩ := hSw; go_simp; try with_reducible rfl)
  try simp only [Act.put, List.setIfInBounds_toArray, List.set_cons_zero, List.set_cons_succ]
  refine held_take (HSS.out) (i := 1) (v := ?_) rfl (by kernel_rfl) (by kernel_rfl) (by kernel_rfl) (fun _ _ _ h => h) (Or.inl ⟨by rfl, ?_⟩) ?_
  rotate_left
  · (intro W hSw; obtain ⟨s1, s2⟩ := hSw; go_simp; try with_reducible rfl)
  try simp only [Act.put, List.setIfInBounds_toArray, List.set_cons_zero, List.set_cons_succ]
  refine held_take (HSS.out) (i := 2) (v := ?_) rfl (by kernel_rfl) (by kernel_rfl) (by kernel_rfl) (fun _ _ _ h => h) (Or.inl ⟨by rfl, ?_⟩) ?_
  rotate_left
  · (intro W hSw; obtain ⟨s1, s2⟩ := hSw; go_simp; try with_reducible rfl)
  try simp only [Act.put, List.setIfInBounds_toArray, List.set_cons_zero, List.set_cons_succ]
  refine held_take (HSS.out) (i := 3) (v := ?_) rfl (by kernel_rfl) (by kernel_rfl) (by kernel_rfl) (fun _ _ _ h => h) (Or.inl ⟨by rfl, ?_⟩) ?_
  rotate_left
  · (intro W hSw; obtain ⟨s1, s2⟩ := hSw; go_simp; try with_reducible rfl)
  try simp only [Act.put, List.setIfInBounds_toArray, List.set_cons_zero, List.set_cons_succ]
  refine held_take (HSS.out) (i := 5) (v := ?_) rfl (by kernel_rfl) (by kernel_rfl) (by kernel_rfl) (fun _ _ _ h => h) (Or.inl ⟨by rfl, ?_⟩) ?_
  rotate_left
  · (intro W hSw; obtain ⟨s1, s2⟩ := hSw; go_simp; try with_reducible rfl)
  try simp only [Act.put, List.setIfInBounds_toArray, List.set_cons_zero, List.set_cons_succ]
  refine held_take (HSS.out) (i := 6) (v := ?_) rfl (by kernel_rfl) (by kernel_rfl) (by kernel_rfl) (fun _ _ _ h => h) (Or.inl ⟨by rfl, ?_⟩) ?_
  rotate_left
  · (intro W hSw; obtain ⟨s1, s2⟩ := hSw; go_simp; try with_reducible rfl)
  try simp only [Act.put, List.setIfInBounds_toArray, List.set_cons_zero, List.set_cons_succ]
  refine held_take (HSS.out) (i := 7) (v := ?_) rfl (by kernel_rfl) (by kernel_rfl) (by kernel_rfl) (fun _ _ _ h => h) (Or.inl ⟨by rfl, ?_⟩) ?_
  rotate_left
  · (intro W hSw; obtain ⟨s1, s2⟩ := hSw; go_simp; try with_reducible rfl)
  try simp only [Act.put, List.setIfInBounds_toArray, List.set_cons_zero, List.set_cons_succ]
  refine held_take (HSS.out) (i := 8) (v := ?_) rfl (by kernel_rfl) (by kernel_rfl) (by kernel_rfl) (fun _ _ _ h => h) (Or.inl ⟨by rfl, ?_⟩) ?_
  rotate_left
  · (intro W hSw; obtain ⟨s1, s2⟩ := hSw; go_simp; try with_reducible rfl)
  try simp only [Act.put, List.setIfInBounds_toArray, List.set_cons_zero, List.set_cons_succ]
  refine held_call (i := 4) (by kernel_rfl) rfl (fun K hK => ?_)
  go_simp
  (go_at_call 45; (with_reducible refine (rcopy_any (HH.out.ref.below (bl_drew w))).mono ?_); rintro e w1 ⟨r', q', c', rfl, h1, h2, h3, h4⟩; have H3 := Lib.hid h3; have H4 := Lib.hid (bl_of_drew h4); have HS1 := Lib.hid (show w1.cell? ⟨p, 0, none⟩ = some (.pointer (some ⟨r, 0, none⟩)) ∧ w1.cell? ⟨p, 1, none⟩ = some (.int .i64 N) from ⟨(h4.cell (cell_block_lt HSS.out.1)).trans HSS.out.1, (h4.cell (cell_block_lt HSS.out.2)).trans HSS.out.2⟩); clear h3 h4)
  refine hK.out _ _ (HS1.out) ?_
  clear hK K
  try simp only [Act.put, List.setIfInBounds_toArray, List.set_cons_zero, List.set_cons_succ]
  refine held_take (HS1.out) (i := 9) (v := ?_) rfl (by kernel_rfl) (by kernel_rfl) (by kernel_rfl) (fun _ _ _ h => h) (Or.inl ⟨by rfl, ?_⟩) ?_
  rotate_left
  · (intro W hSw; obtain ⟨s1, s2⟩ := hSw; go_simp; try with_reducible rfl)
  try simp only [Act.put, List.setIfInBounds_toArray, List.set_cons_zero, List.set_cons_succ]
  refine held_call (i := 10) (by kernel_rfl) rfl (fun K hK => ?_)
  go_simp
  (have HS2 := Lib.hid (show (w1.alloc (.cells #[.pointer (some ⟨r', 0, none⟩), .int .i64 N] 37)).cell? ⟨p, 0, none⟩ = some (.pointer (some ⟨r, 0, none⟩)) ∧ (w1.alloc (.cells #[.pointer (some ⟨r', 0, none⟩), .int .i64 N] 37)).cell? ⟨p, 1, none⟩ = some (.int .i64 N) from ⟨((bl_alloc w1 _).cell (cell_block_lt HS1.out.1)).trans HS1.out.1, ((bl_alloc w1 _).cell (cell_block_lt HS1.out.2)).trans HS1.out.2⟩))
  refine hK.out _ _ (HS2.out) ?_
  clear hK K
  try simp only [Act.put, List.setIfInBounds_toArray, List.set_cons_zero, List.set_cons_succ]
  refine held_take (HS2.out) (i := 11) (v := ?_) rfl (by kernel_rfl) (by kernel_rfl) (by kernel_rfl) (fun _ _ _ h => h) (Or.inl ⟨by rfl, ?_⟩) ?_
  rotate_left
  · (intro W hSw; obtain ⟨s1, s2⟩ := hSw; go_simp; try with_reducible rfl)
  try simp only [Act.put, List.setIfInBounds_toArray, List.set_cons_zero, List.set_cons_succ]
  refine wpAnyH_done (by kernel_rfl) ?_ _
  go_wp2_with fail
  go_ret
  have hbl := bl_alloc w1 (.cells #[.pointer (some ⟨r', 0, none⟩), .int .i64 N] 37)
  have hzz : w.drew.heap.size = w.heap.size := rfl
  have hz := H4.out.size
  exact ⟨w1.heap.size, r', q', c', rfl, ⟨Blk.new w1 _ _, H3.out.below hbl, fun h => by have := H3.out.mlt _ h; omega⟩, by omega, by omega, by omega, bl_chain H4.out hbl⟩
end
end Go.Proofs.YthlijldapoeepaaGreat
