/- Contract of the statements' alike: a disk and the reference's, of one state, look alike. -/
import Derived.Test.YtadoclcabkcmeaaRef6
import Derived.Test.YtadoclcabkcmeaaExt
namespace Go.Proofs.Ytadoclcabkcmeaa
set_option linter.unusedVariables false
open Go.RowKit

theorem ext_rd {w : World} {A : Option Addr} {n c : Nat} {l : List Int} (h : Rd w A (by8 l)) (hl : l.length = n) :
    ∀ W, Ext w W → (convert 29 9 (.slice A n c)).run Try.prog W = .ok (.string (strOfNums l)) W := fun W hW => conv8 n c (h.below hW) hl
theorem ext_on {w w' : World} {P : World → Prop} (h : ∀ W, Ext w W → P W) (hb : Below w.heap.size w w') : ∀ W, Ext w' W → P W := fun W hW => h W (bl_chain hb hW)
theorem pend_n {w : World} {g : Nat} {D : DS} {M R : Nat → Prop} (hd : IsDisk w g D M R) : Calls Try.prog 23 #[.pointer (some ⟨g, 0, none⟩)] w fun e w' => e = .returned (.int .i64 D.gs.length) ∧ w = w' := pending_any hd
theorem ref_cells {w : World} {r : Nat} {D : DS} {M R : Nat → Prop} (h : IsRef w r D M R) : ∃ bs cs Al cl, ∀ W, Ext w W → W.cell? ⟨r, 0, none⟩ = some (.slice (some ⟨bs, 0, none⟩) D.n cs) ∧ W.cell? ⟨r, 1, none⟩ = some (.slice Al D.gs.length cl) ∧ W.cell? ⟨r, 3, none⟩ = some (.bool D.dead) := by
  obtain ⟨bs, cs, cells, Al, cl, lcells, h⟩ := h
  refine ⟨bs, cs, Al, cl, fun W hW => ?_⟩
  have hb := h.blk.keep hW
  have h0 := hb.cell 0
  have h1 := hb.cell 1
  have h3 := hb.cell 3
  simp at h0 h1 h3
  exact ⟨h0, h1, h3⟩

set_option maxHeartbeats 8000000 in
set_option maxRecDepth 20000 in
theorem alike_any {g r : Nat} {D : DS} {M R Mr Rr : Nat → Prop} {w : World} (at_ n : Int) (hd : IsDisk w g D M R) (hr : IsRef w r D Mr Rr) (hbig : -9223372036854775808 ≤ at_ ∧ at_ ≤ 9223372036854775807 ∧ -9223372036854775808 ≤ n ∧ n ≤ 9223372036854775807) :
    Calls Try.prog 20 #[.pointer (some ⟨g, 0, none⟩), .pointer (some ⟨r, 0, none⟩), .int .i64 at_, .int .i64 n] w fun e w' => e = .returned (.bool true) ∧ Below w.heap.size w w' := by
  have HD := Lib.hid hd
  have HR := Lib.hid hr
  have HG := Lib.hid hbig
  have HL := Lib.hid hd.ok.len
  have HLN := Lib.hid hd.ok.lnow
  have hmost := hd.ok.most
  clear hd hr hbig
  obtain ⟨bs, cs, Al, cl, hcells⟩ := ref_cells HR.out
  have HC := Lib.hid hcells
  clear hcells
  go_enter Try.func20, Try.ntmps20
  go_wp2_with (first
    | (go_at_call 10; (with_reducible refine (image_any HD.out).mono ?_); rintro e w1 ⟨A1, c1, rfl, hc1, ho, hb⟩; have HO1 := Lib.hid ho; have HB1 := Lib.hid hb; clear ho hb)
    | (go_at_call 11; (with_reducible refine (now_any (HD.out.below HB1.out)).mono ?_); rintro e w2 ⟨A2, c2, rfl, hc2, ho, hb⟩; have HO2 := Lib.hid ho; have HB2 := Lib.hid (bl_chain HB1.out hb); have HQ2 := Lib.hid hb; clear ho hb)
    | (go_at_call 26; (with_reducible refine (read_any at_ n (HD.out.below HB2.out) HG.out).mono ?_); rintro e w3 ⟨A3, c3, rfl, hc3, ho, hb⟩; have HO3 := Lib.hid ho; have HB3 := Lib.hid (bl_chain HB2.out hb); have HQ3 := Lib.hid hb; clear ho hb)
    | (go_at_call 35; (with_reducible refine (rread_any at_ n (HR.out.below HB3.out) HG.out).mono ?_); rintro e w4 ⟨A4, c4, rfl, ho, hb⟩; have HO4 := Lib.hid ho; have HB4 := Lib.hid (bl_chain HB3.out hb); have HQ4 := Lib.hid hb; clear ho hb))
  have R1 := Lib.hid (((Rd.of_own (ownsRow_base HO1.out (Nat.zero_le _))).below (bl_chain HQ2.out (bl_chain HQ3.out HQ4.out))).below (bl_drew w4))
  have R2 := Lib.hid (((Rd.of_own (ownsRow_base HO2.out (Nat.zero_le _))).below (bl_chain HQ3.out HQ4.out)).below (bl_drew w4))
  have R3 := Lib.hid (((Rd.of_own (ownsRow_base HO3.out (Nat.zero_le _))).below HQ4.out).below (bl_drew w4))
  have R4 := Lib.hid (HO4.out.below (bl_drew w4))
  have DB := Lib.hid (bl_chain HB4.out (bl_drew w4))
  have KC := Lib.hid (ext_on HC.out DB.out)
  have k1 := ext_rd (c := c1) R1.out rfl
  refine ext_start (by kernel_rfl) ?_
  refine ext_take (i := 0) (v := ?_) rfl (by kernel_rfl) (by kernel_rfl) (by kernel_rfl) (fun _ _ _ h => h) (Or.inl ⟨by rfl, ?_⟩) ?_
  rotate_left
  · (intro W hSw; go_simp; try with_reducible rfl)
  try simp only [Act.put, List.setIfInBounds_toArray, List.set_cons_zero, List.set_cons_succ]
  refine ext_take (i := 1) (v := ?_) rfl (by kernel_rfl) (by kernel_rfl) (by kernel_rfl) (fun _ _ _ h => h) (Or.inl ⟨by rfl, ?_⟩) ?_
  rotate_left
  · (intro W hSw; go_simp; try with_reducible rfl)
  try simp only [Act.put, List.setIfInBounds_toArray, List.set_cons_zero, List.set_cons_succ]
  refine ext_take (i := 2) (v := ?_) rfl (by kernel_rfl) (by kernel_rfl) (by kernel_rfl) (fun _ _ _ h => h) (Or.inl ⟨by rfl, ?_⟩) ?_
  rotate_left
  · (intro W hSw; go_simp; try with_reducible rfl)
  try simp only [Act.put, List.setIfInBounds_toArray, List.set_cons_zero, List.set_cons_succ]
  refine ext_call (i := 3) (by kernel_rfl) rfl (fun K hK => ?_)
  go_simp
  (first | (go_at_call 36; (with_reducible refine (rimage_any (HR.out.below DB.out)).mono ?_); rintro e w5 ⟨A5, c5, rfl, hc5, ho, hb⟩; have k5 := ext_rd (c := c5) (Rd.of_own (ownsRow_base ho (Nat.zero_le _))) HL.out; have k2 := ext_rd (c := c2) (R2.out.below hb) rfl; have X5 := Lib.hid hb; clear ho hb k1))
  refine hK.out _ _ (X5.out) ?_
  clear hK K
  try simp only [Act.put, List.setIfInBounds_toArray, List.set_cons_zero, List.set_cons_succ]
  refine ext_take (i := 4) (v := ?_) rfl (by kernel_rfl) (by kernel_rfl) (by kernel_rfl) (fun _ _ _ h => h) (Or.inl ⟨by rfl, ?_⟩) ?_
  rotate_left
  · (intro W hSw; go_simp; try with_reducible rfl)
  try simp only [Act.put, List.setIfInBounds_toArray, List.set_cons_zero, List.set_cons_succ]
  refine ext_take (i := 5) (v := ?_) rfl (by kernel_rfl) (by kernel_rfl) (by kernel_rfl) (fun _ _ _ h => h) (Or.inl ⟨by rfl, ?_⟩) ?_
  rotate_left
  · (intro W hSw; go_simp; try with_reducible rfl)
  try simp only [Act.put, List.setIfInBounds_toArray, List.set_cons_zero, List.set_cons_succ]
  refine ext_take (i := 6) (v := ?_) rfl (by kernel_rfl) (by kernel_rfl) (by kernel_rfl) (fun _ _ _ h => h) (Or.inl ⟨by rfl, ?_⟩) ?_
  rotate_left
  · (intro W hSw; go_simp; try with_reducible rfl)
  try simp only [Act.put, List.setIfInBounds_toArray, List.set_cons_zero, List.set_cons_succ]
  refine ext_take (i := 7) (v := ?_) rfl (by kernel_rfl) (by kernel_rfl) (by kernel_rfl) (fun _ _ _ h => h) (Or.inl ⟨by rfl, ?_⟩) ?_
  rotate_left
  · (intro W hSw; go_simp; try with_reducible rfl)
  try simp only [Act.put, List.setIfInBounds_toArray, List.set_cons_zero, List.set_cons_succ]
  refine ext_take (i := 8) (v := ?_) rfl (by kernel_rfl) (by kernel_rfl) (by kernel_rfl) (fun _ _ _ h => h) (Or.inl ⟨by rfl, ?_⟩) ?_
  rotate_left
  · (intro W hSw; go_simp; try with_reducible rfl)
  try simp only [Act.put, List.setIfInBounds_toArray, List.set_cons_zero, List.set_cons_succ]
  refine ext_take (i := 9) (v := ?_) rfl (by kernel_rfl) (by kernel_rfl) (by kernel_rfl) (fun _ _ _ h => h) (Or.inl ⟨by rfl, ?_⟩) ?_
  rotate_left
  · (intro W hSw; go_simp; try with_reducible rfl)
  try simp only [Act.put, List.setIfInBounds_toArray, List.set_cons_zero, List.set_cons_succ]
  refine ext_call (i := 10) (by kernel_rfl) rfl (fun K hK => ?_)
  go_simp
  (first | (go_at_call 37; (with_reducible refine (rnow_any (HR.out.below (bl_chain DB.out X5.out))).mono ?_); rintro e w6 ⟨A6, c6, rfl, hc6, ho, hb⟩; have k6 := ext_rd (c := c6) (Rd.of_own (ownsRow_base ho (Nat.zero_le _))) HLN.out; have k3 := ext_rd (c := c3) (R3.out.below (bl_chain X5.out hb)) rfl; have k4 := ext_rd (c := c4) (R4.out.below (bl_chain X5.out hb)) rfl; have X6 := Lib.hid hb; have kc := ext_on KC.out (bl_chain X5.out hb); have kc0 := fun W hW => (kc W hW).1; have kc1 := fun W hW => (kc W hW).2.1; have kc3 := fun W hW => (kc W hW).2.2; clear ho hb kc k2 k5))
  refine hK.out _ _ (X6.out) ?_
  clear hK K
  try simp only [Act.put, List.setIfInBounds_toArray, List.set_cons_zero, List.set_cons_succ]
  refine ext_take (i := 11) (v := ?_) rfl (by kernel_rfl) (by kernel_rfl) (by kernel_rfl) (fun _ _ _ h => h) (Or.inl ⟨by rfl, ?_⟩) ?_
  rotate_left
  · (intro W hSw; go_simp; try with_reducible rfl)
  try simp only [Act.put, List.setIfInBounds_toArray, List.set_cons_zero, List.set_cons_succ]
  refine ext_take (i := 12) (v := ?_) rfl (by kernel_rfl) (by kernel_rfl) (by kernel_rfl) (fun _ _ _ h => h) (Or.inl ⟨by rfl, ?_⟩) ?_
  rotate_left
  · (intro W hSw; go_simp; try with_reducible rfl)
  try simp only [Act.put, List.setIfInBounds_toArray, List.set_cons_zero, List.set_cons_succ]
  refine ext_take (i := 13) (v := ?_) rfl (by kernel_rfl) (by kernel_rfl) (by kernel_rfl) (fun _ _ _ h => h) (Or.inl ⟨by rfl, ?_⟩) ?_
  rotate_left
  · (intro W hSw; go_simp; try with_reducible rfl)
  try simp only [Act.put, List.setIfInBounds_toArray, List.set_cons_zero, List.set_cons_succ]
  refine ext_take (i := 14) (v := ?_) rfl (by kernel_rfl) (by kernel_rfl) (by kernel_rfl) (fun _ _ _ h => h) (Or.inl ⟨by rfl, ?_⟩) ?_
  rotate_left
  · (intro W hSw; go_simp; try with_reducible rfl)
  try simp only [Act.put, List.setIfInBounds_toArray, List.set_cons_zero, List.set_cons_succ]
  refine ext_take (i := 15) (v := ?_) rfl (by kernel_rfl) (by kernel_rfl) (by kernel_rfl) (fun _ _ _ h => h) (Or.inl ⟨by rfl, ?_⟩) ?_
  rotate_left
  · (intro W hSw; go_simp; try with_reducible rfl)
  try simp only [Act.put, List.setIfInBounds_toArray, List.set_cons_zero, List.set_cons_succ]
  refine ext_take (i := 16) (v := ?_) rfl (by kernel_rfl) (by kernel_rfl) (by kernel_rfl) (fun _ _ _ h => h) (Or.inl ⟨by rfl, ?_⟩) ?_
  rotate_left
  · (intro W hSw; go_simp; try with_reducible rfl)
  try simp only [Act.put, List.setIfInBounds_toArray, List.set_cons_zero, List.set_cons_succ]
  refine ext_take (i := 17) (v := ?_) rfl (by kernel_rfl) (by kernel_rfl) (by kernel_rfl) (fun _ _ _ h => h) (Or.inl ⟨by rfl, ?_⟩) ?_
  rotate_left
  · (intro W hSw; go_simp; try with_reducible rfl)
  try simp only [Act.put, List.setIfInBounds_toArray, List.set_cons_zero, List.set_cons_succ]
  refine ext_take (i := 18) (v := ?_) rfl (by kernel_rfl) (by kernel_rfl) (by kernel_rfl) (fun _ _ _ h => h) (Or.inl ⟨by rfl, ?_⟩) ?_
  rotate_left
  · (intro W hSw; go_simp; try with_reducible rfl)
  try simp only [Act.put, List.setIfInBounds_toArray, List.set_cons_zero, List.set_cons_succ]
  refine ext_take (i := 19) (v := ?_) rfl (by kernel_rfl) (by kernel_rfl) (by kernel_rfl) (fun _ _ _ h => h) (Or.inl ⟨by rfl, ?_⟩) ?_
  rotate_left
  · (intro W hSw; go_simp; try with_reducible rfl)
  try simp only [Act.put, List.setIfInBounds_toArray, List.set_cons_zero, List.set_cons_succ]
  refine ext_take (i := 20) (v := ?_) rfl (by kernel_rfl) (by kernel_rfl) (by kernel_rfl) (fun _ _ _ h => h) (Or.inl ⟨by rfl, ?_⟩) ?_
  rotate_left
  · (intro W hSw; go_simp; try with_reducible rfl)
  try simp only [Act.put, List.setIfInBounds_toArray, List.set_cons_zero, List.set_cons_succ]
  refine ext_take (i := 21) (v := ?_) rfl (by kernel_rfl) (by kernel_rfl) (by kernel_rfl) (fun _ _ _ h => h) (Or.inl ⟨by rfl, ?_⟩) ?_
  rotate_left
  · (intro W hSw; go_simp; try with_reducible rfl)
  try simp only [Act.put, List.setIfInBounds_toArray, List.set_cons_zero, List.set_cons_succ]
  refine ext_take (i := 22) (v := ?_) rfl (by kernel_rfl) (by kernel_rfl) (by kernel_rfl) (fun _ _ _ h => h) (Or.inl ⟨by rfl, ?_⟩) ?_
  rotate_left
  · (intro W hSw; go_simp; try with_reducible rfl)
  try simp only [Act.put, List.setIfInBounds_toArray, List.set_cons_zero, List.set_cons_succ]
  refine ext_take (i := 23) (v := ?_) rfl (by kernel_rfl) (by kernel_rfl) (by kernel_rfl) (fun _ _ _ h => h) (Or.inl ⟨by rfl, ?_⟩) ?_
  rotate_left
  · (intro W hSw; go_simp; try with_reducible rfl)
  try simp only [Act.put, List.setIfInBounds_toArray, List.set_cons_zero, List.set_cons_succ]
  refine ext_take (i := 24) (v := ?_) rfl (by kernel_rfl) (by kernel_rfl) (by kernel_rfl) (fun _ _ _ h => h) (Or.inl ⟨by rfl, ?_⟩) ?_
  rotate_left
  · (intro W hSw; go_simp; try with_reducible rfl)
  try simp only [Act.put, List.setIfInBounds_toArray, List.set_cons_zero, List.set_cons_succ]
  refine ext_take (i := 25) (v := ?_) rfl (by kernel_rfl) (by kernel_rfl) (by kernel_rfl) (fun _ _ _ h => h) (Or.inl ⟨by rfl, ?_⟩) ?_
  rotate_left
  · (intro W hSw; go_simp; try with_reducible rfl)
  try simp only [Act.put, List.setIfInBounds_toArray, List.set_cons_zero, List.set_cons_succ]
  refine ext_take (i := 26) (v := ?_) rfl (by kernel_rfl) (by kernel_rfl) (by kernel_rfl) (fun _ _ _ h => h) (Or.inl ⟨by rfl, ?_⟩) ?_
  rotate_left
  · (intro W hSw; go_simp; try with_reducible rfl)
  try simp only [Act.put, List.setIfInBounds_toArray, List.set_cons_zero, List.set_cons_succ]
  refine ext_take (i := 27) (v := ?_) rfl (by kernel_rfl) (by kernel_rfl) (by kernel_rfl) (fun _ _ _ h => h) (Or.inl ⟨by rfl, ?_⟩) ?_
  rotate_left
  · (intro W hSw; go_simp; try with_reducible rfl)
  try simp only [Act.put, List.setIfInBounds_toArray, List.set_cons_zero, List.set_cons_succ]
  refine ext_take (i := 29) (v := ?_) rfl (by kernel_rfl) (by kernel_rfl) (by kernel_rfl) (fun _ _ _ h => h) (Or.inl ⟨by rfl, ?_⟩) ?_
  rotate_left
  · (intro W hSw; go_simp; try with_reducible rfl)
  try simp only [Act.put, List.setIfInBounds_toArray, List.set_cons_zero, List.set_cons_succ]
  refine ext_take (i := 30) (v := ?_) rfl (by kernel_rfl) (by kernel_rfl) (by kernel_rfl) (fun _ _ _ h => h) (Or.inl ⟨by rfl, ?_⟩) ?_
  rotate_left
  · (intro W hSw; go_simp; try with_reducible rfl)
  try simp only [Act.put, List.setIfInBounds_toArray, List.set_cons_zero, List.set_cons_succ]
  refine ext_take (i := 31) (v := ?_) rfl (by kernel_rfl) (by kernel_rfl) (by kernel_rfl) (fun _ _ _ h => h) (Or.inl ⟨by rfl, ?_⟩) ?_
  rotate_left
  · (intro W hSw; go_simp; try with_reducible rfl)
  try simp only [Act.put, List.setIfInBounds_toArray, List.set_cons_zero, List.set_cons_succ]
  refine ext_take (i := 32) (v := ?_) rfl (by kernel_rfl) (by kernel_rfl) (by kernel_rfl) (fun _ _ _ h => h) (Or.inl ⟨by rfl, ?_⟩) ?_
  rotate_left
  · (intro W hSw; go_simp; try with_reducible rfl)
  try simp only [Act.put, List.setIfInBounds_toArray, List.set_cons_zero, List.set_cons_succ]
  refine ext_take (i := 33) (v := ?_) rfl (by kernel_rfl) (by kernel_rfl) (by kernel_rfl) (fun _ _ _ h => h) (Or.inl ⟨by rfl, ?_⟩) ?_
  rotate_left
  · (intro W hSw; go_simp; try with_reducible rfl)
  try simp only [Act.put, List.setIfInBounds_toArray, List.set_cons_zero, List.set_cons_succ]
  refine ext_call (i := 28) (by kernel_rfl) rfl (fun K hK => ?_)
  go_simp
  (first | (go_at_call 28; (with_reducible refine (size_any (HD.out.below (bl_chain DB.out (bl_chain X5.out X6.out)))).mono ?_); rintro e w' ⟨rfl, rfl⟩))
  refine hK.out _ _ (Below.refl _ _) ?_
  clear hK K
  try simp only [Act.put, List.setIfInBounds_toArray, List.set_cons_zero, List.set_cons_succ]
  refine ext_take (i := 34) (v := ?_) rfl (by kernel_rfl) (by kernel_rfl) (by kernel_rfl) (fun _ _ _ h => h) (Or.inl ⟨by rfl, ?_⟩) ?_
  rotate_left
  · (intro W hSw; go_simp; try with_reducible rfl)
  try simp only [Act.put, List.setIfInBounds_toArray, List.set_cons_zero, List.set_cons_succ]
  refine ext_take (i := 35) (v := ?_) rfl (by kernel_rfl) (by kernel_rfl) (by kernel_rfl) (fun _ _ _ h => h) (Or.inl ⟨by rfl, ?_⟩) ?_
  rotate_left
  · (intro W hSw; go_simp; try with_reducible rfl)
  try simp only [Act.put, List.setIfInBounds_toArray, List.set_cons_zero, List.set_cons_succ]
  refine ext_take (i := 36) (v := ?_) rfl (by kernel_rfl) (by kernel_rfl) (by kernel_rfl) (fun _ _ _ h => h) (Or.inl ⟨by rfl, ?_⟩) ?_
  rotate_left
  · (intro W hSw; go_simp; try with_reducible rfl)
  try simp only [Act.put, List.setIfInBounds_toArray, List.set_cons_zero, List.set_cons_succ]
  refine ext_take (i := 37) (v := ?_) rfl (by kernel_rfl) (by kernel_rfl) (by kernel_rfl) (fun _ _ _ h => h) (Or.inl ⟨by rfl, ?_⟩) ?_
  rotate_left
  · (intro W hSw; go_simp; try with_reducible rfl)
  try simp only [Act.put, List.setIfInBounds_toArray, List.set_cons_zero, List.set_cons_succ]
  refine ext_take (i := 39) (v := ?_) rfl (by kernel_rfl) (by kernel_rfl) (by kernel_rfl) (fun _ _ _ h => h) (Or.inl ⟨by rfl, ?_⟩) ?_
  rotate_left
  · (intro W hSw; go_simp; try with_reducible rfl)
  try simp only [Act.put, List.setIfInBounds_toArray, List.set_cons_zero, List.set_cons_succ]
  refine ext_take (i := 40) (v := ?_) rfl (by kernel_rfl) (by kernel_rfl) (by kernel_rfl) (fun _ _ _ h => h) (Or.inl ⟨by rfl, ?_⟩) ?_
  rotate_left
  · (intro W hSw; go_simp; try with_reducible rfl)
  try simp only [Act.put, List.setIfInBounds_toArray, List.set_cons_zero, List.set_cons_succ]
  refine ext_take (i := 41) (v := ?_) rfl (by kernel_rfl) (by kernel_rfl) (by kernel_rfl) (fun _ _ _ h => h) (Or.inl ⟨by rfl, ?_⟩) ?_
  rotate_left
  · (intro W hSw; go_simp; try with_reducible rfl)
  try simp only [Act.put, List.setIfInBounds_toArray, List.set_cons_zero, List.set_cons_succ]
  refine ext_take (i := 42) (v := ?_) rfl (by kernel_rfl) (by kernel_rfl) (by kernel_rfl) (fun _ _ _ h => h) (Or.inl ⟨by rfl, ?_⟩) ?_
  rotate_left
  · (intro W hSw; go_simp; try with_reducible rfl)
  try simp only [Act.put, List.setIfInBounds_toArray, List.set_cons_zero, List.set_cons_succ]
  refine ext_take (i := 43) (v := ?_) rfl (by kernel_rfl) (by kernel_rfl) (by kernel_rfl) (fun _ _ _ h => h) (Or.inl ⟨by rfl, ?_⟩) ?_
  rotate_left
  · (intro W hSw; go_simp; try with_reducible rfl)
  try simp only [Act.put, List.setIfInBounds_toArray, List.set_cons_zero, List.set_cons_succ]
  refine ext_call (i := 38) (by kernel_rfl) rfl (fun K hK => ?_)
  go_simp
  (first | (go_at_call 23; (with_reducible refine (pend_n (HD.out.below (bl_chain DB.out (bl_chain X5.out X6.out)))).mono ?_); rintro e w' ⟨rfl, rfl⟩))
  refine hK.out _ _ (Below.refl _ _) ?_
  clear hK K
  try simp only [Act.put, List.setIfInBounds_toArray, List.set_cons_zero, List.set_cons_succ]
  refine ext_take (i := 44) (v := ?_) rfl (by kernel_rfl) (by kernel_rfl) (by kernel_rfl) (fun _ _ _ h => h) (Or.inl ⟨by rfl, ?_⟩) ?_
  rotate_left
  · (intro W hSw; go_simp; try with_reducible rfl)
  try simp only [Act.put, List.setIfInBounds_toArray, List.set_cons_zero, List.set_cons_succ]
  refine ext_take (i := 45) (v := ?_) rfl (by kernel_rfl) (by kernel_rfl) (by kernel_rfl) (fun _ _ _ h => h) (Or.inl ⟨by rfl, ?_⟩) ?_
  rotate_left
  · (intro W hSw; go_simp; try with_reducible rfl)
  try simp only [Act.put, List.setIfInBounds_toArray, List.set_cons_zero, List.set_cons_succ]
  refine ext_take (i := 46) (v := ?_) rfl (by kernel_rfl) (by kernel_rfl) (by kernel_rfl) (fun _ _ _ h => h) (Or.inl ⟨by rfl, ?_⟩) ?_
  rotate_left
  · (intro W hSw; go_simp; try with_reducible rfl)
  try simp only [Act.put, List.setIfInBounds_toArray, List.set_cons_zero, List.set_cons_succ]
  refine ext_take (i := 47) (v := ?_) rfl (by kernel_rfl) (by kernel_rfl) (by kernel_rfl) (fun _ _ _ h => h) (Or.inl ⟨by rfl, ?_⟩) ?_
  rotate_left
  · (intro W hSw; go_simp; try with_reducible rfl)
  try simp only [Act.put, List.setIfInBounds_toArray, List.set_cons_zero, List.set_cons_succ]
  refine ext_take (i := 49) (v := ?_) rfl (by kernel_rfl) (by kernel_rfl) (by kernel_rfl) (fun _ _ _ h => h) (Or.inl ⟨by rfl, ?_⟩) ?_
  rotate_left
  · (intro W hSw; go_simp; try with_reducible rfl)
  try simp only [Act.put, List.setIfInBounds_toArray, List.set_cons_zero, List.set_cons_succ]
  refine ext_take (i := 50) (v := ?_) rfl (by kernel_rfl) (by kernel_rfl) (by kernel_rfl) (fun _ _ _ h => h) (Or.inl ⟨by rfl, ?_⟩) ?_
  rotate_left
  · (intro W hSw; go_simp; try with_reducible rfl)
  try simp only [Act.put, List.setIfInBounds_toArray, List.set_cons_zero, List.set_cons_succ]
  refine ext_take (i := 51) (v := ?_) rfl (by kernel_rfl) (by kernel_rfl) (by kernel_rfl) (fun _ _ _ h => h) (Or.inl ⟨by rfl, ?_⟩) ?_
  rotate_left
  · (intro W hSw; go_simp; try with_reducible rfl)
  try simp only [Act.put, List.setIfInBounds_toArray, List.set_cons_zero, List.set_cons_succ]
  refine ext_take (i := 52) (v := ?_) rfl (by kernel_rfl) (by kernel_rfl) (by kernel_rfl) (fun _ _ _ h => h) (Or.inl ⟨by rfl, ?_⟩) ?_
  rotate_left
  · (intro W hSw; go_simp; try with_reducible rfl)
  try simp only [Act.put, List.setIfInBounds_toArray, List.set_cons_zero, List.set_cons_succ]
  refine ext_call (i := 48) (by kernel_rfl) rfl (fun K hK => ?_)
  go_simp
  (first | (go_at_call 24; (with_reducible refine (dead_any (HD.out.below (bl_chain DB.out (bl_chain X5.out X6.out)))).mono ?_); rintro e w' ⟨rfl, rfl⟩))
  refine hK.out _ _ (Below.refl _ _) ?_
  clear hK K
  try simp only [Act.put, List.setIfInBounds_toArray, List.set_cons_zero, List.set_cons_succ]
  refine ext_take (i := 53) (v := ?_) rfl (by kernel_rfl) (by kernel_rfl) (by kernel_rfl) (fun _ _ _ h => h) (Or.inl ⟨by rfl, ?_⟩) ?_
  rotate_left
  · (intro W hSw; go_simp; try with_reducible rfl)
  try simp only [Act.put, List.setIfInBounds_toArray, List.set_cons_zero, List.set_cons_succ]
  refine ext_take (i := 54) (v := ?_) rfl (by kernel_rfl) (by kernel_rfl) (by kernel_rfl) (fun _ _ _ h => h) (Or.inl ⟨by rfl, ?_⟩) ?_
  rotate_left
  · (intro W hSw; go_simp; try with_reducible rfl)
  try simp only [Act.put, List.setIfInBounds_toArray, List.set_cons_zero, List.set_cons_succ]
  refine wpAnyH_done (by kernel_rfl) ?_ _
  clear k3 k4 k6 kc0 kc1 kc3
  have HE := Lib.hid (bl_chain DB.out (bl_chain X5.out X6.out))
  have Z1 := Lib.hid (own_below (B := 0) (own_below (B := 0) HO1.out (bl_chain HQ2.out (bl_chain HQ3.out HQ4.out))) (bl_chain (bl_drew w4) (bl_chain X5.out X6.out)))
  have Z2 := Lib.hid (own_below (B := 0) (own_below (B := 0) HO2.out (bl_chain HQ3.out HQ4.out)) (bl_chain (bl_drew w4) (bl_chain X5.out X6.out)))
  have Z3 := Lib.hid (own_below (B := 0) (own_below (B := 0) HO3.out HQ4.out) (bl_chain (bl_drew w4) (bl_chain X5.out X6.out)))
  have g1 := Lib.hid (own_lt HO1.out)
  have g2 := Lib.hid (own_lt HO2.out)
  have g3 := Lib.hid (own_ge HO2.out)
  have g4 := Lib.hid (own_ge HO3.out)
  have g5 := HQ2.out.size
  have g6 := HB1.out.size
  have g7 := Lib.hid (own_ge HO1.out)
  have hl1 : D.safe.length ≤ 140737488351232 := by rw [HL.out]; omega
  have hl2 : D.now.length ≤ 140737488351232 := by rw [HLN.out]; omega
  have hl3 : (readD D at_ n).length ≤ 140737488351232 := by
    have : (readD D at_ n).length ≤ D.now.length := by
      unfold readD
      split
      · simp
      · rw [List.length_take, List.length_drop]; omega
    omega
  go_wp2_with (first
    | (go_at_call 18; (with_reducible refine (spoil_any A1 D.safe.length c1 _ _ (ownsRow_base Z1.out (Nat.zero_le _)) hl1).mono ?_); rintro e w7 ⟨rfl, ht⟩; have T7 := Lib.hid ht; clear ht)
    | (go_at_call 18; (with_reducible refine (spoil_any A2 D.now.length c2 _ _ (own_tr (ownsRow_base Z2.out (Nat.zero_le _)) T7.out (fun b hb h => by have := g1.out b h; have := g3.out b hb; omega)) hl2).mono ?_); rintro e w8 ⟨rfl, ht⟩; have T8 := Lib.hid ht; clear ht)
    | (go_at_call 18; (with_reducible refine (spoil_any A3 (readD D at_ n).length c3 _ _ (own_tr (own_tr (ownsRow_base Z3.out (Nat.zero_le _)) T7.out (fun b hb h => by have := g1.out b h; have := g4.out b hb; omega)) T8.out (fun b hb h => by have := g2.out b h; have := g4.out b hb; omega)) hl3).mono ?_); rintro e w9 ⟨rfl, ht⟩; have T9 := Lib.hid ht; clear ht))
  go_ret
  exact ⟨by rfl, bl_tr (bl_tr (bl_tr HE.out T7.out (fun b hb => g7.out b hb)) T8.out (fun b hb => by have := g3.out b hb; omega)) T9.out (fun b hb => by have := g4.out b hb; omega)⟩
end Go.Proofs.Ytadoclcabkcmeaa
