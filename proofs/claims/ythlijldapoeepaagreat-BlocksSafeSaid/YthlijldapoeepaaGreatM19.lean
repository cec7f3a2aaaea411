/- The laws of 06: same, number, image. -/
import Derived.Test.YthlijldapoeepaaGreatM13
import Derived.Test.YthlijldapoeepaaGreatM18
import Derived.Lib.Bytes
import Derived.Test.YthlijldapoeepaaGreatM17
import Derived.Test.YthlijldapoeepaaGreatM9
namespace Go.Proofs.YthlijldapoeepaaGreat
set_option linter.unusedVariables false
set_option linter.unusedSimpArgs false
set_option maxRecDepth 100000
open Go.RowKit Go.Shelf

theorem ext_convB {w : World} {A : Option Addr} {l : List Int} {c n : Nat} (h : Rd w A (by8 l)) (hn : l.length = n) : ∀ W, Ext w W → (convert 52 9 (.slice A n c)).run Tryz.prog W = .ok (.string (strOfNums l)) W := fun W hW => conv8 n c (h.below hW) hn
theorem bytesL_isB {L : List (List Int)} (h : ImgOk L) : isB (bytesL L) := by
  unfold bytesL
  refine ((be_isB 2 _).append (be_isB 2 _)).append ?_
  intro x hx
  obtain ⟨z, hz, hx⟩ := List.mem_flatMap.1 hx
  obtain ⟨i, rfl, hi, hb⟩ := (numsTo_mem L z L.length).1 hz
  have h256 := h.hi
  simp only [e1, List.mem_cons] at hx
  rcases hx with rfl | rfl | hx
  · omega
  · omega
  · rw [Int.toNat_natCast] at hx
    exact ((h.at_ i).resolve_left hb).2 x hx
theorem str_eq {l m : List Int} (hl : isB l) (hm : isB m) : ((strOfNums l).toList == (strOfNums m).toList) = decide (l = m) := by
  by_cases h : l = m
  · subst h; simp
  · rw [decide_eq_false h]
    apply Bool.eq_false_iff.2
    intro e
    apply h
    have e2 := eq_of_beq e
    rw [Go.Lib.strOfNums_toList, Go.Lib.strOfNums_toList] at e2
    refine strOfNums_inj hl hm ?_
    unfold strOfNums
    exact congrArg (fun l => (⟨l.toArray⟩ : ByteArray)) e2
section
variable {w : World} {s d g F p r q c : Nat} {x : ST} {dead : Bool} {L L2 : List (List Int)} {N : Int} {Mi M : Nat → Prop}
def sameB (n N : Int) (L L2 : List (List Int)) : Bool := decide (n = N) && decide (bytesL L = bytesL L2)
set_option maxHeartbeats 3200000 in
theorem same_any (h : IsSt w s d g F x dead) (hi : Img w g L Mi) (hr : IsRSt w p r q c L2 N M) :
    Calls Tryz.prog 11 #[.pointer (some ⟨s, 0, none⟩), .pointer (some ⟨p, 0, none⟩)] w fun e w' => e = .returned (.bool (sameB x.n N L L2)) ∧ Below w.heap.size w w' := by
  have HIM := Lib.hid (image_any h hi)
  have HH := Lib.hid h
  have HR := Lib.hid hr
  obtain ⟨BL, hBL⟩ : ∃ BL, bytesL L = BL := ⟨_, rfl⟩
  obtain ⟨BR, hBR⟩ : ∃ BR, bytesL L2 = BR := ⟨_, rfl⟩
  have HBY := Lib.hid (fun (W : World) (g' B' : Nat) (D' : DataW Unit) (M' : Nat → Prop) (h : IsImg W g' L B' D' M') => bytes_any h)
  have HRB := Lib.hid (fun (W : World) (h : IsRef W r L2 q c M) => rbytes_any h)
  rw [hBL] at HBY
  rw [hBR] at HRB
  have HQ : Hid (((strOfNums BL).toList == (strOfNums BR).toList) = decide (BL = BR)) := Lib.hid (by rw [← hBL, ← hBR]; exact str_eq (bytesL_isB hi.ok) (bytesL_isB hr.ref.ok))
  have HSB : Hid (sameB x.n N L L2 = (decide (x.n = N) && decide (BL = BR))) := Lib.hid (by unfold sameB; rw [hBL, hBR])
  obtain ⟨S1, hS1⟩ : ∃ S1, strOfNums BL = S1 := ⟨_, rfl⟩
  obtain ⟨S2, hS2⟩ : ∃ S2, strOfNums BR = S2 := ⟨_, rfl⟩
  rw [hS1, hS2] at HQ
  have HS1 := Lib.hid hS1
  have HS2 := Lib.hid hS2
  clear h hi hr hBL hBR hS1 hS2
  go_enter Tryz.func11, Tryz.ntmps11
  go_wp2_with (first
    | (go_at_call 21; (with_reducible refine HIM.out.mono ?_); rintro e w1 ⟨B0, g', B', D', rfl, h1, h2, h3, h4⟩; have H3 := Lib.hid h3; have H4 := Lib.hid h4; have HB2 := Lib.hid h2; clear h2 h3 h4))
  have HI1 := Lib.hid (HH.out.keep H4.out)
  have HR1 := Lib.hid (HR.out.below H4.out)
  have hpl := HR1.out.blk.lt
  have c0 : ∀ W, Ext w1.drew W → W.cell? ⟨p, 0, none⟩ = some (.pointer (some ⟨r, 0, none⟩)) := fun W h => (h.cell hpl).trans (HR1.out.blk.cell 0)
  have c1 : ∀ W, Ext w1.drew W → W.cell? ⟨p, 1, none⟩ = some (.int .i64 N) := fun W h => (h.cell hpl).trans (HR1.out.blk.cell 1)
  by_cases hN : x.n = N
  · have q1 : (x.n == N) = true := by simpa using hN
    have HS : Hid (sameB x.n N L L2 = decide (BL = BR)) := Lib.hid (by rw [HSB.out, hN]; simp)
    clear hN HSB
    refine ext_start (by kernel_rfl) ?_
    refine ext_take (i := 0) (v := ?_) rfl (by kernel_rfl) (by kernel_rfl) (by kernel_rfl) (fun _ _ _ h => h) (Or.inl ⟨by rfl, ?_⟩) ?_
    rotate_left
    · (intro W hSw; go_simp; try with_reducible rfl)
    try simp only [Act.put, List.setIfInBounds_toArray, List.set_cons_zero, List.set_cons_succ]
    refine ext_take (i := 2) (v := ?_) rfl (by kernel_rfl) (by kernel_rfl) (by kernel_rfl) (fun _ _ _ h => h) (Or.inl ⟨by rfl, ?_⟩) ?_
    rotate_left
    · (intro W hSw; go_simp; try with_reducible rfl)
    try simp only [Act.put, List.setIfInBounds_toArray, List.set_cons_zero, List.set_cons_succ]
    refine ext_take (i := 3) (v := ?_) rfl (by kernel_rfl) (by kernel_rfl) (by kernel_rfl) (fun _ _ _ h => h) (Or.inl ⟨by rfl, ?_⟩) ?_
    rotate_left
    · (intro W hSw; go_simp; try with_reducible rfl)
    try simp only [Act.put, List.setIfInBounds_toArray, List.set_cons_zero, List.set_cons_succ]
    refine ext_take (i := 4) (v := ?_) rfl (by kernel_rfl) (by kernel_rfl) (by kernel_rfl) (fun _ _ _ h => h) (Or.inl ⟨by rfl, ?_⟩) ?_
    rotate_left
    · (intro W hSw; go_simp; try with_reducible rfl)
    try simp only [Act.put, List.setIfInBounds_toArray, List.set_cons_zero, List.set_cons_succ]
    refine ext_take (i := 5) (v := ?_) rfl (by kernel_rfl) (by kernel_rfl) (by kernel_rfl) (fun _ _ _ h => h) (Or.inl ⟨by rfl, ?_⟩) ?_
    rotate_left
    · (intro W hSw; go_simp; try with_reducible rfl)
    try simp only [Act.put, List.setIfInBounds_toArray, List.set_cons_zero, List.set_cons_succ]
    refine ext_call (i := 1) (by kernel_rfl) rfl (fun K hK => ?_)
    go_simp
    (go_at_call 22; (with_reducible refine (applied_any (HI1.out.keep (bl_drew w1))).mono ?_); rintro e w' ⟨rfl, rfl⟩)
    refine hK.out _ _ (Below.refl _ _) ?_
    clear hK K
    try simp only [Act.put, List.setIfInBounds_toArray, List.set_cons_zero, List.set_cons_succ]
    refine ext_take (i := 6) (v := ?_) rfl (by kernel_rfl) (by kernel_rfl) (by kernel_rfl) (fun _ _ _ h => h) (Or.inl ⟨by rfl, ?_⟩) ?_
    rotate_left
    · (intro W hSw; go_simp; try with_reducible rfl)
    try simp only [Act.put, List.setIfInBounds_toArray, List.set_cons_zero, List.set_cons_succ]
    refine ext_take (i := 7) (v := ?_) rfl (by kernel_rfl) (by kernel_rfl) (by kernel_rfl) (fun _ _ _ h => h) (Or.inl ⟨by rfl, ?_⟩) ?_
    rotate_left
    · (intro W hSw; go_simp; try with_reducible rfl)
    try simp only [Act.put, List.setIfInBounds_toArray, List.set_cons_zero, List.set_cons_succ]
    first
      | (refine ext_take (i := 8) (v := ?_) rfl (by kernel_rfl) (by kernel_rfl) (by kernel_rfl) (fun _ _ _ h => h) (Or.inl ⟨by rfl, ?_⟩) ?_; rotate_left; · (intro W hSw; go_simp; try with_reducible rfl))
      | refine ext_take (i := 8) (v := undef) rfl (by kernel_rfl) (by kernel_rfl) (by kernel_rfl) (fun _ _ _ h => h) (Or.inr ⟨by rfl, rfl⟩) ?_
    try simp only [Act.put, List.setIfInBounds_toArray, List.set_cons_zero, List.set_cons_succ]
    first
      | (refine ext_take (i := 11) (v := ?_) rfl (by kernel_rfl) (by kernel_rfl) (by kernel_rfl) (fun _ _ _ h => h) (Or.inl ⟨by rfl, ?_⟩) ?_; rotate_left; · (intro W hSw; go_simp; try with_reducible rfl))
      | refine ext_take (i := 11) (v := undef) rfl (by kernel_rfl) (by kernel_rfl) (by kernel_rfl) (fun _ _ _ h => h) (Or.inr ⟨by rfl, rfl⟩) ?_
    try simp only [Act.put, List.setIfInBounds_toArray, List.set_cons_zero, List.set_cons_succ]
    first
      | (refine ext_take (i := 12) (v := ?_) rfl (by kernel_rfl) (by kernel_rfl) (by kernel_rfl) (fun _ _ _ h => h) (Or.inl ⟨by rfl, ?_⟩) ?_; rotate_left; · (intro W hSw; go_simp; try with_reducible rfl))
      | refine ext_take (i := 12) (v := undef) rfl (by kernel_rfl) (by kernel_rfl) (by kernel_rfl) (fun _ _ _ h => h) (Or.inr ⟨by rfl, rfl⟩) ?_
    try simp only [Act.put, List.setIfInBounds_toArray, List.set_cons_zero, List.set_cons_succ]
    first
      | (refine ext_take (i := 13) (v := ?_) rfl (by kernel_rfl) (by kernel_rfl) (by kernel_rfl) (fun _ _ _ h => h) (Or.inl ⟨by rfl, ?_⟩) ?_; rotate_left; · (intro W hSw; go_simp; try with_reducible rfl))
      | refine ext_take (i := 13) (v := undef) rfl (by kernel_rfl) (by kernel_rfl) (by kernel_rfl) (fun _ _ _ h => h) (Or.inr ⟨by rfl, rfl⟩) ?_
    try simp only [Act.put, List.setIfInBounds_toArray, List.set_cons_zero, List.set_cons_succ]
    first
      | (refine ext_take (i := 14) (v := ?_) rfl (by kernel_rfl) (by kernel_rfl) (by kernel_rfl) (fun _ _ _ h => h) (Or.inl ⟨by rfl, ?_⟩) ?_; rotate_left; · (intro W hSw; go_simp; try with_reducible rfl))
      | refine ext_take (i := 14) (v := undef) rfl (by kernel_rfl) (by kernel_rfl) (by kernel_rfl) (fun _ _ _ h => h) (Or.inr ⟨by rfl, rfl⟩) ?_
    try simp only [Act.put, List.setIfInBounds_toArray, List.set_cons_zero, List.set_cons_succ]
    refine ext_call (i := 9) (by kernel_rfl) rfl (fun K hK => ?_)
    go_simp
    (go_at_call 43; (with_reducible refine (HBY.out _ _ _ _ _ (H3.out.below (bl_drew w1))).mono ?_); rintro e w3 ⟨A3, c3, rfl, hc3, ho, hb⟩; have k3 := ext_convB (c := c3) (Rd.of_own ho) rfl; rw [HS1.out] at k3; have X3 := Lib.hid hb; have R3 := Lib.hid ((HR1.out.below (bl_drew w1)).below hb); clear ho hb)
    refine hK.out _ _ (X3.out) ?_
    clear hK K
    try simp only [Act.put, List.setIfInBounds_toArray, List.set_cons_zero, List.set_cons_succ]
    first
      | (refine ext_take (i := 10) (v := ?_) rfl (by kernel_rfl) (by kernel_rfl) (by kernel_rfl) (fun _ _ _ h => h) (Or.inl ⟨by rfl, ?_⟩) ?_; rotate_left; · (intro W hSw; go_simp; try with_reducible rfl))
      | refine ext_take (i := 10) (v := undef) rfl (by kernel_rfl) (by kernel_rfl) (by kernel_rfl) (fun _ _ _ h => h) (Or.inr ⟨by rfl, rfl⟩) ?_
    try simp only [Act.put, List.setIfInBounds_toArray, List.set_cons_zero, List.set_cons_succ]
    refine ext_call (i := 15) (by kernel_rfl) rfl (fun K hK => ?_)
    go_simp
    (go_at_call 44; (with_reducible refine (HRB.out _ R3.out.ref).mono ?_); rintro e w4 ⟨A4, c4, rfl, hc4, ho, hb⟩; have k4 := ext_convB (c := c4) (Rd.of_own ho) rfl; rw [HS2.out] at k4; have X4 := Lib.hid hb; clear ho hb)
    refine hK.out _ _ (X4.out) ?_
    clear hK K
    try simp only [Act.put, List.setIfInBounds_toArray, List.set_cons_zero, List.set_cons_succ]
    first
      | (refine ext_take (i := 16) (v := ?_) rfl (by kernel_rfl) (by kernel_rfl) (by kernel_rfl) (fun _ _ _ h => h) (Or.inl ⟨by rfl, ?_⟩) ?_; rotate_left; · (intro W hSw; go_simp; try with_reducible rfl))
      | refine ext_take (i := 16) (v := undef) rfl (by kernel_rfl) (by kernel_rfl) (by kernel_rfl) (fun _ _ _ h => h) (Or.inr ⟨by rfl, rfl⟩) ?_
    try simp only [Act.put, List.setIfInBounds_toArray, List.set_cons_zero, List.set_cons_succ]
    first
      | (refine ext_take (i := 17) (v := ?_) rfl (by kernel_rfl) (by kernel_rfl) (by kernel_rfl) (fun _ _ _ h => h) (Or.inl ⟨by rfl, ?_⟩) ?_; rotate_left; · (intro W hSw; go_simp; try with_reducible rfl))
      | refine ext_take (i := 17) (v := undef) rfl (by kernel_rfl) (by kernel_rfl) (by kernel_rfl) (fun _ _ _ h => h) (Or.inr ⟨by rfl, rfl⟩) ?_
    try simp only [Act.put, List.setIfInBounds_toArray, List.set_cons_zero, List.set_cons_succ]
    refine ext_take (i := 18) (v := ?_) rfl (by kernel_rfl) (by kernel_rfl) (by kernel_rfl) (fun _ _ _ h => h) (Or.inl ⟨by rfl, ?_⟩) ?_
    rotate_left
    · (intro W hSw; go_simp; try with_reducible rfl)
    try simp only [Act.put, List.setIfInBounds_toArray, List.set_cons_zero, List.set_cons_succ]
    refine ext_take (i := 19) (v := ?_) rfl (by kernel_rfl) (by kernel_rfl) (by kernel_rfl) (fun _ _ _ h => h) (Or.inl ⟨by rfl, ?_⟩) ?_
    rotate_left
    · (intro W hSw; go_simp; try with_reducible rfl)
    try simp only [Act.put, List.setIfInBounds_toArray, List.set_cons_zero, List.set_cons_succ]
    refine wpAnyH_done (by kernel_rfl) ?_ _
    have X14 := Lib.hid (bl_chain (bl_drew w1) (bl_chain X3.out X4.out))
    go_wp2_with (first
      | (go_at_call 42; (with_reducible refine (unmap_any (H3.out.below X14.out) 0 1 (by omega)).mono ?_); rintro e w5 ⟨D5, M5, rfl, h5, h6, h7⟩; have H7 := Lib.hid h7; clear h5 h6 h7))
    go_ret
    refine ⟨?_, bl_tr (bl_chain H4.out X14.out) H7.out (fun b e => by have := HB2.out; omega)⟩
    rw [HS.out, ← HQ.out]
    rfl
  · have q1 : (x.n == N) = false := by simpa using hN
    have HS : Hid (sameB x.n N L L2 = false) := Lib.hid (by rw [HSB.out, decide_eq_false hN]; simp)
    clear hN HSB
    refine ext_start (by kernel_rfl) ?_
    refine ext_take (i := 0) (v := ?_) rfl (by kernel_rfl) (by kernel_rfl) (by kernel_rfl) (fun _ _ _ h => h) (Or.inl ⟨by rfl, ?_⟩) ?_
    rotate_left
    · (intro W hSw; go_simp; try with_reducible rfl)
    try simp only [Act.put, List.setIfInBounds_toArray, List.set_cons_zero, List.set_cons_succ]
    refine ext_take (i := 2) (v := ?_) rfl (by kernel_rfl) (by kernel_rfl) (by kernel_rfl) (fun _ _ _ h => h) (Or.inl ⟨by rfl, ?_⟩) ?_
    rotate_left
    · (intro W hSw; go_simp; try with_reducible rfl)
    try simp only [Act.put, List.setIfInBounds_toArray, List.set_cons_zero, List.set_cons_succ]
    refine ext_take (i := 3) (v := ?_) rfl (by kernel_rfl) (by kernel_rfl) (by kernel_rfl) (fun _ _ _ h => h) (Or.inl ⟨by rfl, ?_⟩) ?_
    rotate_left
    · (intro W hSw; go_simp; try with_reducible rfl)
    try simp only [Act.put, List.setIfInBounds_toArray, List.set_cons_zero, List.set_cons_succ]
    refine ext_take (i := 4) (v := ?_) rfl (by kernel_rfl) (by kernel_rfl) (by kernel_rfl) (fun _ _ _ h => h) (Or.inl ⟨by rfl, ?_⟩) ?_
    rotate_left
    · (intro W hSw; go_simp; try with_reducible rfl)
    try simp only [Act.put, List.setIfInBounds_toArray, List.set_cons_zero, List.set_cons_succ]
    refine ext_take (i := 5) (v := ?_) rfl (by kernel_rfl) (by kernel_rfl) (by kernel_rfl) (fun _ _ _ h => h) (Or.inl ⟨by rfl, ?_⟩) ?_
    rotate_left
    · (intro W hSw; go_simp; try with_reducible rfl)
    try simp only [Act.put, List.setIfInBounds_toArray, List.set_cons_zero, List.set_cons_succ]
    refine ext_call (i := 1) (by kernel_rfl) rfl (fun K hK => ?_)
    go_simp
    (go_at_call 22; (with_reducible refine (applied_any (HI1.out.keep (bl_drew w1))).mono ?_); rintro e w' ⟨rfl, rfl⟩)
    refine hK.out _ _ (Below.refl _ _) ?_
    clear hK K
    try simp only [Act.put, List.setIfInBounds_toArray, List.set_cons_zero, List.set_cons_succ]
    refine ext_take (i := 6) (v := ?_) rfl (by kernel_rfl) (by kernel_rfl) (by kernel_rfl) (fun _ _ _ h => h) (Or.inl ⟨by rfl, ?_⟩) ?_
    rotate_left
    · (intro W hSw; go_simp; try with_reducible rfl)
    try simp only [Act.put, List.setIfInBounds_toArray, List.set_cons_zero, List.set_cons_succ]
    refine ext_take (i := 7) (v := ?_) rfl (by kernel_rfl) (by kernel_rfl) (by kernel_rfl) (fun _ _ _ h => h) (Or.inl ⟨by rfl, ?_⟩) ?_
    rotate_left
    · (intro W hSw; go_simp; try with_reducible rfl)
    try simp only [Act.put, List.setIfInBounds_toArray, List.set_cons_zero, List.set_cons_succ]
    first
      | (refine ext_take (i := 8) (v := ?_) rfl (by kernel_rfl) (by kernel_rfl) (by kernel_rfl) (fun _ _ _ h => h) (Or.inl ⟨by rfl, ?_⟩) ?_; rotate_left; · (intro W hSw; go_simp; try with_reducible rfl))
      | refine ext_take (i := 8) (v := undef) rfl (by kernel_rfl) (by kernel_rfl) (by kernel_rfl) (fun _ _ _ h => h) (Or.inr ⟨by rfl, rfl⟩) ?_
    try simp only [Act.put, List.setIfInBounds_toArray, List.set_cons_zero, List.set_cons_succ]
    first
      | (refine ext_take (i := 11) (v := ?_) rfl (by kernel_rfl) (by kernel_rfl) (by kernel_rfl) (fun _ _ _ h => h) (Or.inl ⟨by rfl, ?_⟩) ?_; rotate_left; · (intro W hSw; go_simp; try with_reducible rfl))
      | refine ext_take (i := 11) (v := undef) rfl (by kernel_rfl) (by kernel_rfl) (by kernel_rfl) (fun _ _ _ h => h) (Or.inr ⟨by rfl, rfl⟩) ?_
    try simp only [Act.put, List.setIfInBounds_toArray, List.set_cons_zero, List.set_cons_succ]
    first
      | (refine ext_take (i := 12) (v := ?_) rfl (by kernel_rfl) (by kernel_rfl) (by kernel_rfl) (fun _ _ _ h => h) (Or.inl ⟨by rfl, ?_⟩) ?_; rotate_left; · (intro W hSw; go_simp; try with_reducible rfl))
      | refine ext_take (i := 12) (v := undef) rfl (by kernel_rfl) (by kernel_rfl) (by kernel_rfl) (fun _ _ _ h => h) (Or.inr ⟨by rfl, rfl⟩) ?_
    try simp only [Act.put, List.setIfInBounds_toArray, List.set_cons_zero, List.set_cons_succ]
    first
      | (refine ext_take (i := 13) (v := ?_) rfl (by kernel_rfl) (by kernel_rfl) (by kernel_rfl) (fun _ _ _ h => h) (Or.inl ⟨by rfl, ?_⟩) ?_; rotate_left; · (intro W hSw; go_simp; try with_reducible rfl))
      | refine ext_take (i := 13) (v := undef) rfl (by kernel_rfl) (by kernel_rfl) (by kernel_rfl) (fun _ _ _ h => h) (Or.inr ⟨by rfl, rfl⟩) ?_
    try simp only [Act.put, List.setIfInBounds_toArray, List.set_cons_zero, List.set_cons_succ]
    first
      | (refine ext_take (i := 14) (v := ?_) rfl (by kernel_rfl) (by kernel_rfl) (by kernel_rfl) (fun _ _ _ h => h) (Or.inl ⟨by rfl, ?_⟩) ?_; rotate_left; · (intro W hSw; go_simp; try with_reducible rfl))
      | refine ext_take (i := 14) (v := undef) rfl (by kernel_rfl) (by kernel_rfl) (by kernel_rfl) (fun _ _ _ h => h) (Or.inr ⟨by rfl, rfl⟩) ?_
    try simp only [Act.put, List.setIfInBounds_toArray, List.set_cons_zero, List.set_cons_succ]
    refine ext_call (i := 9) (by kernel_rfl) rfl (fun K hK => ?_)
    go_simp
    (skip)
    refine hK.out _ _ (Below.refl _ _) ?_
    clear hK K
    try simp only [Act.put, List.setIfInBounds_toArray, List.set_cons_zero, List.set_cons_succ]
    first
      | (refine ext_take (i := 10) (v := ?_) rfl (by kernel_rfl) (by kernel_rfl) (by kernel_rfl) (fun _ _ _ h => h) (Or.inl ⟨by rfl, ?_⟩) ?_; rotate_left; · (intro W hSw; go_simp; try with_reducible rfl))
      | refine ext_take (i := 10) (v := undef) rfl (by kernel_rfl) (by kernel_rfl) (by kernel_rfl) (fun _ _ _ h => h) (Or.inr ⟨by rfl, rfl⟩) ?_
    try simp only [Act.put, List.setIfInBounds_toArray, List.set_cons_zero, List.set_cons_succ]
    refine ext_call (i := 15) (by kernel_rfl) rfl (fun K hK => ?_)
    go_simp
    (skip)
    refine hK.out _ _ (Below.refl _ _) ?_
    clear hK K
    try simp only [Act.put, List.setIfInBounds_toArray, List.set_cons_zero, List.set_cons_succ]
    first
      | (refine ext_take (i := 16) (v := ?_) rfl (by kernel_rfl) (by kernel_rfl) (by kernel_rfl) (fun _ _ _ h => h) (Or.inl ⟨by rfl, ?_⟩) ?_; rotate_left; · (intro W hSw; go_simp; try with_reducible rfl))
      | refine ext_take (i := 16) (v := undef) rfl (by kernel_rfl) (by kernel_rfl) (by kernel_rfl) (fun _ _ _ h => h) (Or.inr ⟨by rfl, rfl⟩) ?_
    try simp only [Act.put, List.setIfInBounds_toArray, List.set_cons_zero, List.set_cons_succ]
    first
      | (refine ext_take (i := 17) (v := ?_) rfl (by kernel_rfl) (by kernel_rfl) (by kernel_rfl) (fun _ _ _ h => h) (Or.inl ⟨by rfl, ?_⟩) ?_; rotate_left; · (intro W hSw; go_simp; try with_reducible rfl))
      | refine ext_take (i := 17) (v := undef) rfl (by kernel_rfl) (by kernel_rfl) (by kernel_rfl) (fun _ _ _ h => h) (Or.inr ⟨by rfl, rfl⟩) ?_
    try simp only [Act.put, List.setIfInBounds_toArray, List.set_cons_zero, List.set_cons_succ]
    refine ext_take (i := 18) (v := ?_) rfl (by kernel_rfl) (by kernel_rfl) (by kernel_rfl) (fun _ _ _ h => h) (Or.inl ⟨by rfl, ?_⟩) ?_
    rotate_left
    · (intro W hSw; go_simp; try with_reducible rfl)
    try simp only [Act.put, List.setIfInBounds_toArray, List.set_cons_zero, List.set_cons_succ]
    refine ext_take (i := 19) (v := ?_) rfl (by kernel_rfl) (by kernel_rfl) (by kernel_rfl) (fun _ _ _ h => h) (Or.inl ⟨by rfl, ?_⟩) ?_
    rotate_left
    · (intro W hSw; go_simp; try with_reducible rfl)
    try simp only [Act.put, List.setIfInBounds_toArray, List.set_cons_zero, List.set_cons_succ]
    refine wpAnyH_done (by kernel_rfl) ?_ _
    go_wp2_with (first
      | (go_at_call 42; (with_reducible refine (unmap_any (H3.out.below (bl_drew w1)) 0 1 (by omega)).mono ?_); rintro e w5 ⟨D5, M5, rfl, h5, h6, h7⟩; have H7 := Lib.hid h7; clear h5 h6 h7))
    go_ret
    refine ⟨?_, bl_tr (bl_chain H4.out (bl_drew w1)) H7.out (fun b e => by have := HB2.out; omega)⟩
    rw [HS.out]
    rfl
def numberN (N n : Int) : Int := if -10 < n ∧ n < 10 then N + n else n
theorem lnumber_any (hb : Blk w p 37 #[.pointer (some ⟨r, 0, none⟩), .int .i64 N]) (hN : 0 ≤ N ∧ N ≤ 1152921504606846976) (n : Int) : Calls Tryz.prog 34 #[.pointer (some ⟨p, 0, none⟩), .int .i64 n] w fun e w' => e = .returned (.int .i64 (numberN N n)) ∧ w = w' := by
  have c1 := hb.cell 1
  simp at c1
  have HE : Hid (numberN N n = if -10 < n ∧ n < 10 then N + n else n) := Lib.hid rfl
  clear hb
  by_cases h1 : -10 < n
  · by_cases h2 : n < 10
    · have HE2 : Hid (numberN N n = N + n) := Lib.hid (by rw [HE.out, if_pos ⟨h1, h2⟩])
      have q1 : decide (-10 < n) = true := decide_eq_true h1
      have q2 : decide (n < 10) = true := decide_eq_true h2
      have q3 : IntKind.i64.wrap (N + n) = N + n := by rw [IntKind.wrap_i64]; omega
      clear HE h1 h2
      go_enter Tryz.func34, Tryz.ntmps34
      go_wp2_with fail
      go_ret
      exact ⟨by rw [HE2.out]; rfl, rfl⟩
    · have HE2 : Hid (numberN N n = n) := Lib.hid (by rw [HE.out, if_neg (fun h => h2 h.2)])
      have q1 : decide (-10 < n) = true := decide_eq_true h1
      have q2 : decide (n < 10) = false := decide_eq_false h2
      clear HE h1 h2
      go_enter Tryz.func34, Tryz.ntmps34
      go_wp2_with fail
      go_ret
      exact ⟨by rw [HE2.out]; rfl, rfl⟩
  · have HE2 : Hid (numberN N n = n) := Lib.hid (by rw [HE.out, if_neg (fun h => h1 h.1)])
    have q1 : decide (-10 < n) = false := decide_eq_false h1
    clear HE h1
    go_enter Tryz.func34, Tryz.ntmps34
    go_wp2_with fail
    go_ret
    exact ⟨by rw [HE2.out]; rfl, rfl⟩
def RetLImg (w : World) (L' : List (List Int)) (e : Ending) (w' : World) : Prop :=
  ∃ gm Bm Dm Mm r2 q2 c2 M2, e = .returned (.tuple #[.pointer (some ⟨gm, 0, none⟩), .pointer (some ⟨r2, 0, none⟩)]) ∧ IsImg w' gm L' Bm Dm Mm ∧ IsRef w' r2 L' q2 c2 M2 ∧ (∀ b, Mm b → w.heap.size ≤ b) ∧ (∀ b, M2 b → w.heap.size ≤ b) ∧ (∀ b, Mm b → ¬ M2 b) ∧ Below w.heap.size w w'
set_option maxHeartbeats 3200000 in
theorem limage_any (n : Nat) (h1 : 1 ≤ n) (h2 : n ≤ 256) (A : Option Addr) (k : Nat) (l : List ChS) (hl : l.length ≤ 4398046510976) (hA : ChsAt w A l) :
    Calls Tryz.prog 39 #[.int .i64 (n : Int), .slice A l.length k] w (RetLImg w (changeL (emptyL n) l)) := by
  have HN := Lib.hid (new_ok n w h1 h2)
  have HRN := Lib.hid (fun W => rnew_ok n W h1 h2)
  have HA := Lib.hid hA
  clear hA
  go_enter Tryz.func39, Tryz.ntmps39
  go_wp2_with (first
    | (go_at_call 27; (with_reducible refine HN.out.mono ?_); rintro e w1 ⟨gm, Mm, rfl, hi1, hm1, hb1⟩; obtain ⟨Bm, Dm, hi1⟩ := hi1; have HI1 := Lib.hid hi1; have HM1 := Lib.hid hm1; have B1 := Lib.hid hb1; clear hi1 hm1 hb1)
    | (go_at_call 9; (with_reducible refine (HRN.out _).mono ?_); rintro e w2 ⟨r2, q2, c2, M2, rfl, hr2, hm2, hb2⟩; have HR2 := Lib.hid hr2; have HM2 := Lib.hid hm2; have B2 := Lib.hid hb2; clear hr2 hm2 hb2)
    | (go_at_call 32; (with_reducible refine (change_any (HI1.out.below B2.out) A k l (by omega) (HA.out.below (bl_chain B1.out B2.out))).mono ?_); rintro e w3 ⟨D3, M3, rfl, hi3, hm3, ht3⟩; have HI3 := Lib.hid hi3; have HM3 := Lib.hid hm3; have HT3 := Lib.hid ht3; have hB1 : ∀ b, b = Bm → w.heap.size ≤ b ∧ b < w1.heap.size := (fun b e => ⟨e ▸ HM1.out _ HI1.out.mB, e ▸ HI1.out.own.lt⟩); have HBB := Lib.hid hB1; have HR3 := Lib.hid (HR2.out.tr ht3 (fun b hb e => by have := HM2.out b hb; have := hB1 b e; omega)); have B3 := Lib.hid (bl_tr (bl_chain B1.out B2.out) ht3 (fun b e => (hB1 b e).1)); clear hi3 hm3 ht3 hB1)
    | (go_at_call 68; (with_reducible refine (rchange_any HR3.out A k l (by omega) HA.out B3.out (Nat.le_trans B1.out.size (HM2.out _ HR2.out.mq))).mono ?_); rintro e w4 ⟨M4, rfl, hr4, hm4, ht4⟩; have HR4 := Lib.hid hr4; have HM4 := Lib.hid hm4; have HT4 := Lib.hid ht4; clear hr4 hm4 ht4))
  go_ret2
  have hz1 := B1.out.size
  have hz2 := B2.out.size
  have hz3 := HT3.out.size
  have hq2 := HM2.out _ HR2.out.mq
  have hql := HR2.out.mlt _ HR2.out.mq
  have hlt1 := HI1.out.mlt
  have hlt2 := HR2.out.mlt
  have hlt3 := HI3.out.mlt
  refine ⟨gm, Bm, D3, M3, r2, q2, c2, M4, rfl, HI3.out.tr HT4.out (fun b hb e => ?_), HR4.out, fun b hb => (HM3.out b hb).elim (HM1.out b) (fun h => by omega), fun b hb => (HM4.out b hb).elim (fun h => by have := HM2.out b h; omega) (fun h => by omega), fun b hb hb2 => ?_, bl_tr B3.out HT4.out (fun b e => by omega)⟩
  · rcases HM3.out b hb with h | h
    · have := hlt1 b h; omega
    · omega
  · rcases HM3.out b hb with h | h
    · have := hlt1 b h
      rcases HM4.out b hb2 with h2 | h2
      · have := HM2.out b h2; omega
      · omega
    · rcases HM4.out b hb2 with h2 | h2
      · have := hlt2 b h2; omega
      · have := hlt3 b hb; omega
end
end Go.Proofs.YthlijldapoeepaaGreat

/- Layer 6: a fresh disk; a call on a calm disk; open and known of the laws. -/

namespace Go.Proofs.YthlijldapoeepaaGreat
set_option linter.unusedVariables false
set_option linter.unusedSimpArgs false
set_option maxRecDepth 100000
open Go.RowKit Go.Shelf

/-! ### a fresh disk -/
def freshD (N : Nat) : Dk.DS := Dk.newD (List.replicate (N * 256) 0)
theorem freshD_n (N : Nat) : (freshD N).n = N := by unfold freshD Dk.DS.n Dk.newD; simp
theorem fresh_read (N z : Nat) (hz : z < N) : Dk.readD (freshD N) (z : Nat) 1 = List.replicate 256 0 := by
  unfold Dk.readD
  have hw : Dk.wrongD (freshD N).n (z : Nat) 1 = false := by rw [freshD_n]; unfold Dk.wrongD; rw [decide_eq_false_iff_not]; omega
  rw [hw]
  simp only [freshD, Dk.newD, Bool.false_eq_true, if_false, List.drop_replicate, List.take_replicate, Int.toNat_natCast]
  congr 1
  show min (256 * (1 : Int).toNat) _ = 256
  have : (1 : Int).toNat = 1 := rfl
  rw [this]
  omega
theorem foldl_zeros : ∀ n, (List.replicate n (0 : Int)).foldl (fun n x => n * 256 + x) 0 = 0
  | 0 => rfl
  | n + 1 => by rw [List.replicate_succ, List.foldl_cons]; exact foldl_zeros n
theorem unb_zeros (n : Nat) : unb (List.replicate n 0) = 0 := foldl_zeros n
theorem readST_zeros : readST (List.replicate 256 0) = ST.zero := by
  unfold readST
  apply if_neg
  rintro ⟨_, h⟩
  apply h.1
  show wrap64 (unb (((List.replicate 256 0).drop 4).take 8)) < 1
  rw [List.drop_replicate, List.take_replicate, unb_zeros]
  unfold wrap64
  omega
theorem topTo_fresh {N F : Nat} : ∀ i, F + i ≤ N → topTo (freshD N) F i = ST.zero
  | 0, _ => rfl
  | i + 1, h => by
    rw [topTo, topTo_fresh i (by omega), fresh_read N (F + i) (by omega), readST_zeros]
    exact if_neg (by simp)
theorem fresh_top {N F : Nat} (h : F + 2 ≤ N) : top (freshD N) F = ST.zero := topTo_fresh 2 h
theorem rowL_empty (n k : Nat) : rowL (emptyL n) k = List.replicate 195 0 := by
  have hc : ∀ i, cellL (emptyL n) i = List.replicate 65 0 := fun i => by
    unfold cellL bv
    rw [bk_empty, if_pos rfl, if_pos rfl]
    rfl
  unfold rowL
  simp only [rowTo, hc, List.nil_append]
  rfl
theorem fresh_load {N F n : Nat} (h1 : 1 ≤ n) (h2 : n ≤ 256) (h : F + 19 + 2 * rowsN n ≤ N) : LoadOk (freshD N) F 0 (emptyL n) := by
  have hl : (emptyL n).length = n := by simp [emptyL]
  refine ⟨emptyL_ok h1 h2, fun k hk => ⟨List.replicate 61 0, ?_⟩, by rw [hl, freshD_n]; exact h⟩
  rw [hl] at hk ⊢
  rw [fresh_read N _ (by unfold rowAt; omega), rowL_empty, List.replicate_append_replicate]

/-! ### a call on a calm disk -/
structure Calm (D : Dk.DS) : Prop where
  ok : D.Ok
  dead : D.dead = false
  fail : D.failing = false
theorem Calm.flushE {D : Dk.DS} (h : Calm D) : Dk.flushE D = 0 := by unfold Dk.flushE; rw [h.dead, h.fail]; rfl
theorem Calm.flushD {D : Dk.DS} (h : Calm D) : Calm (Dk.flushD D) := by
  refine ⟨flushD_ok h.ok, ?_, ?_⟩
  · simp [Dk.flushD, h.dead, h.fail]
  · simp [Dk.flushD, h.dead, h.fail]
theorem Calm.writeD {D : Dk.DS} (h : Calm D) {a : Int} {l : List Int} (hB : isB l) : Calm (Dk.writeD D a l) := ⟨writeD_ok h.ok hB, (writeD_dead _ _ _).trans h.dead, (writeD_failing _ _ _).trans h.fail⟩
theorem Calm.writeE {D : Dk.DS} (h : Calm D) {a : Nat} {l : List Int} (h1 : 1 ≤ Dk.secs l) (h2 : a + Dk.secs l ≤ D.n) : Dk.writeE D (a : Nat) l = 0 := by
  unfold Dk.writeE
  rw [h.dead, if_neg (by simp), if_neg]
  unfold Dk.wrongD
  rw [decide_eq_true_iff]
  omega
theorem Calm.mark {D : Dk.DS} (h : Calm D) {F : Nat} {x : ST} (hx : 0 ≤ x.gen) (hF : F + 2 ≤ D.n) : markE D F x = 0 ∧ Calm (markD D F x) := by
  have hs : Dk.secs x.sector = 1 := by unfold Dk.secs; rw [x.sector_length]
  have h1 : Dk.writeE D (markAt F x : Nat) x.sector = 0 := h.writeE (by omega) (by unfold markAt; omega)
  have h2 := h.writeD (a := (markAt F x : Nat)) x.sector_isB
  unfold markE markD
  rw [if_pos h1, if_pos h1]
  exact ⟨h2.flushE, h2.flushD⟩
theorem Calm.rowsD {D : Dk.DS} (h : Calm D) {F a : Nat} {L : List (List Int)} (hL : ImgOk L) (ks : List Nat) : Calm (rowsD D F a L ks) := by
  induction ks using snocInd with
  | h0 => exact h
  | hs ks k ih =>
    rw [rowsD_snoc]
    exact ih.writeD (rowL_isB hL k)
theorem Calm.rows {D : Dk.DS} (h : Calm D) {F : Nat} {x : ST} {L : List (List Int)} (hL : ImgOk L) (ks : List Nat) (hx : 0 ≤ x.gen) (hF : F + 2 ≤ D.n) : rowsE D F x L ks = 0 ∧ Calm (rowsF D F x L ks) := by
  have h1 := h.rowsD (F := F) (a := x.area.toNat) hL ks
  have hn := (rowsD_keeps D F x.area.toNat L ks).1
  have h2 := h1.flushD.mark (F := F) (x := x.next x.n x.area 0) (by simp only [ST.next]; omega) (by rw [flushD_n h1.ok, hn]; exact hF)
  unfold rowsE rowsF
  rw [h1.flushE, if_pos rfl, if_pos rfl]
  exact h2
theorem chTo_ok {L : List (List Int)} (h : ImgOk L) : ∀ {l : List ChS}, (∀ y ∈ l.map ChS.two, lineOk y) → ImgOk (chTo L l) := by
  intro l
  induction l generalizing L with
  | nil => exact fun _ => h
  | cons y l ih =>
    intro hl
    have hy := hl y.two (by simp)
    exact ih (h.set_ _ hy.2) (fun z hz => hl z (by simp only [List.map_cons, List.mem_cons]; exact .inr hz))
theorem applyR_ok {D : Dk.DS} (h : Calm D) {F : Nat} {x : ST} {L : List (List Int)} {n : Int} {l : List ChS} (hR : Ready D F x L.length) (hL : ImgOk L) (hl : ∀ y ∈ l.map ChS.two, lineOk y) :
    (applyR D F x L n l).e = 0 ∧ (applyR D F x L n l).x = ⟨x.gen + 2, n, x.area, 0⟩ ∧ Calm (applyR D F x L n l).D ∧ (applyR D F x L n l).L = chTo L l := by
  obtain ⟨G, hG, _⟩ := hR.gen
  have hf := hR.fit
  have hj : Calm (jourD D F x n l) := h.writeD (sealL_isB (entryB_isB hl))
  have hjn : (jourD D F x n l).n = D.n := writeD_n _ _ _
  have hm := hj.flushD.mark (F := F) (x := x.next n x.area 1) (by simp only [ST.next]; omega) (by rw [flushD_n hj.ok, hjn]; omega)
  have hr := hm.2.rows (F := F) (x := x.next n x.area 1) (chTo_ok hL hl) (rowsT l) (by simp only [ST.next]; omega) (by rw [markD_n hj.flushD.ok, flushD_n hj.ok, hjn]; omega)
  unfold applyR
  rw [if_neg (by rw [hj.flushE]; simp), if_neg (by rw [hm.1]; simp)]
  refine ⟨hr.1, ?_, hr.2, rfl⟩
  show (if _ = 0 then _ else _) = _
  rw [if_pos hr.1]
  simp only [ST.next, Int.add_assoc]
  rfl

/-! ### the laws' open and known -/
theorem open_okz {w : World} {d F : Nat} {L : List (List Int)} {Md Rr : Nat → Prop} {D : Dk.DS} (z m : Int) (hz : z = (F : Int)) (hm : m = (L.length : Int)) (x : ST) (hx : top D F = x) (hd : Dk.IsDisk w d D Md Rr) (hF : F ≤ 100000) (a : Nat) (ha : x.area = (a : Int)) (ha1 : a ≤ 1) (hL : LoadOk D F a L) (hop : x.op = 0) :
    Calls Tryz.prog 8 #[.pointer (some ⟨d, 0, none⟩), .int .i64 z, .int .i64 m] w (RetOpen w d F x D Md Rr L) := by
  subst hz
  subst hm
  subst hx
  exact open_ok hd hF a ha ha1 hL hop
def RetLOpen (w : World) (n : Nat) (e : Ending) (w' : World) : Prop :=
  ∃ s d g Md Mi, e = .returned (.tuple #[.pointer (some ⟨s, 0, none⟩), .pointer (some ⟨d, 0, none⟩)]) ∧ StAt w' s d g 0 ST.zero false (freshD (19 + 2 * rowsN n)) Md NoB (emptyL n) Mi ∧ w.heap.size ≤ s ∧ (∀ b, Md b → w.heap.size ≤ b) ∧ (∀ b, Mi b → w.heap.size ≤ b) ∧ Below w.heap.size w w'
set_option maxHeartbeats 1600000 in
theorem lopen_any (n : Nat) (h1 : 1 ≤ n) (h2 : n ≤ 256) (w : World) : Calls Tryz.prog 14 #[.int .i64 (n : Int)] w (RetLOpen w n) := by
  have hr : rowsN n ≤ 86 := by unfold rowsN; omega
  have hN := need_ok n h1 h2 w
  obtain ⟨k, hk⟩ : ∃ k, 19 + 2 * rowsN n = k := ⟨_, rfl⟩
  rw [hk] at hN
  have HN := Lib.hid hN
  have HD := Lib.hid (Dk.new_ok k w (by omega) (by omega))
  have hl : (emptyL n).length = n := by simp [emptyL]
  have HO := Lib.hid (fun (W : World) (d : Nat) (Md Rr : Nat → Prop) (hd : Dk.IsDisk W d (freshD k) Md Rr) => open_okz (F := 0) 0 (n : Int) rfl (by rw [hl]) ST.zero (fresh_top (by omega)) hd (by omega) 0 rfl (by omega) (fresh_load h1 h2 (by omega)) rfl)
  have HK := Lib.hid hk
  clear hN hk hr hl
  go_enter Tryz.func14, Tryz.ntmps14
  go_wp2_with (first
    | (go_at_call 5; (with_reducible refine HN.out.mono ?_); rintro e w' ⟨rfl, rfl⟩)
    | (go_at_call 7; (with_reducible refine HD.out.mono ?_); rintro e w1 ⟨d, Md, rfl, hd1, hm1, hb1⟩; have HD1 := Lib.hid hd1; have HM1 := Lib.hid hm1; have HB1 := Lib.hid hb1; clear hd1 hm1 hb1)
    | (go_at_call 8; (with_reducible refine (HO.out _ _ _ _ HD1.out).mono ?_); rintro e w2 ⟨s, g, Mi, rfl, hs2, hs, hm2, hb2⟩; have HS2 := Lib.hid hs2; have HSS := Lib.hid hs; have HM2 := Lib.hid hm2; have HB2 := Lib.hid hb2; clear hs2 hs hm2 hb2))
  go_ret2
  have hz := HB1.out.size
  refine ⟨s, d, g, Md, Mi, rfl, ?_, Nat.le_trans hz HSS.out, HM1.out, fun b hb => Nat.le_trans hz (HM2.out b hb), bl_chain HB1.out HB2.out⟩
  rw [HK.out]
  exact HS2.out

/-- The two changes of known. -/
def kl (Z : Nat) : List ChS := [⟨some ⟨Z, 0, none⟩, 64, 1, List.replicate 64 0⟩, ⟨none, 0, 2, []⟩]
theorem kl_at {w : World} {Z K : Nat} (h0 : Rd w (some ⟨Z, 0, none⟩) (by8 (List.replicate 64 0))) {t : TypeId} (h1 : Blk w K t #[.int .i64 1, .slice (some ⟨Z, 0, none⟩) 64 64, .int .i64 2, .slice none 0 0]) : ChsAt w (some ⟨K, 0, none⟩) (kl Z) := by
  intro i hi
  have hi2 : i < 2 := hi
  rcases (by omega : i = 0 ∨ i = 1) with rfl | rfl
  · refine ⟨⟨by show (-9223372036854775808 : Int) ≤ 1 ∧ (1 : Int) ≤ 9223372036854775807; omega, h0, by show isB (List.replicate 64 0); exact rep0_isB 64, by show (List.replicate 64 (0 : Int)).length ≤ _; simp⟩, K, 0, rfl, ?_⟩
    intro j u hj
    have hj2 : j < 2 := (List.getElem?_eq_some_iff.1 hj).1
    rcases (by omega : j = 0 ∨ j = 1) with rfl | rfl
    · exact (h1.cell 0).trans hj
    · exact (h1.cell 1).trans hj
  · refine ⟨⟨by show (-9223372036854775808 : Int) ≤ 2 ∧ (2 : Int) ≤ 9223372036854775807; omega, Rd.nil, isB.nil, by show (0 : Nat) ≤ _; omega⟩, K, 0, rfl, ?_⟩
    intro j u hj
    have hj2 : j < 2 := (List.getElem?_eq_some_iff.1 hj).1
    rcases (by omega : j = 0 ∨ j = 1) with rfl | rfl
    · exact (h1.cell 2).trans hj
    · exact (h1.cell 3).trans hj
def kL : List (List Int) := [[], List.replicate 64 0, [], []]
theorem kl_right (Z : Nat) : chRight (emptyL 4).length (kl Z) = true := rfl
theorem kl_to (Z : Nat) : chTo (emptyL 4) (kl Z) = kL := rfl
theorem kL_used : used kL = 1 := rfl
theorem kL_has : hasB kL 1 = true := rfl
theorem fresh_calm {N : Nat} (h1 : 1 ≤ N) (h2 : N ≤ 4096) : Calm (freshD N) := ⟨Dk.newD_ok ⟨by simp, by simp; omega, by simp; omega⟩ (Dk.zeros_isB _), rfl, rfl⟩
theorem fresh_ready {N F n : Nat} (h : F + 19 + 2 * rowsN n ≤ N) (hF : F ≤ 100000) : Ready (freshD N) F ST.zero n :=
  ⟨rfl, by rw [freshD_n]; exact h, by show ([] : List (Nat × List Int)).length < _; simp, ⟨0, rfl, by omega⟩, ⟨by decide, by decide, by decide, by decide⟩, ⟨0, rfl, by omega⟩, hF⟩
theorem kapply {w : World} {s d g : Nat} {Md Mi : Nat → Prop} (h : StAt w s d g 0 ST.zero false (freshD (19 + 2 * rowsN 4)) Md NoB (emptyL 4) Mi) :
    Calls Tryz.prog 20 #[.pointer (some ⟨s, 0, none⟩), .int .i64 5, .slice (some ⟨w.heap.size + 1, 0, none⟩) 2 2] ((w.alloc (.cells (Array.replicate 64 (.int .u8 0)) 5)).alloc (.cells #[.int .i64 1, .slice (some ⟨w.heap.size, 0, none⟩) 64 64, .int .i64 2, .slice none 0 0] 54)) fun e w' =>
      ∃ D' Md' Rr' Mi', e = .returned (.int .i64 0) ∧ StAt w' s d g 0 ⟨2, 5, 0, 0⟩ false D' Md' Rr' kL Mi' ∧ Aft s w w' Md NoB Mi Md' Rr' Mi' := by
  have hb := bl_chain (bl_alloc w (.cells (Array.replicate 64 (.int .u8 0)) 5)) (bl_alloc _ (.cells #[.int .i64 1, .slice (some ⟨w.heap.size, 0, none⟩) 64 64, .int .i64 2, .slice none 0 0] 54))
  have h0 := (Rd.zeros w 64 5).below (bl_alloc _ (.cells #[.int .i64 1, .slice (some ⟨w.heap.size, 0, none⟩) 64 64, .int .i64 2, .slice none 0 0] 54))
  have h1 := Blk.new (w.alloc (.cells (Array.replicate 64 (.int .u8 0)) 5)) 54 #[.int .i64 1, .slice (some ⟨w.heap.size, 0, none⟩) 64 64, .int .i64 2, .slice none 0 0]
  rw [World.size_alloc] at h1
  generalize (w.alloc (.cells (Array.replicate 64 (.int .u8 0)) 5)).alloc (.cells #[.int .i64 1, .slice (some ⟨w.heap.size, 0, none⟩) 64 64, .int .i64 2, .slice none 0 0] 54) = W at hb h0 h1 ⊢
  have hs := h.blk.lt
  have hst := h.below hb
  have hR : Ready (freshD (19 + 2 * rowsN 4)) 0 ST.zero (emptyL 4).length := fresh_ready (by show 0 + 19 + 2 * rowsN 4 ≤ _; omega) (by omega)
  have hap := apply_go hst 5 (some ⟨w.heap.size + 1, 0, none⟩) 2 (kl w.heap.size) rfl (kl_at h0 h1) (by show 2 ≤ 64; omega) (kl_right _) hR (fun w' ht => by
    have hn : ∀ b, b = w.heap.size ∨ b = w.heap.size + 1 → ¬ (Md b ∨ Mi b ∨ b = s) := fun b hb hm => by
      rcases hm with hm | hm | hm
      · have := h.dsk.mlt b hm; omega
      · have := h.img.mlt b hm; omega
      · omega
    exact kl_at (h0.tr ht (fun ad e => by injection e with e; subst e; exact hn _ (.inl rfl))) (ht.blk h1 (hn _ (.inr rfl))))
  obtain ⟨q1, q2, q3, q4⟩ := applyR_ok (n := 5) (l := kl w.heap.size) (fresh_calm (N := 19 + 2 * rowsN 4) (by decide) (by decide)) hR (emptyL_ok (by omega) (by omega)) (lines_ok (by show 4 ≤ 256; omega) (kl_right _) (kl_at h0 h1))
  refine hap.mono ?_
  rintro e w' ⟨Md', Rr', Mi', rfl, hst', haf⟩
  rw [q1, q2, q4, kl_to] at hst'
  rw [q1]
  have hz := hb.size
  exact ⟨_, Md', Rr', Mi', rfl, hst', ⟨fun b hb => (haf.d b hb).imp id (fun h => by omega), fun b hb => (haf.r b hb).imp id (fun h => by omega), fun b hb => (haf.i b hb).imp id (fun h => by omega), (Tr.of_below hb).trans haf.t (fun b _ h => h)⟩⟩
set_option maxHeartbeats 1600000 in
theorem known_any (w : World) : Calls Tryz.prog 6 #[] w fun e w' => e = .returned (.bool true) ∧ Below w.heap.size w w' := by
  have HO : Hid (Calls Tryz.prog 14 #[.int .i64 4] w (RetLOpen w 4)) := Lib.hid (lopen_any 4 (by omega) (by omega) w)
  have hmk := fun w => run_make8 64 64 rfl (by omega) w
  go_enter Tryz.func6, Tryz.ntmps6
  go_wp2_with (first
    | (go_at_call 14; (with_reducible refine HO.out.mono ?_); rintro e w1 ⟨s, d, g, Md, Mi, rfl, h1, h2, h3, h4, h5⟩; have H1 := Lib.hid h1; have H3 := Lib.hid h3; have H4 := Lib.hid h4; have H5 := Lib.hid h5; clear h1 h3 h4 h5)
    | (go_at_call 20; (with_reducible refine (kapply H1.out).mono ?_); rintro e w2 ⟨D', Md', Rr', Mi', rfl, h1, h2⟩; have HS := Lib.hid h1; have HA := Lib.hid h2; clear h1 h2)
    | (go_at_call 21; (with_reducible refine (image_any HS.out.blk HS.out.img).mono ?_); rintro e w3 ⟨B0, g', B', D'', rfl, h1, h2, h3, h4⟩; have H6 := Lib.hid h3; have H7 := Lib.hid h4; have HS3 := Lib.hid (HS.out.below h4); clear h1 h2 h3 h4)
    | (go_at_call 22; (with_reducible refine (applied_any HS3.out.blk).mono ?_); rintro e w4 ⟨rfl, rfl⟩)
    | (go_at_call 20; (with_reducible refine (apply_no HS3.out.blk 5 none 0 0 (by decide)).mono ?_); rintro e w4 ⟨rfl, rfl⟩)
    | (go_at_call 23; (with_reducible refine (has_any H6.out.toImg 1 (by omega)).mono ?_); rintro e w4 ⟨rfl, rfl⟩; rw [kL_has])
    | (go_at_call 24; (with_reducible refine (used_any H6.out.toImg).mono ?_); rintro e w4 ⟨rfl, rfl⟩; rw [kL_used]))
  go_ret
  exact ⟨rfl, bl_chain (bl_tr H5.out HA.out.t (fun b hb => by
    rcases hb with hb | hb | rfl
    · exact H3.out b hb
    · exact H4.out b hb
    · exact h2)) H7.out⟩
end Go.Proofs.YthlijldapoeepaaGreat

/- The arguments of the statements of 06 opened: calls (law06.Op), by value and in slices. -/

namespace Go.Proofs.YthlijldapoeepaaGreat
set_option linter.unusedVariables false
set_option maxRecDepth 100000
open Go.Joins Go.ChangeShapes Go.WideShapes Go.RowKit Go.Deep

/-- A call as it came in. -/
structure OpB where
  kind : Int
  n : Int
  A : Option Addr
  c : Nat
  l : List ChS
  B : Option Addr
  d : Nat
  ks : List Int
def OpB.cells (y : OpB) : List Value := [.int .i64 y.kind, .int .i64 y.n, .slice y.A y.l.length y.c, .slice y.B y.ks.length y.d]
structure OpB.In (w : World) (y : OpB) : Prop where
  k : -9223372036854775808 ≤ y.kind ∧ y.kind ≤ 9223372036854775807
  nb : -9223372036854775808 ≤ y.n ∧ y.n ≤ 9223372036854775807
  rl : ChsAt w y.A y.l
  ll : y.l.length ≤ 4398046510976
  rk : Rd w y.B (y.ks.map (Value.int .i64))
  wk : ∀ x ∈ y.ks, -9223372036854775808 ≤ x ∧ x ≤ 9223372036854775807
  lk : y.ks.length ≤ 17592186043904
  kd : y.ks.length ≤ y.d
theorem OpB.In.below {w w' : World} {y : OpB} (h : y.In w) (hb : Below w.heap.size w w') : y.In w' := ⟨h.k, h.nb, h.rl.below hb, h.ll, h.rk.below hb, h.wk, h.lk, h.kd⟩
section
variable {H : Type} {enc : TypeId × Value → H} {w : World} {base : Nat} {spare : Nat → Bool} {held : Bool}
theorem opb_trod {n : Nat} {cs : List Value} {x : DataW H × List MemPlace} (h : DataW.trod enc Tryz.prog w base spare held n 41 cs = some x) (hs : ∀ m ∈ x.1.weights Tryz.prog 41, m ≤ reachBytes) :
    ∃ y : OpB, cs = y.cells ∧ y.In w := by
  obtain ⟨xs, n', _, hx, hlen, hxl, hf⟩ := DataW.trod_struct Tryz.underlying41 h
  have hc4 : Tryz.prog.cellsOf 41 = 4 := by kernel_rfl
  rw [hc4] at hlen
  match cs, hlen with
  | [v0, v1, v2, v3], _ =>
    match xs, hxl with
    | [y0, y1, y2, y3], _ =>
      have g0 := hf 0 _ rfl
      have g1 := hf 1 _ rfl
      have g2 := hf 2 _ rfl
      have g3 := hf 3 _ rfl
      have k0 : Tryz.prog.cellsOf 3 = 1 := by kernel_rfl
      have k1 : Tryz.prog.cellsOf 2 = 1 := by kernel_rfl
      have k2 : Tryz.prog.cellsOf 38 = 1 := by kernel_rfl
      have k3 : Tryz.prog.cellsOf 39 = 1 := by kernel_rfl
      simp [k0, k1, k2, k3] at g0 g1 g2 g3
      obtain ⟨a0, e0, _, w0⟩ := DataW.trod_int Tryz.underlying3 g0
      obtain ⟨a1, e1, _, w1⟩ := DataW.trod_int Tryz.underlying2 g1
      have hw : ∀ (j : Nat) (d : DataW H) (t : TypeId), ([y0.1, y1.1, y2.1, y3.1] : List (DataW H))[j]? = some d → ([3, 2, 38, 39] : List TypeId)[j]? = some t → ∀ m ∈ DataW.weights Tryz.prog t d, m ≤ reachBytes := fun j d t hd ht m hm => by
        refine hs m ?_
        rw [hx]
        simp only [DataW.weights, Tryz.underlying41]
        exact DataW.weights_mem_each ht hd m hm
      obtain ⟨A, c, l, rfl, hll, hrl⟩ := chs_trod g2 (hw 2 y2.1 _ rfl rfl)
      obtain ⟨B, d, ks, rfl, hkd, hrk, hwk, hlk⟩ := slice_trod (by_ := 8) Tryz.underlying39 Tryz.underlying3 (by kernel_rfl) (by kernel_rfl) g3 (hw 3 y3.1 _ rfl rfl)
      simp at e0 e1
      subst e0
      subst e1
      exact ⟨⟨a0, a1, A, c, l, B, d, ks⟩, rfl, ⟨wf_i64 w0, wf_i64 w1, hrl, hll, hrk, fun x hx => wf_i64 (hwk x hx), by show ks.length ≤ _; omega, hkd⟩⟩
/-- A call by value. -/
theorem open_opb {r : Reach} {b0 : Nat} {v : Value} {d : DataW H} {p : List MemPlace} (hs : ∀ m ∈ d.weights Tryz.prog 41, m ≤ reachBytes)
    (hv : Value.okWide Tryz.prog w r b0 41 v) (h : DataW.Trod enc Tryz.prog w base spare held 41 v d p) : ∃ y : OpB, v = .agg y.cells.toArray ∧ y.In w := by
  obtain ⟨cs, rfl, hsz⟩ := okWide_struct Tryz.underlying41 hv
  obtain ⟨fuel, hf⟩ := h
  obtain ⟨y, e, hy⟩ := opb_trod hf hs
  refine ⟨y, ?_, hy⟩
  rw [← e]
  simp [Value.cells]
end
end Go.Proofs.YthlijldapoeepaaGreat
