/- ExtentLoads: the walk. -/
import Derived.Test.YtdddbpnllhnfdaaAlikeX
import Derived.Test.YtdddbpnllhnfdaaLoadP
namespace Go.Proofs.Ytdddbpnllhnfdaa
set_option linter.unusedVariables false
set_option linter.unusedSimpArgs false
set_option maxRecDepth 100000
open Go.RowKit Go.Shelf

theorem Duo.newZ {w W1 W0 W : World} {Z : Nat → Prop} {g r : Nat} {L1 L2 : List (List Int)} {M1 M2 : Nat → Prop} {q c : Nat} (h1 : Img W0 g L1 M1) (hM1 : ∀ b, M1 b → W1.heap.size ≤ b) (hb1 : Below w.heap.size w W1) (hb : Below W1.heap.size W1 W0) (h2 : IsRef W r L2 q c M2) (hM2 : ∀ b, M2 b → W0.heap.size ≤ b) (hb2 : Below W0.heap.size W0 W) (hZ : ∀ b, Z b → b < W1.heap.size) : Duo w W Z g r L1 L2 := by
  obtain ⟨B, D, h1⟩ := h1
  have s1 := hb1.size
  have s2 := hb.size
  have s3 := hb2.size
  exact ⟨B, D, M1, q, c, M2, h1.below hb2, h2, fun b x y => by have := h1.mlt b x; have := hM2 b y; omega, fun b x => by have := hM1 b x; omega, fun b x => by have := hM2 b x; omega, bl_chain (bl_chain hb1 hb) hb2, fun b hz => ⟨by have := hZ b hz; omega, fun x => by have := hM1 b x; have := hZ b hz; omega, fun x => by have := hM2 b x; have := hZ b hz; omega⟩⟩
set_option maxHeartbeats 8000000 in
theorem extentLoads_walk (A : Option Addr) (c : Nat) (b : List Int) (w : World) (hr : Rd w A (by8 b)) (hc : b.length ≤ c) (hB : isB b) (hl : b.length ≤ 140737488351232) :
    Calls Try.prog 7 #[.slice A b.length c] w fun e w' => e = .returned (.bool true) ∧ Below w.heap.size w w' := by
  have HR := Lib.hid hr
  have HB := Lib.hid hB
  clear hr hB
  obtain ⟨⟨er, L⟩, hld⟩ : ∃ p, loadL b = p := ⟨_, rfl⟩
  have tE : (er != er) = false := by simp
  have HLOAD := Lib.hid (fun (A : Option Addr) (c : Nat) (w : World) h1 h2 h3 => by have := load_any A c b w h1 HB.out h2 h3 hl; rw [hld] at this; exact this)
  have HRLOAD := Lib.hid (fun (A : Option Addr) (c : Nat) (w : World) h1 => by have := rload_any A c b w h1 HB.out hl; rw [hld] at this; exact this)
  by_cases h0 : er = 0
  · subst h0
    have HP := Lib.hid (load_bytes HB.out hld)
    go_enter Try.func7, Try.ntmps7
    go_wp2_with (first
      | (go_at_call 27; (with_reducible refine (lent_any A c b w HR.out hl).mono ?_); rintro e w1 ⟨g0, cap, rfl, ho, hb⟩; have O1 := Lib.hid ho; have B1 := Lib.hid hb; have hcap : b.length + 1 ≤ cap ∧ cap ≤ maxLen := (by obtain ⟨A', c', e, h1, _, h2⟩ := ownsRow_slice ho; injection e with _ _ e; omega); have hg0 := own_lt ho g0 ((Blo.some_iff _ _).2 rfl); have hg1 := own_ge ho g0 ((Blo.some_iff _ _).2 rfl); have HL1 := Lib.hid (HLOAD.out (some ⟨g0, 0, none⟩) cap w1 (Rd.of_own (own_pre8 (m := [167]) ho)) (by omega) hcap.2); clear ho hb)
      | (go_at_call 28; (with_reducible refine HL1.out.mono ?_); rintro e w2 hx2; obtain ⟨g, M1, rfl, hi1, hM1, hb2⟩ := hx2.1 rfl; have I2 := Lib.hid hi1; have M1h := Lib.hid hM1; have B2 := Lib.hid hb2; have O2 := Lib.hid (own_below (B := 0) O1.out hb2); have HL2 := Lib.hid (HRLOAD.out A c w2 (HR.out.below (bl_chain B1.out hb2))); clear hi1 hM1 hb2 hx2)
      | (go_at_call 22; (with_reducible refine HL2.out.mono ?_); rintro e w3 hx3; obtain ⟨r, q, cc, M2, rfl, hi2, hM2, hb3⟩ := hx3.1 rfl; have D3 := Lib.hid (show Duo w w3 (fun x => x = g0) g r L L from Duo.newZ I2.out M1h.out B1.out B2.out hi2 hM2 hb3 (fun x e => by rw [e]; exact hg0)); have O3 := Lib.hid (own_below (B := 0) O2.out hb3); have B3 := Lib.hid (bl_chain (bl_chain B1.out B2.out) hb3); clear hi2 hM2 hb3 hx3)
      | (go_at_call 29; (with_reducible refine (kept_any A c g0 cap b w3 (HR.out.below B3.out) (Rd.of_own O3.out) (by omega) hl).mono ?_); rintro e w' ⟨rfl, rfl⟩)
      | (go_at_call 26; (with_reducible refine (spoil_any (some ⟨g0, 0, none⟩) b.length cap (by8 b) _ (ownsRow_base (own_pre8 (m := [167]) O3.out) (Nat.zero_le _)) hl).mono ?_); rintro e w4 ⟨rfl, ht⟩; have D4 := Lib.hid ((D3.out.turn ht (fun x hx => ((Blo.some_iff _ _).1 hx).symm) (fun x hx => by have := (Blo.some_iff _ _).1 hx; simp at this; omega)).forget); clear ht))
    obtain ⟨SB, hSB⟩ : ∃ SB, strOfNums b = SB := ⟨_, rfl⟩
    have eB : (SB.toList == SB.toList) = true := by simp
    have kb := ext_on (ext_conv (c := c) (HR.out.below D4.out.bl) rfl) (bl_drew w4)
    rw [hSB] at kb
    have HSB := Lib.hid hSB
    have D5 := Lib.hid (D4.out.below (bl_drew w4))
    have HBY := Lib.hid (show Calls Try.prog 13 #[.pointer (some ⟨g, 0, none⟩)] w4.drew fun e w' => ∃ A c, e = .returned (.slice A b.length c) ∧ w'.ownsRow w4.drew.heap.size 5 1 (.slice A b.length c) b.length (by8 b) ∧ Below w4.drew.heap.size w4.drew w' from by
      obtain ⟨B, D, M, hI⟩ := D5.out.pimg
      have := bytes_any hI
      rw [HP.out.2] at this
      refine this.mono ?_
      rintro e w' ⟨A, c, rfl, _, ho, hb⟩
      exact ⟨A, c, rfl, ho, hb⟩)
    clear hSB hld
    refine ext_start (by kernel_rfl) ?_
    refine ext_take (i := 0) (v := ?_) rfl (by kernel_rfl) (by kernel_rfl) (by kernel_rfl) (fun _ _ _ h => h) (Or.inl ⟨by rfl, ?_⟩) ?_
    rotate_left
    · (intro W hSw; go_simp; try with_reducible rfl)
    try simp only [Act.put, List.setIfInBounds_toArray, List.set_cons_zero, List.set_cons_succ]
    refine ext_take (i := 3) (v := ?_) rfl (by kernel_rfl) (by kernel_rfl) (by kernel_rfl) (fun _ _ _ h => h) (Or.inl ⟨by rfl, ?_⟩) ?_
    rotate_left
    · (intro W hSw; go_simp; try with_reducible rfl)
    try simp only [Act.put, List.setIfInBounds_toArray, List.set_cons_zero, List.set_cons_succ]
    refine ext_take (i := 4) (v := ?_) rfl (by kernel_rfl) (by kernel_rfl) (by kernel_rfl) (fun _ _ _ h => h) (Or.inl ⟨by rfl, ?_⟩) ?_
    rotate_left
    · (intro W hSw; go_simp; try with_reducible rfl)
    try simp only [Act.put, List.setIfInBounds_toArray, List.set_cons_zero, List.set_cons_succ]
    refine ext_call (i := 1) (by kernel_rfl) rfl (fun K hK => ?_)
    go_simp
    (go_at_call 13; (with_reducible refine HBY.out.mono ?_); rintro e w6 ⟨A6, c6, rfl, ho, hb⟩; have k6 := ext_conv (c := c6) (Rd.of_own ho) rfl; rw [HSB.out] at k6; replace kb := ext_on kb hb; have D6 := Lib.hid (D5.out.below hb); have X6 := Lib.hid hb; clear ho hb)
    refine hK.out _ _ (X6.out) ?_
    clear hK K
    try simp only [Act.put, List.setIfInBounds_toArray, List.set_cons_zero, List.set_cons_succ]
    refine ext_take (i := 2) (v := ?_) rfl (by kernel_rfl) (by kernel_rfl) (by kernel_rfl) (fun _ _ _ h => h) (Or.inl ⟨by rfl, ?_⟩) ?_
    rotate_left
    · (intro W hSw; go_simp; try with_reducible rfl)
    try simp only [Act.put, List.setIfInBounds_toArray, List.set_cons_zero, List.set_cons_succ]
    refine ext_take (i := 5) (v := ?_) rfl (by kernel_rfl) (by kernel_rfl) (by kernel_rfl) (fun _ _ _ h => h) (Or.inl ⟨by rfl, ?_⟩) ?_
    rotate_left
    · (intro W hSw; go_simp; try with_reducible rfl)
    try simp only [Act.put, List.setIfInBounds_toArray, List.set_cons_zero, List.set_cons_succ]
    refine ext_take (i := 6) (v := ?_) rfl (by kernel_rfl) (by kernel_rfl) (by kernel_rfl) (fun _ _ _ h => h) (Or.inl ⟨by rfl, ?_⟩) ?_
    rotate_left
    · (intro W hSw; go_simp; try with_reducible rfl)
    try simp only [Act.put, List.setIfInBounds_toArray, List.set_cons_zero, List.set_cons_succ]
    first
      | (refine ext_take (i := 7) (v := ?_) rfl (by kernel_rfl) (by kernel_rfl) (by kernel_rfl) (fun _ _ _ h => h) (Or.inl ⟨by rfl, ?_⟩) ?_; rotate_left; · (intro W hSw; go_simp; try with_reducible rfl))
      | refine ext_take (i := 7) (v := undef) rfl (by kernel_rfl) (by kernel_rfl) (by kernel_rfl) (fun _ _ _ h => h) (Or.inr ⟨by rfl, rfl⟩) ?_
    try simp only [Act.put, List.setIfInBounds_toArray, List.set_cons_zero, List.set_cons_succ]
    first
      | (refine ext_take (i := 8) (v := ?_) rfl (by kernel_rfl) (by kernel_rfl) (by kernel_rfl) (fun _ _ _ h => h) (Or.inl ⟨by rfl, ?_⟩) ?_; rotate_left; · (intro W hSw; go_simp; try with_reducible rfl))
      | refine ext_take (i := 8) (v := undef) rfl (by kernel_rfl) (by kernel_rfl) (by kernel_rfl) (fun _ _ _ h => h) (Or.inr ⟨by rfl, rfl⟩) ?_
    try simp only [Act.put, List.setIfInBounds_toArray, List.set_cons_zero, List.set_cons_succ]
    refine ext_call (i := 9) (by kernel_rfl) rfl (fun K hK => ?_)
    go_simp
    (go_at_call 30; (with_reducible refine (alike_true D6.out 0 1 (by omega)).mono ?_); rintro e w7 ⟨rfl, hd, hb⟩; have D7 := Lib.hid hd; have X7 := Lib.hid hb; clear hd hb)
    refine hK.out _ _ (X7.out) ?_
    clear hK K
    try simp only [Act.put, List.setIfInBounds_toArray, List.set_cons_zero, List.set_cons_succ]
    refine ext_take (i := 10) (v := ?_) rfl (by kernel_rfl) (by kernel_rfl) (by kernel_rfl) (fun _ _ _ h => h) (Or.inl ⟨by rfl, ?_⟩) ?_
    rotate_left
    · (intro W hSw; go_simp; try with_reducible rfl)
    try simp only [Act.put, List.setIfInBounds_toArray, List.set_cons_zero, List.set_cons_succ]
    refine ext_take (i := 11) (v := ?_) rfl (by kernel_rfl) (by kernel_rfl) (by kernel_rfl) (fun _ _ _ h => h) (Or.inl ⟨by rfl, ?_⟩) ?_
    rotate_left
    · (intro W hSw; go_simp; try with_reducible rfl)
    try simp only [Act.put, List.setIfInBounds_toArray, List.set_cons_zero, List.set_cons_succ]
    refine ext_call (i := 12) (by kernel_rfl) rfl (fun K hK => ?_)
    go_simp
    (go_at_call 12; (with_reducible refine (known_any _).mono ?_); rintro e w8 ⟨rfl, hb⟩; have X8 := Lib.hid hb; have D8 := Lib.hid (D7.out.below hb); clear hb)
    refine hK.out _ _ (X8.out) ?_
    clear hK K
    try simp only [Act.put, List.setIfInBounds_toArray, List.set_cons_zero, List.set_cons_succ]
    refine ext_take (i := 13) (v := ?_) rfl (by kernel_rfl) (by kernel_rfl) (by kernel_rfl) (fun _ _ _ h => h) (Or.inl ⟨by rfl, ?_⟩) ?_
    rotate_left
    · (intro W hSw; go_simp; try with_reducible rfl)
    try simp only [Act.put, List.setIfInBounds_toArray, List.set_cons_zero, List.set_cons_succ]
    refine ext_take (i := 14) (v := ?_) rfl (by kernel_rfl) (by kernel_rfl) (by kernel_rfl) (fun _ _ _ h => h) (Or.inl ⟨by rfl, ?_⟩) ?_
    rotate_left
    · (intro W hSw; go_simp; try with_reducible rfl)
    try simp only [Act.put, List.setIfInBounds_toArray, List.set_cons_zero, List.set_cons_succ]
    refine wpAnyH_done (by kernel_rfl) ?_ _
    go_wp2_with fail
    go_ret
    exact ⟨rfl, D8.out.bl⟩
  · have t0 : (er != 0) = true := by simpa using h0
    go_enter Try.func7, Try.ntmps7
    go_wp2_with (first
      | (go_at_call 27; (with_reducible refine (lent_any A c b w HR.out hl).mono ?_); rintro e w1 ⟨g0, cap, rfl, ho, hb⟩; have O1 := Lib.hid ho; have B1 := Lib.hid hb; have hcap : b.length + 1 ≤ cap ∧ cap ≤ maxLen := (by obtain ⟨A', c', e, h1, _, h2⟩ := ownsRow_slice ho; injection e with _ _ e; omega); have hg1 := own_ge ho g0 ((Blo.some_iff _ _).2 rfl); have HL1 := Lib.hid (HLOAD.out (some ⟨g0, 0, none⟩) cap w1 (Rd.of_own (own_pre8 (m := [167]) ho)) (by omega) hcap.2); clear ho hb)
      | (go_at_call 28; (with_reducible refine HL1.out.mono ?_); rintro e w2 hx2; obtain ⟨rfl, hb2⟩ := hx2.2 h0; have B2 := Lib.hid (bl_chain B1.out hb2); have O2 := Lib.hid (own_below (B := 0) O1.out hb2); have HL2 := Lib.hid (HRLOAD.out A c w2 (HR.out.below (bl_chain B1.out hb2))); clear hb2 hx2)
      | (go_at_call 22; (with_reducible refine HL2.out.mono ?_); rintro e w3 hx3; obtain ⟨rfl, hb3⟩ := hx3.2 h0; have O3 := Lib.hid (own_below (B := 0) O2.out hb3); have B3 := Lib.hid (bl_chain B2.out hb3); clear hb3 hx3)
      | (go_at_call 29; (with_reducible refine (kept_any A c g0 cap b w3 (HR.out.below B3.out) (Rd.of_own O3.out) (by omega) hl).mono ?_); rintro e w' ⟨rfl, rfl⟩)
      | (go_at_call 26; (with_reducible refine (spoil_any (some ⟨g0, 0, none⟩) b.length cap (by8 b) _ (ownsRow_base (own_pre8 (m := [167]) O3.out) (Nat.zero_le _)) hl).mono ?_); rintro e w4 ⟨rfl, ht⟩; have B4 := Lib.hid (bl_tr B3.out ht (fun x hx => by have := (Blo.some_iff _ _).1 hx; simp at this; omega)); clear ht)
      | (go_at_call 12; (with_reducible refine (known_any _).mono ?_); rintro e w8 ⟨rfl, hb⟩; have B8 := Lib.hid (bl_chain B4.out hb); clear hb))
    go_ret
    exact ⟨rfl, B8.out⟩
end Go.Proofs.Ytdddbpnllhnfdaa
