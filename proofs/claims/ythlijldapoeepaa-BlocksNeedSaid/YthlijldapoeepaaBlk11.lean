/- Layer 6: Copy of an image; Image, Applied, Dead; Apply. -/
import Derived.Test.YthlijldapoeepaaBlk10
namespace Go.Proofs.Ythlijldapoeepaa
set_option linter.unusedVariables false
set_option linter.unusedSimpArgs false
set_option maxRecDepth 100000
open Go.RowKit Go.Shelf

section
variable {w : World} {g B : Nat} {L : List (List Int)} {D : DataW Unit} {M : Nat → Prop}
theorem mclone_any (h : IsImg w g L B D M) : Calls Try.prog 48 #[.map (some B)] w fun e w' => e = .returned (.map (some w.heap.size)) ∧ w'.ownsMap Try.prog 3 rSl w.heap.size 256 D ∧ Below w.heap.size w w' := by
  refine (AnyW.maps_Clone_owns Try.cloneL 3 rSl B 256 D w h.own).mono ?_
  rintro e w' ⟨rfl, h1, _, h2⟩
  exact ⟨rfl, h1, h2⟩
def RetCopy (w : World) (L : List (List Int)) (M : Nat → Prop) (e : Ending) (w' : World) : Prop := ∃ g' B' D', e = .returned (.pointer (some ⟨g', 0, none⟩)) ∧ w.heap.size ≤ g' ∧ w.heap.size ≤ B' ∧ IsImg w' g' L B' D' (fun b => M b ∨ b = g' ∨ b = B') ∧ Below w.heap.size w w'
set_option maxHeartbeats 1600000 in
theorem copy_any (h : IsImg w g L B D M) : Calls Try.prog 29 #[.pointer (some ⟨g, 0, none⟩)] w (RetCopy w L M) := by
  have c0 := h.c0
  have c1 := h.c1
  have HH := Lib.hid h
  have HC := Lib.hid (mclone_any (h.below (bl_drew w)))
  clear h
  go_enter Try.func29, Try.ntmps29
  go_wp2_with fail
  go_region_held3 (fun w' => w'.cell? ⟨g, 0, none⟩ = some (.int .i64 L.length) ∧ w'.cell? ⟨g, 1, none⟩ = some (.map (some B))) (go_keep) ((go_at_call 48; (with_reducible refine HC.out.mono ?_); rintro e w' ⟨rfl, ho, hb⟩; have z0 := (hb.cell (cell_block_lt c0)).trans c0; have z1 := (hb.cell (cell_block_lt c1)).trans c1; have HO := Lib.hid ho; have HB := Lib.hid hb; clear ho hb))
  go_wp2_with fail
  go_ret
  have hI := HH.out.below (bl_drew w)
  have hI2 := hI.below (bl_chain HB.out (bl_alloc w' (.cells #[.int .i64 L.length, .map (some w.drew.heap.size)] 78)))
  refine ⟨w'.heap.size, w.drew.heap.size, D, rfl, ?_, Nat.le_refl w.heap.size, ⟨hI2.ok, Blk.new _ _ _, HO.out.alloc _, hI2.has, fun i hi => ?_, hI2.sz, .inr (.inl rfl), .inr (.inr rfl), fun b hb => ?_⟩, bl_chain (bl_drew w) (bl_chain HB.out (bl_alloc w' _))⟩
  · have := HB.out.size
    have e : w.drew.heap.size = w.heap.size := rfl
    omega
  · obtain ⟨b, h1, h2, h3⟩ := hI2.at_ i hi
    exact ⟨b, h1, .inl h2, h3⟩
  · rcases hb with h | rfl | rfl
    · exact hI2.mlt b h
    · simp
    · have := HO.out.lt
      have e : w.drew.heap.size = w.heap.size := rfl
      simp
      omega
end

section
variable {w w' : World} {s d g F : Nat} {x : ST} {dead : Bool} {L : List (List Int)} {Mi Md Rr : Nat → Prop} {D : Dk.DS}
theorem image_nil (w : World) : Calls Try.prog 12 #[.pointer none] w fun e w' => e = .returned (.pointer none) ∧ w = w' := by
  go_enter Try.func12, Try.ntmps12
  go_wp2_with fail
  go_ret
  exact ⟨rfl, rfl⟩
theorem applied_nil (w : World) : Calls Try.prog 13 #[.pointer none] w fun e w' => e = .returned (.int .i64 0) ∧ w = w' := by
  go_enter Try.func13, Try.ntmps13
  go_wp2_with fail
  go_ret
  exact ⟨rfl, rfl⟩
theorem bdead_nil (w : World) : Calls Try.prog 14 #[.pointer none] w fun e w' => e = .returned (.bool false) ∧ w = w' := by
  go_enter Try.func14, Try.ntmps14
  go_wp2_with fail
  go_ret
  exact ⟨rfl, rfl⟩
theorem applied_any (h : IsSt w s d g F x dead) : Calls Try.prog 13 #[.pointer (some ⟨s, 0, none⟩)] w fun e w' => e = .returned (.int .i64 x.n) ∧ w = w' := by
  have c4 := h.cell 4
  simp [stCells] at c4
  clear h
  go_enter Try.func13, Try.ntmps13
  go_wp2_with fail
  go_ret
  exact ⟨rfl, rfl⟩
theorem bdead_any (h : IsSt w s d g F x dead) : Calls Try.prog 14 #[.pointer (some ⟨s, 0, none⟩)] w fun e w' => e = .returned (.bool dead) ∧ w = w' := by
  have c7 := h.cell 7
  simp [stCells] at c7
  clear h
  go_enter Try.func14, Try.ntmps14
  go_wp2_with fail
  go_ret
  exact ⟨rfl, rfl⟩
theorem image_any (h : IsSt w s d g F x dead) (hi : Img w g L Mi) : Calls Try.prog 12 #[.pointer (some ⟨s, 0, none⟩)] w (RetCopy w L Mi) := by
  have c2 := h.cell 2
  simp [stCells] at c2
  obtain ⟨B, D, hI⟩ := hi
  have HC := Lib.hid (copy_any hI)
  clear h hI
  go_enter Try.func12, Try.ntmps12
  go_wp2_with (first
    | (go_at_call 29; (with_reducible refine HC.out.mono ?_); rintro e w' ⟨g', B', D', rfl, h1, h2, h3, h4⟩; have H3 := Lib.hid h3; have H4 := Lib.hid h4; clear h3 h4))
  go_ret
  exact ⟨g', B', D', rfl, h1, h2, H3.out, H4.out⟩

theorem StAt.below (h : StAt w s d g F x dead D Md Rr L Mi) (hb : Below w.heap.size w w') : StAt w' s d g F x dead D Md Rr L Mi :=
  ⟨h.blk.keep hb, h.dsk.below hb, h.img.below hb, h.sd, h.sr, h.si, h.di⟩
theorem StAt.imgTo (h : StAt w s d g F x dead D Md Rr L Mi) {L' : List (List Int)} {Mi' : Nat → Prop} {B : Nat} (hB : Mi B) (hi : Img w' g L' Mi') (hm : ∀ b, Mi' b → Mi b ∨ w.heap.size ≤ b) (ht : Tr (fun b => b = B) w w') : StAt w' s d g F x dead D Md Rr L' Mi' :=
  ⟨ht.blk h.blk (fun e => h.si (e ▸ hB)), h.dsk.tr ht (fun b hb e => (h.di B hB).1 (e ▸ hb)) (fun b hb e => (h.di B hB).2 (e ▸ hb)), hi, h.sd, h.sr, fun hq => (hm s hq).elim h.si (fun e => by have := h.blk.lt; omega),
    fun b hb => (hm b hb).elim (h.di b) (fun e => ⟨fun hq => by have := h.dsk.mlt b hq; omega, fun hq => by have := h.dsk.rlt b hq; omega⟩)⟩
/-- What a call of a store leaves of the memory. -/
structure Aft (s : Nat) (w w' : World) (Md Rr Mi Md' Rr' Mi' : Nat → Prop) : Prop where
  d : ∀ b, Md' b → Md b ∨ w.heap.size ≤ b
  r : ∀ b, Rr' b → Rr b ∨ w.heap.size ≤ b
  i : ∀ b, Mi' b → Mi b ∨ w.heap.size ≤ b
  t : Tr (fun b => Md b ∨ Mi b ∨ b = s) w w'
theorem Aft.refl (s : Nat) (w : World) (Md Rr Mi : Nat → Prop) : Aft s w w Md Rr Mi Md Rr Mi := ⟨fun _ h => .inl h, fun _ h => .inl h, fun _ h => .inl h, Tr.refl _ _⟩
theorem Aft.below {w1 : World} {Md1 Rr1 Mi1 : Nat → Prop} (h : Aft s w w1 Md Rr Mi Md1 Rr1 Mi1) {w2 : World} (hb : Below w1.heap.size w1 w2) : Aft s w w2 Md Rr Mi Md1 Rr1 Mi1 := ⟨h.d, h.r, h.i, h.t.then_below hb⟩
theorem Aft.disk {w1 w2 : World} {Md1 Rr1 Mi1 Md2 Rr2 : Nat → Prop} (h : Aft s w w1 Md Rr Mi Md1 Rr1 Mi1) (hd : ∀ b, Md2 b → Md1 b ∨ w1.heap.size ≤ b) (hr : ∀ b, Rr2 b → Rr1 b ∨ w1.heap.size ≤ b) (ht : Tr (fun b => Md1 b ∨ b = s) w1 w2) : Aft s w w2 Md Rr Mi Md2 Rr2 Mi1 :=
  have hz := h.t.size
  ⟨fun b hb => (hd b hb).elim (h.d b) (fun e => .inr (by omega)), fun b hb => (hr b hb).elim (h.r b) (fun e => .inr (by omega)), h.i,
    h.t.trans ht (fun b hb e => e.elim (fun e => (h.d b e).elim .inl (fun e => by omega)) (fun e => .inr (.inr e)))⟩
theorem Aft.imgTo {w1 w2 : World} {Md1 Rr1 Mi1 Mi2 : Nat → Prop} (h : Aft s w w1 Md Rr Mi Md1 Rr1 Mi1) {B : Nat} (hB : Mi1 B) (hi : ∀ b, Mi2 b → Mi1 b ∨ w1.heap.size ≤ b) (ht : Tr (fun b => b = B) w1 w2) : Aft s w w2 Md Rr Mi Md1 Rr1 Mi2 :=
  have hz := h.t.size
  ⟨h.d, h.r, fun b hb => (hi b hb).elim (h.i b) (fun e => .inr (by omega)), h.t.trans ht (fun b hb e => (h.i b (e ▸ hB)).elim (fun e => .inr (.inl e)) (fun e => by omega))⟩

theorem apply_no (h : IsSt w s d g F x dead) (n : Int) (A : Option Addr) (k c : Nat) (hw : wrongS x dead n ≠ 0) : Calls Try.prog 10 #[.pointer (some ⟨s, 0, none⟩), .int .i64 n, .slice A k c] w fun e w' => e = .returned (.int .i64 (wrongS x dead n)) ∧ w = w' := by
  have HW := Lib.hid (swrong_any h n)
  obtain ⟨z, hz⟩ : ∃ z, wrongS x dead n = z := ⟨_, rfl⟩
  rw [hz] at HW hw ⊢
  have k1 : (z != 0) = true := by simpa using hw
  clear h hz
  go_enter Try.func10, Try.ntmps10
  go_wp2_with (first
    | (go_at_call 28; (with_reducible refine HW.out.mono ?_); rintro e w' ⟨rfl, rfl⟩))
  go_ret
  exact ⟨rfl, rfl⟩
theorem apply_nil (n : Int) (A : Option Addr) (k c : Nat) (w : World) : Calls Try.prog 10 #[.pointer none, .int .i64 n, .slice A k c] w fun e w' => e = .returned (.int .i64 2) ∧ w = w' := by
  go_enter Try.func10, Try.ntmps10
  go_wp2_with (first
    | (go_at_call 28; (with_reducible refine (swrong_nil n w).mono ?_); rintro e w' ⟨rfl, rfl⟩))
  go_ret
  exact ⟨rfl, rfl⟩
set_option maxHeartbeats 1600000 in
theorem apply_bad (h : StAt w s d g F x dead D Md Rr L Mi) (n : Int) (A : Option Addr) (c : Nat) (l : List ChS) (hw : wrongS x dead n = 0) (hl : ChsAt w A l) (hll : l.length ≤ 140737488351232) (hb : changeE L.length l ≠ 0 ∨ 64 < l.length) :
    Calls Try.prog 10 #[.pointer (some ⟨s, 0, none⟩), .int .i64 n, .slice A l.length c] w fun e w' => e = .returned (.int .i64 (if changeE L.length l ≠ 0 then 1 else 3)) ∧ Below w.heap.size w w' := by
  have HW := Lib.hid (swrong_any h.blk n)
  rw [hw] at HW
  have c2 := h.blk.cell 2
  simp [stCells] at c2
  obtain ⟨B, E, hI⟩ := h.img
  have HC := Lib.hid (copy_any hI)
  have HL := Lib.hid hl
  obtain ⟨z, hz⟩ : ∃ z, changeE L.length l = z := ⟨_, rfl⟩
  rw [hz] at hb ⊢
  have HZ := Lib.hid hz
  have q1 : z ≠ 0 → (z != 0) = true := fun h => by simpa using h
  have HQ1 := Lib.hid q1
  clear h hI hw hl hz q1
  by_cases h0 : z = 0
  · have h64 : (64 : Int) < (l.length : Int) := by omega
    rw [if_neg (fun h => h h0)]
    subst h0
    clear hb HQ1
    go_enter Try.func10, Try.ntmps10
    go_wp2_with (first
      | (go_at_call 28; (with_reducible refine HW.out.mono ?_); rintro e w' ⟨rfl, rfl⟩)
      | (go_at_call 29; (with_reducible refine HC.out.mono ?_); rintro e w1 ⟨g', B', D', rfl, h1, h2, h3, h4⟩; have H3 := Lib.hid h3; have H4 := Lib.hid h4; clear h3 h4)
      | (go_at_call 26; (with_reducible refine (change_any H3.out A c l hll (HL.out.below H4.out)).mono ?_); rintro e w2 ⟨D2, M2, rfl, h5, h6, h7⟩; rw [HZ.out]; have H7 := Lib.hid (bl_tr H4.out h7 (fun b e => by omega)); clear h5 h6 h7))
    go_ret
    exact ⟨rfl, H7.out⟩
  · have q2 := HQ1.out h0
    rw [if_pos h0]
    clear hb HQ1
    go_enter Try.func10, Try.ntmps10
    go_wp2_with (first
      | (go_at_call 28; (with_reducible refine HW.out.mono ?_); rintro e w' ⟨rfl, rfl⟩)
      | (go_at_call 29; (with_reducible refine HC.out.mono ?_); rintro e w1 ⟨g', B', D', rfl, h1, h2, h3, h4⟩; have H3 := Lib.hid h3; have H4 := Lib.hid h4; clear h3 h4)
      | (go_at_call 26; (with_reducible refine (change_any H3.out A c l hll (HL.out.below H4.out)).mono ?_); rintro e w2 ⟨D2, M2, rfl, h5, h6, h7⟩; rw [HZ.out]; have H7 := Lib.hid (bl_tr H4.out h7 (fun b e => by omega)); clear h5 h6 h7))
    go_ret
    exact ⟨rfl, H7.out⟩
end
end Go.Proofs.Ythlijldapoeepaa
