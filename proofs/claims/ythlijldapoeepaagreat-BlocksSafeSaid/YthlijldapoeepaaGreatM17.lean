/- Layer 6: Copy of an image; Image, Applied, Dead; Apply. -/
import Derived.Test.YthlijldapoeepaaGreatM16
namespace Go.Proofs.YthlijldapoeepaaGreat
set_option linter.unusedVariables false
set_option linter.unusedSimpArgs false
set_option maxRecDepth 100000
open Go.RowKit Go.Shelf

section
variable {w : World} {g B : Nat} {L : List (List Int)} {D : DataW Unit} {M : Nat → Prop}
theorem mclone_any (h : IsImg w g L B D M) : Calls Tryz.prog 78 #[.map (some B)] w fun e w' => e = .returned (.map (some w.heap.size)) ∧ w'.ownsMap Tryz.prog 3 rSl w.heap.size 256 D ∧ Below w.heap.size w w' := by
  refine (AnyW.maps_Clone_owns Tryz.cloneL 3 rSl B 256 D w h.own).mono ?_
  rintro e w' ⟨rfl, h1, _, h2⟩
  exact ⟨rfl, h1, h2⟩
def CopyM (g B : Nat) (M : Nat → Prop) (g' B' : Nat) : Nat → Prop := fun b => (M b ∧ b ≠ g ∧ b ≠ B) ∨ b = g' ∨ b = B'
def RetCopy (w : World) (g B : Nat) (L : List (List Int)) (M : Nat → Prop) (e : Ending) (w' : World) : Prop := ∃ g' B' D', e = .returned (.pointer (some ⟨g', 0, none⟩)) ∧ w.heap.size ≤ g' ∧ w.heap.size ≤ B' ∧ IsImg w' g' L B' D' (CopyM g B M g' B') ∧ Below w.heap.size w w'
theorem IsImg.rd_ne_g (h : IsImg w g L B D M) {b : Nat} {l : List Int} (hr : Rd w (some ⟨b, 0, none⟩) (by8 l)) (hl : l ≠ []) : b ≠ g := by
  rintro rfl
  cases l with
  | nil => exact hl rfl
  | cons x l =>
    obtain ⟨ad, e, hc⟩ := hr 0 (.int .u8 x) rfl
    injection e with e
    subst e
    rw [add_lit] at hc
    have h0 := h.c0
    rw [h0] at hc
    injection hc with hc
    cases hc
set_option maxHeartbeats 1600000 in
theorem copy_any (h : IsImg w g L B D M) : Calls Tryz.prog 49 #[.pointer (some ⟨g, 0, none⟩)] w (RetCopy w g B L M) := by
  have c0 := h.c0
  have c1 := h.c1
  have HH := Lib.hid h
  have HC := Lib.hid (mclone_any (h.below (bl_drew w)))
  clear h
  go_enter Tryz.func49, Tryz.ntmps49
  go_wp2_with fail
  go_region_held3 (fun w' => w'.cell? ⟨g, 0, none⟩ = some (.int .i64 L.length) ∧ w'.cell? ⟨g, 1, none⟩ = some (.map (some B))) (go_keep) ((go_at_call 78; (with_reducible refine HC.out.mono ?_); rintro e w' ⟨rfl, ho, hb⟩; have z0 := (hb.cell (cell_block_lt c0)).trans c0; have z1 := (hb.cell (cell_block_lt c1)).trans c1; have HO := Lib.hid ho; have HB := Lib.hid hb; clear ho hb))
  go_wp2_with fail
  go_ret
  have hI := HH.out.below (bl_drew w)
  have hI2 := hI.below (bl_chain HB.out (bl_alloc w' (.cells #[.int .i64 L.length, .map (some w.drew.heap.size)] 102)))
  refine ⟨w'.heap.size, w.drew.heap.size, D, rfl, ?_, Nat.le_refl w.heap.size, ⟨hI2.ok, Blk.new _ _ _, HO.out.alloc _, hI2.has, fun i hi => ?_, hI2.sz, .inr (.inl rfl), .inr (.inr rfl), fun b hb => ?_⟩, bl_chain (bl_drew w) (bl_chain HB.out (bl_alloc w' _))⟩
  · have := HB.out.size
    have e : w.drew.heap.size = w.heap.size := rfl
    omega
  · obtain ⟨b, h1, h2, h3⟩ := hI2.at_ i hi
    exact ⟨b, h1, .inl ⟨h2, hI2.rd_ne_g h3 hi, hI2.rd_ne h3 (by8_ne hi)⟩, h3⟩
  · rcases hb with h | rfl | rfl
    · exact hI2.mlt b h.1
    · simp
    · have := HO.out.lt
      have e : w.drew.heap.size = w.heap.size := rfl
      simp
      omega
end

section
variable {w w' : World} {s d g F : Nat} {x : ST} {dead : Bool} {L : List (List Int)} {Mi Md Rr : Nat → Prop} {D : Dk.DS}
theorem image_nil (w : World) : Calls Tryz.prog 21 #[.pointer none] w fun e w' => e = .returned (.pointer none) ∧ w = w' := by
  go_enter Tryz.func21, Tryz.ntmps21
  go_wp2_with fail
  go_ret
  exact ⟨rfl, rfl⟩
theorem applied_nil (w : World) : Calls Tryz.prog 22 #[.pointer none] w fun e w' => e = .returned (.int .i64 0) ∧ w = w' := by
  go_enter Tryz.func22, Tryz.ntmps22
  go_wp2_with fail
  go_ret
  exact ⟨rfl, rfl⟩
theorem bdead_nil (w : World) : Calls Tryz.prog 12 #[.pointer none] w fun e w' => e = .returned (.bool false) ∧ w = w' := by
  go_enter Tryz.func12, Tryz.ntmps12
  go_wp2_with fail
  go_ret
  exact ⟨rfl, rfl⟩
theorem applied_any (h : IsSt w s d g F x dead) : Calls Tryz.prog 22 #[.pointer (some ⟨s, 0, none⟩)] w fun e w' => e = .returned (.int .i64 x.n) ∧ w = w' := by
  have c4 := h.cell 4
  simp [stCells] at c4
  clear h
  go_enter Tryz.func22, Tryz.ntmps22
  go_wp2_with fail
  go_ret
  exact ⟨rfl, rfl⟩
theorem bdead_any (h : IsSt w s d g F x dead) : Calls Tryz.prog 12 #[.pointer (some ⟨s, 0, none⟩)] w fun e w' => e = .returned (.bool dead) ∧ w = w' := by
  have c7 := h.cell 7
  simp [stCells] at c7
  clear h
  go_enter Tryz.func12, Tryz.ntmps12
  go_wp2_with fail
  go_ret
  exact ⟨rfl, rfl⟩
theorem image_any (h : IsSt w s d g F x dead) (hi : Img w g L Mi) : Calls Tryz.prog 21 #[.pointer (some ⟨s, 0, none⟩)] w fun e w' => ∃ B, RetCopy w g B L Mi e w' := by
  have c2 := h.cell 2
  simp [stCells] at c2
  obtain ⟨B, D, hI⟩ := hi
  have HC := Lib.hid (copy_any hI)
  clear h hI
  go_enter Tryz.func21, Tryz.ntmps21
  go_wp2_with (first
    | (go_at_call 49; (with_reducible refine HC.out.mono ?_); rintro e w' ⟨g', B', D', rfl, h1, h2, h3, h4⟩; have H3 := Lib.hid h3; have H4 := Lib.hid h4; clear h3 h4))
  go_ret
  exact ⟨B, g', B', D', rfl, h1, h2, H3.out, H4.out⟩

theorem StAt.below (h : StAt w s d g F x dead D Md Rr L Mi) (hb : Below w.heap.size w w') : StAt w' s d g F x dead D Md Rr L Mi :=
  ⟨h.blk.keep hb, h.dsk.below hb, h.img.below hb, h.sd, h.sr, h.si, h.di⟩
theorem StAt.imgTo (h : StAt w s d g F x dead D Md Rr L Mi) {L' : List (List Int)} {Mi' : Nat → Prop} {B : Nat} (hB : Mi B) (hi : Img w' g L' Mi') (hm : ∀ b, Mi' b → Mi b ∨ w.heap.size ≤ b) (ht : Tr (fun b => b = B) w w') : StAt w' s d g F x dead D Md Rr L' Mi' :=
  ⟨ht.blk h.blk (fun e => h.si (e ▸ hB)), h.dsk.tr ht (fun b hb e => (h.di B hB).1 (e ▸ hb)) (fun b hb e => (h.di B hB).2 (e ▸ hb)), hi, h.sd, h.sr, fun hq => (hm s hq).elim h.si (fun e => by have := h.blk.lt; omega),
    fun b hb => (hm b hb).elim (h.di b) (fun e => ⟨fun hq => by have := h.dsk.mlt b hq; omega, fun hq => by have := h.dsk.rlt b hq; omega⟩)⟩
/-- What a call of a store leaves of the memory. -/
structure Aft (s : Nat) (w w' : World) (Md Rr Mi Md' Rr' Mi' : Nat → Prop) : Prop where
  d : ∀ b, Md' b → Md b ∨ w.heap.size ≤ b
  r : ∀ b, Rr' b → Rr b ∨ w.heap.size ≤ b
  i : ∀ b, Mi' b → Mi b ∨ w.heap.size ≤ b
  t : Tr (fun b => Md b ∨ Mi b ∨ b = s) w w'
theorem Aft.refl (s : Nat) (w : World) (Md Rr Mi : Nat → Prop) : Aft s w w Md Rr Mi Md Rr Mi := ⟨fun _ h => .inl h, fun _ h => .inl h, fun _ h => .inl h, Tr.refl _ _⟩
theorem Aft.below {w1 : World} {Md1 Rr1 Mi1 : Nat → Prop} (h : Aft s w w1 Md Rr Mi Md1 Rr1 Mi1) {w2 : World} (hb : Below w1.heap.size w1 w2) : Aft s w w2 Md Rr Mi Md1 Rr1 Mi1 := ⟨h.d, h.r, h.i, h.t.then_below hb⟩
theorem Aft.disk {w1 w2 : World} {Md1 Rr1 Mi1 Md2 Rr2 : Nat → Prop} (h : Aft s w w1 Md Rr Mi Md1 Rr1 Mi1) (hd : ∀ b, Md2 b → Md1 b ∨ w1.heap.size ≤ b) (hr : ∀ b, Rr2 b → Rr1 b ∨ w1.heap.size ≤ b) (ht : Tr (fun b => Md1 b ∨ b = s) w1 w2) : Aft s w w2 Md Rr Mi Md2 Rr2 Mi1 :=
  have hz := h.t.size
  ⟨fun b hb => (hd b hb).elim (h.d b) (fun e => .inr (by omega)), fun b hb => (hr b hb).elim (h.r b) (fun e => .inr (by omega)), h.i,
    h.t.trans ht (fun b hb e => e.elim (fun e => (h.d b e).elim .inl (fun e => by omega)) (fun e => .inr (.inr e)))⟩
theorem Aft.imgTo {w1 w2 : World} {Md1 Rr1 Mi1 Mi2 : Nat → Prop} (h : Aft s w w1 Md Rr Mi Md1 Rr1 Mi1) {B : Nat} (hB : Mi1 B) (hi : ∀ b, Mi2 b → Mi1 b ∨ w1.heap.size ≤ b) (ht : Tr (fun b => b = B) w1 w2) : Aft s w w2 Md Rr Mi Md1 Rr1 Mi2 :=
  have hz := h.t.size
  ⟨h.d, h.r, fun b hb => (hi b hb).elim (h.i b) (fun e => .inr (by omega)), h.t.trans ht (fun b hb e => (h.i b (e ▸ hB)).elim (fun e => .inr (.inl e)) (fun e => by omega))⟩

theorem apply_no (h : IsSt w s d g F x dead) (n : Int) (A : Option Addr) (k c : Nat) (hw : wrongS x dead n ≠ 0) : Calls Tryz.prog 20 #[.pointer (some ⟨s, 0, none⟩), .int .i64 n, .slice A k c] w fun e w' => e = .returned (.int .i64 (wrongS x dead n)) ∧ w = w' := by
  have HW := Lib.hid (swrong_any h n)
  obtain ⟨z, hz⟩ : ∃ z, wrongS x dead n = z := ⟨_, rfl⟩
  rw [hz] at HW hw ⊢
  have k1 : (z != 0) = true := by simpa using hw
  clear h hz
  go_enter Tryz.func20, Tryz.ntmps20
  go_wp2_with (first
    | (go_at_call 48; (with_reducible refine HW.out.mono ?_); rintro e w' ⟨rfl, rfl⟩))
  go_ret
  exact ⟨rfl, rfl⟩
theorem apply_nil (n : Int) (A : Option Addr) (k c : Nat) (w : World) : Calls Tryz.prog 20 #[.pointer none, .int .i64 n, .slice A k c] w fun e w' => e = .returned (.int .i64 2) ∧ w = w' := by
  go_enter Tryz.func20, Tryz.ntmps20
  go_wp2_with (first
    | (go_at_call 48; (with_reducible refine (swrong_nil n w).mono ?_); rintro e w' ⟨rfl, rfl⟩))
  go_ret
  exact ⟨rfl, rfl⟩
set_option maxHeartbeats 1600000 in
theorem apply_bad (h : StAt w s d g F x dead D Md Rr L Mi) (n : Int) (A : Option Addr) (c : Nat) (l : List ChS) (hw : wrongS x dead n = 0) (hl : ChsAt w A l) (hll : l.length ≤ 140737488351232) (hb : changeE L.length l ≠ 0 ∨ 64 < l.length) :
    Calls Tryz.prog 20 #[.pointer (some ⟨s, 0, none⟩), .int .i64 n, .slice A l.length c] w fun e w' => e = .returned (.int .i64 (if changeE L.length l ≠ 0 then 1 else 3)) ∧ Below w.heap.size w w' := by
  have HW := Lib.hid (swrong_any h.blk n)
  rw [hw] at HW
  have c2 := h.blk.cell 2
  simp [stCells] at c2
  obtain ⟨B, E, hI⟩ := h.img
  have HC := Lib.hid (copy_any hI)
  have HL := Lib.hid hl
  obtain ⟨z, hz⟩ : ∃ z, changeE L.length l = z := ⟨_, rfl⟩
  rw [hz] at hb ⊢
  have HZ := Lib.hid hz
  have q1 : z ≠ 0 → (z != 0) = true := fun h => by simpa using h
  have HQ1 := Lib.hid q1
  clear h hI hw hl hz q1
  by_cases h0 : z = 0
  · have h64 : (64 : Int) < (l.length : Int) := by omega
    rw [if_neg (fun h => h h0)]
    subst h0
    clear hb HQ1
    go_enter Tryz.func20, Tryz.ntmps20
    go_wp2_with (first
      | (go_at_call 48; (with_reducible refine HW.out.mono ?_); rintro e w' ⟨rfl, rfl⟩)
      | (go_at_call 49; (with_reducible refine HC.out.mono ?_); rintro e w1 ⟨g', B', D', rfl, h1, h2, h3, h4⟩; have H3 := Lib.hid h3; have H4 := Lib.hid h4; clear h3 h4)
      | (go_at_call 32; (with_reducible refine (change_any H3.out A c l hll (HL.out.below H4.out)).mono ?_); rintro e w2 ⟨D2, M2, rfl, h5, h6, h7⟩; rw [HZ.out]; have H7 := Lib.hid (bl_tr H4.out h7 (fun b e => by omega)); clear h5 h6 h7))
    go_ret
    exact ⟨rfl, H7.out⟩
  · have q2 := HQ1.out h0
    rw [if_pos h0]
    clear hb HQ1
    go_enter Tryz.func20, Tryz.ntmps20
    go_wp2_with (first
      | (go_at_call 48; (with_reducible refine HW.out.mono ?_); rintro e w' ⟨rfl, rfl⟩)
      | (go_at_call 49; (with_reducible refine HC.out.mono ?_); rintro e w1 ⟨g', B', D', rfl, h1, h2, h3, h4⟩; have H3 := Lib.hid h3; have H4 := Lib.hid h4; clear h3 h4)
      | (go_at_call 32; (with_reducible refine (change_any H3.out A c l hll (HL.out.below H4.out)).mono ?_); rintro e w2 ⟨D2, M2, rfl, h5, h6, h7⟩; rw [HZ.out]; have H7 := Lib.hid (bl_tr H4.out h7 (fun b e => by omega)); clear h5 h6 h7))
    go_ret
    exact ⟨rfl, H7.out⟩
end
end Go.Proofs.YthlijldapoeepaaGreat

/- Layer 6: Apply, where it may be done. -/

namespace Go.Proofs.YthlijldapoeepaaGreat
set_option linter.unusedVariables false
set_option linter.unusedSimpArgs false
set_option maxRecDepth 100000
open Go.RowKit Go.Shelf

/-- What a call of a store leaves. -/
structure AR where
  e : Int
  x : ST
  D : Dk.DS
  L : List (List Int)
def jourD (D : Dk.DS) (F : Nat) (x : ST) (n : Int) (l : List ChS) : Dk.DS := Dk.writeD D (F + 2 : Nat) (entryL (x.gen + 1) n (l.map ChS.two))
def applyR (D : Dk.DS) (F : Nat) (x : ST) (L : List (List Int)) (n : Int) (l : List ChS) : AR :=
  if Dk.flushE (jourD D F x n l) ≠ 0 then ⟨Dk.flushE (jourD D F x n l), x, Dk.flushD (jourD D F x n l), L⟩ else
  if markE (Dk.flushD (jourD D F x n l)) F (x.next n x.area 1) ≠ 0 then ⟨markE (Dk.flushD (jourD D F x n l)) F (x.next n x.area 1), x, markD (Dk.flushD (jourD D F x n l)) F (x.next n x.area 1), L⟩ else
  ⟨rowsE (markD (Dk.flushD (jourD D F x n l)) F (x.next n x.area 1)) F (x.next n x.area 1) (chTo L l) (rowsT l),
    if rowsE (markD (Dk.flushD (jourD D F x n l)) F (x.next n x.area 1)) F (x.next n x.area 1) (chTo L l) (rowsT l) = 0 then (x.next n x.area 1).next n x.area 0 else x.next n x.area 1,
    rowsF (markD (Dk.flushD (jourD D F x n l)) F (x.next n x.area 1)) F (x.next n x.area 1) (chTo L l) (rowsT l), chTo L l⟩
/-- A store that can do a call. -/
structure Ready (D : Dk.DS) (F : Nat) (x : ST) (n : Nat) : Prop where
  dead : D.dead = false
  fit : F + 19 + 2 * rowsN n ≤ D.n
  few : D.gs.length < 800000
  gen : ∃ G : Nat, x.gen = (G : Int) ∧ G < 900000
  pos : x.pos
  area : ∃ a : Nat, x.area = (a : Int) ∧ a ≤ 1
  F : F ≤ 100000
def RetAR (w : World) (s d g F : Nat) (Md Rr Mi : Nat → Prop) (r : AR) (e : Ending) (w' : World) : Prop :=
  ∃ Md' Rr' Mi', e = .returned (.int .i64 r.e) ∧ StAt w' s d g F r.x (decide (r.e ≠ 0)) r.D Md' Rr' r.L Mi' ∧ Aft s w w' Md Rr Mi Md' Rr' Mi'
theorem lines_ok {l : List ChS} {n : Nat} (hn : n ≤ 256) (h : chRight n l = true) {w : World} {A : Option Addr} (hl : ChsAt w A l) : ∀ y ∈ l.map ChS.two, lineOk y := by
  intro y hy
  obtain ⟨z, hz, rfl⟩ := List.mem_map.1 hy
  obtain ⟨i, hi, rfl⟩ := List.getElem_of_mem hz
  have h1 := of_decide_eq_true (chRight_at h i hi)
  have h2 := (hl i hi).1.b
  refine ⟨⟨h1.1, by have := h1.2.1; show l[i].lba < 256; omega⟩, ?_⟩
  rcases h1.2.2 with e | e
  · exact .inl (List.eq_nil_of_length_eq_zero e)
  · exact .inr ⟨e, h2⟩
theorem chRight_in {l : List ChS} {n : Nat} (h : chRight n l = true) : ∀ y ∈ l, 0 ≤ y.lba ∧ y.lba < n := by
  intro y hy
  obtain ⟨i, hi, rfl⟩ := List.getElem_of_mem hy
  have h1 := of_decide_eq_true (chRight_at h i hi)
  exact ⟨h1.1, h1.2.1⟩
theorem entryL_length {gen n : Int} {l : List (Int × List Int)} (h : ∀ y ∈ l, lineOk y) : (entryL gen n l).length = 22 + 67 * l.length := by
  unfold entryL
  rw [sealL_length, entryB_length h]
  omega
theorem jour_E {D : Dk.DS} {F : Nat} {x : ST} {m : Nat} (h : Ready D F x m) (gen n : Int) {l : List (Int × List Int)} (hl : ∀ y ∈ l, lineOk y) (h64 : l.length ≤ 64) : Dk.writeE D (F + 2 : Nat) (entryL gen n l) = 0 := by
  have hf := h.fit
  unfold Dk.writeE
  rw [h.dead, if_neg (by simp), if_neg]
  unfold Dk.wrongD
  rw [decide_eq_true_iff]
  have hs : Dk.secs (entryL gen n l) ≤ 17 ∧ 1 ≤ Dk.secs (entryL gen n l) := by unfold Dk.secs; rw [entryL_length hl]; omega
  omega
theorem jour_write {w : World} {d : Nat} {D : Dk.DS} {M R : Nat → Prop} (hd : Dk.IsDisk w d D M R) {A : Option Addr} {c m : Nat} {l : List Int} (hr : Rd w A (by8 l)) (hl : l.length = m) (hm : m ≤ 10000) (hB : isB l) (hfew : D.gs.length < 1000000) (a : Nat) (ha : a ≤ 1000000) (h0 : Dk.writeE D a l = 0) :
    Calls Tryz.prog 50 #[.pointer (some ⟨d, 0, none⟩), .int .i64 (a : Int), .slice A m c] w (Dk.RetW w d M R (Dk.writeD D a l) 0) := by
  subst hl
  have h := Dk.write_any A c l a hd hr hB (by omega) hfew (by omega)
  rw [h0] at h
  exact h
theorem flushD_keeps (D : Dk.DS) : (Dk.flushD D).n = D.n ∨ True := .inr trivial
theorem flushD_few (D : Dk.DS) : (Dk.flushD D).gs.length ≤ D.gs.length := by unfold Dk.flushD; split; exact Nat.le_refl _; split; exact Nat.le_refl _; simp
theorem flushD_n {D : Dk.DS} (h : D.Ok) : (Dk.flushD D).n = D.n := by
  unfold Dk.flushD
  split
  · rfl
  · split
    · rfl
    · show D.now.length / 256 = _
      rw [h.lnow]
      omega
theorem flushE_dead {D : Dk.DS} (h : Dk.flushE D = 0) : (Dk.flushD D).dead = false ∧ (Dk.flushD D).gs = [] ∧ (Dk.flushD D).safe = D.now ∧ (Dk.flushD D).now = D.now ∧ (Dk.flushD D).failing = false ∧ D.dead = false := by
  unfold Dk.flushE at h
  unfold Dk.flushD
  split at h
  · cases h
  · rename_i h1
    rw [if_neg h1]
    split at h
    · cases h
    · rename_i h2
      rw [if_neg h2]
      simp at h1 h2
      exact ⟨h1, rfl, rfl, rfl, h2, h1⟩
theorem writeD_ok {D : Dk.DS} (h : D.Ok) {a : Int} {l : List Int} (hB : isB l) : (Dk.writeD D a l).Ok := by
  unfold Dk.writeD
  split
  · exact h
  · split
    · exact h
    · rename_i h1 h2
      have hw : Dk.wrongD D.n a (Dk.secs l) = false := by simpa using h2
      obtain ⟨q1, q2, q3, q4⟩ := Dk.wrongD_no hw
      exact Dk.put_ok h (Dk.pad_isB hB) (k := Dk.secs l) (by omega) (Dk.pad_length l) (by omega)
theorem flushD_ok {D : Dk.DS} (h : D.Ok) : (Dk.flushD D).Ok := by
  have hn := flushD_n h
  unfold Dk.flushD at hn ⊢
  split
  · exact h
  · rename_i h1
    rw [if_neg h1] at hn
    split
    · exact ⟨h.pos, h.most, h.len, h.lnow, h.bs, h.bn, h.gs⟩
    · rename_i h2
      rw [if_neg h2] at hn
      have hp := h.pos
      have hm := h.most
      exact ⟨by rw [hn]; exact hp, by rw [hn]; exact hm, by rw [hn]; exact h.lnow, by rw [hn]; exact h.lnow, h.bn, h.bn, fun x hx => by simp at hx⟩
theorem markD_ok {D : Dk.DS} (h : D.Ok) (F : Nat) (x : ST) : (markD D F x).Ok := by
  unfold markD
  have h1 := writeD_ok h (a := markAt F x) x.sector_isB
  split
  · exact flushD_ok h1
  · exact h1
theorem markD_n {D : Dk.DS} (h : D.Ok) (F : Nat) (x : ST) : (markD D F x).n = D.n := by
  unfold markD
  have h1 := writeD_ok h (a := markAt F x) x.sector_isB
  split
  · rw [flushD_n h1, writeD_n]
  · exact writeD_n _ _ _
theorem markE_zero {D : Dk.DS} {F : Nat} {x : ST} (h : markE D F x = 0) : markD D F x = Dk.flushD (Dk.writeD D (markAt F x) x.sector) ∧ Dk.writeE D (markAt F x) x.sector = 0 ∧ Dk.flushE (Dk.writeD D (markAt F x) x.sector) = 0 := by
  unfold markE at h
  unfold markD
  split at h
  · rename_i h1
    exact ⟨if_pos h1, h1, h⟩
  · rename_i h1
    exact absurd h h1
section
variable {w : World} {s d g F : Nat} {x : ST} {dead : Bool} {L : List (List Int)} {Mi Md Rr : Nat → Prop} {D : Dk.DS}
theorem StAt.died {w' : World} {dead' : Bool} (h : StAt w s d g F x dead D Md Rr L Mi) (hb : IsSt w' s d g F x dead') (ht : Tr (fun b => b = s) w w') : StAt w' s d g F x dead' D Md Rr L Mi :=
  h.after hb (h.dsk.tr ht (fun b hb e => h.sd (e ▸ hb)) (fun b hb e => h.sr (e ▸ hb))) (ht.mono (fun _ _ h => .inr h)) (fun _ h => .inl h) (fun _ h => .inl h)
theorem Aft.died {w' w'' : World} {Md' Rr' Mi' : Nat → Prop} (h : Aft s w w' Md Rr Mi Md' Rr' Mi') (ht : Tr (fun b => b = s) w' w'') : Aft s w w'' Md Rr Mi Md' Rr' Mi' := h.disk (fun _ h => .inl h) (fun _ h => .inl h) (ht.mono (fun _ _ h => .inr h))
set_option maxHeartbeats 6400000 in
theorem apply_go (h : StAt w s d g F x dead D Md Rr L Mi) (n : Int) (A : Option Addr) (c : Nat) (l : List ChS) (hw : wrongS x dead n = 0) (hl : ChsAt w A l) (h64 : l.length ≤ 64) (hc : chRight L.length l = true) (hR : Ready D F x L.length) (hN : ∀ w', Tr (fun b => Md b ∨ Mi b ∨ b = s) w w' → ChsAt w' A l) :
    Calls Tryz.prog 20 #[.pointer (some ⟨s, 0, none⟩), .int .i64 n, .slice A l.length c] w (RetAR w s d g F Md Rr Mi (applyR D F x L n l)) := by
  have HW := Lib.hid (swrong_any h.blk n)
  rw [hw] at HW
  have hn : 0 ≤ n ∧ n ≤ 1152921504606846976 := by
    unfold wrongS at hw
    split at hw
    · cases hw
    · split at hw
      · cases hw
      · have := hR.pos.2.1.1; omega
  have hdd : dead = false := by
    unfold wrongS at hw
    cases dead with
    | false => rfl
    | true => cases hw
  subst hdd
  have c2 := h.blk.cell 2
  simp [stCells] at c2
  obtain ⟨B, E, hI⟩ := h.img
  have HC := Lib.hid (copy_any hI)
  have h256 := h.img.ok.hi
  have HL := Lib.hid hl
  have HLO := Lib.hid (lines_ok h256 hc hl)
  have HIN := Lib.hid (chRight_in hc)
  have HZ : Hid (changeE L.length l = 0 ∧ changeL L l = chTo L l) := Lib.hid ⟨if_pos hc, if_pos hc⟩
  have HH := Lib.hid h
  have HR := Lib.hid hR
  have HN := Lib.hid hN
  clear hN
  obtain ⟨G, hG, hG2⟩ := hR.gen
  have HG := Lib.hid hG
  have HJE := Lib.hid (jour_E hR (x.gen + 1) n HLO.out (by rw [List.length_map]; exact h64))
  have HJL : Hid ((entryL (x.gen + 1) n (l.map ChS.two)).length = 22 + 67 * l.length) := Lib.hid (by have := entryL_length (gen := x.gen + 1) (n := n) HLO.out; rwa [List.length_map] at this)
  have HJB : Hid (isB (entryL (x.gen + 1) n (l.map ChS.two))) := Lib.hid (sealL_isB (entryB_isB HLO.out))
  have hj1 : jourD D F x n l = Dk.writeD D (F + 2 : Nat) (entryL (x.gen + 1) n (l.map ChS.two)) := rfl
  have hfit := hR.fit
  have hmost := h.dsk.ok.most
  have hFF := hR.F
  have HEN := Lib.hid (fun (W : World) (hl : ChsAt W A l) => entry_any A c l (x.gen + 1) n (by omega) (by omega) W hl h64 HLO.out)
  rw [hG] at HEN
  have hgw : IntKind.i64.wrap ((G : Int) + 1) = (G : Int) + 1 := by rw [IntKind.wrap_i64]; omega
  have HAR : Hid (applyR D F x L n l = _) := Lib.hid (by unfold applyR; rfl)
  rw [hj1] at HAR
  rw [hG] at HJE HJL HJB
  rw [show x.gen + 1 = (G : Int) + 1 by rw [hG]] at HAR
  obtain ⟨jl, hjl⟩ : ∃ jl, entryL ((G : Int) + 1) n (l.map ChS.two) = jl := ⟨_, rfl⟩
  rw [hjl] at HJE HJL HJB HEN HAR
  obtain ⟨z, hz⟩ : ∃ z, F + 2 = z := ⟨_, rfl⟩
  rw [hz] at HJE HAR
  clear hjl hj1 h hI hw hl hc hR hG
  go_enter Tryz.func20, Tryz.ntmps20
  go_wp2_with (first
    | (go_at_call 48; (with_reducible refine HW.out.mono ?_); rintro e w' ⟨rfl, rfl⟩)
    | (go_at_call 49; (with_reducible refine HC.out.mono ?_); rintro e w1 ⟨g', B', D', rfl, h1, h2, h3, h4⟩; have H3 := Lib.hid h3; have H4 := Lib.hid h4; clear h3 h4)
    | (go_at_call 32; (with_reducible refine (change_any H3.out A c l (by omega) (HL.out.below H4.out)).mono ?_); rintro e w2 ⟨D2, M2, rfl, h5, h6, h7⟩; rw [HZ.out.1]; have B2 := Lib.hid (bl_tr H4.out h7 (fun b e => by omega)); clear h5 h6 h7))
  have HST2 := Lib.hid (HH.out.below B2.out)
  have HL2 := Lib.hid (HL.out.below B2.out)
  have c0 := HST2.out.blk.cell 0
  have c1 := HST2.out.blk.cell 1
  have c3 := HST2.out.blk.cell 3
  simp [stCells] at c0 c1 c3
  rw [HG.out] at c3
  have HSS : Hid (w2.drew.cell? ⟨s, 0, none⟩ = some (.pointer (some ⟨d, 0, none⟩)) ∧ w2.drew.cell? ⟨s, 1, none⟩ = some (.int .i64 (F : Int)) ∧ w2.drew.cell? ⟨s, 3, none⟩ = some (.int .i64 (G : Int))) := Lib.hid ⟨c0, c1, c3⟩
  clear c0 c1 c2 c3
  have hF2 : (F : Int) + 2 = (z : Int) := by omega
  have hwz : IntKind.i64.wrap (z : Int) = z := by rw [IntKind.wrap_i64]; omega
  refine held_startB (S := fun W => W.cell? ⟨s, 0, none⟩ = some (.pointer (some ⟨d, 0, none⟩)) ∧ W.cell? ⟨s, 1, none⟩ = some (.int .i64 (F : Int)) ∧ W.cell? ⟨s, 3, none⟩ = some (.int .i64 (G : Int))) (by kernel_rfl) ?_
  refine held_take (HSS.out) (i := 0) (v := ?_) rfl (by kernel_rfl) (by kernel_rfl) (by kernel_rfl) (fun _ _ _ h => h) (Or.inl ⟨by rfl, ?_⟩) ?_
  rotate_left
  · (intro W hSw; obtain ⟨s1, s2, s3⟩ := hSw; go_simp; try with_reducible rfl)
  try simp only [Act.put, List.setIfInBounds_toArray, List.set_cons_zero, List.set_cons_succ]
  refine held_take (HSS.out) (i := 1) (v := ?_) rfl (by kernel_rfl) (by kernel_rfl) (by kernel_rfl) (fun _ _ _ h => h) (Or.inl ⟨by rfl, ?_⟩) ?_
  rotate_left
  · (intro W hSw; obtain ⟨s1, s2, s3⟩ := hSw; go_simp; try with_reducible rfl)
  try simp only [Act.put, List.setIfInBounds_toArray, List.set_cons_zero, List.set_cons_succ]
  refine held_take (HSS.out) (i := 2) (v := ?_) rfl (by kernel_rfl) (by kernel_rfl) (by kernel_rfl) (fun _ _ _ h => h) (Or.inl ⟨by rfl, ?_⟩) ?_
  rotate_left
  · (intro W hSw; obtain ⟨s1, s2, s3⟩ := hSw; go_simp; try with_reducible rfl)
  try simp only [Act.put, List.setIfInBounds_toArray, List.set_cons_zero, List.set_cons_succ]
  refine held_take (HSS.out) (i := 3) (v := ?_) rfl (by kernel_rfl) (by kernel_rfl) (by kernel_rfl) (fun _ _ _ h => h) (Or.inl ⟨by rfl, ?_⟩) ?_
  rotate_left
  · (intro W hSw; obtain ⟨s1, s2, s3⟩ := hSw; go_simp; try with_reducible rfl)
  try simp only [Act.put, List.setIfInBounds_toArray, List.set_cons_zero, List.set_cons_succ]
  refine held_take (HSS.out) (i := 4) (v := ?_) rfl (by kernel_rfl) (by kernel_rfl) (by kernel_rfl) (fun _ _ _ h => h) (Or.inl ⟨by rfl, ?_⟩) ?_
  rotate_left
  · (intro W hSw; obtain ⟨s1, s2, s3⟩ := hSw; go_simp; try with_reducible rfl)
  try simp only [Act.put, List.setIfInBounds_toArray, List.set_cons_zero, List.set_cons_succ]
  refine held_take (HSS.out) (i := 5) (v := ?_) rfl (by kernel_rfl) (by kernel_rfl) (by kernel_rfl) (fun _ _ _ h => h) (Or.inl ⟨by rfl, ?_⟩) ?_
  rotate_left
  · (intro W hSw; obtain ⟨s1, s2, s3⟩ := hSw; go_simp; try with_reducible rfl)
  try simp only [Act.put, List.setIfInBounds_toArray, List.set_cons_zero, List.set_cons_succ]
  refine held_take (HSS.out) (i := 6) (v := ?_) rfl (by kernel_rfl) (by kernel_rfl) (by kernel_rfl) (fun _ _ _ h => h) (Or.inl ⟨by rfl, ?_⟩) ?_
  rotate_left
  · (intro W hSw; obtain ⟨s1, s2, s3⟩ := hSw; go_simp; try with_reducible rfl)
  try simp only [Act.put, List.setIfInBounds_toArray, List.set_cons_zero, List.set_cons_succ]
  refine held_take (HSS.out) (i := 7) (v := ?_) rfl (by kernel_rfl) (by kernel_rfl) (by kernel_rfl) (fun _ _ _ h => h) (Or.inl ⟨by rfl, ?_⟩) ?_
  rotate_left
  · (intro W hSw; obtain ⟨s1, s2, s3⟩ := hSw; go_simp; try with_reducible rfl)
  try simp only [Act.put, List.setIfInBounds_toArray, List.set_cons_zero, List.set_cons_succ]
  refine held_take (HSS.out) (i := 8) (v := ?_) rfl (by kernel_rfl) (by kernel_rfl) (by kernel_rfl) (fun _ _ _ h => h) (Or.inl ⟨by rfl, ?_⟩) ?_
  rotate_left
  · (intro W hSw; obtain ⟨s1, s2, s3⟩ := hSw; go_simp; try with_reducible rfl)
  try simp only [Act.put, List.setIfInBounds_toArray, List.set_cons_zero, List.set_cons_succ]
  refine held_take (HSS.out) (i := 9) (v := ?_) rfl (by kernel_rfl) (by kernel_rfl) (by kernel_rfl) (fun _ _ _ h => h) (Or.inl ⟨by rfl, ?_⟩) ?_
  rotate_left
  · (intro W hSw; obtain ⟨s1, s2, s3⟩ := hSw; go_simp; try with_reducible rfl)
  try simp only [Act.put, List.setIfInBounds_toArray, List.set_cons_zero, List.set_cons_succ]
  refine held_take (HSS.out) (i := 10) (v := ?_) rfl (by kernel_rfl) (by kernel_rfl) (by kernel_rfl) (fun _ _ _ h => h) (Or.inl ⟨by rfl, ?_⟩) ?_
  rotate_left
  · (intro W hSw; obtain ⟨s1, s2, s3⟩ := hSw; go_simp; try with_reducible rfl)
  try simp only [Act.put, List.setIfInBounds_toArray, List.set_cons_zero, List.set_cons_succ]
  refine held_take (HSS.out) (i := 11) (v := ?_) rfl (by kernel_rfl) (by kernel_rfl) (by kernel_rfl) (fun _ _ _ h => h) (Or.inl ⟨by rfl, ?_⟩) ?_
  rotate_left
  · (intro W hSw; obtain ⟨s1, s2, s3⟩ := hSw; go_simp; try with_reducible rfl)
  try simp only [Act.put, List.setIfInBounds_toArray, List.set_cons_zero, List.set_cons_succ]
  refine held_take (HSS.out) (i := 12) (v := ?_) rfl (by kernel_rfl) (by kernel_rfl) (by kernel_rfl) (fun _ _ _ h => h) (Or.inl ⟨by rfl, ?_⟩) ?_
  rotate_left
  · (intro W hSw; obtain ⟨s1, s2, s3⟩ := hSw; go_simp; try with_reducible rfl)
  try simp only [Act.put, List.setIfInBounds_toArray, List.set_cons_zero, List.set_cons_succ]
  refine held_take (HSS.out) (i := 13) (v := ?_) rfl (by kernel_rfl) (by kernel_rfl) (by kernel_rfl) (fun _ _ _ h => h) (Or.inl ⟨by rfl, ?_⟩) ?_
  rotate_left
  · (intro W hSw; obtain ⟨s1, s2, s3⟩ := hSw; go_simp; try with_reducible rfl)
  try simp only [Act.put, List.setIfInBounds_toArray, List.set_cons_zero, List.set_cons_succ]
  refine held_take (HSS.out) (i := 14) (v := ?_) rfl (by kernel_rfl) (by kernel_rfl) (by kernel_rfl) (fun _ _ _ h => h) (Or.inl ⟨by rfl, ?_⟩) ?_
  rotate_left
  · (intro W hSw; obtain ⟨s1, s2, s3⟩ := hSw; go_simp; try with_reducible rfl)
  try simp only [Act.put, List.setIfInBounds_toArray, List.set_cons_zero, List.set_cons_succ]
  refine held_take (HSS.out) (i := 15) (v := ?_) rfl (by kernel_rfl) (by kernel_rfl) (by kernel_rfl) (fun _ _ _ h => h) (Or.inl ⟨by rfl, ?_⟩) ?_
  rotate_left
  · (intro W hSw; obtain ⟨s1, s2, s3⟩ := hSw; go_simp; try with_reducible rfl)
  try simp only [Act.put, List.setIfInBounds_toArray, List.set_cons_zero, List.set_cons_succ]
  refine held_take (HSS.out) (i := 16) (v := ?_) rfl (by kernel_rfl) (by kernel_rfl) (by kernel_rfl) (fun _ _ _ h => h) (Or.inl ⟨by rfl, ?_⟩) ?_
  rotate_left
  · (intro W hSw; obtain ⟨s1, s2, s3⟩ := hSw; go_simp; try with_reducible rfl)
  try simp only [Act.put, List.setIfInBounds_toArray, List.set_cons_zero, List.set_cons_succ]
  refine held_call (i := 17) (by kernel_rfl) rfl (fun K hK => ?_)
  go_simp
  (go_at_call 51; (with_reducible refine (HEN.out _ (HL2.out.below (bl_drew w2))).mono ?_); rintro e w3 ⟨A3, c3, m3, hm3, rfl, hc3, ho3, hb3⟩; have HO3 := Lib.hid ho3; have B3 := Lib.hid (bl_chain (bl_drew w2) hb3); have HM3 := Lib.hid hm3; have HS3 := Lib.hid (show w3.cell? ⟨s, 0, none⟩ = some (.pointer (some ⟨d, 0, none⟩)) ∧ w3.cell? ⟨s, 1, none⟩ = some (.int .i64 (F : Int)) ∧ w3.cell? ⟨s, 3, none⟩ = some (.int .i64 (G : Int)) from ⟨(hb3.cell (cell_block_lt HSS.out.1)).trans HSS.out.1, (hb3.cell (cell_block_lt HSS.out.2.1)).trans HSS.out.2.1, (hb3.cell (cell_block_lt HSS.out.2.2)).trans HSS.out.2.2⟩); clear hm3 ho3 hb3)
  refine hK.out _ _ (HS3.out) ?_
  clear hK K
  try simp only [Act.put, List.setIfInBounds_toArray, List.set_cons_zero, List.set_cons_succ]
  refine held_call (i := 18) (by kernel_rfl) rfl (fun K hK => ?_)
  go_simp
  (have HWR := jour_write (c := c3) (HST2.out.dsk.below B3.out) (Rd.of_own HO3.out) (HJL.out.trans HM3.out.symm) (by have := HM3.out; omega) HJB.out (by have := HR.out.few; omega) z (by omega) HJE.out; go_at_call 50; (with_reducible refine HWR.mono ?_); rintro e w4 ⟨rfl, M4, R4, hd4, hm4, hr4, ht4⟩; have HS4 := Lib.hid (show w4.cell? ⟨s, 0, none⟩ = some (.pointer (some ⟨d, 0, none⟩)) ∧ w4.cell? ⟨s, 1, none⟩ = some (.int .i64 (F : Int)) ∧ w4.cell? ⟨s, 3, none⟩ = some (.int .i64 (G : Int)) from ⟨(ht4.cell (cell_block_lt HS3.out.1) HH.out.sd).trans HS3.out.1, (ht4.cell (cell_block_lt HS3.out.2.1) HH.out.sd).trans HS3.out.2.1, (ht4.cell (cell_block_lt HS3.out.2.2) HH.out.sd).trans HS3.out.2.2⟩); have HD4 := Lib.hid hd4; have HM4 := Lib.hid hm4; have HR4 := Lib.hid hr4; have HT4 := Lib.hid ht4; clear hd4 hm4 hr4 ht4 HWR)
  refine hK.out _ _ (HS4.out) ?_
  clear hK K
  try simp only [Act.put, List.setIfInBounds_toArray, List.set_cons_zero, List.set_cons_succ]
  refine held_take (HS4.out) (i := 19) (v := ?_) rfl (by kernel_rfl) (by kernel_rfl) (by kernel_rfl) (fun _ _ _ h => h) (Or.inl ⟨by rfl, ?_⟩) ?_
  rotate_left
  · (intro W hSw; obtain ⟨s1, s2, s3⟩ := hSw; go_simp; try with_reducible rfl)
  try simp only [Act.put, List.setIfInBounds_toArray, List.set_cons_zero, List.set_cons_succ]
  refine wpAnyH_done (by kernel_rfl) ?_ _
  have hst4 : StAt w4 s d g F x false (Dk.writeD D (z : Int) jl) M4 R4 L Mi := (HST2.out.below B3.out).after (HT4.out.blk (HST2.out.below B3.out).blk HH.out.sd) HD4.out (HT4.out.mono (fun _ _ h => .inl h)) HM4.out HR4.out
  have haf4 : Aft s w w4 Md Rr Mi M4 R4 Mi := (((Aft.refl s w Md Rr Mi).below B2.out).below B3.out).disk HM4.out HR4.out (HT4.out.mono (fun _ _ h => .inl h))
  have hok4 := hst4.dsk.ok
  have hn4 : (Dk.writeD D (z : Int) jl).n = D.n := writeD_n _ _ _
  have hg4 : (Dk.writeD D (z : Int) jl).gs.length ≤ D.gs.length + 1 := writeD_few _ _ _
  have HST4 := Lib.hid hst4
  have AF4 := Lib.hid haf4
  have c0 := hst4.blk.cell 0
  simp [stCells] at c0
  clear hst4 haf4 HD4 HM4 HR4 HT4 HS4 HS3 HO3 B3 HSS HC H3 H4 HJE HJL HJB HEN hgw hF2 hwz
  generalize Dk.writeD D (z : Int) jl = D1 at HST4 HAR hok4 hn4 hg4
  obtain ⟨e1, he1⟩ : ∃ e1, Dk.flushE D1 = e1 := ⟨_, rfl⟩
  have HFL := Lib.hid (Dk.flush_any HST4.out.dsk)
  rw [he1] at HFL HAR
  by_cases h1 : e1 = 0
  · subst h1
    have hfd := flushE_dead he1
    have HD1 : Hid ((Dk.flushD D1).Ok ∧ (Dk.flushD D1).n = D.n ∧ (Dk.flushD D1).gs = [] ∧ (Dk.flushD D1).dead = false) := Lib.hid ⟨flushD_ok hok4, (flushD_n hok4).trans hn4, hfd.2.1, hfd.1⟩
    have HAR2 := Lib.hid (HAR.out.trans (if_neg (by simp)))
    clear HAR he1 hfd hok4 hn4 hg4
    generalize Dk.flushD D1 = D2 at HFL HD1 HAR2
    obtain ⟨a, ha, ha1⟩ := HR.out.area
    have HX1 : Hid ((x.next n x.area 1).pos) := Lib.hid ⟨⟨by simp only [ST.next]; have := HG.out; omega, by simp only [ST.next]; have := HG.out; omega⟩, ⟨hn.1, by simp only [ST.next]; omega⟩, HR.out.pos.2.2.1, by simp [ST.next]⟩
    have HAE := Lib.hid ha
    clear ha
    have HMK := Lib.hid (fun (W : World) (M5 R5 : Nat → Prop) (h : StAt W s d g F x false D2 M5 R5 L Mi) => mark_any h n x.area 1 G HG.out (by omega) HX1.out (by rw [HD1.out.2.2.1]; simp) hFF)
    obtain ⟨e2, he2⟩ : ∃ e2, markE D2 F (x.next n x.area 1) = e2 := ⟨_, rfl⟩
    have HD3 : Hid (e2 = 0 → (markD D2 F (x.next n x.area 1)).Ok ∧ (markD D2 F (x.next n x.area 1)).n = D.n ∧ (markD D2 F (x.next n x.area 1)).gs = [] ∧ (markD D2 F (x.next n x.area 1)).dead = false) := Lib.hid (fun e => by
      rw [e] at he2
      obtain ⟨q1, q2, q3⟩ := markE_zero he2
      have q4 := flushE_dead q3
      refine ⟨markD_ok HD1.out.1 _ _, (markD_n HD1.out.1 _ _).trans HD1.out.2.1, ?_, ?_⟩
      · rw [q1]; exact q4.2.1
      · rw [q1]; exact q4.1)
    unfold RetMark at HMK
    rw [he2] at HMK HAR2
    clear he2
    generalize markD D2 F (x.next n x.area 1) = D3 at HMK HAR2 HD3
    by_cases h2 : e2 = 0
    · subst h2
      have HD3' := Lib.hid (HD3.out rfl)
      have HAR3 := Lib.hid (HAR2.out.trans (if_neg (by simp)))
      rw [if_pos rfl] at HMK
      have HLL : Hid ((chTo L l).length = L.length) := Lib.hid (chTo_length l L)
      have HRO := Lib.hid (fun (W : World) (M7 R7 Mi7 : Nat → Prop) (h : StAt W s d g F (x.next n x.area 1) false D3 M7 R7 (chTo L l) Mi7) (hl : ChsAt W A l) =>
        srows_any h A c l hl h64 (by rw [HLL.out]; exact HIN.out) a HAE.out ha1 HD3'.out.2.2.2 (by rw [HLL.out, HD3'.out.2.1]; exact hfit) (by rw [HD3'.out.2.2.1]; simp) (G + 1) (by simp only [ST.next]; have := HG.out; omega) (by omega) HX1.out hFF)
      clear HD3 HAR2
      obtain ⟨e3, he3⟩ : ∃ e3, rowsE D3 F (x.next n x.area 1) (chTo L l) (rowsT l) = e3 := ⟨_, rfl⟩
      unfold RetRows at HRO
      rw [he3] at HRO HAR3
      clear he3
      have HAR4 : Hid (applyR D F x L n l = ⟨e3, if e3 = 0 then (x.next n x.area 1).next (x.next n x.area 1).n (x.next n x.area 1).area 0 else x.next n x.area 1, rowsF D3 F (x.next n x.area 1) (chTo L l) (rowsT l), chTo L l⟩) := Lib.hid HAR3.out
      clear HAR3
      obtain ⟨x3, hx3⟩ : ∃ x3, (if e3 = 0 then (x.next n x.area 1).next (x.next n x.area 1).n (x.next n x.area 1).area 0 else x.next n x.area 1) = x3 := ⟨_, rfl⟩
      rw [hx3] at HRO HAR4
      clear hx3
      generalize rowsF D3 F (x.next n x.area 1) (chTo L l) (rowsT l) = D4 at HRO HAR4
      go_wp2_with (first
        | (go_at_call 52; (with_reducible refine HFL.out.mono ?_); rintro e w5 ⟨rfl, hd5, ht5⟩; have HST5 := Lib.hid (HST4.out.after (ht5.blk HST4.out.blk HST4.out.sd) hd5 (ht5.mono (fun _ _ h => .inl h)) (fun _ h => .inl h) (fun _ h => .inl h)); have AF5 := Lib.hid (AF4.out.disk (fun _ h => .inl h) (fun _ h => .inl h) (ht5.mono (fun _ _ h => .inl h))); have c5 := HST5.out.blk.cell 5; simp [stCells] at c5; clear hd5 ht5)
        | (go_at_call 53; (with_reducible refine (HMK.out _ _ _ HST5.out).mono ?_); rintro e w6 ⟨M6, R6, rfl, hst6, hm6, hr6, ht6⟩; have AF6 := Lib.hid (AF5.out.disk hm6 hr6 ht6); have HST6 := Lib.hid hst6; have c2 := hst6.blk.cell 2; simp [stCells] at c2; obtain ⟨B6, E6, hI6⟩ := hst6.img; have HI6 := Lib.hid hI6; have HL6 := Lib.hid (HN.out _ AF6.out.t); clear hst6 hm6 hr6 ht6 hI6)
        | (go_at_call 32; (with_reducible refine (change_any HI6.out A c l (by omega) HL6.out).mono ?_); rintro e w7 ⟨D7, M7, rfl, hi7, hm7, ht7⟩; rw [HZ.out.2] at hi7; have HST7 := Lib.hid (HST6.out.imgTo HI6.out.mB hi7.toImg hm7 ht7); have AF7 := Lib.hid (AF6.out.imgTo HI6.out.mB hm7 ht7); have HL7 := Lib.hid (HN.out _ AF7.out.t); clear hi7 hm7 ht7)
        | (go_at_call 33; (with_reducible refine (HRO.out _ _ _ _ HST7.out HL7.out).mono ?_); rintro e w8 ⟨M8, R8, rfl, hst8, hm8, hr8, ht8⟩; have AF8 := Lib.hid (AF7.out.disk hm8 hr8 ht8); have HST8 := Lib.hid hst8; clear hst8 hm8 hr8 ht8)
        | (go_at_call 54; (with_reducible refine (died_any HST8.out.blk _).mono ?_); rintro e w9 ⟨rfl, hb9, ht9⟩; have HB9 := Lib.hid hb9; have HT9 := Lib.hid ht9; clear hb9 ht9))
      go_ret
      rw [HAR4.out]
      exact ⟨M8, R8, M7, rfl, HST8.out.died HB9.out HT9.out, AF8.out.died HT9.out⟩
    · have HAR3 := Lib.hid (HAR2.out.trans (if_pos h2))
      rw [if_neg h2] at HMK
      have k2 : (e2 == 0) = false := by simpa using h2
      clear HAR2 h2 HD3
      go_wp2_with (first
        | (go_at_call 52; (with_reducible refine HFL.out.mono ?_); rintro e w5 ⟨rfl, hd5, ht5⟩; have HST5 := Lib.hid (HST4.out.after (ht5.blk HST4.out.blk HST4.out.sd) hd5 (ht5.mono (fun _ _ h => .inl h)) (fun _ h => .inl h) (fun _ h => .inl h)); have AF5 := Lib.hid (AF4.out.disk (fun _ h => .inl h) (fun _ h => .inl h) (ht5.mono (fun _ _ h => .inl h))); have c5 := HST5.out.blk.cell 5; simp [stCells] at c5; clear hd5 ht5)
        | (go_at_call 53; (with_reducible refine (HMK.out _ _ _ HST5.out).mono ?_); rintro e w6 ⟨M6, R6, rfl, hst6, hm6, hr6, ht6⟩; have AF6 := Lib.hid (AF5.out.disk hm6 hr6 ht6); have HST6 := Lib.hid hst6; clear hst6 hm6 hr6 ht6)
        | (go_at_call 54; (with_reducible refine (died_any HST6.out.blk _).mono ?_); rintro e w9 ⟨rfl, hb9, ht9⟩; have HB9 := Lib.hid hb9; have HT9 := Lib.hid ht9; clear hb9 ht9))
      go_ret
      rw [HAR3.out]
      exact ⟨M6, R6, Mi, rfl, HST6.out.died HB9.out HT9.out, AF6.out.died HT9.out⟩
  · have HAR2 := Lib.hid (HAR.out.trans (if_pos h1))
    have k1 : (e1 == 0) = false := by simpa using h1
    have HH1 := Lib.hid h1
    clear HAR he1 h1 hok4 hn4 hg4
    generalize Dk.flushD D1 = D2 at HFL HAR2
    go_wp2_with (first
      | (go_at_call 52; (with_reducible refine HFL.out.mono ?_); rintro e w5 ⟨rfl, hd5, ht5⟩; have HST5 := Lib.hid (HST4.out.after (ht5.blk HST4.out.blk HST4.out.sd) hd5 (ht5.mono (fun _ _ h => .inl h)) (fun _ h => .inl h) (fun _ h => .inl h)); have AF5 := Lib.hid (AF4.out.disk (fun _ h => .inl h) (fun _ h => .inl h) (ht5.mono (fun _ _ h => .inl h))); clear hd5 ht5)
      | (go_at_call 54; (with_reducible refine (died_any HST5.out.blk _).mono ?_); rintro e w6 ⟨rfl, hb6, ht6⟩; have HB6 := Lib.hid hb6; have HT6 := Lib.hid ht6; clear hb6 ht6))
    go_ret
    rw [HAR2.out]
    exact ⟨M4, R4, Mi, rfl, HST5.out.died HB6.out HT6.out, AF5.out.died HT6.out⟩
end
end Go.Proofs.YthlijldapoeepaaGreat

/- Layer 6: Replace. -/

namespace Go.Proofs.YthlijldapoeepaaGreat
set_option linter.unusedVariables false
set_option linter.unusedSimpArgs false
set_option maxRecDepth 100000
open Go.RowKit Go.Shelf

def replD (D : Dk.DS) (F : Nat) (x : ST) (L2 : List (List Int)) : Dk.DS := rowsD D F (1 - x.area).toNat L2 (List.range (rowsN L2.length))
def replR (D : Dk.DS) (F : Nat) (x : ST) (L : List (List Int)) (n : Int) (L2 : List (List Int)) : AR :=
  if Dk.flushE (replD D F x L2) ≠ 0 then ⟨Dk.flushE (replD D F x L2), x, Dk.flushD (replD D F x L2), L⟩ else
  if markE (Dk.flushD (replD D F x L2)) F (x.next n (1 - x.area) 0) ≠ 0 then ⟨markE (Dk.flushD (replD D F x L2)) F (x.next n (1 - x.area) 0), x, markD (Dk.flushD (replD D F x L2)) F (x.next n (1 - x.area) 0), L⟩ else
  ⟨0, x.next n (1 - x.area) 0, markD (Dk.flushD (replD D F x L2)) F (x.next n (1 - x.area) 0), L2⟩
def RetRep (w : World) (s d F : Nat) (Md Rr Mi Mm : Nat → Prop) (r : AR) (e : Ending) (w' : World) : Prop :=
  ∃ g' Md' Rr' Mi', e = .returned (.int .i64 r.e) ∧ StAt w' s d g' F r.x (decide (r.e ≠ 0)) r.D Md' Rr' r.L Mi' ∧ Aft s w w' Md Rr (fun b => Mi b ∨ Mm b) Md' Rr' Mi' ∧ Tr (fun b => Md b ∨ b = s) w w'
section
variable {w w' : World} {s d g gm F : Nat} {x : ST} {dead : Bool} {L L2 : List (List Int)} {Mi Mm Md Rr : Nat → Prop} {D : Dk.DS}
theorem size_drew {w : World} {g : Nat} {L : List (List Int)} {M : Nat → Prop} (h : Img w g L M) (k : Nat) : Calls Tryz.prog 59 #[.pointer (some ⟨g, 0, none⟩)] (w.drewN k) fun e w' => e = .returned (.int .i64 L.length) ∧ w' = w.drewN k :=
  (size_any (h.drewN k)).mono (fun _ _ ⟨a, b⟩ => ⟨a, b.symm⟩)
set_option maxHeartbeats 1600000 in
theorem replace_no (h : StAt w s d g F x dead D Md Rr L Mi) (hm : Img w gm L2 Mm) (hl : L2.length = L.length) (n : Int) (hw : wrongS x dead n ≠ 0) : Calls Tryz.prog 40 #[.pointer (some ⟨s, 0, none⟩), .int .i64 n, .pointer (some ⟨gm, 0, none⟩)] w fun e w' => e = .returned (.int .i64 (wrongS x dead n)) ∧ Below w.heap.size w w' := by
  have c2 := h.blk.cell 2
  have c4 := h.blk.cell 4
  have c7 := h.blk.cell 7
  simp [stCells] at c2 c4 c7
  have hS1 := Lib.hid (fun k => size_drew h.img k)
  have hS2 := Lib.hid (fun k => size_drew hm k)
  rw [hl] at hS2
  have HW : Hid (wrongS x dead n = if dead = true then 21 else if n ≤ x.n ∨ 1152921504606846976 < n then 1 else 0) := Lib.hid rfl
  clear h hm hl
  cases dead with
  | true =>
    clear hw
    go_enter Tryz.func40, Tryz.ntmps40
    go_wp2_with fail
    go_ret
    exact ⟨by rw [HW.out]; rfl, Below.refl _ _⟩
  | false =>
    have hc : n ≤ x.n ∨ 1152921504606846976 < n := by
      apply Classical.byContradiction
      intro h
      apply hw
      rw [HW.out]
      simp [h]
    have HW2 : Hid (wrongS x false n = 1) := Lib.hid (by rw [HW.out]; simp [hc])
    clear hw HW
    by_cases h1 : n ≤ x.n
    · have q1 : decide (n ≤ x.n) = true := decide_eq_true h1
      clear hc h1
      go_enter Tryz.func40, Tryz.ntmps40
      go_wp2_with fail
      go_quiet (fail)
      go_wp2_with fail
      go_ret
      exact ⟨by rw [HW2.out]; rfl, bl_drewN _ _⟩
    · have q2 : decide (1152921504606846976 < n) = true := decide_eq_true (by omega)
      have q1 : decide (n ≤ x.n) = false := decide_eq_false h1
      clear hc h1
      go_enter Tryz.func40, Tryz.ntmps40
      go_wp2_with fail
      go_quiet (fail)
      go_wp2_with fail
      go_ret
      exact ⟨by rw [HW2.out]; rfl, bl_drewN _ _⟩
end
end Go.Proofs.YthlijldapoeepaaGreat
