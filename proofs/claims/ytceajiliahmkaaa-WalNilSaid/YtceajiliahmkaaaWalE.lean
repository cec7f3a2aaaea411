/- Layer 4: heads of segments, slots. -/
import Derived.Test.YtceajiliahmkaaaWalD
import Derived.BigRegion
namespace Go.Proofs.Ytceajiliahmkaaa
set_option linter.unusedVariables false
set_option linter.unusedSimpArgs false
set_option maxRecDepth 100000
open Go.RowKit

def numAt (l : List Int) (i : Nat) : Int := wrap64 (unb ((l.drop (4 + 8 * i)).take 8))
theorem numAt_range (l : List Int) (i : Nat) : -9223372036854775808 ≤ numAt l i ∧ numAt l i < 9223372036854775808 := by unfold numAt wrap64; omega
theorem unseal3 (A : Option Addr) (c k : Nat) (l : List Int) (w : World) (hk : l.length = k) (hr : Rd w A (by8 l)) (hB : isB l) (hl : k ≤ 100000) (h4 : 32 ≤ k) (hc : k ≤ c) (hm : c ≤ maxLen) :
    Calls Try.prog 50 #[.slice A k c, .int .i64 3] w fun e w' => ∃ S, e = .returned (.tuple #[.slice (some ⟨S, 0, none⟩) 3 3, .bool (okL l)]) ∧ Blk w' S 2 #[.int .i64 (numAt l 0), .int .i64 (numAt l 1), .int .i64 (numAt l 2)] ∧ w.heap.size ≤ S ∧ Below w.heap.size w w' := by
  subst hk
  exact unseal_any A c l w 3 (by omega) hr hB hl (by omega) (by omega) hc hm
theorem unseal4 (A : Option Addr) (c k : Nat) (l : List Int) (w : World) (hk : l.length = k) (hr : Rd w A (by8 l)) (hB : isB l) (hl : k ≤ 100000) (h4 : 36 ≤ k) (hc : k ≤ c) (hm : c ≤ maxLen) :
    Calls Try.prog 50 #[.slice A k c, .int .i64 4] w fun e w' => ∃ S, e = .returned (.tuple #[.slice (some ⟨S, 0, none⟩) 4 4, .bool (okL l)]) ∧ Blk w' S 2 #[.int .i64 (numAt l 0), .int .i64 (numAt l 1), .int .i64 (numAt l 2), .int .i64 (numAt l 3)] ∧ w.heap.size ≤ S ∧ Below w.heap.size w w' := by
  subst hk
  exact unseal_any A c l w 4 (by omega) hr hB hl (by omega) (by omega) hc hm
def secL (D : DS) (a : Nat) : List Int := (D.now.drop (256 * a)).take 256
theorem readD_one {D : DS} {a k : Nat} (hk : 1 ≤ k) (h : a + k ≤ D.n) : readD D (a : Nat) (k : Nat) = (D.now.drop (256 * a)).take (256 * k) := by
  unfold readD
  have hw : wrongD D.n (a : Nat) (k : Nat) = false := by unfold wrongD; rw [decide_eq_false_iff_not]; omega
  rw [hw]
  simp
theorem secs_length {D : DS} (ho : D.Ok) {a k : Nat} (h : a + k ≤ D.n) : ((D.now.drop (256 * a)).take (256 * k)).length = 256 * k := by
  rw [List.length_take, List.length_drop, ho.lnow]
  omega
theorem secs_isB {D : DS} (ho : D.Ok) (a k : Nat) : isB ((D.now.drop (256 * a)).take (256 * k)) := (ho.bn.drop _).take _
section
variable {w : World} {p d : Nat} {x : LG} {A : Option Addr} {c : Nat} {D : DS} {M R : Nat → Prop}
theorem sec1 (h : IsLg w p d x A c) (hd : IsDisk w d D M R) (a : Nat) (ha : a + 1 ≤ D.n) :
    Calls Try.prog 51 #[.pointer (some ⟨p, 0, none⟩), .int .i64 (a : Int), .int .i64 1] w fun e w' => ∃ A' c', e = .returned (.slice A' 256 c') ∧ 256 ≤ c' ∧ c' ≤ maxLen ∧ w'.ownsRow w.heap.size 5 1 (.slice A' 256 c') 256 (by8 (secL D a)) ∧ Below w.heap.size w w' := by
  have ho := IsDisk.ok hd
  have hm := ho.most
  have h1 := sectors_any h hd a 1 (by omega) (by omega)
  rw [readD_one (Nat.le_refl 1) ha, secs_length ho ha] at h1
  exact h1
theorem secL_length (ho : D.Ok) {a : Nat} (ha : a + 1 ≤ D.n) : (secL D a).length = 256 := secs_length ho ha
theorem secL_isB (ho : D.Ok) (a : Nat) : isB (secL D a) := secs_isB ho a 1
def LG.headL (x : LG) (a : Nat) (l : List Int) : Option SG :=
  if okL l = true ∧ inW (numAt l 0) 1 1152921504606846976 = true ∧ inW (numAt l 1) 1 1152921504606846976 = true ∧ inW (numAt l 2) 1 1152921504606846976 = true ∧ x.place (numAt l 0 - 1).toNat = a then some ⟨numAt l 0, numAt l 1, numAt l 2⟩ else none
def headV (o : Option SG) : Value := match o with
  | some s => .tuple #[s.agg, .bool true]
  | none => .tuple #[(SG.mk 0 0 0).agg, .bool false]
set_option maxHeartbeats 6400000 in
theorem head_any (h : IsLg w p d x A c) (hg : x.Geo D.n) (hd : IsDisk w d D M R) (a : Nat) (ha : a + 1 ≤ D.n) :
    Calls Try.prog 52 #[.pointer (some ⟨p, 0, none⟩), .int .i64 (a : Int)] w fun e w' => e = .returned (headV (x.headL a (secL D a))) ∧ Below w.heap.size w w' := by
  have HO := Lib.hid (IsDisk.ok hd)
  have HL := Lib.hid (secL_length HO.out ha)
  have HB := Lib.hid (secL_isB HO.out a)
  have HSEC := Lib.hid (fun (W : World) (hW : Below w.heap.size w W) => sec1 (h.keep hW) (hd.below hW) a ha)
  have HPL := Lib.hid (fun (W : World) (hW : Below w.heap.size w W) (k : Nat) (life : Int) (hk : life = (k : Int) + 1) (hb : k ≤ 2000000000000000000) => place_any (x := x) (h.keep hW) hg k life hk hb)
  clear h hd hg
  obtain ⟨l, hl⟩ : ∃ l, secL D a = l := ⟨_, rfl⟩
  rw [hl] at HL HB HSEC ⊢
  clear hl
  have hcase : (okL l = false ∧ x.headL a l = none) ∨ (okL l = true ∧ inW (numAt l 0) 1 1152921504606846976 = false ∧ x.headL a l = none) ∨ (okL l = true ∧ inW (numAt l 0) 1 1152921504606846976 = true ∧ inW (numAt l 1) 1 1152921504606846976 = false ∧ x.headL a l = none) ∨
      (okL l = true ∧ inW (numAt l 0) 1 1152921504606846976 = true ∧ inW (numAt l 1) 1 1152921504606846976 = true ∧ inW (numAt l 2) 1 1152921504606846976 = false ∧ x.headL a l = none) ∨
      (okL l = true ∧ inW (numAt l 0) 1 1152921504606846976 = true ∧ inW (numAt l 1) 1 1152921504606846976 = true ∧ inW (numAt l 2) 1 1152921504606846976 = true ∧ x.place (numAt l 0 - 1).toNat ≠ a ∧ x.headL a l = none) ∨
      (okL l = true ∧ inW (numAt l 0) 1 1152921504606846976 = true ∧ inW (numAt l 1) 1 1152921504606846976 = true ∧ inW (numAt l 2) 1 1152921504606846976 = true ∧ x.place (numAt l 0 - 1).toNat = a ∧ x.headL a l = some ⟨numAt l 0, numAt l 1, numAt l 2⟩) := by
    unfold LG.headL
    cases okL l <;> cases inW (numAt l 0) 1 1152921504606846976 <;> cases inW (numAt l 1) 1 1152921504606846976 <;> cases inW (numAt l 2) 1 1152921504606846976 <;> simp <;> exact (Classical.em _).symm
  generalize hn0 : numAt l 0 = n0 at *
  generalize hn1 : numAt l 1 = n1 at *
  generalize hn2 : numAt l 2 = n2 at *
  rcases hcase with ⟨b0, hh⟩ | ⟨b0, b1, hh⟩ | ⟨b0, b1, b2, hh⟩ | ⟨b0, b1, b2, b3, hh⟩ | ⟨b0, b1, b2, b3, b4, hh⟩ | ⟨b0, b1, b2, b3, b4, hh⟩
  · have HH := Lib.hid hh
    clear hh
    go_enter Try.func52, Try.ntmps52
    go_wp2_with (first
      | (go_at_call 51; (with_reducible refine (HSEC.out _ (bl_alloc _ _)).mono ?_); rintro e w1 ⟨A1, c1, rfl, hc1, hm1, ho1, hb1⟩; have HO1 := Lib.hid ho1; have HB1 := Lib.hid hb1; clear ho1 hb1)
      | (go_at_call 50; (with_reducible refine (unseal3 A1 c1 256 l _ HL.out (Rd.of_own HO1.out) HB.out (by omega) (by omega) hc1 hm1).mono ?_); rintro e w2 ⟨S, rfl, hb2, hs2, hw2⟩; rw [hn0, hn1, hn2] at hb2; have u0 := hb2.cell 0; have u1 := hb2.cell 1; have u2 := hb2.cell 2; simp at u0 u1 u2; have HU := Lib.hid hb2; have HB2 := Lib.hid (bl_chain HB1.out hw2); have hbk := (Blk.new w 71 #[.int .i64 0, .int .i64 0, .int .i64 0]).keep HB2.out; have d0 := hbk.cell 0; have d1 := hbk.cell 1; have d2 := hbk.cell 2; have f0 := hbk.frozen 0; have f1 := hbk.frozen 1; have f2 := hbk.frozen 2; simp at d0 d1 d2; have HBK := Lib.hid hbk; clear hb2 hs2 hw2 hbk)
      | (go_at_call 42; (with_reducible refine (within_any _ _ _ _).mono ?_); rintro e w' ⟨rfl, rfl⟩))
    have hf := ((HBK.out.set_ 0 (.int .i64 0)).set_ 1 (.int .i64 0)).set_ 2 (.int .i64 0)
    have r0 := (hf.cell 0).trans (show _ = some (Value.int .i64 0) from rfl)
    have r1 := (hf.cell 1).trans (show _ = some (Value.int .i64 0) from rfl)
    have r2 := (hf.cell 2).trans (show _ = some (Value.int .i64 0) from rfl)
    refine bodyPost_ret (v := .tuple #[(SG.mk 0 0 0).agg, .bool false]) (by simp [results, Try.results52, go_sem, SG.agg, r0, r1, r2]) rfl ?_
    have hbw := bl_chain (bl_alloc w (.cells #[.int .i64 0, .int .i64 0, .int .i64 0] 71)) HB2.out
    exact ⟨by rw [HH.out]; rfl, ((hbw.setCell (p := ⟨w.heap.size, 0, none⟩) (Nat.le_refl _) _).setCell (p := ⟨w.heap.size, 1, none⟩) (Nat.le_refl _) _).setCell (p := ⟨w.heap.size, 2, none⟩) (Nat.le_refl _) _⟩
  · have HH := Lib.hid hh
    clear hh
    go_enter Try.func52, Try.ntmps52
    go_wp2_with (first
      | (go_at_call 51; (with_reducible refine (HSEC.out _ (bl_alloc _ _)).mono ?_); rintro e w1 ⟨A1, c1, rfl, hc1, hm1, ho1, hb1⟩; have HO1 := Lib.hid ho1; have HB1 := Lib.hid hb1; clear ho1 hb1)
      | (go_at_call 50; (with_reducible refine (unseal3 A1 c1 256 l _ HL.out (Rd.of_own HO1.out) HB.out (by omega) (by omega) hc1 hm1).mono ?_); rintro e w2 ⟨S, rfl, hb2, hs2, hw2⟩; rw [hn0, hn1, hn2] at hb2; have u0 := hb2.cell 0; have u1 := hb2.cell 1; have u2 := hb2.cell 2; simp at u0 u1 u2; have HU := Lib.hid hb2; have HB2 := Lib.hid (bl_chain HB1.out hw2); have hbk := (Blk.new w 71 #[.int .i64 0, .int .i64 0, .int .i64 0]).keep HB2.out; have d0 := hbk.cell 0; have d1 := hbk.cell 1; have d2 := hbk.cell 2; have f0 := hbk.frozen 0; have f1 := hbk.frozen 1; have f2 := hbk.frozen 2; simp at d0 d1 d2; have HBK := Lib.hid hbk; clear hb2 hs2 hw2 hbk)
      | (go_at_call 42; (with_reducible refine (within_any _ _ _ _).mono ?_); rintro e w' ⟨rfl, rfl⟩))
    have hf := ((HBK.out.set_ 0 (.int .i64 0)).set_ 1 (.int .i64 0)).set_ 2 (.int .i64 0)
    have r0 := (hf.cell 0).trans (show _ = some (Value.int .i64 0) from rfl)
    have r1 := (hf.cell 1).trans (show _ = some (Value.int .i64 0) from rfl)
    have r2 := (hf.cell 2).trans (show _ = some (Value.int .i64 0) from rfl)
    refine bodyPost_ret (v := .tuple #[(SG.mk 0 0 0).agg, .bool false]) (by simp [results, Try.results52, go_sem, SG.agg, r0, r1, r2]) rfl ?_
    have hbw := bl_chain (bl_alloc w (.cells #[.int .i64 0, .int .i64 0, .int .i64 0] 71)) HB2.out
    exact ⟨by rw [HH.out]; rfl, ((hbw.setCell (p := ⟨w.heap.size, 0, none⟩) (Nat.le_refl _) _).setCell (p := ⟨w.heap.size, 1, none⟩) (Nat.le_refl _) _).setCell (p := ⟨w.heap.size, 2, none⟩) (Nat.le_refl _) _⟩
  · have HH := Lib.hid hh
    clear hh
    go_enter Try.func52, Try.ntmps52
    go_wp2_with (first
      | (go_at_call 51; (with_reducible refine (HSEC.out _ (bl_alloc _ _)).mono ?_); rintro e w1 ⟨A1, c1, rfl, hc1, hm1, ho1, hb1⟩; have HO1 := Lib.hid ho1; have HB1 := Lib.hid hb1; clear ho1 hb1)
      | (go_at_call 50; (with_reducible refine (unseal3 A1 c1 256 l _ HL.out (Rd.of_own HO1.out) HB.out (by omega) (by omega) hc1 hm1).mono ?_); rintro e w2 ⟨S, rfl, hb2, hs2, hw2⟩; rw [hn0, hn1, hn2] at hb2; have u0 := hb2.cell 0; have u1 := hb2.cell 1; have u2 := hb2.cell 2; simp at u0 u1 u2; have HU := Lib.hid hb2; have HB2 := Lib.hid (bl_chain HB1.out hw2); have hbk := (Blk.new w 71 #[.int .i64 0, .int .i64 0, .int .i64 0]).keep HB2.out; have d0 := hbk.cell 0; have d1 := hbk.cell 1; have d2 := hbk.cell 2; have f0 := hbk.frozen 0; have f1 := hbk.frozen 1; have f2 := hbk.frozen 2; simp at d0 d1 d2; have HBK := Lib.hid hbk; clear hb2 hs2 hw2 hbk)
      | (go_at_call 42; (with_reducible refine (within_any _ _ _ _).mono ?_); rintro e w' ⟨rfl, rfl⟩))
    have hf := ((HBK.out.set_ 0 (.int .i64 0)).set_ 1 (.int .i64 0)).set_ 2 (.int .i64 0)
    have r0 := (hf.cell 0).trans (show _ = some (Value.int .i64 0) from rfl)
    have r1 := (hf.cell 1).trans (show _ = some (Value.int .i64 0) from rfl)
    have r2 := (hf.cell 2).trans (show _ = some (Value.int .i64 0) from rfl)
    refine bodyPost_ret (v := .tuple #[(SG.mk 0 0 0).agg, .bool false]) (by simp [results, Try.results52, go_sem, SG.agg, r0, r1, r2]) rfl ?_
    have hbw := bl_chain (bl_alloc w (.cells #[.int .i64 0, .int .i64 0, .int .i64 0] 71)) HB2.out
    exact ⟨by rw [HH.out]; rfl, ((hbw.setCell (p := ⟨w.heap.size, 0, none⟩) (Nat.le_refl _) _).setCell (p := ⟨w.heap.size, 1, none⟩) (Nat.le_refl _) _).setCell (p := ⟨w.heap.size, 2, none⟩) (Nat.le_refl _) _⟩
  · have HH := Lib.hid hh
    clear hh
    go_enter Try.func52, Try.ntmps52
    go_wp2_with (first
      | (go_at_call 51; (with_reducible refine (HSEC.out _ (bl_alloc _ _)).mono ?_); rintro e w1 ⟨A1, c1, rfl, hc1, hm1, ho1, hb1⟩; have HO1 := Lib.hid ho1; have HB1 := Lib.hid hb1; clear ho1 hb1)
      | (go_at_call 50; (with_reducible refine (unseal3 A1 c1 256 l _ HL.out (Rd.of_own HO1.out) HB.out (by omega) (by omega) hc1 hm1).mono ?_); rintro e w2 ⟨S, rfl, hb2, hs2, hw2⟩; rw [hn0, hn1, hn2] at hb2; have u0 := hb2.cell 0; have u1 := hb2.cell 1; have u2 := hb2.cell 2; simp at u0 u1 u2; have HU := Lib.hid hb2; have HB2 := Lib.hid (bl_chain HB1.out hw2); have hbk := (Blk.new w 71 #[.int .i64 0, .int .i64 0, .int .i64 0]).keep HB2.out; have d0 := hbk.cell 0; have d1 := hbk.cell 1; have d2 := hbk.cell 2; have f0 := hbk.frozen 0; have f1 := hbk.frozen 1; have f2 := hbk.frozen 2; simp at d0 d1 d2; have HBK := Lib.hid hbk; clear hb2 hs2 hw2 hbk)
      | (go_at_call 42; (with_reducible refine (within_any _ _ _ _).mono ?_); rintro e w' ⟨rfl, rfl⟩))
    have hf := ((HBK.out.set_ 0 (.int .i64 0)).set_ 1 (.int .i64 0)).set_ 2 (.int .i64 0)
    have r0 := (hf.cell 0).trans (show _ = some (Value.int .i64 0) from rfl)
    have r1 := (hf.cell 1).trans (show _ = some (Value.int .i64 0) from rfl)
    have r2 := (hf.cell 2).trans (show _ = some (Value.int .i64 0) from rfl)
    refine bodyPost_ret (v := .tuple #[(SG.mk 0 0 0).agg, .bool false]) (by simp [results, Try.results52, go_sem, SG.agg, r0, r1, r2]) rfl ?_
    have hbw := bl_chain (bl_alloc w (.cells #[.int .i64 0, .int .i64 0, .int .i64 0] 71)) HB2.out
    exact ⟨by rw [HH.out]; rfl, ((hbw.setCell (p := ⟨w.heap.size, 0, none⟩) (Nat.le_refl _) _).setCell (p := ⟨w.heap.size, 1, none⟩) (Nat.le_refl _) _).setCell (p := ⟨w.heap.size, 2, none⟩) (Nat.le_refl _) _⟩
  · have HH := Lib.hid hh
    have hr0 : 1 ≤ n0 ∧ n0 ≤ 1152921504606846976 := by simpa [inW] using b1
    obtain ⟨kn, hkn'⟩ : ∃ kn : Nat, n0 - 1 = (kn : Int) := Int.eq_ofNat_of_zero_le (by omega)
    have hkn : n0 = (kn : Int) + 1 := by omega
    have hkb : kn ≤ 2000000000000000000 := by omega
    have hkt : (n0 - 1).toNat = kn := by omega
    rw [hkt] at b4
    obtain ⟨z, hz⟩ : ∃ z, x.place kn = z := ⟨_, rfl⟩
    rw [hz] at b4
    have HPL' := Lib.hid (fun W hW k life => HPL.out W hW k life)
    have HPL := Lib.hid (fun (W : World) (hW : Below w.heap.size w W) => (show Calls Try.prog 40 #[.pointer (some ⟨p, 0, none⟩), .int .i64 n0] W fun e w' => e = .returned (.int .i64 (z : Int)) ∧ Below W.heap.size W w' from by have := HPL'.out W hW kn n0 hkn hkb; rw [hz] at this; exact this))
    have bz : ((z : Int) == (a : Int)) = false := by simp; omega
    have bz2 : ((z : Int) != (a : Int)) = true := by simp; omega
    clear hh hkt hz hkn hkn' HPL'
    go_enter Try.func52, Try.ntmps52
    go_wp2_with (first
      | (go_at_call 51; (with_reducible refine (HSEC.out _ (bl_alloc _ _)).mono ?_); rintro e w1 ⟨A1, c1, rfl, hc1, hm1, ho1, hb1⟩; have HO1 := Lib.hid ho1; have HB1 := Lib.hid hb1; clear ho1 hb1)
      | (go_at_call 50; (with_reducible refine (unseal3 A1 c1 256 l _ HL.out (Rd.of_own HO1.out) HB.out (by omega) (by omega) hc1 hm1).mono ?_); rintro e w2 ⟨S, rfl, hb2, hs2, hw2⟩; rw [hn0, hn1, hn2] at hb2; have u0 := hb2.cell 0; have u1 := hb2.cell 1; have u2 := hb2.cell 2; simp at u0 u1 u2; have HU := Lib.hid hb2; have HB2 := Lib.hid (bl_chain HB1.out hw2); have hbk := (Blk.new w 71 #[.int .i64 0, .int .i64 0, .int .i64 0]).keep HB2.out; have d0 := hbk.cell 0; have d1 := hbk.cell 1; have d2 := hbk.cell 2; have f0 := hbk.frozen 0; have f1 := hbk.frozen 1; have f2 := hbk.frozen 2; simp at d0 d1 d2; have HBK := Lib.hid hbk; clear hb2 hs2 hw2 hbk)
      | (go_at_call 42; (with_reducible refine (within_any _ _ _ _).mono ?_); rintro e w' ⟨rfl, rfl⟩)
      | (go_at_call 40; (with_reducible refine (HPL.out _ (bl_chain (bl_alloc _ _) HB2.out)).mono ?_); rintro e w3 ⟨rfl, hw3⟩; have hb3 := HU.out.keep hw3; have v0 := hb3.cell 0; have v1 := hb3.cell 1; have v2 := hb3.cell 2; simp at v0 v1 v2; have HB3 := Lib.hid (bl_chain HB2.out hw3); have hbk := HBK.out.keep hw3; have e0 := hbk.cell 0; have e1 := hbk.cell 1; have e2 := hbk.cell 2; have h0 := hbk.frozen 0; have h1 := hbk.frozen 1; have h2 := hbk.frozen 2; simp at e0 e1 e2; have HBK3 := Lib.hid hbk; clear hb3 hw3 hbk))
    have hf := ((HBK3.out.set_ 0 (.int .i64 0)).set_ 1 (.int .i64 0)).set_ 2 (.int .i64 0)
    have r0 := (hf.cell 0).trans (show _ = some (Value.int .i64 0) from rfl)
    have r1 := (hf.cell 1).trans (show _ = some (Value.int .i64 0) from rfl)
    have r2 := (hf.cell 2).trans (show _ = some (Value.int .i64 0) from rfl)
    refine bodyPost_ret (v := .tuple #[(SG.mk 0 0 0).agg, .bool false]) (by simp [results, Try.results52, go_sem, SG.agg, r0, r1, r2]) rfl ?_
    have hbw := bl_chain (bl_alloc w (.cells #[.int .i64 0, .int .i64 0, .int .i64 0] 71)) HB3.out
    exact ⟨by rw [HH.out]; rfl, ((hbw.setCell (p := ⟨w.heap.size, 0, none⟩) (Nat.le_refl _) _).setCell (p := ⟨w.heap.size, 1, none⟩) (Nat.le_refl _) _).setCell (p := ⟨w.heap.size, 2, none⟩) (Nat.le_refl _) _⟩
  · have HH := Lib.hid hh
    have hr0 : 1 ≤ n0 ∧ n0 ≤ 1152921504606846976 := by simpa [inW] using b1
    obtain ⟨kn, hkn'⟩ : ∃ kn : Nat, n0 - 1 = (kn : Int) := Int.eq_ofNat_of_zero_le (by omega)
    have hkn : n0 = (kn : Int) + 1 := by omega
    have hkb : kn ≤ 2000000000000000000 := by omega
    have hkt : (n0 - 1).toNat = kn := by omega
    rw [hkt] at b4
    obtain ⟨z, hz⟩ : ∃ z, x.place kn = z := ⟨_, rfl⟩
    rw [hz] at b4
    have HPL' := Lib.hid (fun W hW k life => HPL.out W hW k life)
    have HPL := Lib.hid (fun (W : World) (hW : Below w.heap.size w W) => (show Calls Try.prog 40 #[.pointer (some ⟨p, 0, none⟩), .int .i64 n0] W fun e w' => e = .returned (.int .i64 (z : Int)) ∧ Below W.heap.size W w' from by have := HPL'.out W hW kn n0 hkn hkb; rw [hz] at this; exact this))
    subst b4
    clear hh hkt hz hkn hkn' HPL'
    go_enter Try.func52, Try.ntmps52
    go_wp2_with (first
      | (go_at_call 51; (with_reducible refine (HSEC.out _ (bl_alloc _ _)).mono ?_); rintro e w1 ⟨A1, c1, rfl, hc1, hm1, ho1, hb1⟩; have HO1 := Lib.hid ho1; have HB1 := Lib.hid hb1; clear ho1 hb1)
      | (go_at_call 50; (with_reducible refine (unseal3 A1 c1 256 l _ HL.out (Rd.of_own HO1.out) HB.out (by omega) (by omega) hc1 hm1).mono ?_); rintro e w2 ⟨S, rfl, hb2, hs2, hw2⟩; rw [hn0, hn1, hn2] at hb2; have u0 := hb2.cell 0; have u1 := hb2.cell 1; have u2 := hb2.cell 2; simp at u0 u1 u2; have HU := Lib.hid hb2; have HB2 := Lib.hid (bl_chain HB1.out hw2); have hbk := (Blk.new w 71 #[.int .i64 0, .int .i64 0, .int .i64 0]).keep HB2.out; have d0 := hbk.cell 0; have d1 := hbk.cell 1; have d2 := hbk.cell 2; have f0 := hbk.frozen 0; have f1 := hbk.frozen 1; have f2 := hbk.frozen 2; simp at d0 d1 d2; have HBK := Lib.hid hbk; clear hb2 hs2 hw2 hbk)
      | (go_at_call 42; (with_reducible refine (within_any _ _ _ _).mono ?_); rintro e w' ⟨rfl, rfl⟩)
      | (go_at_call 40; (with_reducible refine (HPL.out _ (bl_chain (bl_alloc _ _) HB2.out)).mono ?_); rintro e w3 ⟨rfl, hw3⟩; have hb3 := HU.out.keep hw3; have v0 := hb3.cell 0; have v1 := hb3.cell 1; have v2 := hb3.cell 2; simp at v0 v1 v2; have HB3 := Lib.hid (bl_chain HB2.out hw3); have hbk := HBK.out.keep hw3; have e0 := hbk.cell 0; have e1 := hbk.cell 1; have e2 := hbk.cell 2; have h0 := hbk.frozen 0; have h1 := hbk.frozen 1; have h2 := hbk.frozen 2; simp at e0 e1 e2; have HBK3 := Lib.hid hbk; clear hb3 hw3 hbk))
    go_region
    go_wp2_with fail
    have hf := ((HBK3.out.set_ 0 (.int .i64 n0)).set_ 1 (.int .i64 n1)).set_ 2 (.int .i64 n2)
    have r0 := (hf.cell 0).trans (show _ = some (Value.int .i64 n0) from rfl)
    have r1 := (hf.cell 1).trans (show _ = some (Value.int .i64 n1) from rfl)
    have r2 := (hf.cell 2).trans (show _ = some (Value.int .i64 n2) from rfl)
    refine bodyPost_ret (v := .tuple #[(SG.mk n0 n1 n2).agg, .bool true]) (by simp [results, Try.results52, go_sem, SG.agg, r0, r1, r2]) rfl ?_
    have hbw := bl_chain (bl_alloc w (.cells #[.int .i64 0, .int .i64 0, .int .i64 0] 71)) HB3.out
    exact ⟨by rw [HH.out]; rfl, (((hbw.setCell (p := ⟨w.heap.size, 0, none⟩) (Nat.le_refl _) _).setCell (p := ⟨w.heap.size, 1, none⟩) (Nat.le_refl _) _).setCell (p := ⟨w.heap.size, 2, none⟩) (Nat.le_refl _) _).drew⟩
/-- A slot's record: its epoch, term, vote, base. -/
structure SL where
  epoch : Int
  term : Int
  vote : Int
  base : Int
  deriving DecidableEq
def slotL (l : List Int) : Option SL :=
  if okL l = true ∧ inW (numAt l 0) 1 1152921504606846976 = true ∧ inW (numAt l 1) 0 1152921504606846976 = true ∧ inW (numAt l 2) 0 5 = true ∧ inW (numAt l 3) 0 1152921504606846976 = true then some ⟨numAt l 0, numAt l 1, numAt l 2 - 1, numAt l 3⟩ else none
def slotV (o : Option SL) : Value := match o with
  | some s => .tuple #[.int .i64 s.epoch, .agg #[.int .i64 s.term, .int .i64 s.vote, .int .i64 s.base], .bool true]
  | none => .tuple #[.int .i64 0, .agg #[.int .i64 0, .int .i64 0, .int .i64 0], .bool false]
set_option maxHeartbeats 6400000 in
theorem slot_any (h : IsLg w p d x A c) (hg : x.Geo D.n) (hd : IsDisk w d D M R) (i : Nat) (hi : i < 2) :
    Calls Try.prog 30 #[.pointer (some ⟨p, 0, none⟩), .int .i64 (i : Int)] w fun e w' => e = .returned (slotV (slotL (secL D (x.from_ + i)))) ∧ Below w.heap.size w w' := by
  have HO := Lib.hid (IsDisk.ok hd)
  have hfit := hg.fit
  have hbig := hg.big
  have c1 := h.cell 1
  have hlt := h.lt
  simp [lgCells] at c1
  obtain ⟨F, hF⟩ : ∃ F, x.from_ = F := ⟨_, rfl⟩
  rw [hF] at c1 hfit ⊢
  obtain ⟨a, hai⟩ : ∃ a, F + i = a := ⟨_, rfl⟩
  have ha : a + 1 ≤ D.n := by omega
  have hsum : (F : Int) + (i : Int) = (a : Int) := by omega
  rw [hai]
  have HL := Lib.hid (secL_length HO.out ha)
  have HB := Lib.hid (secL_isB HO.out a)
  have HSEC := Lib.hid (fun (W : World) (hW : Below w.heap.size w W) => sec1 (h.keep hW) (hd.below hW) a ha)
  clear h hd hg hai hF
  obtain ⟨l, hl⟩ : ∃ l, secL D a = l := ⟨_, rfl⟩
  rw [hl] at HL HB HSEC ⊢
  clear hl
  have hcase : (okL l = false ∧ slotL l = none) ∨
      (okL l = true ∧ inW (numAt l 0) 1 1152921504606846976 = false ∧ slotL l = none) ∨
      (okL l = true ∧ inW (numAt l 0) 1 1152921504606846976 = true ∧ inW (numAt l 1) 0 1152921504606846976 = false ∧ slotL l = none) ∨
      (okL l = true ∧ inW (numAt l 0) 1 1152921504606846976 = true ∧ inW (numAt l 1) 0 1152921504606846976 = true ∧ inW (numAt l 2) 0 5 = false ∧ slotL l = none) ∨
      (okL l = true ∧ inW (numAt l 0) 1 1152921504606846976 = true ∧ inW (numAt l 1) 0 1152921504606846976 = true ∧ inW (numAt l 2) 0 5 = true ∧ inW (numAt l 3) 0 1152921504606846976 = false ∧ slotL l = none) ∨
      (okL l = true ∧ inW (numAt l 0) 1 1152921504606846976 = true ∧ inW (numAt l 1) 0 1152921504606846976 = true ∧ inW (numAt l 2) 0 5 = true ∧ inW (numAt l 3) 0 1152921504606846976 = true ∧ slotL l = some ⟨numAt l 0, numAt l 1, numAt l 2 - 1, numAt l 3⟩) := by
    unfold slotL
    cases okL l <;> cases inW (numAt l 0) 1 1152921504606846976 <;> cases inW (numAt l 1) 0 1152921504606846976 <;> cases inW (numAt l 2) 0 5 <;> cases inW (numAt l 3) 0 1152921504606846976 <;> simp
  generalize hn0 : numAt l 0 = n0 at *
  generalize hn1 : numAt l 1 = n1 at *
  generalize hn2 : numAt l 2 = n2 at *
  generalize hn3 : numAt l 3 = n3 at *
  rcases hcase with ⟨b0, hh⟩ | ⟨b0, b1, hh⟩ | ⟨b0, b1, b2, hh⟩ | ⟨b0, b1, b2, b3, hh⟩ | ⟨b0, b1, b2, b3, b4, hh⟩ | ⟨b0, b1, b2, b3, b4, hh⟩
  · have HH := Lib.hid hh
    clear hh
    go_enter Try.func30, Try.ntmps30
    go_wp2_with (first
      | (go_at_call 51; (with_reducible refine (HSEC.out _ (bl_alloc _ _)).mono ?_); rintro e w1 ⟨A1, c1, rfl, hc1, hm1, ho1, hb1⟩; have HO1 := Lib.hid ho1; have HB1 := Lib.hid hb1; clear ho1 hb1)
      | (go_at_call 50; (with_reducible refine (unseal4 A1 c1 256 l _ HL.out (Rd.of_own HO1.out) HB.out (by omega) (by omega) hc1 hm1).mono ?_); rintro e w2 ⟨S, rfl, hb2, hs2, hw2⟩; rw [hn0, hn1, hn2, hn3] at hb2; have u0 := hb2.cell 0; have u1 := hb2.cell 1; have u2 := hb2.cell 2; have u3 := hb2.cell 3; simp at u0 u1 u2 u3; have HB2 := Lib.hid (bl_chain HB1.out hw2); have hbk := (Blk.new w 30 #[.int .i64 0, .int .i64 0, .int .i64 0]).keep HB2.out; have d0 := hbk.cell 0; have d1 := hbk.cell 1; have d2 := hbk.cell 2; have f0 := hbk.frozen 0; have f1 := hbk.frozen 1; have f2 := hbk.frozen 2; simp at d0 d1 d2; have HBK := Lib.hid hbk; clear hb2 hs2 hw2 hbk)
      | (go_at_call 42; (with_reducible refine (within_any _ _ _ _).mono ?_); rintro e w' ⟨rfl, rfl⟩))
    have hf := ((HBK.out.set_ 0 (.int .i64 0)).set_ 1 (.int .i64 0)).set_ 2 (.int .i64 0)
    have r0 := (hf.cell 0).trans (show _ = some (Value.int .i64 0) from rfl)
    have r1 := (hf.cell 1).trans (show _ = some (Value.int .i64 0) from rfl)
    have r2 := (hf.cell 2).trans (show _ = some (Value.int .i64 0) from rfl)
    refine bodyPost_ret (v := .tuple #[.int .i64 0, .agg #[.int .i64 0, .int .i64 0, .int .i64 0], .bool false]) (by simp [results, Try.results30, go_sem, r0, r1, r2]) rfl ?_
    have hbw := bl_chain (bl_alloc w (.cells #[.int .i64 0, .int .i64 0, .int .i64 0] 30)) HB2.out
    exact ⟨by rw [HH.out]; rfl, (((hbw.setCell (p := ⟨w.heap.size, 0, none⟩) (Nat.le_refl _) _).setCell (p := ⟨w.heap.size, 1, none⟩) (Nat.le_refl _) _).setCell (p := ⟨w.heap.size, 2, none⟩) (Nat.le_refl _) _)⟩
  · have HH := Lib.hid hh
    clear hh
    go_enter Try.func30, Try.ntmps30
    go_wp2_with (first
      | (go_at_call 51; (with_reducible refine (HSEC.out _ (bl_alloc _ _)).mono ?_); rintro e w1 ⟨A1, c1, rfl, hc1, hm1, ho1, hb1⟩; have HO1 := Lib.hid ho1; have HB1 := Lib.hid hb1; clear ho1 hb1)
      | (go_at_call 50; (with_reducible refine (unseal4 A1 c1 256 l _ HL.out (Rd.of_own HO1.out) HB.out (by omega) (by omega) hc1 hm1).mono ?_); rintro e w2 ⟨S, rfl, hb2, hs2, hw2⟩; rw [hn0, hn1, hn2, hn3] at hb2; have u0 := hb2.cell 0; have u1 := hb2.cell 1; have u2 := hb2.cell 2; have u3 := hb2.cell 3; simp at u0 u1 u2 u3; have HB2 := Lib.hid (bl_chain HB1.out hw2); have hbk := (Blk.new w 30 #[.int .i64 0, .int .i64 0, .int .i64 0]).keep HB2.out; have d0 := hbk.cell 0; have d1 := hbk.cell 1; have d2 := hbk.cell 2; have f0 := hbk.frozen 0; have f1 := hbk.frozen 1; have f2 := hbk.frozen 2; simp at d0 d1 d2; have HBK := Lib.hid hbk; clear hb2 hs2 hw2 hbk)
      | (go_at_call 42; (with_reducible refine (within_any _ _ _ _).mono ?_); rintro e w' ⟨rfl, rfl⟩))
    have hf := ((HBK.out.set_ 0 (.int .i64 0)).set_ 1 (.int .i64 0)).set_ 2 (.int .i64 0)
    have r0 := (hf.cell 0).trans (show _ = some (Value.int .i64 0) from rfl)
    have r1 := (hf.cell 1).trans (show _ = some (Value.int .i64 0) from rfl)
    have r2 := (hf.cell 2).trans (show _ = some (Value.int .i64 0) from rfl)
    refine bodyPost_ret (v := .tuple #[.int .i64 0, .agg #[.int .i64 0, .int .i64 0, .int .i64 0], .bool false]) (by simp [results, Try.results30, go_sem, r0, r1, r2]) rfl ?_
    have hbw := bl_chain (bl_alloc w (.cells #[.int .i64 0, .int .i64 0, .int .i64 0] 30)) HB2.out
    exact ⟨by rw [HH.out]; rfl, (((hbw.setCell (p := ⟨w.heap.size, 0, none⟩) (Nat.le_refl _) _).setCell (p := ⟨w.heap.size, 1, none⟩) (Nat.le_refl _) _).setCell (p := ⟨w.heap.size, 2, none⟩) (Nat.le_refl _) _)⟩
  · have HH := Lib.hid hh
    clear hh
    go_enter Try.func30, Try.ntmps30
    go_wp2_with (first
      | (go_at_call 51; (with_reducible refine (HSEC.out _ (bl_alloc _ _)).mono ?_); rintro e w1 ⟨A1, c1, rfl, hc1, hm1, ho1, hb1⟩; have HO1 := Lib.hid ho1; have HB1 := Lib.hid hb1; clear ho1 hb1)
      | (go_at_call 50; (with_reducible refine (unseal4 A1 c1 256 l _ HL.out (Rd.of_own HO1.out) HB.out (by omega) (by omega) hc1 hm1).mono ?_); rintro e w2 ⟨S, rfl, hb2, hs2, hw2⟩; rw [hn0, hn1, hn2, hn3] at hb2; have u0 := hb2.cell 0; have u1 := hb2.cell 1; have u2 := hb2.cell 2; have u3 := hb2.cell 3; simp at u0 u1 u2 u3; have HB2 := Lib.hid (bl_chain HB1.out hw2); have hbk := (Blk.new w 30 #[.int .i64 0, .int .i64 0, .int .i64 0]).keep HB2.out; have d0 := hbk.cell 0; have d1 := hbk.cell 1; have d2 := hbk.cell 2; have f0 := hbk.frozen 0; have f1 := hbk.frozen 1; have f2 := hbk.frozen 2; simp at d0 d1 d2; have HBK := Lib.hid hbk; clear hb2 hs2 hw2 hbk)
      | (go_at_call 42; (with_reducible refine (within_any _ _ _ _).mono ?_); rintro e w' ⟨rfl, rfl⟩))
    have hf := ((HBK.out.set_ 0 (.int .i64 0)).set_ 1 (.int .i64 0)).set_ 2 (.int .i64 0)
    have r0 := (hf.cell 0).trans (show _ = some (Value.int .i64 0) from rfl)
    have r1 := (hf.cell 1).trans (show _ = some (Value.int .i64 0) from rfl)
    have r2 := (hf.cell 2).trans (show _ = some (Value.int .i64 0) from rfl)
    refine bodyPost_ret (v := .tuple #[.int .i64 0, .agg #[.int .i64 0, .int .i64 0, .int .i64 0], .bool false]) (by simp [results, Try.results30, go_sem, r0, r1, r2]) rfl ?_
    have hbw := bl_chain (bl_alloc w (.cells #[.int .i64 0, .int .i64 0, .int .i64 0] 30)) HB2.out
    exact ⟨by rw [HH.out]; rfl, (((hbw.setCell (p := ⟨w.heap.size, 0, none⟩) (Nat.le_refl _) _).setCell (p := ⟨w.heap.size, 1, none⟩) (Nat.le_refl _) _).setCell (p := ⟨w.heap.size, 2, none⟩) (Nat.le_refl _) _)⟩
  · have HH := Lib.hid hh
    clear hh
    go_enter Try.func30, Try.ntmps30
    go_wp2_with (first
      | (go_at_call 51; (with_reducible refine (HSEC.out _ (bl_alloc _ _)).mono ?_); rintro e w1 ⟨A1, c1, rfl, hc1, hm1, ho1, hb1⟩; have HO1 := Lib.hid ho1; have HB1 := Lib.hid hb1; clear ho1 hb1)
      | (go_at_call 50; (with_reducible refine (unseal4 A1 c1 256 l _ HL.out (Rd.of_own HO1.out) HB.out (by omega) (by omega) hc1 hm1).mono ?_); rintro e w2 ⟨S, rfl, hb2, hs2, hw2⟩; rw [hn0, hn1, hn2, hn3] at hb2; have u0 := hb2.cell 0; have u1 := hb2.cell 1; have u2 := hb2.cell 2; have u3 := hb2.cell 3; simp at u0 u1 u2 u3; have HB2 := Lib.hid (bl_chain HB1.out hw2); have hbk := (Blk.new w 30 #[.int .i64 0, .int .i64 0, .int .i64 0]).keep HB2.out; have d0 := hbk.cell 0; have d1 := hbk.cell 1; have d2 := hbk.cell 2; have f0 := hbk.frozen 0; have f1 := hbk.frozen 1; have f2 := hbk.frozen 2; simp at d0 d1 d2; have HBK := Lib.hid hbk; clear hb2 hs2 hw2 hbk)
      | (go_at_call 42; (with_reducible refine (within_any _ _ _ _).mono ?_); rintro e w' ⟨rfl, rfl⟩))
    have hf := ((HBK.out.set_ 0 (.int .i64 0)).set_ 1 (.int .i64 0)).set_ 2 (.int .i64 0)
    have r0 := (hf.cell 0).trans (show _ = some (Value.int .i64 0) from rfl)
    have r1 := (hf.cell 1).trans (show _ = some (Value.int .i64 0) from rfl)
    have r2 := (hf.cell 2).trans (show _ = some (Value.int .i64 0) from rfl)
    refine bodyPost_ret (v := .tuple #[.int .i64 0, .agg #[.int .i64 0, .int .i64 0, .int .i64 0], .bool false]) (by simp [results, Try.results30, go_sem, r0, r1, r2]) rfl ?_
    have hbw := bl_chain (bl_alloc w (.cells #[.int .i64 0, .int .i64 0, .int .i64 0] 30)) HB2.out
    exact ⟨by rw [HH.out]; rfl, (((hbw.setCell (p := ⟨w.heap.size, 0, none⟩) (Nat.le_refl _) _).setCell (p := ⟨w.heap.size, 1, none⟩) (Nat.le_refl _) _).setCell (p := ⟨w.heap.size, 2, none⟩) (Nat.le_refl _) _)⟩
  · have HH := Lib.hid hh
    clear hh
    go_enter Try.func30, Try.ntmps30
    go_wp2_with (first
      | (go_at_call 51; (with_reducible refine (HSEC.out _ (bl_alloc _ _)).mono ?_); rintro e w1 ⟨A1, c1, rfl, hc1, hm1, ho1, hb1⟩; have HO1 := Lib.hid ho1; have HB1 := Lib.hid hb1; clear ho1 hb1)
      | (go_at_call 50; (with_reducible refine (unseal4 A1 c1 256 l _ HL.out (Rd.of_own HO1.out) HB.out (by omega) (by omega) hc1 hm1).mono ?_); rintro e w2 ⟨S, rfl, hb2, hs2, hw2⟩; rw [hn0, hn1, hn2, hn3] at hb2; have u0 := hb2.cell 0; have u1 := hb2.cell 1; have u2 := hb2.cell 2; have u3 := hb2.cell 3; simp at u0 u1 u2 u3; have HB2 := Lib.hid (bl_chain HB1.out hw2); have hbk := (Blk.new w 30 #[.int .i64 0, .int .i64 0, .int .i64 0]).keep HB2.out; have d0 := hbk.cell 0; have d1 := hbk.cell 1; have d2 := hbk.cell 2; have f0 := hbk.frozen 0; have f1 := hbk.frozen 1; have f2 := hbk.frozen 2; simp at d0 d1 d2; have HBK := Lib.hid hbk; clear hb2 hs2 hw2 hbk)
      | (go_at_call 42; (with_reducible refine (within_any _ _ _ _).mono ?_); rintro e w' ⟨rfl, rfl⟩))
    have hf := ((HBK.out.set_ 0 (.int .i64 0)).set_ 1 (.int .i64 0)).set_ 2 (.int .i64 0)
    have r0 := (hf.cell 0).trans (show _ = some (Value.int .i64 0) from rfl)
    have r1 := (hf.cell 1).trans (show _ = some (Value.int .i64 0) from rfl)
    have r2 := (hf.cell 2).trans (show _ = some (Value.int .i64 0) from rfl)
    refine bodyPost_ret (v := .tuple #[.int .i64 0, .agg #[.int .i64 0, .int .i64 0, .int .i64 0], .bool false]) (by simp [results, Try.results30, go_sem, r0, r1, r2]) rfl ?_
    have hbw := bl_chain (bl_alloc w (.cells #[.int .i64 0, .int .i64 0, .int .i64 0] 30)) HB2.out
    exact ⟨by rw [HH.out]; rfl, (((hbw.setCell (p := ⟨w.heap.size, 0, none⟩) (Nat.le_refl _) _).setCell (p := ⟨w.heap.size, 1, none⟩) (Nat.le_refl _) _).setCell (p := ⟨w.heap.size, 2, none⟩) (Nat.le_refl _) _)⟩
  · have HH := Lib.hid hh
    have hv : 0 ≤ n2 ∧ n2 ≤ 5 := by simpa [inW] using b3
    clear hh
    go_enter Try.func30, Try.ntmps30
    go_wp2_with (first
      | (go_at_call 51; (with_reducible refine (HSEC.out _ (bl_alloc _ _)).mono ?_); rintro e w1 ⟨A1, c1, rfl, hc1, hm1, ho1, hb1⟩; have HO1 := Lib.hid ho1; have HB1 := Lib.hid hb1; clear ho1 hb1)
      | (go_at_call 50; (with_reducible refine (unseal4 A1 c1 256 l _ HL.out (Rd.of_own HO1.out) HB.out (by omega) (by omega) hc1 hm1).mono ?_); rintro e w2 ⟨S, rfl, hb2, hs2, hw2⟩; rw [hn0, hn1, hn2, hn3] at hb2; have u0 := hb2.cell 0; have u1 := hb2.cell 1; have u2 := hb2.cell 2; have u3 := hb2.cell 3; simp at u0 u1 u2 u3; have HB2 := Lib.hid (bl_chain HB1.out hw2); have hbk := (Blk.new w 30 #[.int .i64 0, .int .i64 0, .int .i64 0]).keep HB2.out; have d0 := hbk.cell 0; have d1 := hbk.cell 1; have d2 := hbk.cell 2; have f0 := hbk.frozen 0; have f1 := hbk.frozen 1; have f2 := hbk.frozen 2; simp at d0 d1 d2; have HBK := Lib.hid hbk; clear hb2 hs2 hw2 hbk)
      | (go_at_call 42; (with_reducible refine (within_any _ _ _ _).mono ?_); rintro e w' ⟨rfl, rfl⟩))
    go_region
    go_wp2_with fail
    have hf := ((HBK.out.set_ 0 (.int .i64 n1)).set_ 1 (.int .i64 (n2 - 1))).set_ 2 (.int .i64 n3)
    have r0 := (hf.cell 0).trans (show _ = some (Value.int .i64 n1) from rfl)
    have r1 := (hf.cell 1).trans (show _ = some (Value.int .i64 (n2 - 1)) from rfl)
    have r2 := (hf.cell 2).trans (show _ = some (Value.int .i64 n3) from rfl)
    refine bodyPost_ret (v := .tuple #[.int .i64 n0, .agg #[.int .i64 n1, .int .i64 (n2 - 1), .int .i64 n3], .bool true]) (by simp [results, Try.results30, go_sem, r0, r1, r2]) rfl ?_
    have hbw := bl_chain (bl_alloc w (.cells #[.int .i64 0, .int .i64 0, .int .i64 0] 30)) HB2.out
    exact ⟨by rw [HH.out]; rfl, (((hbw.setCell (p := ⟨w.heap.size, 0, none⟩) (Nat.le_refl _) _).setCell (p := ⟨w.heap.size, 1, none⟩) (Nat.le_refl _) _).setCell (p := ⟨w.heap.size, 2, none⟩) (Nat.le_refl _) _).drew⟩
end
end Go.Proofs.Ytceajiliahmkaaa
