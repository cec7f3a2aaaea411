/- Layer 4: what must come of fixed calls: the walk. -/
import Derived.Test.YtceajiliahmkaaaWalT
import Derived.Lib.SlBytesConst
namespace Go.Proofs.Ytceajiliahmkaaa
set_option linter.unusedVariables false
set_option linter.unusedSimpArgs false
set_option maxRecDepth 100000
open Go.RowKit

/-- A log and its disk above a line, apart from a block. -/
structure Up (n T : Nat) (W : World) (p d : Nat) (x : LG) (A : Option Addr) (c : Nat) (D : DS) (M R : Nat → Prop) : Prop where
  lg : LgAt W p d x A c D M R
  m : ∀ b, M b → n ≤ b ∧ b ≠ T
  r : ∀ b, R b → n ≤ b
  a : ∀ b, Blo A b → n ≤ b ∧ b ≠ T
  p : n ≤ p ∧ p ≠ T
theorem Up.turn {n T p d : Nat} {W W' : World} {x x' : LG} {A A' : Option Addr} {c c' : Nat} {D D' : DS} {M R M' R' : Nat → Prop} (h : Up n T W p d x A c D M R) (hT : T < W.heap.size) (hn : n ≤ W.heap.size) (hl : LgAt W' p d x' A' c' D' M' R') (ha : ∀ b, Blo A' b → Blo A b ∨ W.heap.size ≤ b) (hm : ∀ b, M' b → M b ∨ W.heap.size ≤ b) (hr : ∀ b, R' b → R b ∨ W.heap.size ≤ b) : Up n T W' p d x' A' c' D' M' R' :=
  ⟨hl, fun b hb => (hm b hb).elim (h.m b) (fun e => ⟨by omega, by omega⟩), fun b hb => (hr b hb).elim (h.r b) (fun e => by omega), fun b hb => (ha b hb).elim (h.a b) (fun e => ⟨by omega, by omega⟩), h.p⟩
theorem Up.tr {w : World} {T p d : Nat} {W W' : World} {x : LG} {A : Option Addr} {c : Nat} {D : DS} {M R : Nat → Prop} (h : Up w.heap.size T W p d x A c D M R) (hb : Below w.heap.size w W) (ht : Tr (fun b => M b ∨ b = p ∨ Blo A b) W W') : Below w.heap.size w W' :=
  bl_tr hb ht (fun b hb => by
    rcases hb with e | rfl | e
    · exact (h.m b e).1
    · exact h.p.1
    · exact (h.a b e).1)
theorem Up.blk {n T p d : Nat} {W W' : World} {x : LG} {A : Option Addr} {c : Nat} {D : DS} {M R : Nat → Prop} (h : Up n T W p d x A c D M R) {t : TypeId} {cs : Array Value} (hb : Blk W T t cs) (ht : Tr (fun b => M b ∨ b = p ∨ Blo A b) W W') : Blk W' T t cs :=
  ht.blk hb (fun e => by
    rcases e with e | e | e
    · exact (h.m _ e).2 rfl
    · exact h.p.2 e.symm
    · exact (h.a _ e).2 rfl)
theorem Blk.cell_ne {w : World} {T : Nat} {t : TypeId} {cs : Array Value} {a : Addr} {v : Value} (h : Blk w T t cs) (hc : w.cell? a = some v) (hv : v ∉ cs.toList) : a.block ≠ T := fun e => by
  subst e
  unfold World.cell? at hc
  unfold Blk at h
  rw [h] at hc
  simp only at hc
  split at hc
  · cases hc
  · exact hv (by rw [Array.mem_toList_iff]; exact Array.mem_of_getElem? hc)
theorem one_rec {w : World} {T B : Nat} {Ar : Option Addr} {a b c : Int} (h : RecRd w B Ar [[97]]) (hm : Blk w T 30 #[.int .i64 a, .int .i64 b, .int .i64 c]) :
    ∃ ad B8 d8, Ar = some ad ∧ (((w.setCell ⟨T, 0, none⟩ (.int .i64 5)).setCell ⟨T, 1, none⟩ (.int .i64 2)).setCell ⟨T, 2, none⟩ (.int .i64 3)).cell? ad = some (.slice B8 1 d8) ∧
      (convert 33 9 (.slice B8 1 d8)).run Try.prog (((w.setCell ⟨T, 0, none⟩ (.int .i64 5)).setCell ⟨T, 1, none⟩ (.int .i64 2)).setCell ⟨T, 2, none⟩ (.int .i64 3)) = .ok (.string { data := #[97] }) (((w.setCell ⟨T, 0, none⟩ (.int .i64 5)).setCell ⟨T, 1, none⟩ (.int .i64 2)).setCell ⟨T, 2, none⟩ (.int .i64 3)) := by
  obtain ⟨vs, hv, hvl, hvs⟩ := h
  obtain ⟨B8, d8, hv0, ho⟩ := hvs 0 (by simp)
  obtain ⟨ad, rfl, hc⟩ := hv 0 _ hv0
  have ts := (((Tr.refl (fun b => b = T) w).setCell (p := ⟨T, 0, none⟩) (fun _ => rfl) (.int .i64 5)).setCell (p := ⟨T, 1, none⟩) (fun _ => rfl) (.int .i64 2)).setCell (p := ⟨T, 2, none⟩) (fun _ => rfl) (.int .i64 3)
  have hz : ad.add 0 = ad := by unfold Addr.add; split <;> simp_all
  rw [hz] at hc
  have hlen : ([[97]] : List (List Int))[0].length = 1 := rfl
  refine ⟨ad, B8, d8, rfl, (ts.cell (cell_block_lt hc) (hm.cell_ne hc (by simp))).trans hc, ?_⟩
  have hr : Rd (((w.setCell ⟨T, 0, none⟩ (.int .i64 5)).setCell ⟨T, 1, none⟩ (.int .i64 2)).setCell ⟨T, 2, none⟩ (.int .i64 3)) B8 (by8 [97]) := (Rd.of_own ho).tr ts (fun ad' e h => by
    subst e
    have h1 := own_blk_ne ho hm (by decide)
    rw [ownBlock_slice] at h1
    exact h1 (by simpa using h))
  have hcv := conv8 1 d8 hr rfl
  rw [show strOfNums [97] = { data := #[97] } from rfl] at hcv
  exact hcv
theorem rd_mark1 (w : World) (l : List Int) (fz : Nat × Nat) : Rd (w.alloc (.cells (by8 l).toArray 5 fz)) (some ⟨w.heap.size, 0, none⟩) (by8 l) := fun j u hj => by
  have hadd : (⟨w.heap.size, 0, none⟩ : Addr).add j = ⟨w.heap.size, j, none⟩ := by unfold Addr.add; split <;> simp_all
  refine ⟨_, rfl, ?_⟩
  rw [hadd, cell_of_row _ w.heap.size j (by8 l).toArray 5 fz (heap_alloc_new w _)]
  simpa using hj
def OpnOk (w : World) (d : Nat) (M R : Nat → Prop) (r : OpenR) (e : Ending) (w' : World) : Prop :=
  ∃ p A c Ar cr M' R', e = .returned (.tuple #[.pointer (some ⟨p, 0, none⟩), .slice Ar r.out.length cr, .agg #[.int .i64 r.x.term, .int .i64 r.x.vote, .int .i64 r.x.base], .int .i64 0]) ∧ LgAt w' p d r.x A c r.D M' R' ∧ w.heap.size ≤ p ∧ (∀ b, Blo A b → w.heap.size ≤ b) ∧ RecRd w' w.heap.size Ar r.out ∧ (∀ b, M' b → M b ∨ w.heap.size ≤ b) ∧ (∀ b, R' b → R b ∨ w.heap.size ≤ b) ∧ Tr M w w'
theorem RetOpn.get {w : World} {d : Nat} {M R : Nat → Prop} {r : OpenR} (h0 : r.err = 0) (e : Ending) (w' : World) (h : RetOpn w d M R r e w') : OpnOk w d M R r e w' := by
  unfold RetOpn at h
  rw [if_pos h0] at h
  exact h
theorem knA_ok : ∀ k, k ≤ 4 → (knA k).x.OkS (knA k).D
  | 0, _ => .of kn_a.1
  | 1, _ => .of kn_a.2.1.2.2
  | 2, _ => .of kn_a.2.2.1.2.2
  | 3, _ => .of kn_a.2.2.2.1.2.2
  | 4, _ => .of kn_a.2.2.2.2.2.2.1
  | k + 5, h => by omega
theorem knA_ret : ∀ k, k < 4 → ((knA k).x.app (knA k).D [97]).err = 0 ∧ ((knA k).x.app (knA k).D [97]).n = (k : Int) + 1
  | 0, _ => ⟨kn_a.2.1.1, kn_a.2.1.2.1⟩
  | 1, _ => ⟨kn_a.2.2.1.1, kn_a.2.2.1.2.1⟩
  | 2, _ => ⟨kn_a.2.2.2.1.1, kn_a.2.2.2.1.2.1⟩
  | 3, _ => ⟨kn_a.2.2.2.2.1, kn_a.2.2.2.2.2.1⟩
  | k + 4, h => by omega
set_option maxHeartbeats 12800000 in
theorem known_any (w : World) : Calls Try.prog 17 #[] w fun e w' => e = .returned (.bool true) ∧ Below w.heap.size w w' := by
  have NW : Hid (∀ W, Calls Try.prog 6 #[.int .i64 10] W (RetDisk W knD)) := Lib.hid fun W => new_ok 10 W (by omega) (by omega)
  have HO1 : Hid (∀ (W : World) (d : Nat) (M R : Nat → Prop), IsDisk W d knD M R → Calls Try.prog 7 #[.pointer (some ⟨d, 0, none⟩), .int .i64 0, .int .i64 2, .int .i64 4] W (OpnOk W d M R kn1)) := Lib.hid fun W d M R hd => (wopen_any hd 0 2 4 (by omega) (by omega) (by omega) (by omega) (by decide) (by decide)).mono (RetOpn.get kn_1.1)
  have HO7 : Hid (∀ (W : World) (d : Nat) (M R : Nat → Prop), IsDisk W d kn6.D M R → Calls Try.prog 7 #[.pointer (some ⟨d, 0, none⟩), .int .i64 0, .int .i64 2, .int .i64 4] W (OpnOk W d M R kn7)) := Lib.hid fun W d M R hd => (wopen_any hd 0 2 4 (by omega) (by omega) (by omega) (by omega) (by rw [kn_5.2.2.2.2.1]; omega) (by have := kn_5.2.2.2.2.2; omega)).mono (RetOpn.get kn_7.1)
  obtain ⟨k1a, k1b, k1c⟩ := kn_1
  have K1 := Lib.hid (And.intro k1a (And.intro k1b k1c))
  clear k1a k1b k1c
  go_enter Try.func17, Try.ntmps17
  go_wp2_with (first
    | (go_at_call 6; (with_reducible refine (NW.out _).mono ?_); rintro e w1 ⟨d, Md, rfl, hd, hm, hb⟩; have HD1 := Lib.hid hd; have HM1 := Lib.hid hm; have HB1 := Lib.hid hb; clear hd hm hb)
    | (go_at_call 7; (with_reducible refine (HO1.out _ _ _ _ HD1.out).mono ?_); intro e w2 h2; unfold OpnOk at h2; rw [K1.out.2.1, K1.out.2.2] at h2; obtain ⟨p, A2, c2, Ar2, cr2, M2, R2, rfl, hl2, hp2, ha2, _, hm2, hr2, ht2⟩ := h2; have HL2 := Lib.hid hl2; have HA2 := Lib.hid ha2; have HM2 := Lib.hid hm2; have HR2 := Lib.hid hr2; have HT2 := Lib.hid ht2; clear hl2 ha2 hm2 hr2 ht2))
  have hz1 := HB1.out.size
  have hz2 := HT2.out.size
  have hb2 := bl_chain (bl_tr HB1.out HT2.out HM1.out) (bl_alloc w2 (.cells #[.int .i64 kn1.x.term, .int .i64 (-1), .int .i64 kn1.x.base] 30))
  have hm2 := Blk.new w2 30 #[.int .i64 kn1.x.term, .int .i64 (-1), .int .i64 kn1.x.base]
  have hu2 : Up w.heap.size w2.heap.size (w2.alloc (.cells #[.int .i64 kn1.x.term, .int .i64 (-1), .int .i64 kn1.x.base] 30)) p d kn1.x A2 c2 kn1.D M2 R2 := by
    have hl := HL2.out.below (bl_alloc w2 (.cells #[.int .i64 kn1.x.term, .int .i64 (-1), .int .i64 kn1.x.base] 30))
    have hpl := HL2.out.lg.lt
    exact ⟨hl, fun b hb => ⟨(HM2.out b hb).elim (HM1.out b) (fun e => by omega), by have := HL2.out.dk.mlt b hb; omega⟩, fun b hb => (HR2.out b hb).elim (fun e => absurd e id) (fun e => by omega), fun b hb => ⟨by have := HA2.out b hb; omega, by have := (HL2.out.row.lt b hb).2; omega⟩, by omega, by omega⟩
  have hT2 : w2.heap.size < (w2.alloc (.cells #[.int .i64 kn1.x.term, .int .i64 (-1), .int .i64 kn1.x.base] 30)).heap.size := by simp
  have hTw : w.heap.size ≤ w2.heap.size := by omega
  generalize w2.heap.size = T at hm2 hu2 hT2 hTw ⊢
  have HB2 := Lib.hid hb2
  have HME2 := Lib.hid hm2
  have HU2 := Lib.hid hu2
  clear hb2 hm2 hu2
  generalize w2.alloc (.cells #[.int .i64 kn1.x.term, .int .i64 (-1), .int .i64 kn1.x.base] 30) = W0 at HB2 HME2 HU2 hT2 ⊢
  go_loopw [7, 8, 9] (fun v7 _ _ W => ∃ (k : Nat) (A : Option Addr) (c : Nat) (M R : Nat → Prop), k ≤ 4 ∧ v7 = .int .i64 ((k : Int) + 1) ∧ Up w.heap.size T W p d (knA k).x A c (knA k).D M R ∧ Blk W T 30 #[.int .i64 kn1.x.term, .int .i64 (-1), .int .i64 kn1.x.base] ∧ Below w.heap.size w W) (fun v7 _ _ _ => 6 - (intOf v7).toNat)
  case atStart => exact ⟨0, A2, c2, M2, R2, by omega, rfl, HU2.out, HME2.out, HB2.out⟩
  case round =>
    obtain ⟨k, A, c, M, R, hk, rfl, hu, hme, hb⟩ := hrel
    have HU := Lib.hid hu
    have HME := Lib.hid hme
    have HB := Lib.hid hb
    have hT := hme.lt
    have hsz := hb.size
    have HOK := Lib.hid (knA_ok k hk)
    clear hu hme hb
    by_cases hlt : k < 4
    · have b1 : decide ((k : Int) + 1 ≤ 4) = true := decide_eq_true (by omega)
      have HRET := Lib.hid (knA_ret k hlt)
      have kc := fun (w : World) (C : Array Value) (n c : Nat) => Lib.run_convert_bytes_const (P := Try.prog) w 33 5 C n c Try.underlying33 Try.underlying5
      have HAPP : Hid (Calls Try.prog 8 #[.pointer (some ⟨p, 0, none⟩), .slice (some ⟨wr.heap.size, 0, none⟩) 1 1] (wr.alloc (.cells #[.int .u8 97] 5 (1, 2))) (RetApp (wr.alloc (.cells #[.int .u8 97] 5 (1, 2))) p d M R A ((knA k).x.app (knA k).D [97]))) := Lib.hid (by
        have hl := HU.out.lg.below (bl_alloc wr (.cells #[.int .u8 97] 5 (1, 2)))
        have hpl := HU.out.lg.lg.lt
        exact wappend_any (b := [97]) hl HOK.out.geo HOK.out.small (by simp) (rd_mark1 wr [97] (1, 2)) (by intro x hx; simp at hx; omega) (fun q hq => by
          have e := (Blo.some_iff _ _).1 hq
          simp only at e
          subst e
          exact ⟨fun h => by have := HU.out.lg.dk.mlt _ h; omega, by omega, fun h => by have := (HU.out.lg.row.lt _ h).2; omega⟩) HOK.out.few)
      go_wp2_with (first
        | (go_at_call 8; (with_reducible refine HAPP.out.mono ?_); intro e w4 h4; unfold RetApp at h4; rw [HRET.out.1, HRET.out.2] at h4; obtain ⟨A4, c4, M4, R4, rfl, hl4, ha4, hm4, hr4, ht4⟩ := h4; have HL4 := Lib.hid hl4; have HA4 := Lib.hid ha4; have HM4 := Lib.hid hm4; have HR4 := Lib.hid hr4; have HT4 := Lib.hid ht4; clear hl4 ha4 hm4 hr4 ht4))
      go_roundw
      case measure => simp [intOf]; omega
      case rel =>
        have hb0 := bl_chain HB.out (bl_alloc wr (.cells #[.int .u8 97] 5 (1, 2)))
        have hu0 : Up w.heap.size T (wr.alloc (.cells #[.int .u8 97] 5 (1, 2))) p d (knA k).x A c (knA k).D M R := HU.out.turn hT hsz (HU.out.lg.below (bl_alloc wr _)) (fun b h => .inl h) (fun b h => .inl h) (fun b h => .inl h)
        exact ⟨k + 1, A4, c4, M4, R4, by omega, by go_num, hu0.turn (by simp; omega) (by simp; omega) HL4.out HA4.out HM4.out HR4.out, hu0.blk (HME.out.alloc _) HT4.out, hu0.tr hb0 HT4.out⟩
    · obtain rfl : k = 4 := by omega
      have O4 := HOK.out
      have O5 := LG.OkS.of kn_5.2.1
      have HDROP : Hid (Calls Try.prog 10 #[.pointer (some ⟨p, 0, none⟩), .int .i64 3] wr (RetOp wr p d M R A kn5)) := Lib.hid (drop_any HU.out.lg 3 (by omega) O4.from_ O4.small.epoch O4.term O4.vote O4.small.next (by have := O4.few; omega))
      have HSET : Hid (∀ (W : World) (A : Option Addr) (c : Nat) (M R : Nat → Prop), LgAt W p d kn5.x A c kn5.D M R → Calls Try.prog 11 #[.pointer (some ⟨p, 0, none⟩), .int .i64 5, .int .i64 2] W (RetOp W p d M R A kn6)) := Lib.hid (fun W A c M R h => set_any h 5 2 O5.from_ O5.small.epoch O5.base (by have := O5.few; omega))
      have hs4 : (knA 4).x.chain.length = 2 := kn_a.2.2.2.2.2.2.2
      have HS1 : Hid (Calls Try.prog 20 #[.pointer (some ⟨p, 0, none⟩)] wr fun e w' => e = .returned (.int .i64 2) ∧ wr = w') := Lib.hid (by
        have h := segments_any HU.out.lg.lg
        rw [hs4] at h
        exact h)
      have HS2 : Hid (∀ (W : World) (A : Option Addr) (c : Nat) (M R : Nat → Prop), LgAt W p d kn6.x A c kn6.D M R → Calls Try.prog 20 #[.pointer (some ⟨p, 0, none⟩)] W fun e w' => e = .returned (.int .i64 1) ∧ W = w') := Lib.hid (fun W A c M R h => by
        have h := segments_any h.lg
        rw [kn_5.2.2.2.1] at h
        exact h)
      have K5 : Hid (kn5.err = 0) := Lib.hid kn_5.1
      have hk7 := kn_7
      have K7 := Lib.hid hk7
      clear O4 O5 hs4 hk7
      go_wp2_with (first
        | (go_at_call 20; (with_reducible refine HS1.out.mono ?_); rintro e w4 ⟨rfl, rfl⟩)
        | (go_at_call 10; (with_reducible refine HDROP.out.mono ?_); intro e w5 h5; unfold RetOp at h5; rw [K5.out] at h5; obtain ⟨A5, c5, M5, R5, rfl, hl5, ha5, hm5, hr5, ht5⟩ := h5; have HU5 := Lib.hid (HU.out.turn hT hsz hl5 ha5 hm5 hr5); have HB5 := Lib.hid (HU.out.tr HB.out ht5); have HM5 := Lib.hid (HU.out.blk HME.out ht5); clear hl5 ha5 hm5 hr5 ht5)
        | (go_at_call 11; (with_reducible refine (HSET.out _ _ _ _ _ HU5.out.lg).mono ?_); intro e w6 h6; unfold RetOp at h6; obtain ⟨A6, c6, M6, R6, rfl, hl6, ha6, hm6, hr6, ht6⟩ := h6; have HU6 := Lib.hid (HU5.out.turn HM5.out.lt HB5.out.size hl6 ha6 hm6 hr6); have HB6 := Lib.hid (HU5.out.tr HB5.out ht6); have HM6 := Lib.hid (HU5.out.blk HM5.out ht6); clear hl6 ha6 hm6 hr6 ht6)
        | (go_at_call 20; (with_reducible refine (HS2.out _ _ _ _ _ HU6.out.lg).mono ?_); rintro e w7 ⟨rfl, rfl⟩)
        | (go_at_call 7; (with_reducible refine (HO7.out _ _ _ _ HU6.out.lg.dk).mono ?_); intro e w8 h8; unfold OpnOk at h8; rw [K7.out.2.1, K7.out.2.2.1, K7.out.2.2.2.1, K7.out.2.2.2.2] at h8; obtain ⟨p8, A8, c8, Ar8, cr8, M8, R8, rfl, hl8, hp8, ha8, hrec, hm8, hr8, ht8⟩ := h8; have HT8 := Lib.hid ht8; have hm8' := ht8.blk HM6.out (fun e => (HU6.out.m _ e).2 rfl); obtain ⟨ad8, B8, d8, rfl, hq8, hcv⟩ := one_rec hrec hm8'; have m0 := hm8'.cell 0; have m1 := hm8'.cell 1; have m2 := hm8'.cell 2; have g0 := hm8'.frozen 0; have g1 := hm8'.frozen 1; have g2 := hm8'.frozen 2; simp at m0 m1 m2; have HM8 := Lib.hid hm8'; have HB8 := Lib.hid (bl_tr HB6.out ht8 (fun b hb => (HU6.out.m b hb).1)); clear hl8 hp8 ha8 hrec hm8 hr8 ht8 hm8'))
      go_ret
      have ts := (((Tr.refl (fun b => b = T) w8).setCell (p := ⟨T, 0, none⟩) (fun _ => rfl) (.int .i64 5)).setCell (p := ⟨T, 1, none⟩) (fun _ => rfl) (.int .i64 2)).setCell (p := ⟨T, 2, none⟩) (fun _ => rfl) (.int .i64 3)
      exact ⟨rfl, bl_tr HB8.out ts (fun b hb => by omega)⟩
end Go.Proofs.Ytceajiliahmkaaa
