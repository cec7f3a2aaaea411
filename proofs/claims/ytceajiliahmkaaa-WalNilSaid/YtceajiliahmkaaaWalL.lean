/- Layer 4: a new segment. -/
import Derived.Test.YtceajiliahmkaaaWalK
namespace Go.Proofs.Ytceajiliahmkaaa
set_option linter.unusedVariables false
set_option linter.unusedSimpArgs false
set_option maxRecDepth 100000
open Go.RowKit

def LG.lastL (x : LG) : Int := match x.chain.getLast? with
  | none => 0
  | some s => s.life
def LG.newS (x : LG) : SG := ⟨x.lastL + 1, x.next, x.epoch⟩
def LG.begAt (x : LG) : Nat := x.place x.lastL.toNat
def LG.begL (x : LG) : List Int := numSec [x.lastL + 1, x.next, x.epoch]
def LG.begE (x : LG) (D : DS) : Int := if x.segs ≤ x.chain.length then 4 else writeE D x.begAt x.begL
def LG.begD (x : LG) (D : DS) : DS := if x.segs ≤ x.chain.length then D else writeD D x.begAt x.begL
def LG.begX (x : LG) (D : DS) : LG := if x.segs ≤ x.chain.length then x else if writeE D x.begAt x.begL = 0 then { x with chain := x.chain ++ [x.newS], at_ := 1, fresh := false } else { x with dead := true }
theorem Blk.rd {w : World} {g : Nat} {t : TypeId} {cs : Array Value} (h : Blk w g t cs) : Rd w (some ⟨g, 0, none⟩) cs.toList := fun j u hj => by
  refine ⟨_, rfl, ?_⟩
  have e : (⟨g, 0, none⟩ : Addr).add j = ⟨g, j, none⟩ := by simp [Addr.add]; exact fun h => h.symm
  rw [e, h.cell j]
  simpa using hj
section
variable {w w' : World} {p d : Nat} {x : LG} {A : Option Addr} {c : Nat} {D : DS} {M R F : Nat → Prop}
theorem LgAt.begun {W1' w2 : World} {A2 : Option Addr} {c2 : Nat} {s : SG} (h : LgAt w p d x A c D M R) (hW : Below w.heap.size w W1') (hr2 : SegRow w2 0 A2 c2 (x.chain ++ [s])) (ht2 : Tr (Blo A) W1' w2) (ha2 : ∀ b, Blo A2 b → Blo A b ∨ W1'.heap.size ≤ b) (n : Nat) (hn : x.chain.length + 1 = n) :
    LgAt (((w2.setCell ⟨p, 8, none⟩ (.slice A2 n c2)).setCell ⟨p, 10, none⟩ (.int .i64 1)).setCell ⟨p, 11, none⟩ (.bool false)) p d { x with chain := x.chain ++ [s], at_ := 1, fresh := false } A2 c2 D M R ∧ Tr (fun b => b = p ∨ Blo A b) w (((w2.setCell ⟨p, 8, none⟩ (.slice A2 n c2)).setCell ⟨p, 10, none⟩ (.int .i64 1)).setCell ⟨p, 11, none⟩ (.bool false)) ∧ (∀ b, Blo A2 b → Blo A b ∨ w.heap.size ≤ b) := by
  subst hn
  have hz := hW.size
  have hal := h.row.lt
  have hpl := h.lg.lt
  have hml := h.dk.mlt
  have hrl := h.dk.rlt
  have hb2 := ht2.blk (h.lg.keep hW) h.pa
  have hd2 := (h.dk.below hW).tr ht2 (fun b hb e => (h.am b e).1 hb) (fun b hb e => (h.am b e).2 hb)
  have t8 : Tr (fun b => b = p) w2 (((w2.setCell ⟨p, 8, none⟩ (.slice A2 (x.chain.length + 1) c2)).setCell ⟨p, 10, none⟩ (.int .i64 1)).setCell ⟨p, 11, none⟩ (.bool false)) := (((Tr.refl (fun b => b = p) w2).setCell (p := ⟨p, 8, none⟩) (fun _ => rfl) _).setCell (p := ⟨p, 10, none⟩) (fun _ => rfl) _).setCell (p := ⟨p, 11, none⟩) (fun _ => rfl) _
  have hpa2 : ¬ Blo A2 p := fun hb => (ha2 p hb).elim h.pa (fun e => by omega)
  refine ⟨⟨?_, hr2.tr t8 (fun b hb e => hpa2 (e ▸ hb)), hd2.tr t8 (fun b hb e => h.pm (e ▸ hb)) (fun b hb e => h.pr (e ▸ hb)), hpa2, h.pm, h.pr, fun b hb => ?_⟩, ?_, fun b hb => (ha2 b hb).imp id (fun e => by omega)⟩
  · have hs := ((hb2.set_ 8 (.slice A2 (x.chain.length + 1) c2)).set_ 10 (.int .i64 1)).set_ 11 (.bool false)
    simpa [lgCells, IsLg] using hs
  · rcases ha2 b hb with e | e
    · exact h.am b e
    · exact ⟨fun q => by have := hml b q; omega, fun q => by have := hrl b q; omega⟩
  · exact ((Tr.of_below hW).trans ht2 (fun b _ e => .inr e)).trans t8 (fun b _ e => .inl e)
set_option maxHeartbeats 12800000 in
theorem begin_any (h : LgAt w p d x A c D M R) (hg : x.Geo D.n) (hl : 0 ≤ x.lastL ∧ x.lastL ≤ 2000000000000000000) (hn : 0 ≤ x.next ∧ x.next ≤ 2000000000000000000) (he : 0 ≤ x.epoch ∧ x.epoch ≤ 2000000000000000000) (hfew : D.gs.length < 1000000) :
    Calls Try.prog 35 #[.pointer (some ⟨p, 0, none⟩)] w (RetLg w p d M R A (x.begX D) (x.begD D) (.int .i64 (x.begE D))) := by
  have HH := Lib.hid h
  have hplt := h.lg.lt
  have c0 := h.lg.cell 0
  have c2 := h.lg.cell 2
  have c4 := h.lg.cell 4
  have c8 := h.lg.cell 8
  have c9 := h.lg.cell 9
  simp [lgCells] at c0 c2 c4 c8 c9
  have hs64 := hg.s64
  obtain ⟨Sg, hSg⟩ : ∃ n, x.segs = n := ⟨_, rfl⟩
  obtain ⟨n, hn8⟩ : ∃ n, x.chain.length = n := ⟨_, rfl⟩
  obtain ⟨nx, hnx⟩ : ∃ n, x.next = n := ⟨_, rfl⟩
  obtain ⟨ep, hep⟩ : ∃ n, x.epoch = n := ⟨_, rfl⟩
  have HE : Hid (x.begE D = if Sg ≤ n then 4 else writeE D x.begAt x.begL) := Lib.hid (by unfold LG.begE; rw [hSg, hn8])
  have HD' : Hid (x.begD D = if Sg ≤ n then D else writeD D x.begAt x.begL) := Lib.hid (by unfold LG.begD; rw [hSg, hn8])
  have HX : Hid (x.begX D = if Sg ≤ n then x else if writeE D x.begAt x.begL = 0 then { x with chain := x.chain ++ [x.newS], at_ := 1, fresh := false } else { x with dead := true }) := Lib.hid (by unfold LG.begX; rw [hSg, hn8])
  have HG := Lib.hid hg
  rw [hSg] at c2 hs64
  rw [hn8] at c8
  rw [hnx] at c9 hn
  rw [hep] at c4 he
  have HN8 := Lib.hid hn8
  have HNX := Lib.hid hnx
  have HEP := Lib.hid hep
  clear h hg hn8 hnx hep hSg
  by_cases hfull : Sg ≤ n
  · have b1 : decide (Sg ≤ n) = true := decide_eq_true hfull
    have HE' := Lib.hid (HE.out.trans (if_pos hfull))
    have HD'' := Lib.hid (HD'.out.trans (if_pos hfull))
    have HX' := Lib.hid (HX.out.trans (if_pos hfull))
    clear HE HD' HX
    go_enter Try.func35, Try.ntmps35
    go_wp2_with fail
    go_ret
    rw [HE'.out, HD''.out, HX'.out]
    exact ⟨A, c, M, R, rfl, HH.out, fun b h => .inl h, fun b h => .inl h, fun b h => .inl h, Tr.refl _ _⟩
  · have b1 : decide (Sg ≤ n) = false := decide_eq_false hfull
    have b1' : n < Sg := by omega
    obtain ⟨lf, hlf⟩ : ∃ n, x.lastL + 1 = n := ⟨_, rfl⟩
    obtain ⟨a, ha⟩ : ∃ n, x.begAt = n := ⟨_, rfl⟩
    obtain ⟨l, hl9⟩ : ∃ n, x.begL = n := ⟨_, rfl⟩
    have hlv : l = numSec [lf, nx, ep] := by rw [← hl9]; unfold LG.begL; rw [hlf, HNX.out, HEP.out]
    have HNS : Hid (x.newS = ⟨lf, nx, ep⟩) := Lib.hid (by unfold LG.newS; rw [hlf, HNX.out, HEP.out])
    replace HE := Lib.hid (HE.out.trans (if_neg hfull))
    replace HD' := Lib.hid (HD'.out.trans (if_neg hfull))
    replace HX := Lib.hid (HX.out.trans (if_neg hfull))
    rw [ha, hl9] at HE HD' HX
    have HLEN : Hid (l.length = 256) := Lib.hid (by rw [hlv]; exact numSec_length (by simp))
    have HB : Hid (isB l) := Lib.hid (by rw [hlv]; exact numSec_isB _)
    have ha2 : a ≤ 1000000 := by rw [← ha]; have := HG.out.place x.lastL.toNat; have := HG.out.big; unfold LG.begAt; omega
    have hlf1 : 1 ≤ lf ∧ lf ≤ 2000000000000000001 := by omega
    have HSEC : Hid (∀ (V : World) (T : Nat), Blk V T 2 #[.int .i64 lf, .int .i64 nx, .int .i64 ep] → Calls Try.prog 54 #[.slice (some ⟨T, 0, none⟩) 3 3] V fun e w' => ∃ A' c', e = .returned (.slice A' 256 c') ∧ 256 ≤ c' ∧ w'.ownsRow V.heap.size 5 1 (.slice A' 256 c') 256 (by8 l) ∧ Below V.heap.size V w') := Lib.hid (by
      intro V T hV
      rw [hlv]
      exact wsector_any (some ⟨T, 0, none⟩) 3 [lf, nx, ep] V hV.rd (by simp) (by
        intro n hn
        simp only [List.mem_cons, List.mem_nil_iff, or_false] at hn
        rcases hn with rfl | rfl | rfl <;> omega))
    have HQ : Hid (x.chain.length ≤ 1000 ∧ x.chain.length + 1 = n + 1) := Lib.hid (by rw [HN8.out]; exact ⟨by omega, rfl⟩)
    have HLF := Lib.hid hlf
    have HAA := Lib.hid ha
    clear hlv hl9 ha hl
    by_cases h0 : n = 0
    · subst h0
      have HLF1 : Hid (lf = 1) := Lib.hid (by rw [← HLF.out]; unfold LG.lastL; rw [List.length_eq_zero_iff.1 HN8.out]; rfl)
      go_enter Try.func35, Try.ntmps35
      go_wp2_with fail
      go_region
      go_wp2_with fail
      rw [← HLF1.out]
      have hwb := bl_chain (bl_alloc w (.cells #[.int .i64 lf, .int .i64 nx, .int .i64 ep] 71)) (bl_drew _)
      have hsb := (Blk.new w 71 #[.int .i64 lf, .int .i64 nx, .int .i64 ep]).drew
      generalize (w.alloc (.cells #[.int .i64 lf, .int .i64 nx, .int .i64 ep] 71)).drew = W at hwb hsb ⊢
      have hsm : ¬ M w.heap.size := fun e => by have := HH.out.dk.mlt _ e; omega
      have HSM := Lib.hid hsm
      have HWB := Lib.hid hwb
      have HSB := Lib.hid hsb
      have HLW := Lib.hid (HH.out.below hwb)
      have HSS : Hid (W.cell? ⟨p, 0, none⟩ = some (.pointer (some ⟨d, 0, none⟩)) ∧ W.cell? ⟨w.heap.size, 0, none⟩ = some (.int .i64 lf) ∧ W.cell? ⟨w.heap.size, 1, none⟩ = some (.int .i64 nx) ∧ W.cell? ⟨w.heap.size, 2, none⟩ = some (.int .i64 ep)) := Lib.hid ⟨HLW.out.lg.cell 0, HSB.out.cell 0, HSB.out.cell 1, HSB.out.cell 2⟩
      have HPL : Hid (∀ V, Below W.heap.size W V → Calls Try.prog 40 #[.pointer (some ⟨p, 0, none⟩), .int .i64 lf] V fun e w' => e = .returned (.int .i64 (a : Int)) ∧ Below V.heap.size V w') := Lib.hid (fun V hV => by
        have h := place_any (HLW.out.below hV).lg HG.out x.lastL.toNat lf (by rw [← HLF.out]; omega) (by have := HLF.out; omega)
        rw [show x.place x.lastL.toNat = a from HAA.out] at h
        exact h)
      clear hwb hsb hsm
      refine held_startB (S := fun W => W.cell? ⟨p, 0, none⟩ = some (.pointer (some ⟨d, 0, none⟩)) ∧ W.cell? ⟨w.heap.size, 0, none⟩ = some (.int .i64 lf) ∧ W.cell? ⟨w.heap.size, 1, none⟩ = some (.int .i64 nx) ∧ W.cell? ⟨w.heap.size, 2, none⟩ = some (.int .i64 ep)) (by kernel_rfl) ?_
      refine held_take (HSS.out) (i := 0) (v := ?_) rfl (by kernel_rfl) (by kernel_rfl) (by kernel_rfl) (fun _ _ _ h => h) (Or.inl ⟨by rfl, ?_⟩) ?_
      rotate_left
      · (intro W hSw; obtain ⟨s1, s2, s3, s4⟩ := hSw; go_simp; try with_reducible rfl)
      try simp only [Act.put, List.setIfInBounds_toArray, List.set_cons_zero, List.set_cons_succ]
      refine held_take (HSS.out) (i := 1) (v := ?_) rfl (by kernel_rfl) (by kernel_rfl) (by kernel_rfl) (fun _ _ _ h => h) (Or.inl ⟨by rfl, ?_⟩) ?_
      rotate_left
      · (intro W hSw; obtain ⟨s1, s2, s3, s4⟩ := hSw; go_simp; try with_reducible rfl)
      try simp only [Act.put, List.setIfInBounds_toArray, List.set_cons_zero, List.set_cons_succ]
      refine held_take (HSS.out) (i := 2) (v := ?_) rfl (by kernel_rfl) (by kernel_rfl) (by kernel_rfl) (fun _ _ _ h => h) (Or.inl ⟨by rfl, ?_⟩) ?_
      rotate_left
      · (intro W hSw; obtain ⟨s1, s2, s3, s4⟩ := hSw; go_simp; try with_reducible rfl)
      try simp only [Act.put, List.setIfInBounds_toArray, List.set_cons_zero, List.set_cons_succ]
      refine held_take (HSS.out) (i := 3) (v := ?_) rfl (by kernel_rfl) (by kernel_rfl) (by kernel_rfl) (fun _ _ _ h => h) (Or.inl ⟨by rfl, ?_⟩) ?_
      rotate_left
      · (intro W hSw; obtain ⟨s1, s2, s3, s4⟩ := hSw; go_simp; try with_reducible rfl)
      try simp only [Act.put, List.setIfInBounds_toArray, List.set_cons_zero, List.set_cons_succ]
      refine held_take (HSS.out) (i := 4) (v := ?_) rfl (by kernel_rfl) (by kernel_rfl) (by kernel_rfl) (fun _ _ _ h => h) (Or.inl ⟨by rfl, ?_⟩) ?_
      rotate_left
      · (intro W hSw; obtain ⟨s1, s2, s3, s4⟩ := hSw; go_simp; try with_reducible rfl)
      try simp only [Act.put, List.setIfInBounds_toArray, List.set_cons_zero, List.set_cons_succ]
      refine held_take (HSS.out) (i := 5) (v := ?_) rfl (by kernel_rfl) (by kernel_rfl) (by kernel_rfl) (fun _ _ _ h => h) (Or.inl ⟨by rfl, ?_⟩) ?_
      rotate_left
      · (intro W hSw; obtain ⟨s1, s2, s3, s4⟩ := hSw; go_simp; try with_reducible rfl)
      try simp only [Act.put, List.setIfInBounds_toArray, List.set_cons_zero, List.set_cons_succ]
      refine held_take (HSS.out) (i := 6) (v := ?_) rfl (by kernel_rfl) (by kernel_rfl) (by kernel_rfl) (fun _ _ _ h => h) (Or.inl ⟨by rfl, ?_⟩) ?_
      rotate_left
      · (intro W hSw; obtain ⟨s1, s2, s3, s4⟩ := hSw; go_simp; try with_reducible rfl)
      try simp only [Act.put, List.setIfInBounds_toArray, List.set_cons_zero, List.set_cons_succ]
      refine held_take (HSS.out) (i := 8) (v := ?_) rfl (by kernel_rfl) (by kernel_rfl) (by kernel_rfl) (fun _ _ _ h => h) (Or.inl ⟨by rfl, ?_⟩) ?_
      rotate_left
      · (intro W hSw; obtain ⟨s1, s2, s3, s4⟩ := hSw; go_simp; try with_reducible rfl)
      try simp only [Act.put, List.setIfInBounds_toArray, List.set_cons_zero, List.set_cons_succ]
      refine held_take (HSS.out) (i := 9) (v := ?_) rfl (by kernel_rfl) (by kernel_rfl) (by kernel_rfl) (fun _ _ _ h => h) (Or.inl ⟨by rfl, ?_⟩) ?_
      rotate_left
      · (intro W hSw; obtain ⟨s1, s2, s3, s4⟩ := hSw; go_simp; try with_reducible rfl)
      try simp only [Act.put, List.setIfInBounds_toArray, List.set_cons_zero, List.set_cons_succ]
      refine held_take (HSS.out) (i := 10) (v := ?_) rfl (by kernel_rfl) (by kernel_rfl) (by kernel_rfl) (fun _ _ _ h => h) (Or.inl ⟨by rfl, ?_⟩) ?_
      rotate_left
      · (intro W hSw; obtain ⟨s1, s2, s3, s4⟩ := hSw; go_simp; try with_reducible rfl)
      try simp only [Act.put, List.setIfInBounds_toArray, List.set_cons_zero, List.set_cons_succ]
      refine held_take (HSS.out) (i := 11) (v := ?_) rfl (by kernel_rfl) (by kernel_rfl) (by kernel_rfl) (fun _ _ _ h => h) (Or.inl ⟨by rfl, ?_⟩) ?_
      rotate_left
      · (intro W hSw; obtain ⟨s1, s2, s3, s4⟩ := hSw; go_simp; try with_reducible rfl)
      try simp only [Act.put, List.setIfInBounds_toArray, List.set_cons_zero, List.set_cons_succ]
      refine held_take (HSS.out) (i := 12) (v := ?_) rfl (by kernel_rfl) (by kernel_rfl) (by kernel_rfl) (fun _ _ _ h => h) (Or.inl ⟨by rfl, ?_⟩) ?_
      rotate_left
      · (intro W hSw; obtain ⟨s1, s2, s3, s4⟩ := hSw; go_simp; try with_reducible rfl)
      try simp only [Act.put, List.setIfInBounds_toArray, List.set_cons_zero, List.set_cons_succ]
      refine held_take (HSS.out) (i := 13) (v := ?_) rfl (by kernel_rfl) (by kernel_rfl) (by kernel_rfl) (fun _ _ _ h => h) (Or.inl ⟨by rfl, ?_⟩) ?_
      rotate_left
      · (intro W hSw; obtain ⟨s1, s2, s3, s4⟩ := hSw; go_simp; try with_reducible rfl)
      try simp only [Act.put, List.setIfInBounds_toArray, List.set_cons_zero, List.set_cons_succ]
      refine held_call2 (i := 7) (j := 14) (by kernel_rfl) rfl rfl (fun K hK => ?_) (fun K hK => ?_)
      ·
        go_simp
        (go_at_call 40; (with_reducible refine (HPL.out _ (bl_drew W)).mono ?_); rintro e w4 ⟨rfl, hb4⟩; have hbb := bl_chain (bl_drew W) hb4; have HB4 := Lib.hid hbb; have HS4 := Lib.hid (show w4.cell? ⟨p, 0, none⟩ = some (.pointer (some ⟨d, 0, none⟩)) ∧ w4.cell? ⟨w.heap.size, 0, none⟩ = some (.int .i64 lf) ∧ w4.cell? ⟨w.heap.size, 1, none⟩ = some (.int .i64 nx) ∧ w4.cell? ⟨w.heap.size, 2, none⟩ = some (.int .i64 ep) from ⟨(hbb.cell (cell_block_lt HSS.out.1)).trans HSS.out.1, (hbb.cell (cell_block_lt HSS.out.2.1)).trans HSS.out.2.1, (hbb.cell (cell_block_lt HSS.out.2.2.1)).trans HSS.out.2.2.1, (hbb.cell (cell_block_lt HSS.out.2.2.2)).trans HSS.out.2.2.2⟩); have HZ4 := Lib.hid (bl_alloc w4 (.cells #[.int .i64 lf, .int .i64 nx, .int .i64 ep] 2)); have HS5 := Lib.hid (show (w4.alloc (.cells #[.int .i64 lf, .int .i64 nx, .int .i64 ep] 2)).cell? ⟨p, 0, none⟩ = some (.pointer (some ⟨d, 0, none⟩)) ∧ (w4.alloc (.cells #[.int .i64 lf, .int .i64 nx, .int .i64 ep] 2)).cell? ⟨w.heap.size, 0, none⟩ = some (.int .i64 lf) ∧ (w4.alloc (.cells #[.int .i64 lf, .int .i64 nx, .int .i64 ep] 2)).cell? ⟨w.heap.size, 1, none⟩ = some (.int .i64 nx) ∧ (w4.alloc (.cells #[.int .i64 lf, .int .i64 nx, .int .i64 ep] 2)).cell? ⟨w.heap.size, 2, none⟩ = some (.int .i64 ep) from ⟨(HZ4.out.cell (cell_block_lt HS4.out.1)).trans HS4.out.1, (HZ4.out.cell (cell_block_lt HS4.out.2.1)).trans HS4.out.2.1, (HZ4.out.cell (cell_block_lt HS4.out.2.2.1)).trans HS4.out.2.2.1, (HZ4.out.cell (cell_block_lt HS4.out.2.2.2)).trans HS4.out.2.2.2⟩); clear hb4 hbb)
        refine hK.out _ _ (HS4.out) ?_
        clear hK K
        try simp only [Act.put, List.setIfInBounds_toArray, List.set_cons_zero, List.set_cons_succ]
        refine held_call (i := 14) (by kernel_rfl) rfl (fun K hK => ?_)
        go_simp
        refine hK.out _ _ (HS5.out) ?_
        clear hK K
        try simp only [Act.put, List.setIfInBounds_toArray, List.set_cons_zero, List.set_cons_succ]
        have hbw := bl_chain HB4.out (bl_alloc w4 (.cells #[.int .i64 lf, .int .i64 nx, .int .i64 ep] 2))
        have har := Blk.new w4 2 #[.int .i64 lf, .int .i64 nx, .int .i64 ep]
        clear HS5 HZ4
        generalize w4.alloc (.cells #[.int .i64 lf, .int .i64 nx, .int .i64 ep] 2) = W5 at hbw har ⊢
        generalize w4.heap.size = T at har ⊢
        have HBW := Lib.hid hbw
        have HAR := Lib.hid har
        have HL5 := Lib.hid (HLW.out.below hbw)
        have HSG5 := Lib.hid (HSB.out.keep hbw)
        have HS5 := Lib.hid (show W5.cell? ⟨p, 0, none⟩ = some (.pointer (some ⟨d, 0, none⟩)) ∧ W5.cell? ⟨w.heap.size, 0, none⟩ = some (.int .i64 lf) ∧ W5.cell? ⟨w.heap.size, 1, none⟩ = some (.int .i64 nx) ∧ W5.cell? ⟨w.heap.size, 2, none⟩ = some (.int .i64 ep) from ⟨(hbw.cell (cell_block_lt HSS.out.1)).trans HSS.out.1, (hbw.cell (cell_block_lt HSS.out.2.1)).trans HSS.out.2.1, (hbw.cell (cell_block_lt HSS.out.2.2.1)).trans HSS.out.2.2.1, (hbw.cell (cell_block_lt HSS.out.2.2.2)).trans HSS.out.2.2.2⟩)
        clear hbw har
        refine held_call (i := 15) (by kernel_rfl) rfl (fun K hK => ?_)
        go_simp
        (go_at_call 54; (with_reducible refine (HSEC.out _ _ HAR.out).mono ?_); rintro e w6 ⟨A6, c6, rfl, hc6, ho6, hb6⟩; have HO6 := Lib.hid ho6; have HBW6 := Lib.hid (bl_chain HBW.out hb6); have HL6 := Lib.hid (HL5.out.below hb6); have HS6 := Lib.hid (show w6.cell? ⟨p, 0, none⟩ = some (.pointer (some ⟨d, 0, none⟩)) ∧ w6.cell? ⟨w.heap.size, 0, none⟩ = some (.int .i64 lf) ∧ w6.cell? ⟨w.heap.size, 1, none⟩ = some (.int .i64 nx) ∧ w6.cell? ⟨w.heap.size, 2, none⟩ = some (.int .i64 ep) from ⟨(hb6.cell (cell_block_lt HS5.out.1)).trans HS5.out.1, (hb6.cell (cell_block_lt HS5.out.2.1)).trans HS5.out.2.1, (hb6.cell (cell_block_lt HS5.out.2.2.1)).trans HS5.out.2.2.1, (hb6.cell (cell_block_lt HS5.out.2.2.2)).trans HS5.out.2.2.2⟩); clear ho6 hb6)
        refine hK.out _ _ (HS6.out) ?_
        clear hK K
        try simp only [Act.put, List.setIfInBounds_toArray, List.set_cons_zero, List.set_cons_succ]
        refine held_call (i := 16) (by kernel_rfl) rfl (fun K hK => ?_)
        go_simp
        (have HWR := write_256 (c := c6) HL6.out.dk (Rd.of_own HO6.out) HLEN.out HB.out hfew a ha2; go_at_call 39; (with_reducible refine HWR.mono ?_); rintro e w7 ⟨rfl, M7, R7, hd7, hm7, hr7, ht7⟩; have hl7 := HL6.out.disk hd7 hm7 hr7 ht7; have HT7 := Lib.hid ht7; have HM7 := Lib.hid hm7; have HR7 := Lib.hid hr7; have HL7 := Lib.hid hl7; have HSG7 := Lib.hid (ht7.blk (HSB.out.keep HBW6.out) HSM.out); have HS7 := Lib.hid (show w7.cell? ⟨p, 0, none⟩ = some (.pointer (some ⟨d, 0, none⟩)) ∧ w7.cell? ⟨w.heap.size, 0, none⟩ = some (.int .i64 lf) ∧ w7.cell? ⟨w.heap.size, 1, none⟩ = some (.int .i64 nx) ∧ w7.cell? ⟨w.heap.size, 2, none⟩ = some (.int .i64 ep) from ⟨(ht7.cell (cell_block_lt HS6.out.1) HH.out.pm).trans HS6.out.1, (ht7.cell (cell_block_lt HS6.out.2.1) HSM.out).trans HS6.out.2.1, (ht7.cell (cell_block_lt HS6.out.2.2.1) HSM.out).trans HS6.out.2.2.1, (ht7.cell (cell_block_lt HS6.out.2.2.2) HSM.out).trans HS6.out.2.2.2⟩); clear hd7 hm7 hr7 ht7 hl7)
        refine hK.out _ _ (HS7.out) ?_
        clear hK K
        try simp only [Act.put, List.setIfInBounds_toArray, List.set_cons_zero, List.set_cons_succ]
        refine held_take (HS7.out) (i := 17) (v := ?_) rfl (by kernel_rfl) (by kernel_rfl) (by kernel_rfl) (fun _ _ _ h => h) (Or.inl ⟨by rfl, ?_⟩) ?_
        rotate_left
        · (intro W hSw; obtain ⟨s1, s2, s3, s4⟩ := hSw; go_simp; try with_reducible rfl)
        try simp only [Act.put, List.setIfInBounds_toArray, List.set_cons_zero, List.set_cons_succ]
        refine wpAnyH_done (by kernel_rfl) ?_ _
        generalize writeE D a l = e1 at HE HX ⊢
        generalize writeD D a l = D1 at HD' HL7 ⊢
        have hz6 := HBW6.out.size
        have hzw := HWB.out.size
        have hp7 := HL7.out.lg.lt
        have hs7 := HSG7.out.lt
        have HM := Lib.hid (show ∀ b, M7 b → M b ∨ w.heap.size ≤ b from fun b hb => (HM7.out b hb).imp id (fun h => by omega))
        have HR := Lib.hid (show ∀ b, R7 b → R b ∨ w.heap.size ≤ b from fun b hb => (HR7.out b hb).imp id (fun h => by omega))
        have HT := Lib.hid (show Tr (fun b => M b ∨ b = p ∨ Blo A b) w w7 from ((Tr.of_below (bl_chain HWB.out HBW6.out)).trans HT7.out (fun b _ h => .inl h)))
        have f12 := HL7.out.lg.frozen 12
        have c12 := HL7.out.lg.cell 12
        have c8 := HL7.out.lg.cell 8
        have f8 := HL7.out.lg.frozen 8
        simp [lgCells] at c12 c8
        rw [HN8.out] at c8
        clear hz6 hzw
        by_cases h1 : e1 = 0
        · subst h1
          have HX1 := Lib.hid (HX.out.trans (if_pos rfl))
          clear HX
          have z0 := HSG7.out.cell 0
          have z1 := HSG7.out.cell 1
          have z2 := HSG7.out.cell 2
          simp at z0 z1 z2
          have hrd : Rd (w7.alloc (.cells #[.int .i64 lf, .int .i64 nx, .int .i64 ep] 71)).drew (some ⟨w7.heap.size, 0, none⟩) (SG.mk lf nx ep).cells := (Rd.newAt w7 w7.heap.size 71 [.int .i64 lf, .int .i64 nx, .int .i64 ep] #[.int .i64 lf, .int .i64 nx, .int .i64 ep] 0 rfl rfl).drew
          have HRD := Lib.hid hrd
          clear hrd
          go_wp2_with fail
          go_region_law (refine stepR_seg (B := 0) (L := x.chain) (A0 := A) (c0 := c) (n := 0) (A2 := some ⟨w7.heap.size, 0, none⟩) (c2 := 1) rfl rfl (HL7.out.row.below (bl_chain (bl_alloc _ _) (bl_drew _))) rfl HN8.out.symm ⟨lf, nx, ep⟩ HRD.out rfl HQ.out.1 (Nat.zero_le _) (0 + 1) HQ.out.2 ?_; intro A2 c2 w8 hr8 ht8 ha8; have hb8 := ht8.blk (Blk.drew (HL7.out.lg.alloc _)) HH.out.pa; have q8 := hb8.cell 8; have g8 := hb8.frozen 8; have q10 := hb8.cell 10; have g10 := hb8.frozen 10; have q11 := hb8.cell 11; have g11 := hb8.frozen 11; simp [lgCells] at q8 q10 q11; have HR8 := Lib.hid hr8; have HT8 := Lib.hid ht8; have HA8 := Lib.hid ha8; clear hr8 ht8 ha8 hb8)
          all_goals
            have HCH := Lib.hid (HL7.out.begun (bl_chain (bl_alloc _ _) (bl_drew _)) HR8.out HT8.out HA8.out (0 + 1) HQ.out.2)
            go_wp2_with fail
            go_ret
            rw [HE.out, HD'.out, HX1.out]
            exact ⟨A2, c2, M7, R7, rfl, HNS.out ▸ HCH.out.1, fun b hb => (HCH.out.2.2 b hb).imp id (fun e => Nat.le_trans HT.out.size e), HM.out, HR.out, HT.out.trans HCH.out.2.1 (fun b _ e => .inr e)⟩
        · have HX1 := Lib.hid (HX.out.trans (if_neg h1))
          have k1 : (e1 == 0) = false := by simp [h1]
          clear HX
          go_wp2_with fail
          go_ret
          obtain ⟨hl8, t8⟩ := HL7.out.set12 true
          rw [HE.out, HD'.out, HX1.out]
          exact ⟨A, c, M7, R7, rfl, hl8, fun b hb => .inl hb, HM.out, HR.out, HT.out.trans t8 (fun b _ e => .inr (.inl e))⟩
      ·
        go_simp
        (have HZ3 := Lib.hid (bl_chain (bl_alloc W (.cells #[.int .i64 lf, .int .i64 nx, .int .i64 ep] 2)) (bl_drew _)); have HS3 := Lib.hid (show (W.alloc (.cells #[.int .i64 lf, .int .i64 nx, .int .i64 ep] 2)).drew.cell? ⟨p, 0, none⟩ = some (.pointer (some ⟨d, 0, none⟩)) ∧ (W.alloc (.cells #[.int .i64 lf, .int .i64 nx, .int .i64 ep] 2)).drew.cell? ⟨w.heap.size, 0, none⟩ = some (.int .i64 lf) ∧ (W.alloc (.cells #[.int .i64 lf, .int .i64 nx, .int .i64 ep] 2)).drew.cell? ⟨w.heap.size, 1, none⟩ = some (.int .i64 nx) ∧ (W.alloc (.cells #[.int .i64 lf, .int .i64 nx, .int .i64 ep] 2)).drew.cell? ⟨w.heap.size, 2, none⟩ = some (.int .i64 ep) from ⟨(HZ3.out.cell (cell_block_lt HSS.out.1)).trans HSS.out.1, (HZ3.out.cell (cell_block_lt HSS.out.2.1)).trans HSS.out.2.1, (HZ3.out.cell (cell_block_lt HSS.out.2.2.1)).trans HSS.out.2.2.1, (HZ3.out.cell (cell_block_lt HSS.out.2.2.2)).trans HSS.out.2.2.2⟩))
        refine hK.out _ _ (HS3.out) ?_
        clear hK K
        try simp only [Act.put, List.setIfInBounds_toArray, List.set_cons_zero, List.set_cons_succ]
        refine held_call (i := 7) (by kernel_rfl) rfl (fun K hK => ?_)
        go_simp
        (go_at_call 40; (with_reducible refine (HPL.out _ HZ3.out).mono ?_); rintro e w4 ⟨rfl, hb4⟩; have hbw := bl_chain HZ3.out hb4; have har := ((Blk.new W 2 #[.int .i64 lf, .int .i64 nx, .int .i64 ep]).drew).keep hb4; have HBW := Lib.hid hbw; have HAR := Lib.hid har; have HS4 := Lib.hid (show w4.cell? ⟨p, 0, none⟩ = some (.pointer (some ⟨d, 0, none⟩)) ∧ w4.cell? ⟨w.heap.size, 0, none⟩ = some (.int .i64 lf) ∧ w4.cell? ⟨w.heap.size, 1, none⟩ = some (.int .i64 nx) ∧ w4.cell? ⟨w.heap.size, 2, none⟩ = some (.int .i64 ep) from ⟨(hbw.cell (cell_block_lt HSS.out.1)).trans HSS.out.1, (hbw.cell (cell_block_lt HSS.out.2.1)).trans HSS.out.2.1, (hbw.cell (cell_block_lt HSS.out.2.2.1)).trans HSS.out.2.2.1, (hbw.cell (cell_block_lt HSS.out.2.2.2)).trans HSS.out.2.2.2⟩); clear hb4 hbw har)
        refine hK.out _ _ (HS4.out) ?_
        clear hK K
        try simp only [Act.put, List.setIfInBounds_toArray, List.set_cons_zero, List.set_cons_succ]
        have hbw := HBW.out
        have har := HAR.out
        clear HBW HAR HZ3
        generalize W.heap.size = T at har ⊢
        have HBW := Lib.hid hbw
        have HAR := Lib.hid har
        have HL5 := Lib.hid (HLW.out.below hbw)
        have HSG5 := Lib.hid (HSB.out.keep hbw)
        have HS5 := Lib.hid (show w4.cell? ⟨p, 0, none⟩ = some (.pointer (some ⟨d, 0, none⟩)) ∧ w4.cell? ⟨w.heap.size, 0, none⟩ = some (.int .i64 lf) ∧ w4.cell? ⟨w.heap.size, 1, none⟩ = some (.int .i64 nx) ∧ w4.cell? ⟨w.heap.size, 2, none⟩ = some (.int .i64 ep) from ⟨(hbw.cell (cell_block_lt HSS.out.1)).trans HSS.out.1, (hbw.cell (cell_block_lt HSS.out.2.1)).trans HSS.out.2.1, (hbw.cell (cell_block_lt HSS.out.2.2.1)).trans HSS.out.2.2.1, (hbw.cell (cell_block_lt HSS.out.2.2.2)).trans HSS.out.2.2.2⟩)
        clear hbw har
        refine held_call (i := 15) (by kernel_rfl) rfl (fun K hK => ?_)
        go_simp
        (go_at_call 54; (with_reducible refine (HSEC.out _ _ HAR.out).mono ?_); rintro e w6 ⟨A6, c6, rfl, hc6, ho6, hb6⟩; have HO6 := Lib.hid ho6; have HBW6 := Lib.hid (bl_chain HBW.out hb6); have HL6 := Lib.hid (HL5.out.below hb6); have HS6 := Lib.hid (show w6.cell? ⟨p, 0, none⟩ = some (.pointer (some ⟨d, 0, none⟩)) ∧ w6.cell? ⟨w.heap.size, 0, none⟩ = some (.int .i64 lf) ∧ w6.cell? ⟨w.heap.size, 1, none⟩ = some (.int .i64 nx) ∧ w6.cell? ⟨w.heap.size, 2, none⟩ = some (.int .i64 ep) from ⟨(hb6.cell (cell_block_lt HS5.out.1)).trans HS5.out.1, (hb6.cell (cell_block_lt HS5.out.2.1)).trans HS5.out.2.1, (hb6.cell (cell_block_lt HS5.out.2.2.1)).trans HS5.out.2.2.1, (hb6.cell (cell_block_lt HS5.out.2.2.2)).trans HS5.out.2.2.2⟩); clear ho6 hb6)
        refine hK.out _ _ (HS6.out) ?_
        clear hK K
        try simp only [Act.put, List.setIfInBounds_toArray, List.set_cons_zero, List.set_cons_succ]
        refine held_call (i := 16) (by kernel_rfl) rfl (fun K hK => ?_)
        go_simp
        (have HWR := write_256 (c := c6) HL6.out.dk (Rd.of_own HO6.out) HLEN.out HB.out hfew a ha2; go_at_call 39; (with_reducible refine HWR.mono ?_); rintro e w7 ⟨rfl, M7, R7, hd7, hm7, hr7, ht7⟩; have hl7 := HL6.out.disk hd7 hm7 hr7 ht7; have HT7 := Lib.hid ht7; have HM7 := Lib.hid hm7; have HR7 := Lib.hid hr7; have HL7 := Lib.hid hl7; have HSG7 := Lib.hid (ht7.blk (HSB.out.keep HBW6.out) HSM.out); have HS7 := Lib.hid (show w7.cell? ⟨p, 0, none⟩ = some (.pointer (some ⟨d, 0, none⟩)) ∧ w7.cell? ⟨w.heap.size, 0, none⟩ = some (.int .i64 lf) ∧ w7.cell? ⟨w.heap.size, 1, none⟩ = some (.int .i64 nx) ∧ w7.cell? ⟨w.heap.size, 2, none⟩ = some (.int .i64 ep) from ⟨(ht7.cell (cell_block_lt HS6.out.1) HH.out.pm).trans HS6.out.1, (ht7.cell (cell_block_lt HS6.out.2.1) HSM.out).trans HS6.out.2.1, (ht7.cell (cell_block_lt HS6.out.2.2.1) HSM.out).trans HS6.out.2.2.1, (ht7.cell (cell_block_lt HS6.out.2.2.2) HSM.out).trans HS6.out.2.2.2⟩); clear hd7 hm7 hr7 ht7 hl7)
        refine hK.out _ _ (HS7.out) ?_
        clear hK K
        try simp only [Act.put, List.setIfInBounds_toArray, List.set_cons_zero, List.set_cons_succ]
        refine held_take (HS7.out) (i := 17) (v := ?_) rfl (by kernel_rfl) (by kernel_rfl) (by kernel_rfl) (fun _ _ _ h => h) (Or.inl ⟨by rfl, ?_⟩) ?_
        rotate_left
        · (intro W hSw; obtain ⟨s1, s2, s3, s4⟩ := hSw; go_simp; try with_reducible rfl)
        try simp only [Act.put, List.setIfInBounds_toArray, List.set_cons_zero, List.set_cons_succ]
        refine wpAnyH_done (by kernel_rfl) ?_ _
        generalize writeE D a l = e1 at HE HX ⊢
        generalize writeD D a l = D1 at HD' HL7 ⊢
        have hz6 := HBW6.out.size
        have hzw := HWB.out.size
        have hp7 := HL7.out.lg.lt
        have hs7 := HSG7.out.lt
        have HM := Lib.hid (show ∀ b, M7 b → M b ∨ w.heap.size ≤ b from fun b hb => (HM7.out b hb).imp id (fun h => by omega))
        have HR := Lib.hid (show ∀ b, R7 b → R b ∨ w.heap.size ≤ b from fun b hb => (HR7.out b hb).imp id (fun h => by omega))
        have HT := Lib.hid (show Tr (fun b => M b ∨ b = p ∨ Blo A b) w w7 from ((Tr.of_below (bl_chain HWB.out HBW6.out)).trans HT7.out (fun b _ h => .inl h)))
        have f12 := HL7.out.lg.frozen 12
        have c12 := HL7.out.lg.cell 12
        have c8 := HL7.out.lg.cell 8
        have f8 := HL7.out.lg.frozen 8
        simp [lgCells] at c12 c8
        rw [HN8.out] at c8
        clear hz6 hzw
        by_cases h1 : e1 = 0
        · subst h1
          have HX1 := Lib.hid (HX.out.trans (if_pos rfl))
          clear HX
          have z0 := HSG7.out.cell 0
          have z1 := HSG7.out.cell 1
          have z2 := HSG7.out.cell 2
          simp at z0 z1 z2
          have hrd : Rd (w7.alloc (.cells #[.int .i64 lf, .int .i64 nx, .int .i64 ep] 71)).drew (some ⟨w7.heap.size, 0, none⟩) (SG.mk lf nx ep).cells := (Rd.newAt w7 w7.heap.size 71 [.int .i64 lf, .int .i64 nx, .int .i64 ep] #[.int .i64 lf, .int .i64 nx, .int .i64 ep] 0 rfl rfl).drew
          have HRD := Lib.hid hrd
          clear hrd
          go_wp2_with fail
          go_region_law (refine stepR_seg (B := 0) (L := x.chain) (A0 := A) (c0 := c) (n := 0) (A2 := some ⟨w7.heap.size, 0, none⟩) (c2 := 1) rfl rfl (HL7.out.row.below (bl_chain (bl_alloc _ _) (bl_drew _))) rfl HN8.out.symm ⟨lf, nx, ep⟩ HRD.out rfl HQ.out.1 (Nat.zero_le _) (0 + 1) HQ.out.2 ?_; intro A2 c2 w8 hr8 ht8 ha8; have hb8 := ht8.blk (Blk.drew (HL7.out.lg.alloc _)) HH.out.pa; have q8 := hb8.cell 8; have g8 := hb8.frozen 8; have q10 := hb8.cell 10; have g10 := hb8.frozen 10; have q11 := hb8.cell 11; have g11 := hb8.frozen 11; simp [lgCells] at q8 q10 q11; have HR8 := Lib.hid hr8; have HT8 := Lib.hid ht8; have HA8 := Lib.hid ha8; clear hr8 ht8 ha8 hb8)
          all_goals
            have HCH := Lib.hid (HL7.out.begun (bl_chain (bl_alloc _ _) (bl_drew _)) HR8.out HT8.out HA8.out (0 + 1) HQ.out.2)
            go_wp2_with fail
            go_ret
            rw [HE.out, HD'.out, HX1.out]
            exact ⟨A2, c2, M7, R7, rfl, HNS.out ▸ HCH.out.1, fun b hb => (HCH.out.2.2 b hb).imp id (fun e => Nat.le_trans HT.out.size e), HM.out, HR.out, HT.out.trans HCH.out.2.1 (fun b _ e => .inr e)⟩
        · have HX1 := Lib.hid (HX.out.trans (if_neg h1))
          have k1 : (e1 == 0) = false := by simp [h1]
          clear HX
          go_wp2_with fail
          go_ret
          obtain ⟨hl8, t8⟩ := HL7.out.set12 true
          rw [HE.out, HD'.out, HX1.out]
          exact ⟨A, c, M7, R7, rfl, hl8, fun b hb => .inl hb, HM.out, HR.out, HT.out.trans t8 (fun b _ e => .inr (.inl e))⟩
    · obtain ⟨k, rfl⟩ : ∃ k, n = k + 1 := ⟨n - 1, by omega⟩
      have hkl : k < x.chain.length := by rw [HN8.out]; omega
      obtain ⟨g, off, hA, hgl, e0, _, _⟩ := HH.out.row.at_ k hkl
      have hlife : x.lastL = x.chain[k].life := by
        unfold LG.lastL
        rw [List.getLast?_eq_getElem?, HN8.out, show k + 1 - 1 = k from rfl, List.getElem?_eq_getElem hkl]
      rw [← hlife] at e0
      obtain ⟨y, hy⟩ : ∃ y, x.lastL = y := ⟨_, rfl⟩
      rw [hy] at e0
      have hylf : y + 1 = lf := by rw [← hy]; exact HLF.out
      have w1 : IntKind.i64.wrap (y + 1) = y + 1 := by rw [IntKind.wrap_i64]; omega
      subst hA
      clear hlife hy
      go_enter Try.func35, Try.ntmps35
      go_wp2_with fail
      go_region
      go_wp2_with fail
      have hwb := bl_chain (bl_alloc w (.cells #[.int .i64 lf, .int .i64 nx, .int .i64 ep] 71)) (bl_drew _)
      have hsb := (Blk.new w 71 #[.int .i64 lf, .int .i64 nx, .int .i64 ep]).drew
      generalize (w.alloc (.cells #[.int .i64 lf, .int .i64 nx, .int .i64 ep] 71)).drew = W at hwb hsb ⊢
      have hsm : ¬ M w.heap.size := fun e => by have := HH.out.dk.mlt _ e; omega
      have HSM := Lib.hid hsm
      have HWB := Lib.hid hwb
      have HSB := Lib.hid hsb
      have HLW := Lib.hid (HH.out.below hwb)
      have HSS : Hid (W.cell? ⟨p, 0, none⟩ = some (.pointer (some ⟨d, 0, none⟩)) ∧ W.cell? ⟨w.heap.size, 0, none⟩ = some (.int .i64 lf) ∧ W.cell? ⟨w.heap.size, 1, none⟩ = some (.int .i64 nx) ∧ W.cell? ⟨w.heap.size, 2, none⟩ = some (.int .i64 ep)) := Lib.hid ⟨HLW.out.lg.cell 0, HSB.out.cell 0, HSB.out.cell 1, HSB.out.cell 2⟩
      have HPL : Hid (∀ V, Below W.heap.size W V → Calls Try.prog 40 #[.pointer (some ⟨p, 0, none⟩), .int .i64 lf] V fun e w' => e = .returned (.int .i64 (a : Int)) ∧ Below V.heap.size V w') := Lib.hid (fun V hV => by
        have h := place_any (HLW.out.below hV).lg HG.out x.lastL.toNat lf (by rw [← HLF.out]; omega) (by have := HLF.out; omega)
        rw [show x.place x.lastL.toNat = a from HAA.out] at h
        exact h)
      clear hwb hsb hsm
      refine held_startB (S := fun W => W.cell? ⟨p, 0, none⟩ = some (.pointer (some ⟨d, 0, none⟩)) ∧ W.cell? ⟨w.heap.size, 0, none⟩ = some (.int .i64 lf) ∧ W.cell? ⟨w.heap.size, 1, none⟩ = some (.int .i64 nx) ∧ W.cell? ⟨w.heap.size, 2, none⟩ = some (.int .i64 ep)) (by kernel_rfl) ?_
      refine held_take (HSS.out) (i := 0) (v := ?_) rfl (by kernel_rfl) (by kernel_rfl) (by kernel_rfl) (fun _ _ _ h => h) (Or.inl ⟨by rfl, ?_⟩) ?_
      rotate_left
      · (intro W hSw; obtain ⟨s1, s2, s3, s4⟩ := hSw; go_simp; try with_reducible rfl)
      try simp only [Act.put, List.setIfInBounds_toArray, List.set_cons_zero, List.set_cons_succ]
      refine held_take (HSS.out) (i := 1) (v := ?_) rfl (by kernel_rfl) (by kernel_rfl) (by kernel_rfl) (fun _ _ _ h => h) (Or.inl ⟨by rfl, ?_⟩) ?_
      rotate_left
      · (intro W hSw; obtain ⟨s1, s2, s3, s4⟩ := hSw; go_simp; try with_reducible rfl)
      try simp only [Act.put, List.setIfInBounds_toArray, List.set_cons_zero, List.set_cons_succ]
      refine held_take (HSS.out) (i := 2) (v := ?_) rfl (by kernel_rfl) (by kernel_rfl) (by kernel_rfl) (fun _ _ _ h => h) (Or.inl ⟨by rfl, ?_⟩) ?_
      rotate_left
      · (intro W hSw; obtain ⟨s1, s2, s3, s4⟩ := hSw; go_simp; try with_reducible rfl)
      try simp only [Act.put, List.setIfInBounds_toArray, List.set_cons_zero, List.set_cons_succ]
      refine held_take (HSS.out) (i := 3) (v := ?_) rfl (by kernel_rfl) (by kernel_rfl) (by kernel_rfl) (fun _ _ _ h => h) (Or.inl ⟨by rfl, ?_⟩) ?_
      rotate_left
      · (intro W hSw; obtain ⟨s1, s2, s3, s4⟩ := hSw; go_simp; try with_reducible rfl)
      try simp only [Act.put, List.setIfInBounds_toArray, List.set_cons_zero, List.set_cons_succ]
      refine held_take (HSS.out) (i := 4) (v := ?_) rfl (by kernel_rfl) (by kernel_rfl) (by kernel_rfl) (fun _ _ _ h => h) (Or.inl ⟨by rfl, ?_⟩) ?_
      rotate_left
      · (intro W hSw; obtain ⟨s1, s2, s3, s4⟩ := hSw; go_simp; try with_reducible rfl)
      try simp only [Act.put, List.setIfInBounds_toArray, List.set_cons_zero, List.set_cons_succ]
      refine held_take (HSS.out) (i := 5) (v := ?_) rfl (by kernel_rfl) (by kernel_rfl) (by kernel_rfl) (fun _ _ _ h => h) (Or.inl ⟨by rfl, ?_⟩) ?_
      rotate_left
      · (intro W hSw; obtain ⟨s1, s2, s3, s4⟩ := hSw; go_simp; try with_reducible rfl)
      try simp only [Act.put, List.setIfInBounds_toArray, List.set_cons_zero, List.set_cons_succ]
      refine held_take (HSS.out) (i := 6) (v := ?_) rfl (by kernel_rfl) (by kernel_rfl) (by kernel_rfl) (fun _ _ _ h => h) (Or.inl ⟨by rfl, ?_⟩) ?_
      rotate_left
      · (intro W hSw; obtain ⟨s1, s2, s3, s4⟩ := hSw; go_simp; try with_reducible rfl)
      try simp only [Act.put, List.setIfInBounds_toArray, List.set_cons_zero, List.set_cons_succ]
      refine held_take (HSS.out) (i := 8) (v := ?_) rfl (by kernel_rfl) (by kernel_rfl) (by kernel_rfl) (fun _ _ _ h => h) (Or.inl ⟨by rfl, ?_⟩) ?_
      rotate_left
      · (intro W hSw; obtain ⟨s1, s2, s3, s4⟩ := hSw; go_simp; try with_reducible rfl)
      try simp only [Act.put, List.setIfInBounds_toArray, List.set_cons_zero, List.set_cons_succ]
      refine held_take (HSS.out) (i := 9) (v := ?_) rfl (by kernel_rfl) (by kernel_rfl) (by kernel_rfl) (fun _ _ _ h => h) (Or.inl ⟨by rfl, ?_⟩) ?_
      rotate_left
      · (intro W hSw; obtain ⟨s1, s2, s3, s4⟩ := hSw; go_simp; try with_reducible rfl)
      try simp only [Act.put, List.setIfInBounds_toArray, List.set_cons_zero, List.set_cons_succ]
      refine held_take (HSS.out) (i := 10) (v := ?_) rfl (by kernel_rfl) (by kernel_rfl) (by kernel_rfl) (fun _ _ _ h => h) (Or.inl ⟨by rfl, ?_⟩) ?_
      rotate_left
      · (intro W hSw; obtain ⟨s1, s2, s3, s4⟩ := hSw; go_simp; try with_reducible rfl)
      try simp only [Act.put, List.setIfInBounds_toArray, List.set_cons_zero, List.set_cons_succ]
      refine held_take (HSS.out) (i := 11) (v := ?_) rfl (by kernel_rfl) (by kernel_rfl) (by kernel_rfl) (fun _ _ _ h => h) (Or.inl ⟨by rfl, ?_⟩) ?_
      rotate_left
      · (intro W hSw; obtain ⟨s1, s2, s3, s4⟩ := hSw; go_simp; try with_reducible rfl)
      try simp only [Act.put, List.setIfInBounds_toArray, List.set_cons_zero, List.set_cons_succ]
      refine held_take (HSS.out) (i := 12) (v := ?_) rfl (by kernel_rfl) (by kernel_rfl) (by kernel_rfl) (fun _ _ _ h => h) (Or.inl ⟨by rfl, ?_⟩) ?_
      rotate_left
      · (intro W hSw; obtain ⟨s1, s2, s3, s4⟩ := hSw; go_simp; try with_reducible rfl)
      try simp only [Act.put, List.setIfInBounds_toArray, List.set_cons_zero, List.set_cons_succ]
      refine held_take (HSS.out) (i := 13) (v := ?_) rfl (by kernel_rfl) (by kernel_rfl) (by kernel_rfl) (fun _ _ _ h => h) (Or.inl ⟨by rfl, ?_⟩) ?_
      rotate_left
      · (intro W hSw; obtain ⟨s1, s2, s3, s4⟩ := hSw; go_simp; try with_reducible rfl)
      try simp only [Act.put, List.setIfInBounds_toArray, List.set_cons_zero, List.set_cons_succ]
      refine held_call2 (i := 7) (j := 14) (by kernel_rfl) rfl rfl (fun K hK => ?_) (fun K hK => ?_)
      ·
        go_simp
        (go_at_call 40; (with_reducible refine (HPL.out _ (bl_drew W)).mono ?_); rintro e w4 ⟨rfl, hb4⟩; have hbb := bl_chain (bl_drew W) hb4; have HB4 := Lib.hid hbb; have HS4 := Lib.hid (show w4.cell? ⟨p, 0, none⟩ = some (.pointer (some ⟨d, 0, none⟩)) ∧ w4.cell? ⟨w.heap.size, 0, none⟩ = some (.int .i64 lf) ∧ w4.cell? ⟨w.heap.size, 1, none⟩ = some (.int .i64 nx) ∧ w4.cell? ⟨w.heap.size, 2, none⟩ = some (.int .i64 ep) from ⟨(hbb.cell (cell_block_lt HSS.out.1)).trans HSS.out.1, (hbb.cell (cell_block_lt HSS.out.2.1)).trans HSS.out.2.1, (hbb.cell (cell_block_lt HSS.out.2.2.1)).trans HSS.out.2.2.1, (hbb.cell (cell_block_lt HSS.out.2.2.2)).trans HSS.out.2.2.2⟩); have HZ4 := Lib.hid (bl_alloc w4 (.cells #[.int .i64 lf, .int .i64 nx, .int .i64 ep] 2)); have HS5 := Lib.hid (show (w4.alloc (.cells #[.int .i64 lf, .int .i64 nx, .int .i64 ep] 2)).cell? ⟨p, 0, none⟩ = some (.pointer (some ⟨d, 0, none⟩)) ∧ (w4.alloc (.cells #[.int .i64 lf, .int .i64 nx, .int .i64 ep] 2)).cell? ⟨w.heap.size, 0, none⟩ = some (.int .i64 lf) ∧ (w4.alloc (.cells #[.int .i64 lf, .int .i64 nx, .int .i64 ep] 2)).cell? ⟨w.heap.size, 1, none⟩ = some (.int .i64 nx) ∧ (w4.alloc (.cells #[.int .i64 lf, .int .i64 nx, .int .i64 ep] 2)).cell? ⟨w.heap.size, 2, none⟩ = some (.int .i64 ep) from ⟨(HZ4.out.cell (cell_block_lt HS4.out.1)).trans HS4.out.1, (HZ4.out.cell (cell_block_lt HS4.out.2.1)).trans HS4.out.2.1, (HZ4.out.cell (cell_block_lt HS4.out.2.2.1)).trans HS4.out.2.2.1, (HZ4.out.cell (cell_block_lt HS4.out.2.2.2)).trans HS4.out.2.2.2⟩); clear hb4 hbb)
        refine hK.out _ _ (HS4.out) ?_
        clear hK K
        try simp only [Act.put, List.setIfInBounds_toArray, List.set_cons_zero, List.set_cons_succ]
        refine held_call (i := 14) (by kernel_rfl) rfl (fun K hK => ?_)
        go_simp
        refine hK.out _ _ (HS5.out) ?_
        clear hK K
        try simp only [Act.put, List.setIfInBounds_toArray, List.set_cons_zero, List.set_cons_succ]
        have hbw := bl_chain HB4.out (bl_alloc w4 (.cells #[.int .i64 lf, .int .i64 nx, .int .i64 ep] 2))
        have har := Blk.new w4 2 #[.int .i64 lf, .int .i64 nx, .int .i64 ep]
        clear HS5 HZ4
        generalize w4.alloc (.cells #[.int .i64 lf, .int .i64 nx, .int .i64 ep] 2) = W5 at hbw har ⊢
        generalize w4.heap.size = T at har ⊢
        have HBW := Lib.hid hbw
        have HAR := Lib.hid har
        have HL5 := Lib.hid (HLW.out.below hbw)
        have HSG5 := Lib.hid (HSB.out.keep hbw)
        have HS5 := Lib.hid (show W5.cell? ⟨p, 0, none⟩ = some (.pointer (some ⟨d, 0, none⟩)) ∧ W5.cell? ⟨w.heap.size, 0, none⟩ = some (.int .i64 lf) ∧ W5.cell? ⟨w.heap.size, 1, none⟩ = some (.int .i64 nx) ∧ W5.cell? ⟨w.heap.size, 2, none⟩ = some (.int .i64 ep) from ⟨(hbw.cell (cell_block_lt HSS.out.1)).trans HSS.out.1, (hbw.cell (cell_block_lt HSS.out.2.1)).trans HSS.out.2.1, (hbw.cell (cell_block_lt HSS.out.2.2.1)).trans HSS.out.2.2.1, (hbw.cell (cell_block_lt HSS.out.2.2.2)).trans HSS.out.2.2.2⟩)
        clear hbw har
        refine held_call (i := 15) (by kernel_rfl) rfl (fun K hK => ?_)
        go_simp
        (go_at_call 54; (with_reducible refine (HSEC.out _ _ HAR.out).mono ?_); rintro e w6 ⟨A6, c6, rfl, hc6, ho6, hb6⟩; have HO6 := Lib.hid ho6; have HBW6 := Lib.hid (bl_chain HBW.out hb6); have HL6 := Lib.hid (HL5.out.below hb6); have HS6 := Lib.hid (show w6.cell? ⟨p, 0, none⟩ = some (.pointer (some ⟨d, 0, none⟩)) ∧ w6.cell? ⟨w.heap.size, 0, none⟩ = some (.int .i64 lf) ∧ w6.cell? ⟨w.heap.size, 1, none⟩ = some (.int .i64 nx) ∧ w6.cell? ⟨w.heap.size, 2, none⟩ = some (.int .i64 ep) from ⟨(hb6.cell (cell_block_lt HS5.out.1)).trans HS5.out.1, (hb6.cell (cell_block_lt HS5.out.2.1)).trans HS5.out.2.1, (hb6.cell (cell_block_lt HS5.out.2.2.1)).trans HS5.out.2.2.1, (hb6.cell (cell_block_lt HS5.out.2.2.2)).trans HS5.out.2.2.2⟩); clear ho6 hb6)
        refine hK.out _ _ (HS6.out) ?_
        clear hK K
        try simp only [Act.put, List.setIfInBounds_toArray, List.set_cons_zero, List.set_cons_succ]
        refine held_call (i := 16) (by kernel_rfl) rfl (fun K hK => ?_)
        go_simp
        (have HWR := write_256 (c := c6) HL6.out.dk (Rd.of_own HO6.out) HLEN.out HB.out hfew a ha2; go_at_call 39; (with_reducible refine HWR.mono ?_); rintro e w7 ⟨rfl, M7, R7, hd7, hm7, hr7, ht7⟩; have hl7 := HL6.out.disk hd7 hm7 hr7 ht7; have HT7 := Lib.hid ht7; have HM7 := Lib.hid hm7; have HR7 := Lib.hid hr7; have HL7 := Lib.hid hl7; have HSG7 := Lib.hid (ht7.blk (HSB.out.keep HBW6.out) HSM.out); have HS7 := Lib.hid (show w7.cell? ⟨p, 0, none⟩ = some (.pointer (some ⟨d, 0, none⟩)) ∧ w7.cell? ⟨w.heap.size, 0, none⟩ = some (.int .i64 lf) ∧ w7.cell? ⟨w.heap.size, 1, none⟩ = some (.int .i64 nx) ∧ w7.cell? ⟨w.heap.size, 2, none⟩ = some (.int .i64 ep) from ⟨(ht7.cell (cell_block_lt HS6.out.1) HH.out.pm).trans HS6.out.1, (ht7.cell (cell_block_lt HS6.out.2.1) HSM.out).trans HS6.out.2.1, (ht7.cell (cell_block_lt HS6.out.2.2.1) HSM.out).trans HS6.out.2.2.1, (ht7.cell (cell_block_lt HS6.out.2.2.2) HSM.out).trans HS6.out.2.2.2⟩); clear hd7 hm7 hr7 ht7 hl7)
        refine hK.out _ _ (HS7.out) ?_
        clear hK K
        try simp only [Act.put, List.setIfInBounds_toArray, List.set_cons_zero, List.set_cons_succ]
        refine held_take (HS7.out) (i := 17) (v := ?_) rfl (by kernel_rfl) (by kernel_rfl) (by kernel_rfl) (fun _ _ _ h => h) (Or.inl ⟨by rfl, ?_⟩) ?_
        rotate_left
        · (intro W hSw; obtain ⟨s1, s2, s3, s4⟩ := hSw; go_simp; try with_reducible rfl)
        try simp only [Act.put, List.setIfInBounds_toArray, List.set_cons_zero, List.set_cons_succ]
        refine wpAnyH_done (by kernel_rfl) ?_ _
        generalize writeE D a l = e1 at HE HX ⊢
        generalize writeD D a l = D1 at HD' HL7 ⊢
        have hz6 := HBW6.out.size
        have hzw := HWB.out.size
        have hp7 := HL7.out.lg.lt
        have hs7 := HSG7.out.lt
        have HM := Lib.hid (show ∀ b, M7 b → M b ∨ w.heap.size ≤ b from fun b hb => (HM7.out b hb).imp id (fun h => by omega))
        have HR := Lib.hid (show ∀ b, R7 b → R b ∨ w.heap.size ≤ b from fun b hb => (HR7.out b hb).imp id (fun h => by omega))
        have HT := Lib.hid (show Tr (fun b => M b ∨ b = p ∨ Blo (some ⟨g, off, none⟩) b) w w7 from ((Tr.of_below (bl_chain HWB.out HBW6.out)).trans HT7.out (fun b _ h => .inl h)))
        have f12 := HL7.out.lg.frozen 12
        have c12 := HL7.out.lg.cell 12
        have c8 := HL7.out.lg.cell 8
        have f8 := HL7.out.lg.frozen 8
        simp [lgCells] at c12 c8
        rw [HN8.out] at c8
        clear hz6 hzw
        by_cases h1 : e1 = 0
        · subst h1
          have HX1 := Lib.hid (HX.out.trans (if_pos rfl))
          clear HX
          have z0 := HSG7.out.cell 0
          have z1 := HSG7.out.cell 1
          have z2 := HSG7.out.cell 2
          simp at z0 z1 z2
          have hrd : Rd (w7.alloc (.cells #[.int .i64 lf, .int .i64 nx, .int .i64 ep] 71)).drew (some ⟨w7.heap.size, 0, none⟩) (SG.mk lf nx ep).cells := (Rd.newAt w7 w7.heap.size 71 [.int .i64 lf, .int .i64 nx, .int .i64 ep] #[.int .i64 lf, .int .i64 nx, .int .i64 ep] 0 rfl rfl).drew
          have HRD := Lib.hid hrd
          clear hrd
          go_wp2_with fail
          go_region_law (refine stepR_seg (B := 0) (L := x.chain) (A0 := some ⟨g, off, none⟩) (c0 := c) (n := (k + 1)) (A2 := some ⟨w7.heap.size, 0, none⟩) (c2 := 1) rfl rfl (HL7.out.row.below (bl_chain (bl_alloc _ _) (bl_drew _))) rfl HN8.out.symm ⟨lf, nx, ep⟩ HRD.out rfl HQ.out.1 (Nat.zero_le _) (k + 1 + 1) HQ.out.2 ?_; intro A2 c2 w8 hr8 ht8 ha8; have hb8 := ht8.blk (Blk.drew (HL7.out.lg.alloc _)) HH.out.pa; have q8 := hb8.cell 8; have g8 := hb8.frozen 8; have q10 := hb8.cell 10; have g10 := hb8.frozen 10; have q11 := hb8.cell 11; have g11 := hb8.frozen 11; simp [lgCells] at q8 q10 q11; have HR8 := Lib.hid hr8; have HT8 := Lib.hid ht8; have HA8 := Lib.hid ha8; clear hr8 ht8 ha8 hb8)
          all_goals
            have HCH := Lib.hid (HL7.out.begun (bl_chain (bl_alloc _ _) (bl_drew _)) HR8.out HT8.out HA8.out (k + 1 + 1) HQ.out.2)
            go_wp2_with fail
            go_ret
            rw [HE.out, HD'.out, HX1.out]
            exact ⟨A2, c2, M7, R7, rfl, HNS.out ▸ HCH.out.1, fun b hb => (HCH.out.2.2 b hb).imp id (fun e => Nat.le_trans HT.out.size e), HM.out, HR.out, HT.out.trans HCH.out.2.1 (fun b _ e => .inr e)⟩
        · have HX1 := Lib.hid (HX.out.trans (if_neg h1))
          have k1 : (e1 == 0) = false := by simp [h1]
          clear HX
          go_wp2_with fail
          go_ret
          obtain ⟨hl8, t8⟩ := HL7.out.set12 true
          rw [HE.out, HD'.out, HX1.out]
          exact ⟨some ⟨g, off, none⟩, c, M7, R7, rfl, hl8, fun b hb => .inl hb, HM.out, HR.out, HT.out.trans t8 (fun b _ e => .inr (.inl e))⟩
      ·
        go_simp
        (have HZ3 := Lib.hid (bl_chain (bl_alloc W (.cells #[.int .i64 lf, .int .i64 nx, .int .i64 ep] 2)) (bl_drew _)); have HS3 := Lib.hid (show (W.alloc (.cells #[.int .i64 lf, .int .i64 nx, .int .i64 ep] 2)).drew.cell? ⟨p, 0, none⟩ = some (.pointer (some ⟨d, 0, none⟩)) ∧ (W.alloc (.cells #[.int .i64 lf, .int .i64 nx, .int .i64 ep] 2)).drew.cell? ⟨w.heap.size, 0, none⟩ = some (.int .i64 lf) ∧ (W.alloc (.cells #[.int .i64 lf, .int .i64 nx, .int .i64 ep] 2)).drew.cell? ⟨w.heap.size, 1, none⟩ = some (.int .i64 nx) ∧ (W.alloc (.cells #[.int .i64 lf, .int .i64 nx, .int .i64 ep] 2)).drew.cell? ⟨w.heap.size, 2, none⟩ = some (.int .i64 ep) from ⟨(HZ3.out.cell (cell_block_lt HSS.out.1)).trans HSS.out.1, (HZ3.out.cell (cell_block_lt HSS.out.2.1)).trans HSS.out.2.1, (HZ3.out.cell (cell_block_lt HSS.out.2.2.1)).trans HSS.out.2.2.1, (HZ3.out.cell (cell_block_lt HSS.out.2.2.2)).trans HSS.out.2.2.2⟩))
        refine hK.out _ _ (HS3.out) ?_
        clear hK K
        try simp only [Act.put, List.setIfInBounds_toArray, List.set_cons_zero, List.set_cons_succ]
        refine held_call (i := 7) (by kernel_rfl) rfl (fun K hK => ?_)
        go_simp
        (go_at_call 40; (with_reducible refine (HPL.out _ HZ3.out).mono ?_); rintro e w4 ⟨rfl, hb4⟩; have hbw := bl_chain HZ3.out hb4; have har := ((Blk.new W 2 #[.int .i64 lf, .int .i64 nx, .int .i64 ep]).drew).keep hb4; have HBW := Lib.hid hbw; have HAR := Lib.hid har; have HS4 := Lib.hid (show w4.cell? ⟨p, 0, none⟩ = some (.pointer (some ⟨d, 0, none⟩)) ∧ w4.cell? ⟨w.heap.size, 0, none⟩ = some (.int .i64 lf) ∧ w4.cell? ⟨w.heap.size, 1, none⟩ = some (.int .i64 nx) ∧ w4.cell? ⟨w.heap.size, 2, none⟩ = some (.int .i64 ep) from ⟨(hbw.cell (cell_block_lt HSS.out.1)).trans HSS.out.1, (hbw.cell (cell_block_lt HSS.out.2.1)).trans HSS.out.2.1, (hbw.cell (cell_block_lt HSS.out.2.2.1)).trans HSS.out.2.2.1, (hbw.cell (cell_block_lt HSS.out.2.2.2)).trans HSS.out.2.2.2⟩); clear hb4 hbw har)
        refine hK.out _ _ (HS4.out) ?_
        clear hK K
        try simp only [Act.put, List.setIfInBounds_toArray, List.set_cons_zero, List.set_cons_succ]
        have hbw := HBW.out
        have har := HAR.out
        clear HBW HAR HZ3
        generalize W.heap.size = T at har ⊢
        have HBW := Lib.hid hbw
        have HAR := Lib.hid har
        have HL5 := Lib.hid (HLW.out.below hbw)
        have HSG5 := Lib.hid (HSB.out.keep hbw)
        have HS5 := Lib.hid (show w4.cell? ⟨p, 0, none⟩ = some (.pointer (some ⟨d, 0, none⟩)) ∧ w4.cell? ⟨w.heap.size, 0, none⟩ = some (.int .i64 lf) ∧ w4.cell? ⟨w.heap.size, 1, none⟩ = some (.int .i64 nx) ∧ w4.cell? ⟨w.heap.size, 2, none⟩ = some (.int .i64 ep) from ⟨(hbw.cell (cell_block_lt HSS.out.1)).trans HSS.out.1, (hbw.cell (cell_block_lt HSS.out.2.1)).trans HSS.out.2.1, (hbw.cell (cell_block_lt HSS.out.2.2.1)).trans HSS.out.2.2.1, (hbw.cell (cell_block_lt HSS.out.2.2.2)).trans HSS.out.2.2.2⟩)
        clear hbw har
        refine held_call (i := 15) (by kernel_rfl) rfl (fun K hK => ?_)
        go_simp
        (go_at_call 54; (with_reducible refine (HSEC.out _ _ HAR.out).mono ?_); rintro e w6 ⟨A6, c6, rfl, hc6, ho6, hb6⟩; have HO6 := Lib.hid ho6; have HBW6 := Lib.hid (bl_chain HBW.out hb6); have HL6 := Lib.hid (HL5.out.below hb6); have HS6 := Lib.hid (show w6.cell? ⟨p, 0, none⟩ = some (.pointer (some ⟨d, 0, none⟩)) ∧ w6.cell? ⟨w.heap.size, 0, none⟩ = some (.int .i64 lf) ∧ w6.cell? ⟨w.heap.size, 1, none⟩ = some (.int .i64 nx) ∧ w6.cell? ⟨w.heap.size, 2, none⟩ = some (.int .i64 ep) from ⟨(hb6.cell (cell_block_lt HS5.out.1)).trans HS5.out.1, (hb6.cell (cell_block_lt HS5.out.2.1)).trans HS5.out.2.1, (hb6.cell (cell_block_lt HS5.out.2.2.1)).trans HS5.out.2.2.1, (hb6.cell (cell_block_lt HS5.out.2.2.2)).trans HS5.out.2.2.2⟩); clear ho6 hb6)
        refine hK.out _ _ (HS6.out) ?_
        clear hK K
        try simp only [Act.put, List.setIfInBounds_toArray, List.set_cons_zero, List.set_cons_succ]
        refine held_call (i := 16) (by kernel_rfl) rfl (fun K hK => ?_)
        go_simp
        (have HWR := write_256 (c := c6) HL6.out.dk (Rd.of_own HO6.out) HLEN.out HB.out hfew a ha2; go_at_call 39; (with_reducible refine HWR.mono ?_); rintro e w7 ⟨rfl, M7, R7, hd7, hm7, hr7, ht7⟩; have hl7 := HL6.out.disk hd7 hm7 hr7 ht7; have HT7 := Lib.hid ht7; have HM7 := Lib.hid hm7; have HR7 := Lib.hid hr7; have HL7 := Lib.hid hl7; have HSG7 := Lib.hid (ht7.blk (HSB.out.keep HBW6.out) HSM.out); have HS7 := Lib.hid (show w7.cell? ⟨p, 0, none⟩ = some (.pointer (some ⟨d, 0, none⟩)) ∧ w7.cell? ⟨w.heap.size, 0, none⟩ = some (.int .i64 lf) ∧ w7.cell? ⟨w.heap.size, 1, none⟩ = some (.int .i64 nx) ∧ w7.cell? ⟨w.heap.size, 2, none⟩ = some (.int .i64 ep) from ⟨(ht7.cell (cell_block_lt HS6.out.1) HH.out.pm).trans HS6.out.1, (ht7.cell (cell_block_lt HS6.out.2.1) HSM.out).trans HS6.out.2.1, (ht7.cell (cell_block_lt HS6.out.2.2.1) HSM.out).trans HS6.out.2.2.1, (ht7.cell (cell_block_lt HS6.out.2.2.2) HSM.out).trans HS6.out.2.2.2⟩); clear hd7 hm7 hr7 ht7 hl7)
        refine hK.out _ _ (HS7.out) ?_
        clear hK K
        try simp only [Act.put, List.setIfInBounds_toArray, List.set_cons_zero, List.set_cons_succ]
        refine held_take (HS7.out) (i := 17) (v := ?_) rfl (by kernel_rfl) (by kernel_rfl) (by kernel_rfl) (fun _ _ _ h => h) (Or.inl ⟨by rfl, ?_⟩) ?_
        rotate_left
        · (intro W hSw; obtain ⟨s1, s2, s3, s4⟩ := hSw; go_simp; try with_reducible rfl)
        try simp only [Act.put, List.setIfInBounds_toArray, List.set_cons_zero, List.set_cons_succ]
        refine wpAnyH_done (by kernel_rfl) ?_ _
        generalize writeE D a l = e1 at HE HX ⊢
        generalize writeD D a l = D1 at HD' HL7 ⊢
        have hz6 := HBW6.out.size
        have hzw := HWB.out.size
        have hp7 := HL7.out.lg.lt
        have hs7 := HSG7.out.lt
        have HM := Lib.hid (show ∀ b, M7 b → M b ∨ w.heap.size ≤ b from fun b hb => (HM7.out b hb).imp id (fun h => by omega))
        have HR := Lib.hid (show ∀ b, R7 b → R b ∨ w.heap.size ≤ b from fun b hb => (HR7.out b hb).imp id (fun h => by omega))
        have HT := Lib.hid (show Tr (fun b => M b ∨ b = p ∨ Blo (some ⟨g, off, none⟩) b) w w7 from ((Tr.of_below (bl_chain HWB.out HBW6.out)).trans HT7.out (fun b _ h => .inl h)))
        have f12 := HL7.out.lg.frozen 12
        have c12 := HL7.out.lg.cell 12
        have c8 := HL7.out.lg.cell 8
        have f8 := HL7.out.lg.frozen 8
        simp [lgCells] at c12 c8
        rw [HN8.out] at c8
        clear hz6 hzw
        by_cases h1 : e1 = 0
        · subst h1
          have HX1 := Lib.hid (HX.out.trans (if_pos rfl))
          clear HX
          have z0 := HSG7.out.cell 0
          have z1 := HSG7.out.cell 1
          have z2 := HSG7.out.cell 2
          simp at z0 z1 z2
          have hrd : Rd (w7.alloc (.cells #[.int .i64 lf, .int .i64 nx, .int .i64 ep] 71)).drew (some ⟨w7.heap.size, 0, none⟩) (SG.mk lf nx ep).cells := (Rd.newAt w7 w7.heap.size 71 [.int .i64 lf, .int .i64 nx, .int .i64 ep] #[.int .i64 lf, .int .i64 nx, .int .i64 ep] 0 rfl rfl).drew
          have HRD := Lib.hid hrd
          clear hrd
          go_wp2_with fail
          go_region_law (refine stepR_seg (B := 0) (L := x.chain) (A0 := some ⟨g, off, none⟩) (c0 := c) (n := (k + 1)) (A2 := some ⟨w7.heap.size, 0, none⟩) (c2 := 1) rfl rfl (HL7.out.row.below (bl_chain (bl_alloc _ _) (bl_drew _))) rfl HN8.out.symm ⟨lf, nx, ep⟩ HRD.out rfl HQ.out.1 (Nat.zero_le _) (k + 1 + 1) HQ.out.2 ?_; intro A2 c2 w8 hr8 ht8 ha8; have hb8 := ht8.blk (Blk.drew (HL7.out.lg.alloc _)) HH.out.pa; have q8 := hb8.cell 8; have g8 := hb8.frozen 8; have q10 := hb8.cell 10; have g10 := hb8.frozen 10; have q11 := hb8.cell 11; have g11 := hb8.frozen 11; simp [lgCells] at q8 q10 q11; have HR8 := Lib.hid hr8; have HT8 := Lib.hid ht8; have HA8 := Lib.hid ha8; clear hr8 ht8 ha8 hb8)
          all_goals
            have HCH := Lib.hid (HL7.out.begun (bl_chain (bl_alloc _ _) (bl_drew _)) HR8.out HT8.out HA8.out (k + 1 + 1) HQ.out.2)
            go_wp2_with fail
            go_ret
            rw [HE.out, HD'.out, HX1.out]
            exact ⟨A2, c2, M7, R7, rfl, HNS.out ▸ HCH.out.1, fun b hb => (HCH.out.2.2 b hb).imp id (fun e => Nat.le_trans HT.out.size e), HM.out, HR.out, HT.out.trans HCH.out.2.1 (fun b _ e => .inr e)⟩
        · have HX1 := Lib.hid (HX.out.trans (if_neg h1))
          have k1 : (e1 == 0) = false := by simp [h1]
          clear HX
          go_wp2_with fail
          go_ret
          obtain ⟨hl8, t8⟩ := HL7.out.set12 true
          rw [HE.out, HD'.out, HX1.out]
          exact ⟨some ⟨g, off, none⟩, c, M7, R7, rfl, hl8, fun b hb => .inl hb, HM.out, HR.out, HT.out.trans t8 (fun b _ e => .inr (.inl e))⟩
end
end Go.Proofs.Ytceajiliahmkaaa
