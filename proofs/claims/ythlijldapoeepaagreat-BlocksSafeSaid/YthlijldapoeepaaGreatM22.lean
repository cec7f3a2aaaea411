/- Layer 6, plainly: a disk whose flush fails; what a crash leaves standing. -/
import Derived.Test.YthlijldapoeepaaGreatM21
import Derived.Test.YthlijldapoeepaaGreatM19
namespace Go.Proofs.YthlijldapoeepaaGreat
set_option linter.unusedVariables false
set_option linter.unusedSimpArgs false
set_option maxRecDepth 100000
open Go.RowKit
open Dk (sect)

/-- Nothing is pending. -/
def Quiet (D : Dk.DS) : Prop := D.dead = false ∧ D.gs = [] ∧ D.safe = D.now
section
variable {D : Dk.DS} {F : Nat} {x : ST} {L L2 : List (List Int)} {b : Nat} {n : Int} {l : List ChS} {ks : List Nat}
theorem Quiet.calm (h : Quiet D) (hf : D.failing = false) : Dk.newD D.safe = D := by
  obtain ⟨s, m, g, f, d⟩ := D
  obtain ⟨h1, h2, h3⟩ := h
  simp only at h1 h2 h3 hf
  subst h1
  subst h2
  subst h3
  subst hf
  rfl
theorem Quiet.flush (h : Dk.flushE D = 0) : Quiet (Dk.flushD D) := by
  obtain ⟨a, b, c, d, _⟩ := flushE_dead h
  exact ⟨a, b, c.trans d.symm⟩
theorem Quiet.mark (h : markE D F x = 0) : Quiet (markD D F x) := by
  obtain ⟨z1, z2, z3⟩ := markE_zero h
  rw [z1]
  exact Quiet.flush z3
theorem Quiet.rows (h : rowsE D F x L ks = 0) : Quiet (rowsF D F x L ks) := by
  unfold rowsE at h
  unfold rowsF
  split at h
  · rename_i h1
    rw [if_pos h1]
    exact Quiet.mark h
  · rename_i h1
    exact absurd h h1
theorem Quiet.apply (h : (applyR D F x L n l).e = 0) : Quiet (applyR D F x L n l).D := by
  unfold applyR at h ⊢
  split at h
  · rename_i h1
    exact absurd h h1
  · rename_i h1
    rw [if_neg h1]
    split at h
    · rename_i h2
      exact absurd h h2
    · rename_i h2
      rw [if_neg h2]
      exact Quiet.rows h
theorem Quiet.repl (h : (replR D F x L n L2).e = 0) : Quiet (replR D F x L n L2).D := by
  unfold replR at h ⊢
  split at h
  · rename_i h1
    exact absurd h h1
  · rename_i h1
    rw [if_neg h1]
    split at h
    · rename_i h2
      exact absurd h h2
    · rename_i h2
      rw [if_neg h2]
      exact Quiet.mark (by simpa using h2)

/-- The sectors that count: the states, the rows of the area that counts. -/
def Harm (F n a z : Nat) : Prop := (F ≤ z ∧ z < F + 2) ∨ ∃ k, k < rowsN n ∧ z = rowAt F n a k
/-- What stands on the safe side of a disk; what is pending touches nothing of it. -/
structure CInv (D : Dk.DS) (F : Nat) (x : ST) (L : List (List Int)) (b : Nat) : Prop where
  ok : D.Ok
  inv : PInv (Dk.newD D.safe) F x L b
  gs : ∀ g ∈ D.gs, ∀ z, Harm F L.length x.area.toNat z → z < g.1 ∨ g.1 + g.2.length / 256 ≤ z
theorem crash_sect (ho : D.Ok) (kept : List Int) (z : Nat) (hz : ∀ g ∈ D.gs, z < g.1 ∨ g.1 + g.2.length / 256 ≤ z) : ∀ i, i ≤ D.gs.length → sect z (Dk.crashL kept D.gs i D.safe) = sect z D.safe
  | 0, _ => rfl
  | i + 1, hi => by
    have ih := crash_sect ho kept z hz i (by omega)
    by_cases hk : i < kept.length
    · rw [Dk.crashL_at (by omega) hk]
      have hl := Dk.crashL_length ho kept (i := i) (by omega)
      obtain ⟨_, q, h1, h2, h3⟩ := ho.gs _ (List.getElem_mem (show i < D.gs.length by omega))
      rw [show D.gs[i].2.length / 256 = q from by omega]
      rcases Dk.crashG_sect (x := kept[i]) hl h2 h3 z q (Nat.le_refl _) with e | ⟨e1, e2, e3⟩
      · rw [e]; exact ih
      · have := hz _ (List.getElem_mem (show i < D.gs.length by omega))
        omega
    · rw [Dk.crashL_past (by omega)]
      exact ih
theorem PInv.more (h : PInv D F x L b) {b' : Nat} (hb : b ≤ b') : PInv D F x L b' :=
  ⟨h.calm, h.fit, h.few, by have := h.gen; omega, h.pos, h.nn, h.area, h.op, h.hF, h.slots, h.rows, h.ok⟩
theorem CInv.more (h : CInv D F x L b) {b' : Nat} (hb : b ≤ b') : CInv D F x L b' := ⟨h.ok, h.inv.more hb, h.gs⟩
theorem CInv.crash (h : CInv D F x L b) (kept : List Int) : CInv (Dk.crashD D kept) F x L b ∧ Quiet (Dk.crashD D kept) := by
  have ho := Dk.crash_ok h.ok kept
  have hi := h.inv
  have hs : ∀ z, Harm F L.length x.area.toNat z → sect z (Dk.crashL kept D.gs D.gs.length D.safe) = sect z D.safe := fun z hz => crash_sect h.ok kept z (fun g hg => h.gs g hg z hz) _ (Nat.le_refl _)
  have hn : (Dk.crashD D kept).n = D.n := by
    show (Dk.crashL kept D.gs D.gs.length D.safe).length / 256 = _
    rw [Dk.crashL_length h.ok kept (Nat.le_refl _)]
    omega
  refine ⟨⟨ho, ?_, fun g hg => by cases hg⟩, rfl, rfl, rfl⟩
  show PInv (Dk.crashD D kept) F x L b
  refine ⟨⟨ho, rfl, rfl⟩, ?_, by show ([] : List (Nat × List Int)).length < 800000; simp, hi.gen, hi.pos, hi.nn, hi.area, hi.op, hi.hF, hi.slots.same (fun z h1 h2 => hs z (.inl ⟨h1, h2⟩)), fun k hk => ?_, hi.ok⟩
  · rw [hn]; exact hi.fit
  · obtain ⟨t, ht⟩ := hi.rows k hk
    exact ⟨t, (hs _ (.inr ⟨k, hk, rfl⟩)).trans ht⟩
theorem CInv.fail (h : CInv D F x L b) : CInv (Dk.failD D) F x L b :=
  ⟨⟨h.ok.pos, h.ok.most, h.ok.len, h.ok.lnow, h.ok.bs, h.ok.bn, h.ok.gs⟩, h.inv, h.gs⟩
theorem CInv.of (h : PInv D F x L b) (hq : Quiet D) : CInv D F x L b :=
  ⟨h.calm.ok, by rw [hq.calm h.calm.fail]; exact h, fun g hg => by rw [hq.2.1] at hg; cases hg⟩
theorem CInv.ready (h : CInv D F x L b) (hq : Quiet D) (hb : b < 900000) : Ready D F x L.length := by
  have r := h.inv.ready hb
  exact ⟨hq.1, r.fit, by rw [hq.2.1]; decide, r.gen, r.pos, r.area, r.F⟩

/-! ### a write, a flush that fails -/
theorem writeD_put {a : Nat} {d : List Int} (hE : Dk.writeE D (a : Nat) d = 0) : Dk.writeD D (a : Nat) d = D.put a (Dk.pad d) := by
  unfold Dk.writeE at hE
  unfold Dk.writeD
  split at hE
  · cases hE
  · rename_i h1
    split at hE
    · cases hE
    · rename_i h2
      rw [if_neg h1, if_neg h2]
      rfl
theorem flush_bad (hd : D.dead = false) (hf : D.failing = true) : Dk.flushE D = 20 ∧ Dk.flushD D = { D with dead := true } := by
  unfold Dk.flushE Dk.flushD
  rw [hd, hf]
  exact ⟨rfl, rfl⟩
theorem apply_out (h : CInv D F x L b) (hq : Quiet D) (hb : b < 800000) (n : Int) (l : List ChS) {w : World} {A : Option Addr} (hA : ChsAt w A l) :
    (papDead D F x false L n l = false ∧ (papR D F x false L n l).e = rapE x.n L.length n l ∧ (papR D F x false L n l).L = (if rapE x.n L.length n l = 0 then chTo L l else L) ∧ (papR D F x false L n l).x.n = (if rapE x.n L.length n l = 0 then n else x.n) ∧
        CInv (papR D F x false L n l).D F (papR D F x false L n l).x (papR D F x false L n l).L (b + 2) ∧ Quiet (papR D F x false L n l).D ∧ (papR D F x false L n l).L.length = L.length) ∨
      (papDead D F x false L n l = true ∧ (papR D F x false L n l).e = 20 ∧ rapE x.n L.length n l = 0 ∧ (papR D F x false L n l).x = x ∧ (papR D F x false L n l).L = L ∧ CInv (papR D F x false L n l).D F x L (b + 2) ∧ n ≠ x.n) := by
  have hre := rap_eq (x := x) (N := x.n) (n := n) rfl L.length l
  by_cases hf : D.failing = false
  · left
    have hP : PInv D F x L b := by
      have := h.inv
      rw [hq.calm hf] at this
      exact this
    obtain ⟨a1, a2⟩ := hP.apply hb n l hA
    obtain ⟨q1, q2, q3, q4⟩ := calm_pap (n := n) hP.calm (hP.ready (by omega)) hP.ok hA
    have hQ : Quiet (papR D F x false L n l).D := by
      unfold papR
      by_cases h0 : apRef x false L.length n l = 0
      · rw [if_neg (fun e => e h0)]
        refine Quiet.apply ?_
        have e1 := q1
        unfold papR at e1
        rw [if_neg (fun e => e h0)] at e1
        rw [e1, ← hre]
        exact h0
      · rw [if_pos h0]
        exact hq
    exact ⟨q2, q1, q3, q4, CInv.of a1 hQ, hQ, a2⟩
  · have hft : D.failing = true := by simpa using hf
    by_cases h0 : apRef x false L.length n l = 0
    · right
      have hR := h.ready hq (by omega)
      have hw : wrongS x false n = 0 ∧ chRight L.length l = true ∧ l.length ≤ 64 := by
        unfold apRef at h0
        split at h0
        · rename_i hw; exact absurd h0 hw
        · rename_i hw
          split at h0
          · cases h0
          · rename_i hc
            split at h0
            · cases h0
            · exact ⟨by simpa using hw, by simpa using hc, by omega⟩
      have hnx : n ≠ x.n := by
        have hw1 := hw.1
        unfold wrongS at hw1
        simp only [Bool.false_eq_true, if_false] at hw1
        split at hw1
        · cases hw1
        · omega
      have hl := lines_ok h.inv.ok.hi hw.2.1 hA
      have hjE := jour_E hR (x.gen + 1) n hl (by rw [List.length_map]; exact hw.2.2)
      have hjd : (jourD D F x n l).dead = false := (writeD_dead _ _ _).trans hq.1
      have hjf : (jourD D F x n l).failing = true := (writeD_failing _ _ _).trans hft
      obtain ⟨f1, f2⟩ := flush_bad hjd hjf
      have hAR : applyR D F x L n l = ⟨20, x, { jourD D F x n l with dead := true }, L⟩ := by
        unfold applyR
        rw [if_pos (by rw [f1]; decide), f1, f2]
      unfold papDead papR
      rw [if_neg (fun e => e h0), if_neg (fun e => e h0), hAR]
      refine ⟨rfl, rfl, by rw [← hre]; exact h0, rfl, rfl, ⟨?_, ?_, ?_⟩, hnx⟩
      · have hok : (jourD D F x n l).Ok := writeD_ok h.ok (sealL_isB (entryB_isB hl))
        exact ⟨hok.pos, hok.most, hok.len, hok.lnow, hok.bs, hok.bn, hok.gs⟩
      · show PInv (Dk.newD (jourD D F x n l).safe) F x L (b + 2)
        rw [show (jourD D F x n l).safe = D.safe from writeD_safe _ _ _]
        exact h.inv.more (by omega)
      · show ∀ g ∈ (jourD D F x n l).gs, _
        have e : (jourD D F x n l).gs = [(F + 2, Dk.pad (entryL (x.gen + 1) n (l.map ChS.two)))] := by
          unfold jourD
          rw [writeD_put hjE]
          show D.gs ++ _ = _
          rw [hq.2.1]
          rfl
        rw [e]
        intro g hg z hz
        obtain rfl := List.mem_singleton.1 hg
        have hpl := Dk.pad_length (entryL (x.gen + 1) n (l.map ChS.two))
        have hel := entryL_length (gen := x.gen + 1) (n := n) hl
        rw [List.length_map] at hel
        have hs : Dk.secs (entryL (x.gen + 1) n (l.map ChS.two)) ≤ 17 := by
          have := hw.2.2
          unfold Dk.secs
          omega
        have hq2 : (Dk.pad (entryL (x.gen + 1) n (l.map ChS.two))).length / 256 = Dk.secs (entryL (x.gen + 1) n (l.map ChS.two)) := by rw [hpl]; omega
        show z < F + 2 ∨ F + 2 + (Dk.pad (entryL (x.gen + 1) n (l.map ChS.two))).length / 256 ≤ z
        rw [hq2]
        rcases hz with hz | ⟨k, hk, rfl⟩
        · omega
        · unfold rowAt
          omega
    · left
      unfold papDead papR
      rw [if_pos h0, if_pos h0, ← hre, if_neg h0, if_neg h0]
      exact ⟨rfl, rfl, rfl, rfl, h.more (by omega), hq, rfl⟩
theorem rows_gs (hd : D.dead = false) {a : Nat} (ha : a ≤ 1) (hL : ImgOk L2) (hn : F + 19 + 2 * rowsN L2.length ≤ D.n) : ∀ (ks : List Nat), (∀ k ∈ ks, k < rowsN L2.length) →
    (rowsD D F a L2 ks).gs = D.gs ++ ks.map (fun k => (rowAt F L2.length a k, Dk.pad (rowL L2 k))) := by
  intro ks
  induction ks using snocInd with
  | h0 => exact fun _ => by simp [rowsD]
  | hs ks k ih =>
    intro hk
    have i1 := ih (fun j hj => hk j (by simp [hj]))
    obtain ⟨e1, e2, e3, e4, _⟩ := rowsD_keeps D F a L2 ks
    have hE := writeE_row hL (e2.trans hd) (F := F) (a := a) (k := k) ha (hk k (by simp)) (by rw [e1]; exact hn)
    rw [rowsD_snoc, writeD_put hE]
    show (rowsD D F a L2 ks).gs ++ _ = _
    rw [i1]
    simp
theorem rowsD_ok (h : D.Ok) (hL : ImgOk L2) {a : Nat} : ∀ (ks : List Nat), (rowsD D F a L2 ks).Ok := by
  intro ks
  induction ks using snocInd with
  | h0 => exact h
  | hs ks k ih =>
    rw [rowsD_snoc]
    exact writeD_ok ih (rowL_isB hL k)
theorem repl_out (h : CInv D F x L b) (hq : Quiet D) (hb : b < 800000) (n : Int) (hL : ImgOk L2) (hl : L2.length = L.length) (hw : wrongS x false n = 0) :
    ((replR D F x L n L2).e = 0 ∧ (replR D F x L n L2).L = L2 ∧ (replR D F x L n L2).x.n = n ∧ CInv (replR D F x L n L2).D F (replR D F x L n L2).x L2 (b + 2) ∧ Quiet (replR D F x L n L2).D) ∨
      ((replR D F x L n L2).e = 20 ∧ (replR D F x L n L2).x = x ∧ (replR D F x L n L2).L = L ∧ CInv (replR D F x L n L2).D F x L (b + 2) ∧ n ≠ x.n) := by
  by_cases hf : D.failing = false
  · left
    have hP : PInv D F x L b := by
      have := h.inv
      rw [hq.calm hf] at this
      exact this
    obtain ⟨q1, q2⟩ := replR_ok (n := n) hP.calm (hP.ready (by omega)) hL hl
    obtain ⟨a1, a2⟩ := hP.replace hb n hL hl
    have hpr : prepR D F x L n L2 = replR D F x L n L2 := if_neg (fun e => e hw)
    rw [hpr] at a1
    have he : (replR D F x L n L2).e = 0 := by rw [q1]
    have hQ := Quiet.repl he
    have hLL : (replR D F x L n L2).L = L2 := by rw [q1]
    have hxx : (replR D F x L n L2).x.n = n := by rw [q1]; rfl
    have hC := CInv.of a1 hQ
    rw [hLL] at hC
    exact ⟨he, hLL, hxx, hC, hQ⟩
  · right
    have hft : D.failing = true := by simpa using hf
    have hnx : n ≠ x.n := by
      unfold wrongS at hw
      simp only [Bool.false_eq_true, if_false] at hw
      split at hw
      · cases hw
      · omega
    have ha0 := h.inv.pos.2.2.1.1
    have ha1 := h.inv.area
    have hfit : F + 19 + 2 * rowsN L.length ≤ D.n := h.inv.fit
    obtain ⟨e1, e2, e3, e4, _⟩ := rowsD_keeps D F (1 - x.area).toNat L2 (List.range (rowsN L2.length))
    obtain ⟨f1, f2⟩ := flush_bad (D := replD D F x L2) (e2.trans hq.1) (e3.trans hft)
    have hRR : replR D F x L n L2 = ⟨20, x, { replD D F x L2 with dead := true }, L⟩ := by
      unfold replR
      rw [if_pos (by rw [f1]; decide), f1, f2]
    rw [hRR]
    refine ⟨rfl, rfl, rfl, ⟨?_, ?_, ?_⟩, hnx⟩
    · have hok : (replD D F x L2).Ok := rowsD_ok h.ok hL _
      exact ⟨hok.pos, hok.most, hok.len, hok.lnow, hok.bs, hok.bn, hok.gs⟩
    · show PInv (Dk.newD (replD D F x L2).safe) F x L (b + 2)
      rw [show (replD D F x L2).safe = D.safe from e4]
      exact h.inv.more (by omega)
    · show ∀ g ∈ (replD D F x L2).gs, _
      have e := rows_gs (F := F) hq.1 (a := (1 - x.area).toNat) (by omega) hL (by rw [hl]; exact hfit) (List.range (rowsN L2.length)) (fun k hk => by simpa using hk)
      rw [show (replD D F x L2).gs = _ from e, hq.2.1, List.nil_append]
      intro g hg z hz
      obtain ⟨k, hk, rfl⟩ := List.mem_map.1 hg
      have hk2 : k < rowsN L2.length := by simpa using hk
      have hpl := Dk.pad_length (rowL L2 k)
      have hs : Dk.secs (rowL L2 k) = 1 := by unfold Dk.secs; rw [rowL_length hL]
      have hq2 : (Dk.pad (rowL L2 k)).length / 256 = 1 := by rw [hpl, hs]
      show z < rowAt F L2.length (1 - x.area).toNat k ∨ rowAt F L2.length (1 - x.area).toNat k + (Dk.pad (rowL L2 k)).length / 256 ≤ z
      rw [hq2, hl]
      rw [hl] at hk2
      rcases hz with hz | ⟨j, hj, rfl⟩
      · unfold rowAt
        omega
      · rcases (by omega : x.area = 0 ∨ x.area = 1) with e0 | e0
        · rw [e0]
          unfold rowAt
          simp
          omega
        · rw [e0]
          unfold rowAt
          simp
          omega
end
end Go.Proofs.YthlijldapoeepaaGreat

/- The arguments of the statements of 06 opened: calls (law06.Op), in slices. -/

namespace Go.Proofs.YthlijldapoeepaaGreat
set_option linter.unusedVariables false
set_option maxRecDepth 100000
open Go.Joins Go.ChangeShapes Go.WideShapes Go.RowKit Go.Deep

section
variable {H : Type} {enc : TypeId × Value → H} {w : World} {base : Nat} {spare : Nat → Bool} {held : Bool}
/-- Calls in a slice. -/
def OpsBAt (w : World) (A : Option Addr) (l : List OpB) : Prop := ∀ i (h : i < l.length), l[i].In w ∧ ∃ b o, A = some ⟨b, o, none⟩ ∧ ∀ j u, l[i].cells[j]? = some u → w.cell? ⟨b, o + (i * 4 + j), none⟩ = some u
theorem OpsBAt.below {w w' : World} {A : Option Addr} {l : List OpB} (h : OpsBAt w A l) (hb : Below w.heap.size w w') : OpsBAt w' A l := fun i hi => by
  obtain ⟨h1, b, o, e, h2⟩ := h i hi
  exact ⟨h1.below hb, b, o, e, fun j u hj => (hb.cell (cell_block_lt (h2 j u hj))).trans (h2 j u hj)⟩
theorem open_opsb {r : Reach} {b0 : Nat} {v : Value} {d : DataW H} {p : List MemPlace} (hs : ∀ m ∈ d.weights Tryz.prog 22, m ≤ reachBytes)
    (hv : Value.okWide Tryz.prog w r b0 22 v) (h : DataW.Trod enc Tryz.prog w base spare held 22 v d p) :
    ∃ (A : Option Addr) (c : Nat) (l : List OpB), v = .slice A l.length c ∧ l.length ≤ 140737488351232 ∧ OpsBAt w A l := by
  obtain ⟨a0, len0, cap0, rfl⟩ := okWide_slice Tryz.underlying22 hv
  obtain ⟨fuel, hf⟩ := h
  obtain ⟨A, c, l, e, hl, ha⟩ := srow_trod (by_ := 64) OpB.cells (OpB.In w) (fun y => by simp [OpB.cells]) Tryz.underlying22 (by kernel_rfl) (by kernel_rfl) (by omega) opb_trod hf hs
  exact ⟨A, c, l, e, by omega, ha⟩
end
end Go.Proofs.YthlijldapoeepaaGreat

/- The laws of 06: agreed, a call that may fail by the disk. -/

namespace Go.Proofs.YthlijldapoeepaaGreat
set_option linter.unusedVariables false
set_option linter.unusedSimpArgs false
set_option maxRecDepth 100000
open Go.RowKit Go.Shelf

/-- What a call of both leaves, and where it wrote. -/
def RetAg (w W : World) (s d p F : Nat) (x' : ST) (dead' : Bool) (D' : Dk.DS) (L' L2' : List (List Int)) (N2' : Int) (Md Rr Mi : Nat → Prop) (q : Nat) (W' : World) : Prop :=
  ∃ g' Md' Rr' Mi' r' q' c' M', PlAt w W' NoB s d p F x' dead' D' L' L2' N2' g' Md' Rr' Mi' r' q' c' M' ∧ (∀ b, Md' b → Md b ∨ W.heap.size ≤ b) ∧ (∀ b, Rr' b → Rr b ∨ W.heap.size ≤ b) ∧ (∀ b, Mi' b → Mi b ∨ W.heap.size ≤ b) ∧ Tr (fun b => (Md b ∨ Mi b ∨ b = s) ∨ b = q ∨ b = p) W W'
section
variable {w W : World} {s d p F g r q c : Nat} {x : ST} {D : Dk.DS} {L : List (List Int)} {Md Rr Mi M : Nat → Prop} {b : Nat}
/-- A call of Apply on the program's store: where it wrote. -/
theorem papply2 (h : StAt W s d g F x false D Md Rr L Mi) (n : Int) (A : Option Addr) (k : Nat) (l : List ChS) (hl : ChsAt W A l) (hll : l.length ≤ 140737488351232) (hR : Ready D F x L.length)
    (hN : ∀ w', Tr (fun b => Md b ∨ Mi b ∨ b = s) W w' → ChsAt w' A l) :
    Calls Tryz.prog 20 #[.pointer (some ⟨s, 0, none⟩), .int .i64 n, .slice A l.length k] W fun e w' => e = .returned (.int .i64 (papR D F x false L n l).e) ∧
      ∃ Md' Rr' Mi', StAt w' s d g F (papR D F x false L n l).x (papDead D F x false L n l) (papR D F x false L n l).D Md' Rr' (papR D F x false L n l).L Mi' ∧ Aft s W w' Md Rr Mi Md' Rr' Mi' := by
  by_cases hw : wrongS x false n = 0
  · by_cases hc : chRight L.length l = true
    · by_cases h64 : 64 < l.length
      · have e0 : apRef x false L.length n l = 3 := by unfold apRef; rw [if_neg (by rw [hw]; simp), if_neg (by rw [hc]; simp), if_pos h64]
        unfold papR papDead
        rw [e0, if_pos (by decide), if_pos (by decide)]
        refine (apply_bad h n A k l hw hl hll (.inr h64)).mono ?_
        rintro e w' ⟨rfl, hb⟩
        rw [show changeE L.length l = 0 from if_pos hc, if_neg (by simp)]
        exact ⟨rfl, Md, Rr, Mi, h.below hb, (Aft.refl s W Md Rr Mi).below hb⟩
      · have e0 : apRef x false L.length n l = 0 := by unfold apRef; rw [if_neg (by rw [hw]; simp), if_neg (by rw [hc]; simp), if_neg h64]
        unfold papR papDead
        rw [e0, if_neg (by simp), if_neg (by simp)]
        refine (apply_go h n A k l hw hl (by omega) hc hR hN).mono ?_
        rintro e w' ⟨Md', Rr', Mi', rfl, hst, haf⟩
        exact ⟨rfl, Md', Rr', Mi', hst, haf⟩
    · have hc' : chRight L.length l = false := by simpa using hc
      have e0 : apRef x false L.length n l = 1 := by unfold apRef; rw [if_neg (by rw [hw]; simp), if_pos hc']
      unfold papR papDead
      rw [e0, if_pos (by decide), if_pos (by decide)]
      have hce : changeE L.length l = 1 := if_neg hc
      refine (apply_bad h n A k l hw hl hll (.inl (by rw [hce]; decide))).mono ?_
      rintro e w' ⟨rfl, hb⟩
      rw [hce, if_pos (by decide)]
      exact ⟨rfl, Md, Rr, Mi, h.below hb, (Aft.refl s W Md Rr Mi).below hb⟩
  · have e0 : apRef x false L.length n l = wrongS x false n := by unfold apRef; rw [if_pos hw]
    unfold papR papDead
    rw [e0, if_pos hw, if_pos hw]
    refine (apply_no h.blk n A l.length k hw).mono ?_
    rintro e w' ⟨rfl, rfl⟩
    exact ⟨rfl, Md, Rr, Mi, h, Aft.refl _ _ _ _ _⟩
set_option maxHeartbeats 6400000 in
theorem agreed_apply (h : PlAt w W NoB s d p F x false D L L x.n g Md Rr Mi r q c M) (hR : Ready D F x L.length) (hN : 0 ≤ x.n ∧ x.n ≤ 1152921504606846976) (y : OpB) (hy : y.In w) (kd : Int) (hk : (kd == 4) = false) (n : Int) (hn : numberN x.n y.n = n)
    (hE : (papR D F x false L n y.l).e = rapE x.n L.length n y.l ∨ (papDead D F x false L n y.l = true ∧ (papR D F x false L n y.l).e = 20 ∧ rapE x.n L.length n y.l = 0)) (PW : World → Prop)
    (hPW : ∀ W', RetAg w W s d p F (papR D F x false L n y.l).x (papDead D F x false L n y.l) (papR D F x false L n y.l).D (papR D F x false L n y.l).L (if rapE x.n L.length n y.l = 0 then chTo L y.l else L) (if rapE x.n L.length n y.l = 0 then n else x.n) Md Rr Mi q W' → PW W') :
    Calls Tryz.prog 16 #[.pointer (some ⟨s, 0, none⟩), .pointer (some ⟨p, 0, none⟩), .agg #[.int .i64 kd, .int .i64 y.n, .slice y.A y.l.length y.c, .slice y.B y.ks.length y.d]] W fun e W' => e = .returned (.bool true) ∧ PW W' := by
  have HY := Lib.hid hy
  have hll : y.l.length ≤ 140737488351232 := by have := hy.ll; omega
  clear hy
  have hbk : Blk (W.alloc (.cells #[.int .i64 kd, .int .i64 y.n, .slice y.A y.l.length y.c, .slice y.B y.ks.length y.d] 41)) W.heap.size 41 #[.int .i64 kd, .int .i64 y.n, .slice y.A y.l.length y.c, .slice y.B y.ks.length y.d] := Blk.new _ _ _
  have HB1 := Lib.hid (bl_alloc W (.cells #[.int .i64 kd, .int .i64 y.n, .slice y.A y.l.length y.c, .slice y.B y.ks.length y.d] 41))
  have HBK := Lib.hid hbk
  have HPL := Lib.hid h
  have HOLD := Lib.hid h.lt
  have HLO := Lib.hid (fun b hb => (h.lo b hb).1)
  have hlnum := lnumber_any (h.rf.blk.keep HB1.out) hN y.n
  rw [hn] at hlnum
  have HNUM := Lib.hid hlnum
  have HBW := Lib.hid (bl_chain h.bl HB1.out)
  have hap := papply2 (h.st.below HB1.out) n y.A y.c y.l (HY.out.rl.below HBW.out) hll hR (fun w' ht => HY.out.rl.below (bl_tr HBW.out ht (fun b hb => HLO.out b (by rcases hb with hb | hb | hb <;> simp [hb]))))
  have hqlo := HLO.out q (by simp [h.rf.ref.mq])
  obtain ⟨R, hRe⟩ : ∃ R, papR D F x false L n y.l = R := ⟨_, rfl⟩
  obtain ⟨dd, hdd⟩ : ∃ dd, papDead D F x false L n y.l = dd := ⟨_, rfl⟩
  obtain ⟨er, her⟩ : ∃ er, rapE x.n L.length n y.l = er := ⟨_, rfl⟩
  rw [hRe, hdd, her] at hE hPW
  rw [hRe, hdd] at hap
  have HER := Lib.hid her
  have HPW := Lib.hid hPW
  have hz1 : (W.alloc (.cells #[.int .i64 kd, .int .i64 y.n, .slice y.A y.l.length y.c, .slice y.B y.ks.length y.d] 41)).heap.size = W.heap.size + 1 := by simp
  have HZ1 := Lib.hid hz1
  have HAP := Lib.hid hap
  clear hbk hlnum hap hRe hdd her hPW hR hN hn h hz1
  have fin : ∀ (W1 w3 w4 : World) (Md3 Rr3 Mi3 M4 : Nat → Prop), Below W.heap.size W W1 → StAt w3 s d g F R.x dd R.D Md3 Rr3 R.L Mi3 → Aft s W1 w3 Md Rr Mi Md3 Rr3 Mi3 →
      IsRSt w4 p r q c (if er = 0 then chTo L y.l else L) (if er = 0 then n else x.n) M4 → (∀ b, M4 b → M b ∨ w3.heap.size ≤ b) → Tr (fun b => b = q ∨ b = p) w3 w4 → PW w4 := fun W1 w3 w4 Md3 Rr3 Mi3 M4 hb hs3 ha3 hs4 hm4 ht4 => by
    have h := HPL.out
    have hz := hb.size
    have hpl1 : PlAt w W1 NoB s d p F x false D L L x.n g Md Rr Mi r q c M := ⟨h.st.below hb, h.rf.below hb, h.ap, h.lo, bl_chain h.bl hb, fun b hz => hz.elim⟩
    have hp3 := hpl1.prog hs3 (ha3.more NoB) (fun b hb => hb.elim)
    have hp4 := hp3.refs (Mx := NoB) hs4 (fun b hb => (hm4 b hb).imp .inl id) ht4 (fun b hb => hb.elim)
    exact HPW.out _ ⟨g, Md3, Rr3, Mi3, r, q, c, M4, hp4, fun b hb => (ha3.d b hb).imp id (fun h => by omega), fun b hb => (ha3.r b hb).imp id (fun h => by omega), fun b hb => (ha3.i b hb).imp id (fun h => by omega), ((Tr.of_below hb).trans ha3.t (fun b _ h => .inl h)).trans ht4 (fun b _ h => .inr h)⟩
  have HFIN := Lib.hid fin
  have hrf3 : ∀ (w3 : World) (Md3 Rr3 Mi3 : Nat → Prop), Aft s (W.alloc (.cells #[.int .i64 kd, .int .i64 y.n, .slice y.A y.l.length y.c, .slice y.B y.ks.length y.d] 41)) w3 Md Rr Mi Md3 Rr3 Mi3 → IsRSt w3 p r q c L x.n M ∧ Below w.heap.size w w3 ∧ Blk w3 W.heap.size 41 #[.int .i64 kd, .int .i64 y.n, .slice y.A y.l.length y.c, .slice y.B y.ks.length y.d] := fun w3 Md3 Rr3 Mi3 ha => by
    have h := HPL.out
    have hap : ∀ b, (M b ∨ b = p) → ¬ (Md b ∨ Mi b ∨ b = s) := fun b hb hf => by
      obtain ⟨a1, a2, a3, a4⟩ := h.ap b hb
      rcases hf with hf | hf | hf
      · exact a1 hf
      · exact a3 hf
      · exact a4 hf
    exact ⟨(h.rf.below HB1.out).tr ha.t (fun b hb => hap b (.inl hb)) (hap p (.inr rfl)), bl_tr HBW.out ha.t (fun b hb => HLO.out b (by rcases hb with hb | hb | hb <;> simp [hb])), ha.t.blk HBK.out (fun hf => by have := HOLD.out W.heap.size (by rcases hf with hf | hf | hf <;> simp [hf]); omega)⟩
  have HRF3 := Lib.hid hrf3
  clear fin hrf3
  rcases hE with he | ⟨hd, he, hf⟩
  · rw [he] at HAP
    have eE : (er == er) = true := by simp
    clear he
    go_enter Tryz.func16, Tryz.ntmps16
    go_wp2_with (first
      | (go_at_call 34; (with_reducible refine HNUM.out.mono ?_); rintro e w' ⟨rfl, rfl⟩)
      | (go_at_call 20; (with_reducible refine HAP.out.mono ?_); rintro e w3 ⟨rfl, Md3, Rr3, Mi3, hst3, haf3⟩; obtain ⟨z1, z2, z3⟩ := HRF3.out _ _ _ _ haf3; have y2 := z3.cell 2; simp at y2; have HST3 := Lib.hid hst3; have HAF3 := Lib.hid haf3; have HR3 := Lib.hid z1; have HB3 := Lib.hid z2; clear hst3 haf3 z1 z2 z3)
      | (have hra := rsapply_any (w0 := w) HR3.out n y.A y.c y.l hll HY.out.rl HB3.out hqlo; rw [HER.out] at hra; go_at_call 36; (with_reducible refine hra.mono ?_); rintro e w4 ⟨M4, rfl, hs4, hm4, ht4⟩; have HS4 := Lib.hid hs4; have HM4 := Lib.hid hm4; have HT4 := Lib.hid ht4; clear hs4 hm4 ht4 hra))
    go_ret
    exact ⟨rfl, HFIN.out _ _ _ _ _ _ _ HB1.out HST3.out HAF3.out HS4.out HM4.out HT4.out⟩
  · subst hd
    subst hf
    rw [he] at HAP
    clear he
    go_enter Tryz.func16, Tryz.ntmps16
    go_wp2_with (first
      | (go_at_call 34; (with_reducible refine HNUM.out.mono ?_); rintro e w' ⟨rfl, rfl⟩)
      | (go_at_call 20; (with_reducible refine HAP.out.mono ?_); rintro e w3 ⟨rfl, Md3, Rr3, Mi3, hst3, haf3⟩; obtain ⟨z1, z2, z3⟩ := HRF3.out _ _ _ _ haf3; have y2 := z3.cell 2; simp at y2; have HST3 := Lib.hid hst3; have HAF3 := Lib.hid haf3; have HR3 := Lib.hid z1; have HB3 := Lib.hid z2; clear hst3 haf3 z1 z2 z3)
      | (have hra := rsapply_any (w0 := w) HR3.out n y.A y.c y.l hll HY.out.rl HB3.out hqlo; rw [HER.out] at hra; go_at_call 36; (with_reducible refine hra.mono ?_); rintro e w4 ⟨M4, rfl, hs4, hm4, ht4⟩; have HS4 := Lib.hid hs4; have HM4 := Lib.hid hm4; have HT4 := Lib.hid ht4; have HBL := Lib.hid (show IsSt w4 s d g F R.x true from ht4.blk HST3.out.blk (fun hf => by obtain ⟨a1, a2, a3, a4⟩ := HPL.out.ap s (hf.elim (fun e => .inl (e ▸ HPL.out.rf.ref.mq)) .inr); exact a4 rfl)); clear hs4 hm4 ht4 hra)
      | (go_at_call 12; (with_reducible refine (bdead_any HBL.out).mono ?_); rintro e w7 ⟨rfl, rfl⟩))
    go_ret
    exact ⟨rfl, HFIN.out _ _ _ _ _ _ _ HB1.out HST3.out HAF3.out HS4.out HM4.out HT4.out⟩
set_option maxHeartbeats 6400000 in
theorem agreed_replace (h : PlAt w W NoB s d p F x false D L L x.n g Md Rr Mi r q c M) (hR : Ready D F x L.length) (hN : 0 ≤ x.n ∧ x.n ≤ 1152921504606846976) (y : OpB) (hy : y.In w) (n : Int) (hn : numberN x.n y.n = n) (L2 : List (List Int)) (hL2 : changeL (emptyL L.length) y.l = L2)
    (hE : wrongS x false n = 0 → (replR D F x L n L2).e = 0 ∨ (replR D F x L n L2).e = 20) (PW : World → Prop)
    (hP0 : wrongS x false n = 0 → ∀ W', RetAg w W s d p F (replR D F x L n L2).x (decide ((replR D F x L n L2).e ≠ 0)) (replR D F x L n L2).D (replR D F x L n L2).L L2 n Md Rr Mi q W' → PW W')
    (hP1 : wrongS x false n ≠ 0 → ∀ W', RetAg w W s d p F x false D L L x.n Md Rr Mi q W' → PW W') :
    Calls Tryz.prog 16 #[.pointer (some ⟨s, 0, none⟩), .pointer (some ⟨p, 0, none⟩), .agg #[.int .i64 4, .int .i64 y.n, .slice y.A y.l.length y.c, .slice y.B y.ks.length y.d]] W fun e W' => e = .returned (.bool true) ∧ PW W' := by
  have HY := Lib.hid hy
  have hll := hy.ll
  clear hy
  have hbk : Blk (W.alloc (.cells #[.int .i64 4, .int .i64 y.n, .slice y.A y.l.length y.c, .slice y.B y.ks.length y.d] 41)) W.heap.size 41 #[.int .i64 4, .int .i64 y.n, .slice y.A y.l.length y.c, .slice y.B y.ks.length y.d] := Blk.new _ _ _
  have HBK := Lib.hid hbk
  have HB1 := Lib.hid (bl_alloc W (.cells #[.int .i64 4, .int .i64 y.n, .slice y.A y.l.length y.c, .slice y.B y.ks.length y.d] 41))
  have hpl : PlAt w (W.alloc (.cells #[.int .i64 4, .int .i64 y.n, .slice y.A y.l.length y.c, .slice y.B y.ks.length y.d] 41)) NoB s d p F x false D L L x.n g Md Rr Mi r q c M := ⟨h.st.below HB1.out, h.rf.below HB1.out, h.ap, h.lo, bl_chain h.bl HB1.out, fun b hz => hz.elim⟩
  have HPL := Lib.hid hpl
  have HNUM := Lib.hid (lnumber_any hpl.rf.blk hN y.n)
  rw [hn] at HNUM
  have h256 := hpl.st.img.ok.hi
  have hlo := hpl.st.img.ok.lo
  have HRR := Lib.hid hR
  have HEE := Lib.hid hE
  have HP0 := Lib.hid hP0
  have HP1 := Lib.hid hP1
  have p0 := hbk.cell 0
  have p1 := hbk.cell 1
  have p2 := hbk.cell 2
  have r0 := hpl.rf.blk.cell 0
  have r1 := hpl.rf.ref.c0
  simp at p0 p1 p2 r0
  have hl2 : L2.length = L.length := by
    rw [← hL2]
    unfold changeL
    split
    · rw [chTo_length]; simp [emptyL]
    · simp [emptyL]
  have HIMG := Lib.hid (fun (V : World) (hb : Below w.heap.size w V) => limage_any (w := V) L.length hlo h256 y.A y.c y.l hll (HY.out.rl.below hb))
  rw [hL2] at HIMG
  have HLE := Lib.hid hl2
  have hW1 : (W.alloc (.cells #[.int .i64 4, .int .i64 y.n, .slice y.A y.l.length y.c, .slice y.B y.ks.length y.d] 41)).heap.size = W.heap.size + 1 := by simp
  have HW1 := Lib.hid hW1
  clear hbk h hpl hn hL2 hR hE hP0 hP1 hW1
  go_enter Tryz.func16, Tryz.ntmps16
  go_wp2_with (first
    | (go_at_call 34; (with_reducible refine HNUM.out.mono ?_); rintro e w' ⟨rfl, rfl⟩))
  clear HNUM
  generalize W.alloc (.cells #[.int .i64 4, .int .i64 y.n, .slice y.A y.l.length y.c, .slice y.B y.ks.length y.d] 41) = W1 at HBK HB1 HPL HW1 p0 p1 p2 r0 r1 ⊢
  have HSS : Hid (W1.drew.cell? ⟨p, 0, none⟩ = some (.pointer (some ⟨r, 0, none⟩)) ∧ W1.drew.cell? ⟨r, 0, none⟩ = some (.slice (some ⟨q, 0, none⟩) L.length c) ∧ W1.drew.cell? ⟨W.heap.size, 2, none⟩ = some (.slice y.A y.l.length y.c)) := Lib.hid ⟨r0, r1, HBK.out.cell 2⟩
  clear r0 r1 p0 p1 p2
  refine held_startB (S := fun V => V.cell? ⟨p, 0, none⟩ = some (.pointer (some ⟨r, 0, none⟩)) ∧ V.cell? ⟨r, 0, none⟩ = some (.slice (some ⟨q, 0, none⟩) L.length c) ∧ V.cell? ⟨W.heap.size, 2, none⟩ = some (.slice y.A y.l.length y.c)) (by kernel_rfl) ?_
  refine held_take (HSS.out) (i := 0) (v := ?_) rfl (by kernel_rfl) (by kernel_rfl) (by kernel_rfl) (fun _ _ _ h => h) (Or.inl ⟨by rfl, ?_⟩) ?_
  rotate_left
  · (intro W hSw; obtain ⟨s1, s2, s3⟩ := hSw; go_simp; try with_reducible rfl)
  try simp only [Act.put, List.setIfInBounds_toArray, List.set_cons_zero, List.set_cons_succ]
  refine held_take (HSS.out) (i := 1) (v := ?_) rfl (by kernel_rfl) (by kernel_rfl) (by kernel_rfl) (fun _ _ _ h => h) (Or.inl ⟨by rfl, ?_⟩) ?_
  rotate_left
  · (intro W hSw; obtain ⟨s1, s2, s3⟩ := hSw; go_simp; try with_reducible rfl)
  try simp only [Act.put, List.setIfInBounds_toArray, List.set_cons_zero, List.set_cons_succ]
  refine held_take (HSS.out) (i := 2) (v := ?_) rfl (by kernel_rfl) (by kernel_rfl) (by kernel_rfl) (fun _ _ _ h => h) (Or.inl ⟨by rfl, ?_⟩) ?_
  rotate_left
  · (intro W hSw; obtain ⟨s1, s2, s3⟩ := hSw; go_simp; try with_reducible rfl)
  try simp only [Act.put, List.setIfInBounds_toArray, List.set_cons_zero, List.set_cons_succ]
  refine held_take (HSS.out) (i := 3) (v := ?_) rfl (by kernel_rfl) (by kernel_rfl) (by kernel_rfl) (fun _ _ _ h => h) (Or.inl ⟨by rfl, ?_⟩) ?_
  rotate_left
  · (intro W hSw; obtain ⟨s1, s2, s3⟩ := hSw; go_simp; try with_reducible rfl)
  try simp only [Act.put, List.setIfInBounds_toArray, List.set_cons_zero, List.set_cons_succ]
  refine held_take (HSS.out) (i := 4) (v := ?_) rfl (by kernel_rfl) (by kernel_rfl) (by kernel_rfl) (fun _ _ _ h => h) (Or.inl ⟨by rfl, ?_⟩) ?_
  rotate_left
  · (intro W hSw; obtain ⟨s1, s2, s3⟩ := hSw; go_simp; try with_reducible rfl)
  try simp only [Act.put, List.setIfInBounds_toArray, List.set_cons_zero, List.set_cons_succ]
  refine held_take (HSS.out) (i := 5) (v := ?_) rfl (by kernel_rfl) (by kernel_rfl) (by kernel_rfl) (fun _ _ _ h => h) (Or.inl ⟨by rfl, ?_⟩) ?_
  rotate_left
  · (intro W hSw; obtain ⟨s1, s2, s3⟩ := hSw; go_simp; try with_reducible rfl)
  try simp only [Act.put, List.setIfInBounds_toArray, List.set_cons_zero, List.set_cons_succ]
  refine held_take (HSS.out) (i := 6) (v := ?_) rfl (by kernel_rfl) (by kernel_rfl) (by kernel_rfl) (fun _ _ _ h => h) (Or.inl ⟨by rfl, ?_⟩) ?_
  rotate_left
  · (intro W hSw; obtain ⟨s1, s2, s3⟩ := hSw; go_simp; try with_reducible rfl)
  try simp only [Act.put, List.setIfInBounds_toArray, List.set_cons_zero, List.set_cons_succ]
  refine held_take (HSS.out) (i := 7) (v := ?_) rfl (by kernel_rfl) (by kernel_rfl) (by kernel_rfl) (fun _ _ _ h => h) (Or.inl ⟨by rfl, ?_⟩) ?_
  rotate_left
  · (intro W hSw; obtain ⟨s1, s2, s3⟩ := hSw; go_simp; try with_reducible rfl)
  try simp only [Act.put, List.setIfInBounds_toArray, List.set_cons_zero, List.set_cons_succ]
  refine held_take (HSS.out) (i := 8) (v := ?_) rfl (by kernel_rfl) (by kernel_rfl) (by kernel_rfl) (fun _ _ _ h => h) (Or.inl ⟨by rfl, ?_⟩) ?_
  rotate_left
  · (intro W hSw; obtain ⟨s1, s2, s3⟩ := hSw; go_simp; try with_reducible rfl)
  try simp only [Act.put, List.setIfInBounds_toArray, List.set_cons_zero, List.set_cons_succ]
  refine held_take (HSS.out) (i := 9) (v := ?_) rfl (by kernel_rfl) (by kernel_rfl) (by kernel_rfl) (fun _ _ _ h => h) (Or.inl ⟨by rfl, ?_⟩) ?_
  rotate_left
  · (intro W hSw; obtain ⟨s1, s2, s3⟩ := hSw; go_simp; try with_reducible rfl)
  try simp only [Act.put, List.setIfInBounds_toArray, List.set_cons_zero, List.set_cons_succ]
  refine held_call (i := 10) (by kernel_rfl) rfl (fun K hK => ?_)
  go_simp
  (go_at_call 39; (with_reducible refine (HIMG.out _ (bl_chain HPL.out.bl (bl_drew W1))).mono ?_); rintro e w2 ⟨gm, Bm, Dm, Mm, r2, q2, c2, M2, rfl, hi, hr2, hm1, hm2, hdis, hb⟩; have HS2 := Lib.hid (show w2.cell? ⟨p, 0, none⟩ = some (.pointer (some ⟨r, 0, none⟩)) ∧ w2.cell? ⟨r, 0, none⟩ = some (.slice (some ⟨q, 0, none⟩) L.length c) ∧ w2.cell? ⟨W.heap.size, 2, none⟩ = some (.slice y.A y.l.length y.c) from ⟨(hb.cell (cell_block_lt HSS.out.1)).trans HSS.out.1, (hb.cell (cell_block_lt HSS.out.2.1)).trans HSS.out.2.1, (hb.cell (cell_block_lt HSS.out.2.2)).trans HSS.out.2.2⟩); have HI := Lib.hid hi; have HR2 := Lib.hid hr2; have HM1 := Lib.hid hm1; have HM2 := Lib.hid hm2; have HDI := Lib.hid hdis; have HB2 := Lib.hid (bl_of_drew hb); clear hi hr2 hm1 hm2 hdis hb)
  refine hK.out _ _ (HS2.out) ?_
  clear hK K
  try simp only [Act.put, List.setIfInBounds_toArray, List.set_cons_zero, List.set_cons_succ]
  refine held_take (HS2.out) (i := 11) (v := ?_) rfl (by kernel_rfl) (by kernel_rfl) (by kernel_rfl) (fun _ _ _ h => h) (Or.inl ⟨by rfl, ?_⟩) ?_
  rotate_left
  · (intro W hSw; obtain ⟨s1, s2, s3⟩ := hSw; go_simp; try with_reducible rfl)
  try simp only [Act.put, List.setIfInBounds_toArray, List.set_cons_zero, List.set_cons_succ]
  refine held_take (HS2.out) (i := 12) (v := ?_) rfl (by kernel_rfl) (by kernel_rfl) (by kernel_rfl) (fun _ _ _ h => h) (Or.inl ⟨by rfl, ?_⟩) ?_
  rotate_left
  · (intro W hSw; obtain ⟨s1, s2, s3⟩ := hSw; go_simp; try with_reducible rfl)
  try simp only [Act.put, List.setIfInBounds_toArray, List.set_cons_zero, List.set_cons_succ]
  refine held_take (HS2.out) (i := 14) (v := ?_) rfl (by kernel_rfl) (by kernel_rfl) (by kernel_rfl) (fun _ _ _ h => h) (Or.inl ⟨by rfl, ?_⟩) ?_
  rotate_left
  · (intro W hSw; obtain ⟨s1, s2, s3⟩ := hSw; go_simp; try with_reducible rfl)
  try simp only [Act.put, List.setIfInBounds_toArray, List.set_cons_zero, List.set_cons_succ]
  refine held_take (HS2.out) (i := 13) (v := ?_) rfl (by kernel_rfl) (by kernel_rfl) (by kernel_rfl) (fun _ _ _ h => h) (Or.inl ⟨by rfl, ?_⟩) ?_
  rotate_left
  · (intro W hSw; obtain ⟨s1, s2, s3⟩ := hSw; go_simp; try with_reducible rfl)
  try simp only [Act.put, List.setIfInBounds_toArray, List.set_cons_zero, List.set_cons_succ]
  refine held_take (HS2.out) (i := 15) (v := ?_) rfl (by kernel_rfl) (by kernel_rfl) (by kernel_rfl) (fun _ _ _ h => h) (Or.inl ⟨by rfl, ?_⟩) ?_
  rotate_left
  · (intro W hSw; obtain ⟨s1, s2, s3⟩ := hSw; go_simp; try with_reducible rfl)
  try simp only [Act.put, List.setIfInBounds_toArray, List.set_cons_zero, List.set_cons_succ]
  refine wpAnyH_done (by kernel_rfl) ?_ _
  have hz1 : W1.drew.heap.size = W1.heap.size := rfl
  have hnw := next_wrong x n
  have HP2 := Lib.hid (show PlAt w w2 NoB s d p F x false D L L x.n g Md Rr Mi r q c M from ⟨HPL.out.st.below HB2.out, HPL.out.rf.below HB2.out, HPL.out.ap, HPL.out.lo, bl_chain HPL.out.bl HB2.out, fun b hb => hb.elim⟩)
  have hold : ∀ b, (Md b ∨ Rr b ∨ Mi b ∨ M b ∨ b = s ∨ b = p) → b < W1.heap.size := HPL.out.lt
  have HW2 := Lib.hid HB2.out.size
  by_cases hw : wrongS x false n = 0
  · have hno : nextOk x.n n = true := by rw [hnw]; exact decide_eq_true hw
    have hrg := replace_go HP2.out.st HI.out HLE.out n hw HRR.out (fun b hb => by
      have h1 := HM1.out b hb
      exact ⟨fun h => by have := hold b (.inl h); omega, fun h => by have := hold b (.inr (.inl h)); omega, fun h => by have := hold b (by simp [h]); omega⟩)
    have hee := HEE.out hw
    have hpp := HP0.out hw
    clear HEE HP0 HP1
    generalize replR D F x L n L2 = R at hrg hee hpp
    obtain ⟨re, rx, rD, rL⟩ := R
    change re = 0 ∨ re = 20 at hee
    change ∀ W', RetAg w W s d p F rx (decide (re ≠ 0)) rD rL L2 n Md Rr Mi q W' → PW W' at hpp
    replace hrg : Calls Tryz.prog 40 #[.pointer (some ⟨s, 0, none⟩), .int .i64 n, .pointer (some ⟨gm, 0, none⟩)] w2 fun e w' => ∃ g' Md' Rr' Mi', e = .returned (.int .i64 re) ∧ StAt w' s d g' F rx (decide (re ≠ 0)) rD Md' Rr' rL Mi' ∧ Aft s w2 w' Md Rr (fun b => Mi b ∨ (Mm b ∧ b ≠ gm ∧ b ≠ Bm)) Md' Rr' Mi' ∧ Tr (fun b => Md b ∨ b = s) w2 w' := hrg
    have HOLD := Lib.hid hold
    have HNO := Lib.hid hno
    have HPP := Lib.hid hpp
    have HRG := Lib.hid hrg
    have hw2 : w.heap.size ≤ W1.heap.size := HPL.out.bl.size
    clear hw hno hrg hnw hold hpp
    have fin : ∀ (w3 w4 : World) (g' : Nat) (Md' Rr' Mi' : Nat → Prop) (r' q' c' : Nat), StAt w3 s d g' F rx (decide (re ≠ 0)) rD Md' Rr' rL Mi' → Aft s w2 w3 Md Rr (fun b => Mi b ∨ (Mm b ∧ b ≠ gm ∧ b ≠ Bm)) Md' Rr' Mi' → Tr (fun b => Md b ∨ b = s) w2 w3 →
        IsRSt w4 p r' q' c' L2 n (RCopyM r2 q2 M2 r' q') → w3.heap.size ≤ r' → w3.heap.size ≤ q' → Tr (fun b => b = p) w3 w4 → PW w4 := fun w3 w4 g' Md' Rr' Mi' r' q' c' hst haf htr hs4 hr' hq' ht4 => by
      have hz3 := haf.t.size
      have hwz2 := HW2.out
      have hz0 := HW1.out
      have hp3 := HP2.out.prog hst haf (fun b hb => ⟨by have := HM1.out b hb.1; omega, fun h => h.elim, fun h => by have := HOLD.out b (by simp [h]); have := HM1.out b hb.1; omega, fun h => by have := HOLD.out b (by simp [h]); have := HM1.out b hb.1; omega⟩)
      have hmx : ∀ b, M2 b → w.heap.size ≤ b ∧ ¬ NoB b ∧ ¬ Md' b ∧ ¬ Rr' b ∧ ¬ Mi' b ∧ b ≠ s := fun b hb => by
        have h1 := HM2.out b hb
        have h2 := HR2.out.mlt b hb
        refine ⟨by omega, id, fun h => (haf.d b h).elim (fun h => by have := HOLD.out b (.inl h); omega) (fun h => by omega), fun h => (haf.r b h).elim (fun h => by have := HOLD.out b (.inr (.inl h)); omega) (fun h => by omega), fun h => ?_, fun h => by have := HOLD.out b (by simp [h]); omega⟩
        rcases haf.i b h with (h | h) | h
        · have := HOLD.out b (.inr (.inr (.inl h))); omega
        · exact HDI.out b h.1 hb
        · omega
      have hp4 := hp3.refs (Mx := M2) hs4 (fun b hb => by
        rcases hb with h | h | h
        · exact .inl (.inr h.1)
        · exact .inr (by omega)
        · exact .inr (by omega)) (ht4.mono (fun _ _ h => .inr h)) hmx
      refine HPP.out _ ⟨g', Md', Rr', Mi', r', q', c', _, hp4, fun b hb => (haf.d b hb).imp id (fun h => by omega), fun b hb => (haf.r b hb).imp id (fun h => by omega), fun b hb => ?_, ?_⟩
      · rcases haf.i b hb with (h | h) | h
        · exact .inl h
        · exact .inr (by have := HM1.out b h.1; omega)
        · exact .inr (by omega)
      · exact ((Tr.of_below (bl_chain HB1.out HB2.out)).trans htr (fun b _ h => .inl (h.elim .inl (fun h => .inr (.inr h))))).trans ht4 (fun b _ h => .inr (.inr h))
    have HFIN := Lib.hid fin
    have har : ∀ (w3 : World), Tr (fun b => Md b ∨ b = s) w2 w3 → IsRef w3 r2 L2 q2 c2 M2 := fun w3 htr => HR2.out.tr htr (fun b hb hf => by
      have h1 := HM2.out b hb
      rcases hf with hf | hf
      · have := HOLD.out b (.inl hf); omega
      · have := HOLD.out b (by simp [hf]); omega)
    have HAR := Lib.hid har
    have hrs : ∀ (w3 : World), Tr (fun b => Md b ∨ b = s) w2 w3 → IsRSt w3 p r q c L x.n M := fun w3 htr => HP2.out.rf.tr htr (fun b hb hf => by
      obtain ⟨a1, a2, a3, a4⟩ := HP2.out.ap b (.inl hb)
      exact hf.elim a1 a4) (fun hf => by
      obtain ⟨a1, a2, a3, a4⟩ := HP2.out.ap p (.inr rfl)
      exact hf.elim a1 a4)
    have HRS := Lib.hid hrs
    have hpm : ¬ M2 p := fun h => by have h1 := HM2.out _ h; have := HOLD.out p (by simp); omega
    clear fin har hrs
    rcases hee with rfl | rfl
    · go_wp2_with (first
        | (go_at_call 40; (with_reducible refine HRG.out.mono ?_); rintro e w3 ⟨g', Md', Rr', Mi', rfl, hst, haf, htr⟩; have HST := Lib.hid hst; have HAF := Lib.hid haf; have HTR := Lib.hid htr; have HR3 := Lib.hid (HAR.out _ htr); have HS3 := Lib.hid (HRS.out _ htr); clear hst haf htr)
        | (go_at_call 41; (with_reducible refine (rsreplace_any HS3.out HR3.out HLE.out hpm n HNO.out).mono ?_); rintro e w4 ⟨r', q', c', rfl, hs4, h1, h2, ht4⟩; have HS4 := Lib.hid hs4; have HT4 := Lib.hid ht4; have H1 := Lib.hid h1; have H2 := Lib.hid h2; clear hs4 ht4 h1 h2))
      go_ret
      exact ⟨rfl, HFIN.out _ _ _ _ _ _ _ _ _ HST.out HAF.out HTR.out HS4.out H1.out H2.out HT4.out⟩
    · have hps : s ≠ p := (HP2.out.ap p (.inr rfl)).2.2.2.symm
      go_wp2_with (first
        | (go_at_call 40; (with_reducible refine HRG.out.mono ?_); rintro e w3 ⟨g', Md', Rr', Mi', rfl, hst, haf, htr⟩; have HST := Lib.hid hst; have HAF := Lib.hid haf; have HTR := Lib.hid htr; have HR3 := Lib.hid (HAR.out _ htr); have HS3 := Lib.hid (HRS.out _ htr); clear hst haf htr)
        | (go_at_call 41; (with_reducible refine (rsreplace_any HS3.out HR3.out HLE.out hpm n HNO.out).mono ?_); rintro e w4 ⟨r', q', c', rfl, hs4, h1, h2, ht4⟩; have HS4 := Lib.hid hs4; have HT4 := Lib.hid ht4; have H1 := Lib.hid h1; have H2 := Lib.hid h2; have HBL := Lib.hid (show IsSt w4 s d g' F rx true from ht4.blk HST.out.blk (fun e => hps e)); clear hs4 ht4 h1 h2)
        | (go_at_call 12; (with_reducible refine (bdead_any HBL.out).mono ?_); rintro e w7 ⟨rfl, rfl⟩))
      go_ret
      exact ⟨rfl, HFIN.out _ _ _ _ _ _ _ _ _ HST.out HAF.out HTR.out HS4.out H1.out H2.out HT4.out⟩
  · have hno : nextOk x.n n = false := by rw [hnw]; exact decide_eq_false hw
    have hw1 : wrongS x false n = 1 := by
      unfold wrongS at hw ⊢
      simp only [Bool.false_eq_true, if_false] at hw ⊢
      split at hw
      · rename_i h; rw [if_pos h]
      · exact absurd rfl hw
    have hrg := replace_no HP2.out.st HI.out.toImg HLE.out n hw
    rw [hw1] at hrg
    have hpp := HP1.out hw
    have HPP := Lib.hid hpp
    have HRG := Lib.hid hrg
    have HNO := Lib.hid hno
    clear hw hno hrg hnw hold hw1 HEE HP0 HP1 hpp
    go_wp2_with (first
      | (go_at_call 40; (with_reducible refine HRG.out.mono ?_); rintro e w3 ⟨rfl, hb3⟩; have B3 := Lib.hid hb3; have HR3 := Lib.hid (HR2.out.below hb3); have HS3 := Lib.hid (HP2.out.rf.below hb3); clear hb3)
      | (go_at_call 41; (with_reducible refine (rsreplace_no HS3.out HR3.out n HNO.out).mono ?_); rintro e w4 ⟨rfl, hb4⟩; have B4 := Lib.hid (bl_chain B3.out hb4); clear hb4))
    go_ret
    refine ⟨rfl, HPP.out _ ⟨g, Md, Rr, Mi, r, q, c, M, ⟨HP2.out.st.below B4.out, HP2.out.rf.below B4.out, HP2.out.ap, HP2.out.lo, bl_chain HP2.out.bl B4.out, fun b hz => hz.elim⟩, fun b hb => .inl hb, fun b hb => .inl hb, fun b hb => .inl hb, Tr.of_below (bl_chain HB1.out (bl_chain HB2.out B4.out))⟩⟩
end
end Go.Proofs.YthlijldapoeepaaGreat
