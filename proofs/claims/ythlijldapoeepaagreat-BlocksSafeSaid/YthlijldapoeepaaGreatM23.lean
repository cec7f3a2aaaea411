/- Count of the references at fixed limits. -/
import Derived.Test.YthlijldapoeepaaGreatM2
import Derived.IntWalk
import Derived.Test.YthlijldapoeepaaGreatM22
namespace Go.Proofs.YthlijldapoeepaaGreat
set_option linter.unusedVariables false
set_option linter.unusedSimpArgs false
set_option maxRecDepth 100000
open Go.RowKit

def cntN (K n : Int) : Int := if n.tmod K < 0 then n.tmod K + K else n.tmod K
theorem tmod12 (n : Int) : -12 < n.tmod 12 ∧ n.tmod 12 < 12 := by
  constructor
  · have := Int.tmod_lt_of_pos (-n) (show (0 : Int) < 12 by omega); rw [Int.neg_tmod] at this; omega
  · exact Int.tmod_lt_of_pos n (by omega)
theorem cnt12_in (n : Int) : 0 ≤ cntN 12 n ∧ cntN 12 n < 12 := by
  have := tmod12 n
  unfold cntN
  split <;> omega
theorem count12_any (n : Int) (w : World) : Calls Tryz.prog 13 #[.int .i64 n, .int .i64 12] w fun e w' => e = .returned (.int .i64 (cntN 12 n)) ∧ w = w' := by
  obtain ⟨h1, h2⟩ := tmod12 n
  obtain ⟨r, hr⟩ : ∃ r, n.tmod 12 = r := ⟨_, rfl⟩
  have HE : Hid (cntN 12 n = if r < 0 then r + 12 else r) := Lib.hid (by unfold cntN; rw [hr])
  rw [hr] at h1 h2
  have hw : IntKind.i64.wrap r = r := by rw [IntKind.wrap_i64]; omega
  by_cases h0 : r < 0
  · have HE2 := Lib.hid (HE.out.trans (if_pos h0))
    have hw2 : IntKind.i64.wrap (r + 12) = r + 12 := by rw [IntKind.wrap_i64]; omega
    clear HE
    go_enter Tryz.func13, Tryz.ntmps13
    go_wp2_with fail
    go_ret
    exact ⟨by rw [HE2.out]; rfl, rfl⟩
  · have HE2 := Lib.hid (HE.out.trans (if_neg h0))
    clear HE
    go_enter Tryz.func13, Tryz.ntmps13
    go_wp2_with fail
    go_ret
    exact ⟨by rw [HE2.out]; rfl, rfl⟩
theorem tmod20 (n : Int) : -20 < n.tmod 20 ∧ n.tmod 20 < 20 := by
  constructor
  · have := Int.tmod_lt_of_pos (-n) (show (0 : Int) < 20 by omega); rw [Int.neg_tmod] at this; omega
  · exact Int.tmod_lt_of_pos n (by omega)
theorem cnt20_in (n : Int) : 0 ≤ cntN 20 n ∧ cntN 20 n < 20 := by
  have := tmod20 n
  unfold cntN
  split <;> omega
theorem count20_any (n : Int) (w : World) : Calls Tryz.prog 13 #[.int .i64 n, .int .i64 20] w fun e w' => e = .returned (.int .i64 (cntN 20 n)) ∧ w = w' := by
  obtain ⟨h1, h2⟩ := tmod20 n
  obtain ⟨r, hr⟩ : ∃ r, n.tmod 20 = r := ⟨_, rfl⟩
  have HE : Hid (cntN 20 n = if r < 0 then r + 20 else r) := Lib.hid (by unfold cntN; rw [hr])
  rw [hr] at h1 h2
  have hw : IntKind.i64.wrap r = r := by rw [IntKind.wrap_i64]; omega
  by_cases h0 : r < 0
  · have HE2 := Lib.hid (HE.out.trans (if_pos h0))
    have hw2 : IntKind.i64.wrap (r + 20) = r + 20 := by rw [IntKind.wrap_i64]; omega
    clear HE
    go_enter Tryz.func13, Tryz.ntmps13
    go_wp2_with fail
    go_ret
    exact ⟨by rw [HE2.out]; rfl, rfl⟩
  · have HE2 := Lib.hid (HE.out.trans (if_neg h0))
    clear HE
    go_enter Tryz.func13, Tryz.ntmps13
    go_wp2_with fail
    go_ret
    exact ⟨by rw [HE2.out]; rfl, rfl⟩
end Go.Proofs.YthlijldapoeepaaGreat

/- The laws of 06: what stands beside a call of both; crashes and failing disks. -/

namespace Go.Proofs.YthlijldapoeepaaGreat
set_option linter.unusedVariables false
set_option linter.unusedSimpArgs false
set_option maxRecDepth 100000
open Go.RowKit Go.Shelf

section
variable {w W W' : World} {s d p p0 p1 F g g' r q c r1 q1 c1 : Nat} {x x' : ST} {dead dead' : Bool} {D D' : Dk.DS} {L L' L2 L3 Lm : List (List Int)} {N2 N3 Nm : Int} {Md Rr Mi M Md' Rr' Mi' M1 : Nat → Prop} {b : Nat}
/-- The other reference's store, behind a call. -/
theorem PlAt.side (h : PlAt w W NoB s d p0 F x dead D L L2 N2 g Md Rr Mi r q c M) (hne : ∀ b, (M b ∨ b = p0) → b ≠ q1 ∧ b ≠ p1) {q2 c2 : Nat} (hn : PlAt w W' NoB s d p1 F x' dead' D' L' L3 N3 g' Md' Rr' Mi' r1 q2 c2 M1)
    (hd : ∀ b, Md' b → Md b ∨ W.heap.size ≤ b) (hr : ∀ b, Rr' b → Rr b ∨ W.heap.size ≤ b) (hi : ∀ b, Mi' b → Mi b ∨ W.heap.size ≤ b) (ht : Tr (fun b => (Md b ∨ Mi b ∨ b = s) ∨ b = q1 ∨ b = p1) W W') :
    PlAt w W' NoB s d p0 F x' dead' D' L' L2 N2 g' Md' Rr' Mi' r q c M := by
  have hF : ∀ b, (M b ∨ b = p0) → ¬ ((Md b ∨ Mi b ∨ b = s) ∨ b = q1 ∨ b = p1) := fun b hb hf => by
    obtain ⟨a1, a2, a3, a4⟩ := h.ap b hb
    obtain ⟨b1, b2⟩ := hne b hb
    rcases hf with (hf | hf | hf) | hf | hf
    · exact a1 hf
    · exact a3 hf
    · exact a4 hf
    · exact b1 hf
    · exact b2 hf
  have hlt : ∀ b, (M b ∨ b = p0) → b < W.heap.size := fun b hb => h.lt b (by rcases hb with hb | hb <;> simp [hb])
  refine ⟨hn.st, h.rf.tr ht (fun b hb => hF b (.inl hb)) (hF p0 (.inr rfl)), fun b hb => ?_, fun b hb => ?_, hn.bl, fun b hz => hz.elim⟩
  · obtain ⟨a1, a2, a3, a4⟩ := h.ap b hb
    have hl := hlt b hb
    exact ⟨fun e => (hd b e).elim a1 (fun e => by omega), fun e => (hr b e).elim a2 (fun e => by omega), fun e => (hi b e).elim a3 (fun e => by omega), a4⟩
  · rcases hb with hb | hb | hb | hb | hb | hb
    · exact hn.lo b (by simp [hb])
    · exact hn.lo b (by simp [hb])
    · exact hn.lo b (by simp [hb])
    · exact h.lo b (by simp [hb])
    · exact hn.lo b (by simp [hb])
    · exact h.lo b (by simp [hb])
/-- The disk written. -/
theorem PlAt.disk (h : PlAt w W NoB s d p F x dead D L L2 N2 g Md Rr Mi r q c M) (hd : Dk.IsDisk W' d D' Md' Rr') (hm : ∀ b, Md' b → Md b ∨ W.heap.size ≤ b) (hr : ∀ b, Rr' b → Rr b ∨ W.heap.size ≤ b) (ht : Tr Md W W') :
    PlAt w W' NoB s d p F x dead D' L L2 N2 g Md' Rr' Mi r q c M := by
  have hst := h.st
  have hsl := hst.blk.lt
  have hil := hst.img.mlt
  refine h.prog (Mx := NoB) ⟨ht.blk hst.blk hst.sd, hd, hst.img.tr ht (fun b hb => (hst.di b hb).1), fun e => (hm s e).elim hst.sd (fun e => by omega), fun e => (hr s e).elim hst.sr (fun e => by omega), hst.si, fun b hb => ⟨fun e => (hm b e).elim (hst.di b hb).1 (fun e => by have := hil b hb; omega), fun e => (hr b e).elim (hst.di b hb).2 (fun e => by have := hil b hb; omega)⟩⟩
    ⟨hm, hr, fun b hb => .inl (.inl hb), ht.mono (fun b _ h => .inl h)⟩ (fun b hb => hb.elim)
/-- Another store opened on the disk. -/
theorem PlAt.opened (h : PlAt w W NoB s d p F x dead D L L2 N2 g Md Rr Mi r q c M) {s' : Nat} (hst : StAt W' s' d g' F x' dead' D Md Rr L' Mi') (hs : W.heap.size ≤ s') (hmi : ∀ b, Mi' b → W.heap.size ≤ b) (hb : Below W.heap.size W W') :
    PlAt w W' NoB s' d p F x' dead' D L' L2 N2 g' Md Rr Mi' r q c M := by
  have hzw := h.bl.size
  have hml : ∀ b, (M b ∨ b = p) → b < W.heap.size := fun b hb => h.lt b (by rcases hb with hb | hb <;> simp [hb])
  refine ⟨hst, h.rf.below hb, fun b hb => ⟨(h.ap b hb).1, (h.ap b hb).2.1, fun hq => by have := hml b hb; have := hmi b hq; omega, fun hq => by have := hml b hb; omega⟩, fun b hb => ⟨?_, id⟩, bl_chain h.bl hb, fun b hz => hz.elim⟩
  rcases hb with hb | hb | hb | hb | hb | hb
  · exact (h.lo b (.inl hb)).1
  · exact (h.lo b (.inr (.inl hb))).1
  · have := hmi b hb; omega
  · exact (h.lo b (.inr (.inr (.inr (.inl hb))))).1
  · omega
  · exact (h.lo b (.inr (.inr (.inr (.inr (.inr hb)))))).1
theorem PlAt.bel (h : PlAt w W NoB s d p F x dead D L L2 N2 g Md Rr Mi r q c M) (hb : Below W.heap.size W W') : PlAt w W' NoB s d p F x dead D L L2 N2 g Md Rr Mi r q c M :=
  ⟨h.st.below hb, h.rf.below hb, h.ap, h.lo, bl_chain h.bl hb, fun b hz => hz.elim⟩
/-- One store of the program, two of the reference. -/
def Dd (w W : World) (s d ps pm F : Nat) (x : ST) (dead : Bool) (D : Dk.DS) (L : List (List Int)) (Lm : List (List Int)) (Nm : Int) : Prop :=
  ∃ g Md Rr Mi, (∃ r q c M, PlAt w W NoB s d ps F x dead D L L x.n g Md Rr Mi r q c M) ∧ (∃ r q c M, PlAt w W NoB s d pm F x dead D L Lm Nm g Md Rr Mi r q c M)
theorem Dd.below {ps pm : Nat} (h : Dd w W s d ps pm F x dead D L Lm Nm) (hb : Below W.heap.size W W') : Dd w W' s d ps pm F x dead D L Lm Nm := by
  obtain ⟨g, Md, Rr, Mi, ⟨r, q, c, M, h1⟩, ⟨r', q', c', M', h2⟩⟩ := h
  exact ⟨g, Md, Rr, Mi, ⟨r, q, c, M, h1.bel hb⟩, ⟨r', q', c', M', h2.bel hb⟩⟩
theorem Dd.bl {ps pm : Nat} (h : Dd w W s d ps pm F x dead D L Lm Nm) : Below w.heap.size w W := by
  obtain ⟨g, Md, Rr, Mi, ⟨r, q, c, M, h1⟩, h2⟩ := h
  exact h1.bl
theorem Dd.sure {ps pm : Nat} (h : Dd w W s d ps pm F x dead D L Lm Nm) : Pl w W NoB s d ps F x dead D L L x.n := by
  obtain ⟨g, Md, Rr, Mi, ⟨r, q, c, M, h1⟩, h2⟩ := h
  exact ⟨g, Md, Rr, Mi, r, q, c, M, h1⟩
theorem Dd.same (h : Pl w W NoB s d p F x dead D L L x.n) : Dd w W s d p p F x dead D L L x.n := by
  obtain ⟨g, Md, Rr, Mi, r, q, c, M, h1⟩ := h
  exact ⟨g, Md, Rr, Mi, ⟨r, q, c, M, h1⟩, ⟨r, q, c, M, h1⟩⟩
theorem dfail {ps pm : Nat} (h : Dd w W s d ps pm F x dead D L Lm Nm) : Calls Tryz.prog 17 #[.pointer (some ⟨d, 0, none⟩)] W fun e W' => e = .returned (.int .i64 0) ∧ Dd w W' s d ps pm F x dead (Dk.failD D) L Lm Nm := by
  obtain ⟨g, Md, Rr, Mi, ⟨r, q, c, M, h1⟩, ⟨r', q', c', M', h2⟩⟩ := h
  refine (Dk.fail_any h1.st.dsk).mono ?_
  rintro e W' ⟨rfl, hd, ht⟩
  exact ⟨rfl, g, Md, Rr, Mi, ⟨r, q, c, M, h1.disk hd (fun b hb => .inl hb) (fun b hb => .inl hb) ht⟩, ⟨r', q', c', M', h2.disk hd (fun b hb => .inl hb) (fun b hb => .inl hb) ht⟩⟩
theorem dcrash {ps pm : Nat} (h : Dd w W s d ps pm F x dead D L Lm Nm) (y : OpB) (hy : y.In w) : Calls Tryz.prog 18 #[.pointer (some ⟨d, 0, none⟩), .slice y.B y.ks.length y.d] W fun e W' => e = .returned (.int .i64 0) ∧ Dd w W' s d ps pm F x dead (Dk.crashD D y.ks) L Lm Nm := by
  obtain ⟨g, Md, Rr, Mi, ⟨r, q, c, M, h1⟩, ⟨r', q', c', M', h2⟩⟩ := h
  refine (Dk.crash_any y.B y.d y.ks h1.st.dsk (hy.rk.below h1.bl) (by have := hy.lk; omega) (fun hne b hb hm => ?_)).mono ?_
  · have h0 := (h1.lo b (.inl hm)).1
    obtain ⟨v, hv⟩ : ∃ v, (y.ks.map (Value.int .i64))[0]? = some v := ⟨_, List.getElem?_eq_getElem (by rw [List.length_map]; exact List.length_pos_iff.2 hne)⟩
    obtain ⟨ad, e, hc⟩ := hy.rk 0 v hv
    rw [e] at hb
    have := (Blo.some_iff _ _).1 hb
    have := cell_block_lt hc
    subst b
    have : (ad.add 0).block = ad.block := by unfold Addr.add; split <;> rfl
    omega
  rintro e W' ⟨rfl, Md', Rr', hd, hm, hr, ht⟩
  exact ⟨rfl, g, Md', Rr', Mi, ⟨r, q, c, M, h1.disk hd hm hr ht⟩, ⟨r', q', c', M', h2.disk hd hm hr ht⟩⟩
theorem dopen {ps pm : Nat} (h : Dd w W s d ps pm F x dead D L Lm Nm) (hI : PInv D F x L b) (z m : Int) (hz : z = (F : Int)) (hm : m = (L.length : Int)) :
    Calls Tryz.prog 8 #[.pointer (some ⟨d, 0, none⟩), .int .i64 z, .int .i64 m] W fun e W' => ∃ s', e = .returned (.tuple #[.pointer (some ⟨s', 0, none⟩), .int .i64 0]) ∧ Dd w W' s' d ps pm F x false D L Lm Nm := by
  obtain ⟨g, Md, Rr, Mi, ⟨r, q, c, M, h1⟩, ⟨r', q', c', M', h2⟩⟩ := h
  obtain ⟨t1, t2⟩ := hI.top
  have ha0 := hI.pos.2.2.1.1
  have ha1 := hI.area
  refine (open_okz z m hz hm x t1 h1.st.dsk hI.hF x.area.toNat (by omega) (by omega) t2 hI.op).mono ?_
  rintro e W' ⟨s', g', Mi', rfl, hst, hs, hmi, hb⟩
  exact ⟨s', rfl, g', Md, Rr, Mi', ⟨r, q, c, M, h1.opened hst hs hmi hb⟩, ⟨r', q', c', M', h2.opened hst hs hmi hb⟩⟩
theorem dsure {ps pm : Nat} (h : Dd w W s d ps pm F x dead D L Lm Nm) : Calls Tryz.prog 11 #[.pointer (some ⟨s, 0, none⟩), .pointer (some ⟨ps, 0, none⟩)] W fun e W' => e = .returned (.bool true) ∧ Dd w W' s d ps pm F x dead D L Lm Nm := by
  have h0 := h
  obtain ⟨g, Md, Rr, Mi, ⟨r, q, c, M, h1⟩, h2⟩ := h
  refine (same_any h1.st.blk h1.st.img h1.rf).mono ?_
  rintro e W' ⟨rfl, hb⟩
  exact ⟨by simp [sameB], h0.below hb⟩
theorem dmay {ps pm : Nat} (h : Dd w W s d ps pm F x dead D L Lm Nm) (hne : Nm ≠ x.n) : Calls Tryz.prog 11 #[.pointer (some ⟨s, 0, none⟩), .pointer (some ⟨pm, 0, none⟩)] W fun e W' => e = .returned (.bool false) ∧ Dd w W' s d ps pm F x dead D L Lm Nm := by
  have h0 := h
  obtain ⟨g, Md, Rr, Mi, h2, ⟨r, q, c, M, h1⟩⟩ := h
  refine (same_any h1.st.blk h1.st.img h1.rf).mono ?_
  rintro e W' ⟨rfl, hb⟩
  exact ⟨by unfold sameB; rw [decide_eq_false (fun e => hne e.symm)]; rfl, h0.below hb⟩
theorem ddead {ps pm : Nat} (h : Dd w W s d ps pm F x dead D L Lm Nm) : Calls Tryz.prog 12 #[.pointer (some ⟨s, 0, none⟩)] W fun e W' => e = .returned (.bool dead) ∧ W = W' := by
  obtain ⟨g, Md, Rr, Mi, ⟨r, q, c, M, h1⟩, h2⟩ := h
  exact bdead_any h1.st.blk
/-- The reference's store copied: the copy is where a call will write, the other one is not. -/
def Cp (w W : World) (s d p p1 F : Nat) (x : ST) (D : Dk.DS) (L : List (List Int)) : Prop :=
  ∃ g Md Rr Mi r q c M r1 q1 c1 M1, PlAt w W NoB s d p F x false D L L x.n g Md Rr Mi r q c M ∧ PlAt w W NoB s d p1 F x false D L L x.n g Md Rr Mi r1 q1 c1 M1 ∧ ∀ b, (M b ∨ b = p) → b ≠ q1 ∧ b ≠ p1
theorem Cp.bl (h : Cp w W s d p p1 F x D L) : Below w.heap.size w W := by
  obtain ⟨g, Md, Rr, Mi, r, q, c, M, r1, q1, c1, M1, h1, h2, h3⟩ := h
  exact h1.bl
theorem pcopy (h : Pl w W NoB s d p F x false D L L x.n) : Calls Tryz.prog 15 #[.pointer (some ⟨p, 0, none⟩)] W fun e W' => ∃ p1, e = .returned (.pointer (some ⟨p1, 0, none⟩)) ∧ Cp w W' s d p p1 F x D L ∧ Below W.heap.size W W' := by
  obtain ⟨g, Md, Rr, Mi, r, q, c, M, h⟩ := h
  refine (rscopy_any h.rf).mono ?_
  rintro e W' ⟨p', r', q', c', rfl, hs, hp', hr', hq', hb⟩
  have hlt := h.lt
  have hz := h.bl.size
  have h1 := h.bel hb
  refine ⟨p', rfl, ⟨g, Md, Rr, Mi, r, q, c, M, r', q', c', _, h1, ⟨h1.st, hs, fun b hb => ?_, fun b hb => ⟨?_, id⟩, h1.bl, fun b hz => hz.elim⟩, fun b hb => ?_⟩, hb⟩
  · have key : (M b ∨ b = p) ∨ W.heap.size ≤ b := by
      rcases hb with (hb | hb | hb) | hb
      · exact .inl (.inl hb.1)
      · exact .inr (by omega)
      · exact .inr (by omega)
      · exact .inr (by omega)
    rcases key with e | e
    · exact h.ap b e
    · exact ⟨fun e => by have := hlt b (by simp [e]); omega, fun e => by have := hlt b (by simp [e]); omega, fun e => by have := hlt b (by simp [e]); omega, fun e => by have := hlt b (by simp [e]); omega⟩
  · rcases hb with hb | hb | hb | (hb | hb | hb) | hb | hb
    · exact (h.lo b (by simp [hb])).1
    · exact (h.lo b (by simp [hb])).1
    · exact (h.lo b (by simp [hb])).1
    · exact (h.lo b (by simp [hb.1])).1
    · omega
    · omega
    · exact (h.lo b (by simp [hb])).1
    · omega
  · have := hlt b (by rcases hb with hb | hb <;> simp [hb])
    omega
/-- A call of both, of each kind: it is done, or the disk fails. -/
theorem agreed_any (hI : CInv D F x L b) (hq : Quiet D) (hb : b < 800000) (y : OpB) (hy : y.In w) :
    (∀ (V : World) (p p1 : Nat), Cp w V s d p p1 F x D L → Calls Tryz.prog 16 #[.pointer (some ⟨s, 0, none⟩), .pointer (some ⟨p1, 0, none⟩), .agg #[.int .i64 y.kind, .int .i64 y.n, .slice y.A y.l.length y.c, .slice y.B y.ks.length y.d]] V fun e W' => e = .returned (.bool true) ∧
        ∃ x' D' L', Pl w W' NoB s d p1 F x' false D' L' L' x'.n ∧ CInv D' F x' L' (b + 2) ∧ Quiet D' ∧ L'.length = L.length) ∨
      (∀ (V : World) (p p1 : Nat), Cp w V s d p p1 F x D L → Calls Tryz.prog 16 #[.pointer (some ⟨s, 0, none⟩), .pointer (some ⟨p1, 0, none⟩), .agg #[.int .i64 y.kind, .int .i64 y.n, .slice y.A y.l.length y.c, .slice y.B y.ks.length y.d]] V fun e W' => e = .returned (.bool true) ∧
        ∃ D' Lm Nm, Dd w W' s d p p1 F x true D' L Lm Nm ∧ Nm ≠ x.n ∧ CInv D' F x L (b + 2)) := by
  have hR := hI.ready hq (by omega)
  have hN : 0 ≤ x.n ∧ x.n ≤ 1152921504606846976 := ⟨hI.inv.pos.2.1.1, hI.inv.nn⟩
  obtain ⟨n, hn⟩ : ∃ n, numberN x.n y.n = n := ⟨_, rfl⟩
  by_cases hk : y.kind = 4
  · rw [hk]
    have hlo := hI.inv.ok.lo
    have h256 := hI.inv.ok.hi
    obtain ⟨L2, hL2⟩ : ∃ L2, changeL (emptyL L.length) y.l = L2 := ⟨_, rfl⟩
    have hok2 : ImgOk L2 ∧ L2.length = L.length := by
      have he := emptyL_ok (n := L.length) hlo h256
      have hel : (emptyL L.length).length = L.length := by simp [emptyL]
      rw [← hL2]
      unfold changeL
      split
      · rename_i hc
        rw [hel] at hc
        exact ⟨chTo_ok he (lines_ok h256 hc hy.rl), by rw [chTo_length, hel]⟩
      · exact ⟨he, hel⟩
    by_cases hw : wrongS x false n = 0
    · rcases repl_out hI hq hb n hok2.1 hok2.2 hw with ⟨e1, e2, e3, e4, e5⟩ | ⟨e1, e2, e3, e4, e5⟩
      · left
        rintro V p p1 ⟨g, Md, Rr, Mi, r, q, c, M, r1, q1, c1, M1, h1, h2, h3⟩
        refine agreed_replace h2 hR hN y hy n hn L2 hL2 (fun _ => .inl e1) _ (fun _ W' hW => ?_) (fun hx => absurd hw hx)
        obtain ⟨g', Md', Rr', Mi', r', q', c', M', a1, a2, a3, a4, a5⟩ := hW
        rw [e1, e2] at a1
        refine ⟨(replR D F x L n L2).x, (replR D F x L n L2).D, L2, ?_, e4, e5, hok2.2⟩
        rw [e3]
        exact ⟨g', Md', Rr', Mi', r', q', c', M', a1⟩
      · right
        rintro V p p1 ⟨g, Md, Rr, Mi, r, q, c, M, r1, q1, c1, M1, h1, h2, h3⟩
        refine agreed_replace h2 hR hN y hy n hn L2 hL2 (fun _ => .inr e1) _ (fun _ W' hW => ?_) (fun hx => absurd hw hx)
        obtain ⟨g', Md', Rr', Mi', r', q', c', M', a1, a2, a3, a4, a5⟩ := hW
        rw [e1, e2, e3] at a1
        exact ⟨(replR D F x L n L2).D, L2, n, ⟨g', Md', Rr', Mi', ⟨r, q, c, M, h1.side h3 a1 a2 a3 a4 a5⟩, ⟨r', q', c', M', a1⟩⟩, e5, e4⟩
    · left
      rintro V p p1 ⟨g, Md, Rr, Mi, r, q, c, M, r1, q1, c1, M1, h1, h2, h3⟩
      refine agreed_replace h2 hR hN y hy n hn L2 hL2 (fun hx => absurd hx hw) _ (fun hx => absurd hx hw) (fun _ W' hW => ?_)
      obtain ⟨g', Md', Rr', Mi', r', q', c', M', a1, a2, a3, a4, a5⟩ := hW
      exact ⟨x, D, L, ⟨g', Md', Rr', Mi', r', q', c', M', a1⟩, hI.more (by omega), hq, rfl⟩
  · have hk4 : (y.kind == 4) = false := by simpa using hk
    rcases apply_out hI hq hb n y.l hy.rl with ⟨e1, e2, e3, e4, e5, e6, e7⟩ | ⟨e1, e2, e3, e4, e5, e6, e7⟩
    · left
      rintro V p p1 ⟨g, Md, Rr, Mi, r, q, c, M, r1, q1, c1, M1, h1, h2, h3⟩
      refine agreed_apply h2 hR hN y hy y.kind hk4 n hn (.inl e2) _ (fun W' hW => ?_)
      obtain ⟨g', Md', Rr', Mi', r', q', c', M', a1, a2, a3, a4, a5⟩ := hW
      rw [e1, ← e3, ← e4] at a1
      exact ⟨(papR D F x false L n y.l).x, (papR D F x false L n y.l).D, (papR D F x false L n y.l).L, ⟨g', Md', Rr', Mi', r', q', c', M', a1⟩, e5, e6, e7⟩
    · right
      rintro V p p1 ⟨g, Md, Rr, Mi, r, q, c, M, r1, q1, c1, M1, h1, h2, h3⟩
      refine agreed_apply h2 hR hN y hy y.kind hk4 n hn (.inr ⟨e1, e2, e3⟩) _ (fun W' hW => ?_)
      obtain ⟨g', Md', Rr', Mi', r', q', c', M', a1, a2, a3, a4, a5⟩ := hW
      rw [e1, e4, e5, if_pos e3, if_pos e3] at a1
      exact ⟨(papR D F x false L n y.l).D, chTo L y.l, n, ⟨g', Md', Rr', Mi', ⟨r, q, c, M, h1.side h3 a1 a2 a3 a4 a5⟩, ⟨r', q', c', M', a1⟩⟩, e7, e6⟩
end
end Go.Proofs.YthlijldapoeepaaGreat

/- BlocksSafe: the walk. -/

namespace Go.Proofs.YthlijldapoeepaaGreat
set_option linter.unusedVariables false
set_option linter.unusedSimpArgs false
set_option maxRecDepth 100000
open Go.RowKit Go.Shelf

/-- What stands ahead of each round. -/
def SafeAt (w W : World) (d m i s ps pm : Nat) : Prop :=
  ∃ (x : ST) (D : Dk.DS) (L Lm : List (List Int)) (Nm : Int), CInv D 0 x L (2 * i) ∧ L.length = m ∧
    ((pm = ps ∧ Quiet D ∧ Dd w W s d ps ps 0 x false D L L x.n) ∨ (Nm ≠ x.n ∧ Dd w W s d ps pm 0 x true D L Lm Nm))
theorem SafeAt.bl {w W : World} {d m i s ps pm : Nat} (h : SafeAt w W d m i s ps pm) : Below w.heap.size w W := by
  obtain ⟨x, D, L, Lm, Nm, h1, h2, h3 | h3⟩ := h
  · exact h3.2.2.bl
  · exact h3.2.bl
set_option maxHeartbeats 6400000 in
theorem blocksSafe_walk (n : Int) (A : Option Addr) (c : Nat) (l : List OpB) (w : World) (hn : -9223372036854775808 ≤ n ∧ n ≤ 9223372036854775807) (hll : l.length ≤ 140737488351232) (hl : OpsBAt w A l) :
    Calls Tryz.prog 4 #[.int .i64 n, .slice A l.length c] w fun e w' => e = .returned (.bool true) ∧ Below w.heap.size w w' := by
  have HC := Lib.hid (count12_any n w)
  obtain ⟨k, hk⟩ := Int.eq_ofNat_of_zero_le (cnt12_in n).1
  have hk2 : k < 12 := by have := (cnt12_in n).2; omega
  rw [hk] at HC
  obtain ⟨m, hm⟩ : ∃ m, 1 + k = m := ⟨_, rfl⟩
  have q5 : (1 : Int) + (k : Int) = (m : Int) := by omega
  have hm1 : 1 ≤ m := by omega
  have hm2 : m ≤ 256 := by omega
  have hr : rowsN m ≤ 86 := by unfold rowsN; omega
  have HLO := Lib.hid (lopen_any m hm1 hm2 w)
  obtain ⟨k3, hk3⟩ : ∃ k3, 19 + 2 * rowsN m = k3 := ⟨_, rfl⟩
  have HPI := Lib.hid (PInv.fresh (N := k3) (F := 0) (n := m) hm1 hm2 (by omega) (by omega) (by omega))
  have hel : (emptyL m).length = m := by simp [emptyL]
  have HRN := Lib.hid (fun W => rnew_ok m W hm1 hm2)
  have HL := Lib.hid hl
  have HK3 := Lib.hid hk3
  clear hl hk hm hk3 hr
  go_enter Tryz.func4, Tryz.ntmps4
  go_wp2_with (first
    | (go_at_call 13; (with_reducible refine HC.out.mono ?_); rintro e w' ⟨rfl, rfl⟩)
    | (go_at_call 14; (with_reducible refine HLO.out.mono ?_); rintro e w2 ⟨s, d, g, Md, Mi, rfl, hs2, hs, hm1, hm2, hb2⟩; rw [HK3.out] at hs2; have HS2 := Lib.hid hs2; have HSS := Lib.hid hs; have HM1 := Lib.hid hm1; have HM2 := Lib.hid hm2; have B2 := Lib.hid hb2; clear hs2 hs hm1 hm2 hb2)
    | (go_at_call 9; (with_reducible refine (HRN.out _).mono ?_); rintro e w3 ⟨r, q, cc, M, rfl, hr3, hm3, hb3⟩; have HR3 := Lib.hid hr3; have HM3 := Lib.hid hm3; have B3 := Lib.hid hb3; clear hr3 hm3 hb3))
  have hz2 := B2.out.size
  have hz3 := B3.out.size
  have hp0 : Pl w (w3.alloc (.cells #[.pointer (some ⟨r, 0, none⟩), .int .i64 0] 37)) NoB s d w3.heap.size 0 ST.zero false (freshD k3) (emptyL m) (emptyL m) 0 := by
    have hbl := bl_alloc w3 (.cells #[.pointer (some ⟨r, 0, none⟩), .int .i64 0] 37)
    have hmd := HS2.out.dsk.mlt
    have hmi := HS2.out.img.mlt
    have hs2 := HS2.out.blk.lt
    have hmr := HR3.out.mlt
    refine ⟨g, Md, NoB, Mi, r, q, cc, M, (HS2.out.below B3.out).below hbl, ⟨Blk.new _ _ _, HR3.out.below hbl, fun h => by have := hmr _ h; omega⟩, fun b hb => ?_, fun b hb => ⟨?_, id⟩, bl_chain B2.out (bl_chain B3.out hbl), fun b hz => hz.elim⟩
    · have hb2 : w2.heap.size ≤ b := hb.elim (HM3.out b) (fun e => by omega)
      exact ⟨fun h => by have := hmd b h; omega, fun h => h.elim, fun h => by have := hmi b h; omega, fun h => by omega⟩
    · rcases hb with hb | hb | hb | hb | hb | hb
      · exact HM1.out b hb
      · exact hb.elim
      · exact HM2.out b hb
      · have := HM3.out b hb; omega
      · have := HSS.out; omega
      · omega
  have hsafe : SafeAt w (w3.alloc (.cells #[.pointer (some ⟨r, 0, none⟩), .int .i64 0] 37)) d m 0 s w3.heap.size w3.heap.size :=
    ⟨ST.zero, freshD k3, emptyL m, emptyL m, 0, CInv.of HPI.out ⟨rfl, rfl, rfl⟩, hel, .inl ⟨rfl, ⟨rfl, rfl, rfl⟩, Dd.same hp0⟩⟩
  have HP0 := Lib.hid hsafe
  clear hp0 hsafe hz2 hz3 HS2 HR3 HM1 HM2 HM3 HSS B2 B3 HPI HRN HLO HC
  generalize w3.alloc (.cells #[.pointer (some ⟨r, 0, none⟩), .int .i64 0] 37) = W0 at HP0 ⊢
  generalize w3.heap.size = p at HP0 ⊢
  go_loopw [5, 9, 10, 11] (fun v5 v9 v10 v11 W => ∃ (i s ps pm : Nat), i ≤ 40 ∧ i ≤ l.length ∧ v11 = .int .i64 (i : Int) ∧ v5 = .pointer (some ⟨s, 0, none⟩) ∧ v9 = .pointer (some ⟨ps, 0, none⟩) ∧ v10 = .pointer (some ⟨pm, 0, none⟩) ∧ SafeAt w W d m i s ps pm) (fun _ _ _ v11 _ => 40 - (intOf v11).toNat)
  case atStart => exact ⟨0, s, p, p, by omega, by omega, rfl, rfl, rfl, rfl, HP0.out⟩
  case round =>
    obtain ⟨i, s', ps, pm, hi, hil, rfl, rfl, rfl, rfl, hp⟩ := hrel
    have HSA := Lib.hid hp
    clear HP0 HK3
    by_cases hlt : i < l.length
    · have z1 : decide ((i : Int) < (l.length : Int)) = true := decide_eq_true (by omega)
      by_cases hlt2 : i < 40
      · have z2 : decide ((i : Int) < 40) = true := decide_eq_true (by omega)
        obtain ⟨hy, b, o, rfl, hc⟩ := HL.out i hlt
        have hbl := hp.bl
        have x0 := (hbl.cell (cell_block_lt (hc 0 _ rfl))).trans (hc 0 _ rfl)
        have x1 := (hbl.cell (cell_block_lt (hc 1 _ rfl))).trans (hc 1 _ rfl)
        have x2 := (hbl.cell (cell_block_lt (hc 2 _ rfl))).trans (hc 2 _ rfl)
        have x3 := (hbl.cell (cell_block_lt (hc 3 _ rfl))).trans (hc 3 _ rfl)
        rw [← Nat.add_assoc] at x0 x1 x2 x3
        have HY := Lib.hid hy
        clear hc hy hbl
        generalize l[i] = y at x0 x1 x2 x3 HY
        simp only [Nat.add_zero] at x0
        obtain ⟨x, D, L, Lm, Nm, hci, hlm, hcase⟩ := hp
        have HCI := Lib.hid hci
        have HLM := Lib.hid hlm
        clear hci hlm
        have HBK := Lib.hid (Blk.new wr 41 #[.int .i64 y.kind, .int .i64 y.n, .slice y.A y.l.length y.c, .slice y.B y.ks.length y.d])
        rcases hcase with ⟨rfl, hq, hd⟩ | ⟨hne, hd⟩
        · have HQ := Lib.hid hq
          have HDA := Lib.hid (hd.below (bl_alloc wr (.cells #[.int .i64 y.kind, .int .i64 y.n, .slice y.A y.l.length y.c, .slice y.B y.ks.length y.d] 41)))
          clear hq hd
          by_cases hk : y.kind = 0 ∨ y.kind = 1 ∨ y.kind = 2 ∨ y.kind = 3 ∨ y.kind = 4
          · have hag := agreed_any (s := s') (d := d) HCI.out HQ.out (by omega) y HY.out
            rcases hk with hk | hk | hk | hk | hk
            all_goals
              (try have k0 : (y.kind == 0) = true := by rw [hk]; rfl)
              (try have k0 : (y.kind == 0) = false := by rw [hk]; rfl)
              (try have k1 : (y.kind == 1) = true := by rw [hk]; rfl)
              (try have k1 : (y.kind == 1) = false := by rw [hk]; rfl)
              (try have k2 : (y.kind == 2) = true := by rw [hk]; rfl)
              (try have k2 : (y.kind == 2) = false := by rw [hk]; rfl)
              (try have k3 : (y.kind == 3) = true := by rw [hk]; rfl)
              (try have k3 : (y.kind == 3) = false := by rw [hk]; rfl)
              (try have k4 : (y.kind == 4) = true := by rw [hk]; rfl)
              (try have k4 : (y.kind == 4) = false := by rw [hk]; rfl)
              clear hk
              rcases hag with hag | hag
              · have HAG := Lib.hid hag
                clear hag
                go_wp2_with (first
                  | (go_at_call 15; (with_reducible refine (pcopy (HDA.out.sure)).mono ?_); rintro e w4 ⟨p1, rfl, hcp, hb4⟩; have HK4 := Lib.hid (HBK.out.keep hb4); have y0 := HK4.out.cell 0; have y1 := HK4.out.cell 1; have y2 := HK4.out.cell 2; have y3 := HK4.out.cell 3; simp at y0 y1 y2 y3; have HCP := Lib.hid hcp; clear hcp hb4)
                  | (go_at_call 16; (with_reducible refine (HAG.out _ _ _ HCP.out).mono ?_); rintro e w5 ⟨rfl, x5, D5, L5, hp5, hc5, hq5, hl5⟩; have HP5 := Lib.hid (Dd.same hp5); have HC5 := Lib.hid hc5; have HQ5 := Lib.hid hq5; have HL5 := Lib.hid hl5; clear hp5 hc5 hq5 hl5)
                  | (go_at_call 12; (with_reducible refine (ddead HP5.out).mono ?_); rintro e w7 ⟨rfl, rfl⟩)
                  | (go_at_call 12; (with_reducible refine (ddead HDA.out).mono ?_); rintro e w6 ⟨rfl, rfl⟩))
                go_roundw
                case measure => simp [intOf]; omega
                case rel => exact ⟨i + 1, s', p1, p1, by omega, by omega, by go_num, rfl, rfl, rfl, x5, D5, L5, L5, 0, HC5.out, HL5.out.trans HLM.out, .inl ⟨rfl, HQ5.out, HP5.out⟩⟩
              · have HAG := Lib.hid hag
                clear hag
                go_wp2_with (first
                  | (go_at_call 15; (with_reducible refine (pcopy (HDA.out.sure)).mono ?_); rintro e w4 ⟨p1, rfl, hcp, hb4⟩; have HK4 := Lib.hid (HBK.out.keep hb4); have y0 := HK4.out.cell 0; have y1 := HK4.out.cell 1; have y2 := HK4.out.cell 2; have y3 := HK4.out.cell 3; simp at y0 y1 y2 y3; have HCP := Lib.hid hcp; clear hcp hb4)
                  | (go_at_call 16; (with_reducible refine (HAG.out _ _ _ HCP.out).mono ?_); rintro e w5 ⟨rfl, D5, L5, N5, hp5, hn5, hc5⟩; have HP5 := Lib.hid hp5; have HC5 := Lib.hid hc5; have HN5 := Lib.hid hn5; clear hp5 hc5 hn5)
                  | (go_at_call 12; (with_reducible refine (ddead HP5.out).mono ?_); rintro e w7 ⟨rfl, rfl⟩)
                  | (go_at_call 12; (with_reducible refine (ddead HDA.out).mono ?_); rintro e w6 ⟨rfl, rfl⟩))
                go_roundw
                case measure => simp [intOf]; omega
                case rel => exact ⟨i + 1, s', _, p1, by omega, by omega, by go_num, rfl, rfl, rfl, x, D5, L, L5, N5, HC5.out, HLM.out, .inr ⟨HN5.out, HP5.out⟩⟩
          · by_cases h6 : y.kind = 6
            · have k0 : (y.kind == 0) = false := by rw [h6]; rfl
              have k1 : (y.kind == 1) = false := by rw [h6]; rfl
              have k2 : (y.kind == 2) = false := by rw [h6]; rfl
              have k3 : (y.kind == 3) = false := by rw [h6]; rfl
              have k4 : (y.kind == 4) = false := by rw [h6]; rfl
              have k6 : (y.kind == 6) = true := by rw [h6]; rfl
              have k7 : (y.kind == 7) = false := by rw [h6]; rfl
              clear hk h6
              go_wp2_with (first
                | (go_at_call 17; (with_reducible refine (dfail HDA.out).mono ?_); rintro e w4 ⟨rfl, hp4⟩; have HP4 := Lib.hid hp4; clear hp4))
              go_roundw
              case measure => simp [intOf]; omega
              case rel => exact ⟨i + 1, s', _, _, by omega, by omega, by go_num, rfl, rfl, rfl, x, _, L, L, 0, HCI.out.fail.more (by omega), HLM.out, .inl ⟨rfl, ⟨HQ.out.1, HQ.out.2.1, HQ.out.2.2⟩, HP4.out⟩⟩
            · by_cases h7 : y.kind = 7
              · have k0 : (y.kind == 0) = false := by rw [h7]; rfl
                have k1 : (y.kind == 1) = false := by rw [h7]; rfl
                have k2 : (y.kind == 2) = false := by rw [h7]; rfl
                have k3 : (y.kind == 3) = false := by rw [h7]; rfl
                have k4 : (y.kind == 4) = false := by rw [h7]; rfl
                have k6 : (y.kind == 6) = false := by rw [h7]; rfl
                have k7 : (y.kind == 7) = true := by rw [h7]; rfl
                clear hk h6 h7
                obtain ⟨hc4, hq4⟩ := HCI.out.crash y.ks
                have HC4 := Lib.hid hc4
                have HI4 := Lib.hid (show PInv (Dk.crashD D y.ks) 0 x L (2 * i) from hc4.inv)
                have HOPN := Lib.hid (fun (V : World) (pa pb : Nat) (dd : Bool) (Lx : List (List Int)) (Nx : Int) (h : Dd w V s' d pa pb 0 x dd (Dk.crashD D y.ks) L Lx Nx) => dopen h HI4.out 0 (m : Int) rfl (by rw [HLM.out]))
                have HQ4 := Lib.hid hq4
                clear hc4 hq4
                go_wp2_with (first
                  | (go_at_call 18; (with_reducible refine (dcrash HDA.out y HY.out).mono ?_); rintro e w4 ⟨rfl, hp4⟩; have HP4 := Lib.hid hp4; clear hp4)
                  | (go_at_call 8; (with_reducible refine (HOPN.out _ _ _ _ _ _ HP4.out).mono ?_); rintro e w5 ⟨s5, rfl, hp5⟩; have HP5 := Lib.hid hp5; clear hp5)
                  | (go_at_call 11; (with_reducible refine (dsure HP6.out).mono ?_); rintro e w7 ⟨rfl, hp7⟩; have HP7 := Lib.hid hp7; clear hp7)
                  | (go_at_call 11; (with_reducible refine (dsure HP5.out).mono ?_); rintro e w6 ⟨rfl, hp6⟩; have HP6 := Lib.hid hp6; clear hp6))
                go_roundw
                case measure => simp [intOf]; omega
                case rel => exact ⟨i + 1, s5, _, _, by omega, by omega, by go_num, rfl, rfl, rfl, x, _, L, L, 0, HC4.out.more (by omega), HLM.out, .inl ⟨rfl, HQ4.out, HP7.out⟩⟩
              · have k0 : (y.kind == 0) = false := by simp; omega
                have k1 : (y.kind == 1) = false := by simp; omega
                have k2 : (y.kind == 2) = false := by simp; omega
                have k3 : (y.kind == 3) = false := by simp; omega
                have k4 : (y.kind == 4) = false := by simp; omega
                have k6 : (y.kind == 6) = false := by simp; omega
                have k7 : (y.kind == 7) = false := by simp; omega
                clear hk h6 h7
                go_wp2_with fail
                go_roundw
                case measure => simp [intOf]; omega
                case rel => exact ⟨i + 1, s', _, _, by omega, by omega, by go_num, rfl, rfl, rfl, x, D, L, L, 0, HCI.out.more (by omega), HLM.out, .inl ⟨rfl, HQ.out, HDA.out⟩⟩
        · have HNE := Lib.hid hne
          have HDA := Lib.hid (hd.below (bl_alloc wr (.cells #[.int .i64 y.kind, .int .i64 y.n, .slice y.A y.l.length y.c, .slice y.B y.ks.length y.d] 41)))
          clear hne hd
          by_cases hk : y.kind = 0 ∨ y.kind = 1 ∨ y.kind = 2 ∨ y.kind = 3 ∨ y.kind = 4
          · rcases hk with hk | hk | hk | hk | hk
            all_goals
              (try have k0 : (y.kind == 0) = true := by rw [hk]; rfl)
              (try have k0 : (y.kind == 0) = false := by rw [hk]; rfl)
              (try have k1 : (y.kind == 1) = true := by rw [hk]; rfl)
              (try have k1 : (y.kind == 1) = false := by rw [hk]; rfl)
              (try have k2 : (y.kind == 2) = true := by rw [hk]; rfl)
              (try have k2 : (y.kind == 2) = false := by rw [hk]; rfl)
              (try have k3 : (y.kind == 3) = true := by rw [hk]; rfl)
              (try have k3 : (y.kind == 3) = false := by rw [hk]; rfl)
              (try have k4 : (y.kind == 4) = true := by rw [hk]; rfl)
              (try have k4 : (y.kind == 4) = false := by rw [hk]; rfl)
              clear hk
              go_wp2_with (first
                | (go_at_call 12; (with_reducible refine (ddead HDA.out).mono ?_); rintro e w6 ⟨rfl, rfl⟩))
              go_roundw
              case measure => simp [intOf]; omega
              case rel => exact ⟨i + 1, s', _, _, by omega, by omega, by go_num, rfl, rfl, rfl, x, D, L, Lm, Nm, HCI.out.more (by omega), HLM.out, .inr ⟨HNE.out, HDA.out⟩⟩
          · by_cases h6 : y.kind = 6
            · have k0 : (y.kind == 0) = false := by rw [h6]; rfl
              have k1 : (y.kind == 1) = false := by rw [h6]; rfl
              have k2 : (y.kind == 2) = false := by rw [h6]; rfl
              have k3 : (y.kind == 3) = false := by rw [h6]; rfl
              have k4 : (y.kind == 4) = false := by rw [h6]; rfl
              have k6 : (y.kind == 6) = true := by rw [h6]; rfl
              have k7 : (y.kind == 7) = false := by rw [h6]; rfl
              clear hk h6
              go_wp2_with (first
                | (go_at_call 17; (with_reducible refine (dfail HDA.out).mono ?_); rintro e w4 ⟨rfl, hp4⟩; have HP4 := Lib.hid hp4; clear hp4))
              go_roundw
              case measure => simp [intOf]; omega
              case rel => exact ⟨i + 1, s', _, _, by omega, by omega, by go_num, rfl, rfl, rfl, x, _, L, Lm, Nm, HCI.out.fail.more (by omega), HLM.out, .inr ⟨HNE.out, HP4.out⟩⟩
            · by_cases h7 : y.kind = 7
              · have k0 : (y.kind == 0) = false := by rw [h7]; rfl
                have k1 : (y.kind == 1) = false := by rw [h7]; rfl
                have k2 : (y.kind == 2) = false := by rw [h7]; rfl
                have k3 : (y.kind == 3) = false := by rw [h7]; rfl
                have k4 : (y.kind == 4) = false := by rw [h7]; rfl
                have k6 : (y.kind == 6) = false := by rw [h7]; rfl
                have k7 : (y.kind == 7) = true := by rw [h7]; rfl
                clear hk h6 h7
                obtain ⟨hc4, hq4⟩ := HCI.out.crash y.ks
                have HC4 := Lib.hid hc4
                have HI4 := Lib.hid (show PInv (Dk.crashD D y.ks) 0 x L (2 * i) from hc4.inv)
                have HOPN := Lib.hid (fun (V : World) (pa pb : Nat) (dd : Bool) (Lx : List (List Int)) (Nx : Int) (h : Dd w V s' d pa pb 0 x dd (Dk.crashD D y.ks) L Lx Nx) => dopen h HI4.out 0 (m : Int) rfl (by rw [HLM.out]))
                have HQ4 := Lib.hid hq4
                clear hc4 hq4
                go_wp2_with (first
                  | (go_at_call 18; (with_reducible refine (dcrash HDA.out y HY.out).mono ?_); rintro e w4 ⟨rfl, hp4⟩; have HP4 := Lib.hid hp4; clear hp4)
                  | (go_at_call 8; (with_reducible refine (HOPN.out _ _ _ _ _ _ HP4.out).mono ?_); rintro e w5 ⟨s5, rfl, hp5⟩; have HP5 := Lib.hid hp5; clear hp5)
                  | (go_at_call 11; (with_reducible refine (dmay HP6.out HNE.out).mono ?_); rintro e w7 ⟨rfl, hp7⟩; have HP7 := Lib.hid hp7; clear hp7)
                  | (go_at_call 11; (with_reducible refine (dsure HP5.out).mono ?_); rintro e w6 ⟨rfl, hp6⟩; have HP6 := Lib.hid hp6; clear hp6))
                go_roundw
                case measure => simp [intOf]; omega
                case rel => exact ⟨i + 1, s5, _, _, by omega, by omega, by go_num, rfl, rfl, rfl, x, _, L, L, 0, HC4.out.more (by omega), HLM.out, .inl ⟨rfl, HQ4.out, Dd.same HP7.out.sure⟩⟩
              · have k0 : (y.kind == 0) = false := by simp; omega
                have k1 : (y.kind == 1) = false := by simp; omega
                have k2 : (y.kind == 2) = false := by simp; omega
                have k3 : (y.kind == 3) = false := by simp; omega
                have k4 : (y.kind == 4) = false := by simp; omega
                have k6 : (y.kind == 6) = false := by simp; omega
                have k7 : (y.kind == 7) = false := by simp; omega
                clear hk h6 h7
                go_wp2_with fail
                go_roundw
                case measure => simp [intOf]; omega
                case rel => exact ⟨i + 1, s', _, _, by omega, by omega, by go_num, rfl, rfl, rfl, x, D, L, Lm, Nm, HCI.out.more (by omega), HLM.out, .inr ⟨HNE.out, HDA.out⟩⟩
      · have z2 : decide ((i : Int) < 40) = false := decide_eq_false (by omega)
        have HBL := Lib.hid hp.bl
        clear hp
        go_wp2_with (first
          | (go_at_call 6; (with_reducible refine (known_any _).mono ?_); rintro e w6 ⟨rfl, hb6⟩; have B6 := Lib.hid (bl_chain HBL.out hb6); clear hb6))
        go_ret
        exact ⟨rfl, B6.out⟩
    · have z1 : decide ((i : Int) < (l.length : Int)) = false := decide_eq_false (by omega)
      have HBL := Lib.hid hp.bl
      clear hp
      go_wp2_with (first
        | (go_at_call 6; (with_reducible refine (known_any _).mono ?_); rintro e w6 ⟨rfl, hb6⟩; have B6 := Lib.hid (bl_chain HBL.out hb6); clear hb6))
      go_ret
      exact ⟨rfl, B6.out⟩
end Go.Proofs.YthlijldapoeepaaGreat
