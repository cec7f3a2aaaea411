/- The laws of 06: both stores; a call of Apply on both. -/
import Derived.Test.YthlijldapoeepaaGreatM19
namespace Go.Proofs.YthlijldapoeepaaGreat
set_option linter.unusedVariables false
set_option linter.unusedSimpArgs false
set_option maxRecDepth 100000
open Go.RowKit Go.Shelf

/-- Both stores in memory, apart; nothing of them lies in Z; all is newer than w. -/
structure PlAt (w W : World) (Z : Nat → Prop) (s d p F : Nat) (x : ST) (dead : Bool) (D : Dk.DS) (L L2 : List (List Int)) (N2 : Int) (g : Nat) (Md Rr Mi : Nat → Prop) (r q c : Nat) (M : Nat → Prop) : Prop where
  st : StAt W s d g F x dead D Md Rr L Mi
  rf : IsRSt W p r q c L2 N2 M
  ap : ∀ b, (M b ∨ b = p) → ¬ Md b ∧ ¬ Rr b ∧ ¬ Mi b ∧ b ≠ s
  lo : ∀ b, (Md b ∨ Rr b ∨ Mi b ∨ M b ∨ b = s ∨ b = p) → w.heap.size ≤ b ∧ ¬ Z b
  bl : Below w.heap.size w W
  zl : ∀ b, Z b → b < W.heap.size
def Pl (w W : World) (Z : Nat → Prop) (s d p F : Nat) (x : ST) (dead : Bool) (D : Dk.DS) (L L2 : List (List Int)) (N2 : Int) : Prop := ∃ g Md Rr Mi r q c M, PlAt w W Z s d p F x dead D L L2 N2 g Md Rr Mi r q c M
section
variable {w W W' : World} {Z Z' Fs : Nat → Prop} {s d p F g r q c : Nat} {x x' : ST} {dead dead' : Bool} {D D' : Dk.DS} {L L' L2 L2' : List (List Int)} {N2 N2' : Int} {Md Rr Mi M : Nat → Prop}
theorem PlAt.lt (h : PlAt w W Z s d p F x dead D L L2 N2 g Md Rr Mi r q c M) : ∀ b, (Md b ∨ Rr b ∨ Mi b ∨ M b ∨ b = s ∨ b = p) → b < W.heap.size := fun b hb => by
  rcases hb with h1 | h1 | h1 | h1 | rfl | rfl
  · exact h.st.dsk.mlt b h1
  · exact h.st.dsk.rlt b h1
  · exact h.st.img.mlt b h1
  · exact h.rf.ref.mlt b h1
  · exact h.st.blk.lt
  · exact h.rf.blk.lt
theorem Pl.below (h : Pl w W Z s d p F x dead D L L2 N2) (hb : Below W.heap.size W W') : Pl w W' Z s d p F x dead D L L2 N2 := by
  obtain ⟨g, Md, Rr, Mi, r, q, c, M, h⟩ := h
  exact ⟨g, Md, Rr, Mi, r, q, c, M, h.st.below hb, h.rf.below hb, h.ap, h.lo, bl_chain h.bl hb, fun b hz => Nat.lt_of_lt_of_le (h.zl b hz) hb.size⟩
theorem Pl.bl (h : Pl w W Z s d p F x dead D L L2 N2) : Below w.heap.size w W := by obtain ⟨g, Md, Rr, Mi, r, q, c, M, h⟩ := h; exact h.bl
theorem Pl.avoid (h : Pl w W Z s d p F x dead D L L2 N2) (hb : Below W.heap.size W W') (hZ : ∀ b, Z' b → W.heap.size ≤ b ∧ b < W'.heap.size) : Pl w W' Z' s d p F x dead D L L2 N2 := by
  obtain ⟨g, Md, Rr, Mi, r, q, c, M, h⟩ := h
  exact ⟨g, Md, Rr, Mi, r, q, c, M, h.st.below hb, h.rf.below hb, h.ap, fun b hb => ⟨(h.lo b hb).1, fun hz => by have := h.lt b hb; have := hZ b hz; omega⟩, bl_chain h.bl hb, fun b hz => (hZ b hz).2⟩
theorem Pl.forget (h : Pl w W Z s d p F x dead D L L2 N2) : Pl w W NoB s d p F x dead D L L2 N2 := by
  obtain ⟨g, Md, Rr, Mi, r, q, c, M, h⟩ := h
  exact ⟨g, Md, Rr, Mi, r, q, c, M, h.st, h.rf, h.ap, fun b hb => ⟨(h.lo b hb).1, id⟩, h.bl, fun b hz => hz.elim⟩
theorem Pl.turn (h : Pl w W Z s d p F x dead D L L2 N2) (ht : Tr Fs W W') (hF : ∀ b, Fs b → Z b) (hw : ∀ b, Fs b → w.heap.size ≤ b) : Pl w W' Z s d p F x dead D L L2 N2 := by
  obtain ⟨g, Md, Rr, Mi, r, q, c, M, h⟩ := h
  have hn : ∀ b, (Md b ∨ Rr b ∨ Mi b ∨ M b ∨ b = s ∨ b = p) → ¬ Fs b := fun b hb hf => (h.lo b hb).2 (hF b hf)
  exact ⟨g, Md, Rr, Mi, r, q, c, M, ⟨ht.blk h.st.blk (hn _ (by simp)), h.st.dsk.tr ht (fun b hb => hn b (.inl hb)) (fun b hb => hn b (.inr (.inl hb))), h.st.img.tr ht (fun b hb => hn b (.inr (.inr (.inl hb)))), h.st.sd, h.st.sr, h.st.si, h.st.di⟩,
    h.rf.tr ht (fun b hb => hn b (.inr (.inr (.inr (.inl hb))))) (hn p (by simp)), h.ap, h.lo, bl_tr h.bl ht hw, fun b hz => Nat.lt_of_lt_of_le (h.zl b hz) ht.size⟩
/-- Behind a call of the program's store; Mx: what may have come to its image. -/
theorem PlAt.prog (h : PlAt w W Z s d p F x dead D L L2 N2 g Md Rr Mi r q c M) {g' : Nat} {Md' Rr' Mi' Mx : Nat → Prop} (hs : StAt W' s d g' F x' dead' D' Md' Rr' L' Mi') (ha : Aft s W W' Md Rr (fun b => Mi b ∨ Mx b) Md' Rr' Mi')
    (hx : ∀ b, Mx b → w.heap.size ≤ b ∧ ¬ Z b ∧ ¬ M b ∧ b ≠ p) : PlAt w W' Z s d p F x' dead' D' L' L2 N2 g' Md' Rr' Mi' r q c M := by
  have hz := ha.t.size
  have hzw := h.bl.size
  have hmp : ∀ b, (M b ∨ b = p) → ¬ (Md b ∨ (Mi b ∨ Mx b) ∨ b = s) := fun b hb hf => by
    obtain ⟨a1, a2, a3, a4⟩ := h.ap b hb
    rcases hf with hf | (hf | hf) | hf
    · exact a1 hf
    · exact a3 hf
    · exact hb.elim (hx b hf).2.2.1 (hx b hf).2.2.2
    · exact a4 hf
  have hml : ∀ b, (M b ∨ b = p) → b < W.heap.size := fun b hb => h.lt b (by rcases hb with hb | hb <;> simp [hb])
  refine ⟨hs, h.rf.tr ha.t (fun b hb => hmp b (.inl hb)) (hmp p (.inr rfl)), fun b hb => ⟨fun hq => (ha.d b hq).elim (h.ap b hb).1 (fun e => by have := hml b hb; omega), fun hq => (ha.r b hq).elim (h.ap b hb).2.1 (fun e => by have := hml b hb; omega), fun hq => ?_, (h.ap b hb).2.2.2⟩, fun b hb => ?_, bl_tr h.bl ha.t (fun b hb => ?_), fun b hz2 => Nat.lt_of_lt_of_le (h.zl b hz2) hz⟩
  · rcases ha.i b hq with (e | e) | e
    · exact (h.ap b hb).2.2.1 e
    · exact hb.elim (hx b e).2.2.1 (hx b e).2.2.2
    · have := hml b hb; omega
  · have new : W.heap.size ≤ b → w.heap.size ≤ b ∧ ¬ Z b := fun e => ⟨by omega, fun hz2 => by have := h.zl b hz2; omega⟩
    rcases hb with hb | hb | hb | hb | hb | hb
    · exact (ha.d b hb).elim (fun e => h.lo b (.inl e)) new
    · exact (ha.r b hb).elim (fun e => h.lo b (.inr (.inl e))) new
    · rcases ha.i b hb with (e | e) | e
      · exact h.lo b (.inr (.inr (.inl e)))
      · exact ⟨(hx b e).1, (hx b e).2.1⟩
      · exact new e
    · exact h.lo b (.inr (.inr (.inr (.inl hb))))
    · exact h.lo b (.inr (.inr (.inr (.inr (.inl hb)))))
    · exact h.lo b (.inr (.inr (.inr (.inr (.inr hb)))))
  · rcases hb with hb | (hb | hb) | hb
    · exact (h.lo b (.inl hb)).1
    · exact (h.lo b (.inr (.inr (.inl hb)))).1
    · exact (hx b hb).1
    · exact (h.lo b (.inr (.inr (.inr (.inr (.inl hb)))))).1
/-- Behind a call of the reference's store. -/
theorem PlAt.refs (h : PlAt w W Z s d p F x dead D L L2 N2 g Md Rr Mi r q c M) {r' q' c' : Nat} {M' Mx : Nat → Prop} (hs : IsRSt W' p r' q' c' L2' N2' M') (hm : ∀ b, M' b → (M b ∨ Mx b) ∨ W.heap.size ≤ b) (ht : Tr (fun b => b = q ∨ b = p) W W')
    (hx : ∀ b, Mx b → w.heap.size ≤ b ∧ ¬ Z b ∧ ¬ Md b ∧ ¬ Rr b ∧ ¬ Mi b ∧ b ≠ s) : PlAt w W' Z s d p F x dead D L L2' N2' g Md Rr Mi r' q' c' M' := by
  have hz := ht.size
  have hzw := h.bl.size
  have hq := h.rf.ref.mq
  have hf : ∀ b, (Md b ∨ Rr b ∨ Mi b ∨ b = s) → ¬ (b = q ∨ b = p) := fun b hb he => by
    have hap := h.ap b (he.imp (fun e => by rw [e]; exact hq) id)
    rcases hb with hb | hb | hb | hb
    · exact hap.1 hb
    · exact hap.2.1 hb
    · exact hap.2.2.1 hb
    · exact hap.2.2.2 hb
  have hol : ∀ b, (Md b ∨ Rr b ∨ Mi b ∨ b = s) → b < W.heap.size := fun b hb => h.lt b (by rcases hb with hb | hb | hb | hb <;> simp [hb])
  refine ⟨⟨ht.blk h.st.blk (hf s (by simp)), h.st.dsk.tr ht (fun b hb => hf b (.inl hb)) (fun b hb => hf b (.inr (.inl hb))), h.st.img.tr ht (fun b hb => hf b (.inr (.inr (.inl hb)))), h.st.sd, h.st.sr, h.st.si, h.st.di⟩, hs, fun b hb => ?_, fun b hb => ?_, bl_tr h.bl ht (fun b hb => ?_), fun b hz2 => Nat.lt_of_lt_of_le (h.zl b hz2) hz⟩
  · have key : (M b ∨ b = p) ∨ Mx b ∨ W.heap.size ≤ b := by
      rcases hb with hb | hb
      · rcases hm b hb with (e | e) | e
        · exact .inl (.inl e)
        · exact .inr (.inl e)
        · exact .inr (.inr e)
      · exact .inl (.inr hb)
    rcases key with e | e | e
    · exact h.ap b e
    · exact (hx b e).2.2
    · have hno : ∀ {P : Prop}, (P → (Md b ∨ Rr b ∨ Mi b ∨ b = s)) → ¬ P := fun f hp => by have := hol b (f hp); omega
      exact ⟨hno .inl, hno (fun h => .inr (.inl h)), hno (fun h => .inr (.inr (.inl h))), hno (fun h => .inr (.inr (.inr h)))⟩
  · rcases hb with hb | hb | hb | hb | hb | hb
    · exact h.lo b (.inl hb)
    · exact h.lo b (.inr (.inl hb))
    · exact h.lo b (.inr (.inr (.inl hb)))
    · rcases hm b hb with (e | e) | e
      · exact h.lo b (.inr (.inr (.inr (.inl e))))
      · exact ⟨(hx b e).1, (hx b e).2.1⟩
      · exact ⟨by omega, fun hz2 => by have := h.zl b hz2; omega⟩
    · exact h.lo b (.inr (.inr (.inr (.inr (.inl hb)))))
    · exact h.lo b (.inr (.inr (.inr (.inr (.inr hb)))))
  · rcases hb with e | e
    · exact (h.lo b (.inr (.inr (.inr (.inl (by rw [e]; exact hq)))))).1
    · exact (h.lo b (.inr (.inr (.inr (.inr (.inr e)))))).1

/-! ### a call of Apply, refused or not -/
def apRef (x : ST) (dead : Bool) (m : Nat) (n : Int) (l : List ChS) : Int := if wrongS x dead n ≠ 0 then wrongS x dead n else if chRight m l = false then 1 else if 64 < l.length then 3 else 0
def papR (D : Dk.DS) (F : Nat) (x : ST) (dead : Bool) (L : List (List Int)) (n : Int) (l : List ChS) : AR := if apRef x dead L.length n l ≠ 0 then ⟨apRef x dead L.length n l, x, D, L⟩ else applyR D F x L n l
def papDead (D : Dk.DS) (F : Nat) (x : ST) (dead : Bool) (L : List (List Int)) (n : Int) (l : List ChS) : Bool := if apRef x dead L.length n l ≠ 0 then dead else decide ((applyR D F x L n l).e ≠ 0)
theorem papply_any (h : PlAt w W Z s d p F x dead D L L2 N2 g Md Rr Mi r q c M) (n : Int) (A : Option Addr) (k : Nat) (l : List ChS) (hl : ChsAt W A l) (hll : l.length ≤ 140737488351232) (hR : Ready D F x L.length)
    (hN : ∀ w', Tr (fun b => Md b ∨ Mi b ∨ b = s) W w' → ChsAt w' A l) :
    Calls Tryz.prog 20 #[.pointer (some ⟨s, 0, none⟩), .int .i64 n, .slice A l.length k] W fun e w' => e = .returned (.int .i64 (papR D F x dead L n l).e) ∧
      ∃ Md' Rr' Mi', PlAt w w' Z s d p F (papR D F x dead L n l).x (papDead D F x dead L n l) (papR D F x dead L n l).D (papR D F x dead L n l).L L2 N2 g Md' Rr' Mi' r q c M ∧ Tr (fun b => Md b ∨ Mi b ∨ b = s) W w' := by
  have nox : ∀ b, NoB b → w.heap.size ≤ b ∧ ¬ Z b ∧ ¬ M b ∧ b ≠ p := fun b hb => hb.elim
  by_cases hw : wrongS x dead n = 0
  · by_cases hc : chRight L.length l = true
    · by_cases h64 : 64 < l.length
      · have e0 : apRef x dead L.length n l = 3 := by unfold apRef; rw [if_neg (by rw [hw]; simp), if_neg (by rw [hc]; simp), if_pos h64]
        unfold papR papDead
        rw [e0, if_pos (by decide), if_pos (by decide)]
        refine (apply_bad h.st n A k l hw hl hll (.inr h64)).mono ?_
        rintro e w' ⟨rfl, hb⟩
        rw [show changeE L.length l = 0 from if_pos hc, if_neg (by simp)]
        exact ⟨rfl, Md, Rr, Mi, h.prog (h.st.below hb) (((Aft.refl s W Md Rr Mi).below hb).more NoB) nox, Tr.of_below hb⟩
      · have e0 : apRef x dead L.length n l = 0 := by unfold apRef; rw [if_neg (by rw [hw]; simp), if_neg (by rw [hc]; simp), if_neg h64]
        unfold papR papDead
        rw [e0, if_neg (by simp), if_neg (by simp)]
        refine (apply_go h.st n A k l hw hl (by omega) hc hR hN).mono ?_
        rintro e w' ⟨Md', Rr', Mi', rfl, hst, haf⟩
        exact ⟨rfl, Md', Rr', Mi', h.prog hst (haf.more NoB) nox, haf.t⟩
    · have hc' : chRight L.length l = false := by simpa using hc
      have e0 : apRef x dead L.length n l = 1 := by unfold apRef; rw [if_neg (by rw [hw]; simp), if_pos hc']
      unfold papR papDead
      rw [e0, if_pos (by decide), if_pos (by decide)]
      have hce : changeE L.length l = 1 := if_neg hc
      refine (apply_bad h.st n A k l hw hl hll (.inl (by rw [hce]; decide))).mono ?_
      rintro e w' ⟨rfl, hb⟩
      rw [hce, if_pos (by decide)]
      exact ⟨rfl, Md, Rr, Mi, h.prog (h.st.below hb) (((Aft.refl s W Md Rr Mi).below hb).more NoB) nox, Tr.of_below hb⟩
  · have e0 : apRef x dead L.length n l = wrongS x dead n := by unfold apRef; rw [if_pos hw]
    unfold papR papDead
    rw [e0, if_pos hw, if_pos hw]
    refine (apply_no h.st.blk n A l.length k hw).mono ?_
    rintro e w' ⟨rfl, rfl⟩
    exact ⟨rfl, Md, Rr, Mi, h, Tr.refl _ _⟩
theorem rap_eq {N n : Int} (hx : x.n = N) (m : Nat) (l : List ChS) : apRef x false m n l = rapE N m n l := by
  subst hx
  unfold apRef rapE wrongS nextOk
  simp only [Bool.false_eq_true, if_false, Bool.and_eq_true, decide_eq_true_eq]
  by_cases h1 : n ≤ x.n ∨ 1152921504606846976 < n
  · rw [if_pos h1, if_pos (by decide), if_neg (by omega)]
  · rw [if_neg h1, if_neg (by simp)]
    cases hc : chRight m l with
    | false => rw [if_pos rfl, if_neg (by simp)]
    | true =>
      have hq : (x.n < n ∧ n ≤ 1152921504606846976) ∧ true = true := ⟨by omega, rfl⟩
      rw [if_neg (by simp), if_pos hq]
theorem rowsT_kd : ∀ (l l' : List ChS), l'.map ChS.kd = l.map ChS.kd → ∀ k, touches l' k = touches l k
  | [], [], _, _ => rfl
  | [], _ :: _, h, _ => by simp at h
  | _ :: _, [], h, _ => by simp at h
  | y :: l, y' :: l', h, k => by
    simp only [List.map_cons, List.cons.injEq] at h
    have h1 : y'.lba = y.lba := congrArg Prod.fst h.1
    have ih := rowsT_kd l l' h.2 k
    unfold touches at ih ⊢
    rw [List.any_cons, List.any_cons, ih, h1]
theorem applyR_kd {l l' : List ChS} (h : l'.map ChS.kd = l.map ChS.kd) (D : Dk.DS) (F : Nat) (x : ST) (L : List (List Int)) (n : Int) : applyR D F x L n l' = applyR D F x L n l := by
  have h1 : l'.map ChS.two = l.map ChS.two := h
  have h2 : chTo L l' = chTo L l := chTo_kd l l' L h
  have h3 : rowsT l' = rowsT l := by unfold rowsT; congr 1; funext k; exact rowsT_kd l l' h k
  unfold applyR jourD
  rw [h1, h2, h3]
theorem papR_kd {l l' : List ChS} (h : l'.map ChS.kd = l.map ChS.kd) (D : Dk.DS) (F : Nat) (x : ST) (dead : Bool) (L : List (List Int)) (n : Int) : papR D F x dead L n l' = papR D F x dead L n l ∧ papDead D F x dead L n l' = papDead D F x dead L n l := by
  have hl : l'.length = l.length := by have := congrArg List.length h; simpa using this
  have h1 : apRef x dead L.length n l' = apRef x dead L.length n l := by
    unfold apRef
    rw [chRight_kd L.length l l' h, hl]
  unfold papR papDead
  rw [h1, applyR_kd h]
  exact ⟨rfl, rfl⟩
end
end Go.Proofs.YthlijldapoeepaaGreat

/- The laws of 06: step, where it is a call of Replace, or none. -/

namespace Go.Proofs.YthlijldapoeepaaGreat
set_option linter.unusedVariables false
set_option linter.unusedSimpArgs false
set_option maxRecDepth 100000
open Go.RowKit Go.Shelf

theorem replR_ok {D : Dk.DS} (h : Calm D) {F : Nat} {x : ST} {L L2 : List (List Int)} {n : Int} (hR : Ready D F x L.length) (hL : ImgOk L2) (hl : L2.length = L.length) :
    replR D F x L n L2 = ⟨0, x.next n (1 - x.area) 0, markD (Dk.flushD (replD D F x L2)) F (x.next n (1 - x.area) 0), L2⟩ ∧ Calm (markD (Dk.flushD (replD D F x L2)) F (x.next n (1 - x.area) 0)) := by
  obtain ⟨G, hG, _⟩ := hR.gen
  have hf := hR.fit
  have h1 : Calm (replD D F x L2) := h.rowsD hL _
  have hn := (rowsD_keeps D F (1 - x.area).toNat L2 (List.range (rowsN L2.length))).1
  have hm := h1.flushD.mark (F := F) (x := x.next n (1 - x.area) 0) (by simp only [ST.next]; omega) (by rw [flushD_n h1.ok]; show F + 2 ≤ (rowsD D F _ L2 _).n; rw [hn]; omega)
  unfold replR
  rw [if_neg (by rw [h1.flushE]; simp), if_neg (by rw [hm.1]; simp)]
  exact ⟨rfl, hm.2⟩
/-- A call of Replace, refused or not. -/
def prepR (D : Dk.DS) (F : Nat) (x : ST) (L : List (List Int)) (n : Int) (L2 : List (List Int)) : AR := if wrongS x false n ≠ 0 then ⟨wrongS x false n, x, D, L⟩ else replR D F x L n L2
theorem next_wrong (x : ST) (n : Int) : nextOk x.n n = decide (wrongS x false n = 0) := by
  unfold nextOk wrongS
  simp only [Bool.false_eq_true, if_false]
  by_cases h1 : n ≤ x.n ∨ 1152921504606846976 < n
  · rw [if_pos h1]
    rcases h1 with h | h
    · rw [decide_eq_false (by omega)]; simp
    · rw [decide_eq_false (p := n ≤ 1152921504606846976) (by omega)]; simp
  · rw [if_neg h1, decide_eq_true (by omega), decide_eq_true (by omega)]; simp
section
variable {w W : World} {s d p F : Nat} {x : ST} {D : Dk.DS} {L : List (List Int)}
set_option maxHeartbeats 6400000 in
theorem step_replace (h : Pl w W NoB s d p F x false D L L x.n) (hR : Ready D F x L.length) (hC : Calm D) (hN : 0 ≤ x.n ∧ x.n ≤ 1152921504606846976) (y : OpB) (hy : y.In w) :
    Calls Tryz.prog 10 #[.pointer (some ⟨s, 0, none⟩), .pointer (some ⟨p, 0, none⟩), .agg #[.int .i64 4, .int .i64 y.n, .slice y.A y.l.length y.c, .slice y.B y.ks.length y.d]] W fun e W' => e = .returned (.bool true) ∧
      Pl w W' NoB s d p F (prepR D F x L (numberN x.n y.n) (changeL (emptyL L.length) y.l)).x false (prepR D F x L (numberN x.n y.n) (changeL (emptyL L.length) y.l)).D (prepR D F x L (numberN x.n y.n) (changeL (emptyL L.length) y.l)).L (prepR D F x L (numberN x.n y.n) (changeL (emptyL L.length) y.l)).L (prepR D F x L (numberN x.n y.n) (changeL (emptyL L.length) y.l)).x.n := by
  have HY := Lib.hid hy
  have hll := hy.ll
  clear hy
  have hbk : Blk (W.alloc (.cells #[.int .i64 4, .int .i64 y.n, .slice y.A y.l.length y.c, .slice y.B y.ks.length y.d] 41)) W.heap.size 41 #[.int .i64 4, .int .i64 y.n, .slice y.A y.l.length y.c, .slice y.B y.ks.length y.d] := Blk.new _ _ _
  have HBK := Lib.hid hbk
  have HB1 := Lib.hid (bl_alloc W (.cells #[.int .i64 4, .int .i64 y.n, .slice y.A y.l.length y.c, .slice y.B y.ks.length y.d] 41))
  obtain ⟨g, Md, Rr, Mi, r, q, c, M, hpl⟩ := h.below HB1.out
  have HPL := Lib.hid hpl
  have HNUM := Lib.hid (lnumber_any hpl.rf.blk hN y.n)
  obtain ⟨n, hn⟩ : ∃ n, numberN x.n y.n = n := ⟨_, rfl⟩
  rw [hn] at HNUM ⊢
  have h256 := hpl.st.img.ok.hi
  have hlo := hpl.st.img.ok.lo
  have HRR := Lib.hid hR
  have HCC := Lib.hid hC
  have p0 := hbk.cell 0
  have p1 := hbk.cell 1
  have p2 := hbk.cell 2
  have r0 := hpl.rf.blk.cell 0
  have r1 := hpl.rf.ref.c0
  simp at p0 p1 p2 r0
  obtain ⟨L2, hL2⟩ : ∃ L2, changeL (emptyL L.length) y.l = L2 := ⟨_, rfl⟩
  have hl2 : L2.length = L.length := by
    rw [← hL2]
    unfold changeL
    split
    · rw [chTo_length]; simp [emptyL]
    · simp [emptyL]
  have HIMG := Lib.hid (fun (V : World) (hb : Below w.heap.size w V) => limage_any (w := V) L.length hlo h256 y.A y.c y.l hll (HY.out.rl.below hb))
  rw [hL2] at HIMG ⊢
  have HLE := Lib.hid hl2
  clear hbk h hpl hn hL2 hR hC
  go_enter Tryz.func10, Tryz.ntmps10
  go_wp2_with (first
    | (go_at_call 34; (with_reducible refine HNUM.out.mono ?_); rintro e w' ⟨rfl, rfl⟩))
  clear HNUM
  generalize W.alloc (.cells #[.int .i64 4, .int .i64 y.n, .slice y.A y.l.length y.c, .slice y.B y.ks.length y.d] 41) = W1 at HBK HB1 HPL p0 p1 p2 r0 r1 ⊢
  have HSS : Hid (W1.drew.cell? ⟨p, 0, none⟩ = some (.pointer (some ⟨r, 0, none⟩)) ∧ W1.drew.cell? ⟨r, 0, none⟩ = some (.slice (some ⟨q, 0, none⟩) L.length c) ∧ W1.drew.cell? ⟨W.heap.size, 2, none⟩ = some (.slice y.A y.l.length y.c)) := Lib.hid ⟨r0, r1, HBK.out.cell 2⟩
  clear r0 r1 p0 p1 p2
  refine held_startB (S := fun V => V.cell? ⟨p, 0, none⟩ = some (.pointer (some ⟨r, 0, none⟩)) ∧ V.cell? ⟨r, 0, none⟩ = some (.slice (some ⟨q, 0, none⟩) L.length c) ∧ V.cell? ⟨W.heap.size, 2, none⟩ = some (.slice y.A y.l.length y.c)) (by kernel_rfl) ?_
  refine held_take (HSS.out) (i := 0) (v := ?_) rfl (by kernel_rfl) (by kernel_rfl) (by kernel_rfl) (fun _ _ _ h => h) (Or.inl ⟨by rfl, ?_⟩) ?_
  rotate_left
  · (intro W hSw; obtain ⟨s1, s2, s3⟩ := hSw; go_simp; try with_reducible rfl)
  try simp only [Act.put, List.setIfInBounds_toArray, List.set_cons_zero, List.set_cons_succ]
  refine held_take (HSS.out) (i := 1) (v := ?_) rfl (by kernel_rfl) (by kernel_rfl) (by kernel_rfl) (fun _ _ _ h => h) (Or.inl ⟨by rfl, ?_⟩) ?_
  rotate_left
  · (intro W hSw; obtain ⟨s1, s2, s3⟩ := hSw; go_simp; try with_reducible rfl)
  try simp only [Act.put, List.setIfInBounds_toArray, List.set_cons_zero, List.set_cons_succ]
  refine held_take (HSS.out) (i := 2) (v := ?_) rfl (by kernel_rfl) (by kernel_rfl) (by kernel_rfl) (fun _ _ _ h => h) (Or.inl ⟨by rfl, ?_⟩) ?_
  rotate_left
  · (intro W hSw; obtain ⟨s1, s2, s3⟩ := hSw; go_simp; try with_reducible rfl)
  try simp only [Act.put, List.setIfInBounds_toArray, List.set_cons_zero, List.set_cons_succ]
  refine held_take (HSS.out) (i := 3) (v := ?_) rfl (by kernel_rfl) (by kernel_rfl) (by kernel_rfl) (fun _ _ _ h => h) (Or.inl ⟨by rfl, ?_⟩) ?_
  rotate_left
  · (intro W hSw; obtain ⟨s1, s2, s3⟩ := hSw; go_simp; try with_reducible rfl)
  try simp only [Act.put, List.setIfInBounds_toArray, List.set_cons_zero, List.set_cons_succ]
  refine held_take (HSS.out) (i := 4) (v := ?_) rfl (by kernel_rfl) (by kernel_rfl) (by kernel_rfl) (fun _ _ _ h => h) (Or.inl ⟨by rfl, ?_⟩) ?_
  rotate_left
  · (intro W hSw; obtain ⟨s1, s2, s3⟩ := hSw; go_simp; try with_reducible rfl)
  try simp only [Act.put, List.setIfInBounds_toArray, List.set_cons_zero, List.set_cons_succ]
  refine held_take (HSS.out) (i := 5) (v := ?_) rfl (by kernel_rfl) (by kernel_rfl) (by kernel_rfl) (fun _ _ _ h => h) (Or.inl ⟨by rfl, ?_⟩) ?_
  rotate_left
  · (intro W hSw; obtain ⟨s1, s2, s3⟩ := hSw; go_simp; try with_reducible rfl)
  try simp only [Act.put, List.setIfInBounds_toArray, List.set_cons_zero, List.set_cons_succ]
  refine held_take (HSS.out) (i := 6) (v := ?_) rfl (by kernel_rfl) (by kernel_rfl) (by kernel_rfl) (fun _ _ _ h => h) (Or.inl ⟨by rfl, ?_⟩) ?_
  rotate_left
  · (intro W hSw; obtain ⟨s1, s2, s3⟩ := hSw; go_simp; try with_reducible rfl)
  try simp only [Act.put, List.setIfInBounds_toArray, List.set_cons_zero, List.set_cons_succ]
  refine held_take (HSS.out) (i := 7) (v := ?_) rfl (by kernel_rfl) (by kernel_rfl) (by kernel_rfl) (fun _ _ _ h => h) (Or.inl ⟨by rfl, ?_⟩) ?_
  rotate_left
  · (intro W hSw; obtain ⟨s1, s2, s3⟩ := hSw; go_simp; try with_reducible rfl)
  try simp only [Act.put, List.setIfInBounds_toArray, List.set_cons_zero, List.set_cons_succ]
  refine held_take (HSS.out) (i := 8) (v := ?_) rfl (by kernel_rfl) (by kernel_rfl) (by kernel_rfl) (fun _ _ _ h => h) (Or.inl ⟨by rfl, ?_⟩) ?_
  rotate_left
  · (intro W hSw; obtain ⟨s1, s2, s3⟩ := hSw; go_simp; try with_reducible rfl)
  try simp only [Act.put, List.setIfInBounds_toArray, List.set_cons_zero, List.set_cons_succ]
  refine held_take (HSS.out) (i := 9) (v := ?_) rfl (by kernel_rfl) (by kernel_rfl) (by kernel_rfl) (fun _ _ _ h => h) (Or.inl ⟨by rfl, ?_⟩) ?_
  rotate_left
  · (intro W hSw; obtain ⟨s1, s2, s3⟩ := hSw; go_simp; try with_reducible rfl)
  try simp only [Act.put, List.setIfInBounds_toArray, List.set_cons_zero, List.set_cons_succ]
  refine held_call (i := 10) (by kernel_rfl) rfl (fun K hK => ?_)
  go_simp
  (go_at_call 39; (with_reducible refine (HIMG.out _ (bl_chain HPL.out.bl (bl_drew W1))).mono ?_); rintro e w2 ⟨gm, Bm, Dm, Mm, r2, q2, c2, M2, rfl, hi, hr2, hm1, hm2, hdis, hb⟩; have HS2 := Lib.hid (show w2.cell? ⟨p, 0, none⟩ = some (.pointer (some ⟨r, 0, none⟩)) ∧ w2.cell? ⟨r, 0, none⟩ = some (.slice (some ⟨q, 0, none⟩) L.length c) ∧ w2.cell? ⟨W.heap.size, 2, none⟩ = some (.slice y.A y.l.length y.c) from ⟨(hb.cell (cell_block_lt HSS.out.1)).trans HSS.out.1, (hb.cell (cell_block_lt HSS.out.2.1)).trans HSS.out.2.1, (hb.cell (cell_block_lt HSS.out.2.2)).trans HSS.out.2.2⟩); have HI := Lib.hid hi; have HR2 := Lib.hid hr2; have HM1 := Lib.hid hm1; have HM2 := Lib.hid hm2; have HDI := Lib.hid hdis; have HB2 := Lib.hid (bl_of_drew hb); clear hi hr2 hm1 hm2 hdis hb)
  refine hK.out _ _ (HS2.out) ?_
  clear hK K
  try simp only [Act.put, List.setIfInBounds_toArray, List.set_cons_zero, List.set_cons_succ]
  refine held_take (HS2.out) (i := 11) (v := ?_) rfl (by kernel_rfl) (by kernel_rfl) (by kernel_rfl) (fun _ _ _ h => h) (Or.inl ⟨by rfl, ?_⟩) ?_
  rotate_left
  · (intro W hSw; obtain ⟨s1, s2, s3⟩ := hSw; go_simp; try with_reducible rfl)
  try simp only [Act.put, List.setIfInBounds_toArray, List.set_cons_zero, List.set_cons_succ]
  refine held_take (HS2.out) (i := 12) (v := ?_) rfl (by kernel_rfl) (by kernel_rfl) (by kernel_rfl) (fun _ _ _ h => h) (Or.inl ⟨by rfl, ?_⟩) ?_
  rotate_left
  · (intro W hSw; obtain ⟨s1, s2, s3⟩ := hSw; go_simp; try with_reducible rfl)
  try simp only [Act.put, List.setIfInBounds_toArray, List.set_cons_zero, List.set_cons_succ]
  refine held_take (HS2.out) (i := 14) (v := ?_) rfl (by kernel_rfl) (by kernel_rfl) (by kernel_rfl) (fun _ _ _ h => h) (Or.inl ⟨by rfl, ?_⟩) ?_
  rotate_left
  · (intro W hSw; obtain ⟨s1, s2, s3⟩ := hSw; go_simp; try with_reducible rfl)
  try simp only [Act.put, List.setIfInBounds_toArray, List.set_cons_zero, List.set_cons_succ]
  refine held_take (HS2.out) (i := 13) (v := ?_) rfl (by kernel_rfl) (by kernel_rfl) (by kernel_rfl) (fun _ _ _ h => h) (Or.inl ⟨by rfl, ?_⟩) ?_
  rotate_left
  · (intro W hSw; obtain ⟨s1, s2, s3⟩ := hSw; go_simp; try with_reducible rfl)
  try simp only [Act.put, List.setIfInBounds_toArray, List.set_cons_zero, List.set_cons_succ]
  refine held_take (HS2.out) (i := 15) (v := ?_) rfl (by kernel_rfl) (by kernel_rfl) (by kernel_rfl) (fun _ _ _ h => h) (Or.inl ⟨by rfl, ?_⟩) ?_
  rotate_left
  · (intro W hSw; obtain ⟨s1, s2, s3⟩ := hSw; go_simp; try with_reducible rfl)
  try simp only [Act.put, List.setIfInBounds_toArray, List.set_cons_zero, List.set_cons_succ]
  refine wpAnyH_done (by kernel_rfl) ?_ _
  have hz1 : W1.drew.heap.size = W1.heap.size := rfl
  have hnw := next_wrong x n
  by_cases hw : wrongS x false n = 0
  · have hpr : prepR D F x L n L2 = replR D F x L n L2 := if_neg (fun h => h hw)
    have hno : nextOk x.n n = true := by rw [hnw]; exact decide_eq_true hw
    obtain ⟨hrep, hcalm⟩ := replR_ok (n := n) HCC.out HRR.out HI.out.ok HLE.out
    have HP2 := Lib.hid (show PlAt w w2 NoB s d p F x false D L L x.n g Md Rr Mi r q c M from ⟨HPL.out.st.below HB2.out, HPL.out.rf.below HB2.out, HPL.out.ap, HPL.out.lo, bl_chain HPL.out.bl HB2.out, fun b hb => hb.elim⟩)
    have hold : ∀ b, (Md b ∨ Rr b ∨ Mi b ∨ M b ∨ b = s ∨ b = p) → b < W1.heap.size := HPL.out.lt
    have hrg := replace_go HP2.out.st HI.out HLE.out n hw HRR.out (fun b hb => by
      have h1 := HM1.out b hb
      exact ⟨fun h => by have := hold b (.inl h); omega, fun h => by have := hold b (.inr (.inl h)); omega, fun h => by have := hold b (by simp [h]); omega⟩)
    rw [hrep] at hrg
    have HRG := Lib.hid hrg
    have HPR := Lib.hid (hpr.trans hrep)
    have HOLD := Lib.hid hold
    have HNO := Lib.hid hno
    have hw2 : w.heap.size ≤ W1.heap.size := HPL.out.bl.size
    clear hw hpr hno hrep hrg hnw hold
    generalize markD (Dk.flushD (replD D F x L2)) F (x.next n (1 - x.area) 0) = D2 at HRG HPR hcalm
    go_wp2_with (first
      | (go_at_call 40; (with_reducible refine HRG.out.mono ?_); rintro e w3 ⟨g', Md', Rr', Mi', rfl, hst, haf, htr⟩; have hp3 := HP2.out.prog hst haf (fun b hb => ⟨by have := HM1.out b hb.1; omega, fun h => h.elim, fun h => by have := HOLD.out b (by simp [h]); have := HM1.out b hb.1; omega, fun h => by have := HOLD.out b (by simp [h]); have := HM1.out b hb.1; omega⟩); have HP3 := Lib.hid (show PlAt w w3 NoB s d p F (x.next n (1 - x.area) 0) false D2 L2 L x.n g' Md' Rr' Mi' r q c M from hp3); have HAF := Lib.hid haf; have hm3 := HI.out.tr htr (fun b hb hf => by have h1 := HM1.out b hb; rcases hf with hf | hf; (· have := HOLD.out b (.inl hf); omega); (· have := HOLD.out b (by simp [hf]); omega)); have hr3 := HR2.out.tr htr (fun b hb hf => by have h1 := HM2.out b hb; rcases hf with hf | hf; (· have := HOLD.out b (.inl hf); omega); (· have := HOLD.out b (by simp [hf]); omega)); have HM3 := Lib.hid hm3; have HR3 := Lib.hid hr3; clear hst haf htr hp3 hm3 hr3)
      | (go_at_call 41; (with_reducible refine (rsreplace_any HP3.out.rf HR3.out HLE.out (fun h => by have h1 := HM2.out _ h; have := HOLD.out p (by simp); omega) n HNO.out).mono ?_); rintro e w4 ⟨r', q', c', rfl, hs4, h1, h2, ht4⟩; have HS4 := Lib.hid hs4; have HT4 := Lib.hid ht4; have HM4 := Lib.hid (HM3.out.tr ht4 (fun b hb e => by have h1 := HM1.out b hb; have := HOLD.out b (by simp [e]); omega)); clear hs4 ht4)
      | (go_at_call 42; (with_reducible refine (unmap_any HM4.out 0 1 (by omega)).mono ?_); rintro e w5 ⟨D5, M5, rfl, h5, h6, h7⟩; have H7 := Lib.hid h7; clear h5 h6 h7))
    go_ret
    have hr2l := HR2.out.mlt
    have hIl := HI.out.mlt
    have hz3 := HAF.out.t.size
    have hmx : ∀ b, M2 b → w.heap.size ≤ b ∧ ¬ NoB b ∧ ¬ Md' b ∧ ¬ Rr' b ∧ ¬ Mi' b ∧ b ≠ s := fun b hb => by
      have h1 := HM2.out b hb
      have h2 := hr2l b hb
      refine ⟨by omega, id, fun h => (HAF.out.d b h).elim (fun h => by have := HOLD.out b (.inl h); omega) (fun h => by omega), fun h => (HAF.out.r b h).elim (fun h => by have := HOLD.out b (.inr (.inl h)); omega) (fun h => by omega), fun h => ?_, fun h => by have := HOLD.out b (by simp [h]); omega⟩
      rcases HAF.out.i b h with (h | h) | h
      · have := HOLD.out b (.inr (.inr (.inl h))); omega
      · exact HDI.out b h.1 hb
      · omega
    have hp4 := HP3.out.refs (Mx := M2) HS4.out (fun b hb => by
      rcases hb with h | h | h
      · exact .inl (.inr h.1)
      · exact .inr (by omega)
      · exact .inr (by omega)) (HT4.out.mono (fun _ _ h => .inr h)) hmx
    have hBm := HI.out.mB
    have hb1 := HM1.out _ hBm
    have hb2 := hIl _ hBm
    have hne : ∀ b, (Md' b ∨ Rr' b ∨ Mi' b ∨ RCopyM r2 q2 M2 r' q' b ∨ b = s ∨ b = p) → ¬ b = Bm := fun b hb e => by
      subst e
      rcases hb with h | h | h | h | h | h
      · exact (HAF.out.d _ h).elim (fun h => by have := HOLD.out _ (.inl h); omega) (fun h => by omega)
      · exact (HAF.out.r _ h).elim (fun h => by have := HOLD.out _ (.inr (.inl h)); omega) (fun h => by omega)
      · rcases HAF.out.i _ h with (h | h) | h
        · have := HOLD.out _ (.inr (.inr (.inl h))); omega
        · exact h.2.2 rfl
        · omega
      · rcases h with h | h | h
        · exact HDI.out _ hBm h.1
        · omega
        · omega
      · have := HOLD.out b (by simp [h]); omega
      · have := HOLD.out b (by simp [h]); omega
    have hz4 := HT4.out.size
    have hp5 : Pl w w4 (fun b => b = Bm) s d p F (x.next n (1 - x.area) 0) false D2 L2 L2 n := ⟨g', Md', Rr', Mi', r', q', c', _, hp4.st, hp4.rf, hp4.ap, fun b hb => ⟨(hp4.lo b hb).1, hne b hb⟩, hp4.bl, fun b e => by omega⟩
    refine ⟨rfl, ?_⟩
    rw [HPR.out]
    exact (hp5.turn H7.out (fun b e => e) (fun b e => by omega)).forget
  · have hpr : prepR D F x L n L2 = ⟨wrongS x false n, x, D, L⟩ := if_pos hw
    have hno : nextOk x.n n = false := by rw [hnw]; exact decide_eq_false hw
    have hw1 : wrongS x false n = 1 := by
      unfold wrongS at hw ⊢
      simp only [Bool.false_eq_true, if_false] at hw ⊢
      split at hw
      · rename_i h; rw [if_pos h]
      · exact absurd rfl hw
    have HP2 := Lib.hid (show PlAt w w2 NoB s d p F x false D L L x.n g Md Rr Mi r q c M from ⟨HPL.out.st.below HB2.out, HPL.out.rf.below HB2.out, HPL.out.ap, HPL.out.lo, bl_chain HPL.out.bl HB2.out, fun b hb => hb.elim⟩)
    have hold : ∀ b, (Md b ∨ Rr b ∨ Mi b ∨ M b ∨ b = s ∨ b = p) → b < W1.heap.size := HPL.out.lt
    have hrg := replace_no HP2.out.st HI.out.toImg HLE.out n hw
    rw [hw1] at hrg hpr
    have HRG := Lib.hid hrg
    have HPR := Lib.hid hpr
    have HOLD := Lib.hid hold
    have HNO := Lib.hid hno
    have hw2 : w.heap.size ≤ W1.heap.size := HPL.out.bl.size
    clear hw hpr hno hrg hnw hold hw1
    go_wp2_with (first
      | (go_at_call 40; (with_reducible refine HRG.out.mono ?_); rintro e w3 ⟨rfl, hb3⟩; have B3 := Lib.hid hb3; have HR3 := Lib.hid (HR2.out.below hb3); have HS3 := Lib.hid (HP2.out.rf.below hb3); clear hb3)
      | (go_at_call 41; (with_reducible refine (rsreplace_no HS3.out HR3.out n HNO.out).mono ?_); rintro e w4 ⟨rfl, hb4⟩; have B4 := Lib.hid (bl_chain B3.out hb4); clear hb4)
      | (go_at_call 42; (with_reducible refine (unmap_any (HI.out.below B4.out) 0 1 (by omega)).mono ?_); rintro e w5 ⟨D5, M5, rfl, h5, h6, h7⟩; have H7 := Lib.hid h7; clear h5 h6 h7))
    go_ret
    refine ⟨rfl, ?_⟩
    rw [HPR.out]
    have hBm := HI.out.mB
    have hb1 := HM1.out _ hBm
    have hb2 := HI.out.mlt _ hBm
    have hz4 := B4.out.size
    have hp5 : Pl w w4 (fun b => b = Bm) s d p F x false D L L x.n := ⟨g, Md, Rr, Mi, r, q, c, M, HP2.out.st.below B4.out, HP2.out.rf.below B4.out, HP2.out.ap, fun b hb => ⟨(HP2.out.lo b hb).1, fun e => by have := HOLD.out b hb; omega⟩, bl_chain HP2.out.bl B4.out, fun b e => by omega⟩
    exact (hp5.turn H7.out (fun b e => e) (fun b e => by omega)).forget
theorem step_else (h : Pl w W NoB s d p F x false D L L x.n) (hN : 0 ≤ x.n ∧ x.n ≤ 1152921504606846976) (y : OpB) (kd : Int) (hk : kd ≠ 0 ∧ kd ≠ 1 ∧ kd ≠ 2 ∧ kd ≠ 3 ∧ kd ≠ 4) :
    Calls Tryz.prog 10 #[.pointer (some ⟨s, 0, none⟩), .pointer (some ⟨p, 0, none⟩), .agg #[.int .i64 kd, .int .i64 y.n, .slice y.A y.l.length y.c, .slice y.B y.ks.length y.d]] W fun e W' => e = .returned (.bool true) ∧ Pl w W' NoB s d p F x false D L L x.n := by
  have HD := Lib.hid h
  have HB1 := Lib.hid (bl_alloc W (.cells #[.int .i64 kd, .int .i64 y.n, .slice y.A y.l.length y.c, .slice y.B y.ks.length y.d] 41))
  have HNUM : Hid (Calls Tryz.prog 34 #[.pointer (some ⟨p, 0, none⟩), .int .i64 y.n] (W.alloc (.cells #[.int .i64 kd, .int .i64 y.n, .slice y.A y.l.length y.c, .slice y.B y.ks.length y.d] 41)) fun e w' => e = .returned (.int .i64 (numberN x.n y.n)) ∧ (W.alloc (.cells #[.int .i64 kd, .int .i64 y.n, .slice y.A y.l.length y.c, .slice y.B y.ks.length y.d] 41)) = w') := Lib.hid (by
    obtain ⟨g, Md, Rr, Mi, r, q, c, M, h⟩ := h
    exact lnumber_any (h.rf.blk.keep (bl_alloc W _)) hN y.n)
  obtain ⟨k0, k1, k2, k3, k4⟩ := hk
  have b0 : (kd == 0) = false := by simpa using k0
  have b1 : (kd == 1) = false := by simpa using k1
  have b2 : (kd == 2) = false := by simpa using k2
  have b3 : (kd == 3) = false := by simpa using k3
  have b4 : (kd == 4) = false := by simpa using k4
  clear h k0 k1 k2 k3 k4
  go_enter Tryz.func10, Tryz.ntmps10
  go_wp2_with (first
    | (go_at_call 34; (with_reducible refine HNUM.out.mono ?_); rintro e w' ⟨rfl, rfl⟩))
  go_ret
  exact ⟨rfl, HD.out.below HB1.out⟩
end
end Go.Proofs.YthlijldapoeepaaGreat
