/- Layer 4: Open. -/
import Derived.Test.YtceajiliahmkaaaWalI
import Derived.Deep.Slices
namespace Go.Proofs.Ytceajiliahmkaaa
set_option linter.unusedVariables false
set_option linter.unusedSimpArgs false
set_option maxRecDepth 100000
open Go.RowKit

/-- A log of nothing yet. -/
def LG.new (from_ segs per : Nat) : LG := ⟨from_, segs, per, 0, 0, -1, 0, [], 0, 0, true, false⟩
/-- The best of the first slots. -/
def LG.slotTo (x : LG) (D : DS) : Nat → LG
  | 0 => x
  | i + 1 => match slotL (secL D (x.from_ + i)) with
    | none => x.slotTo D i
    | some s => if (x.slotTo D i).epoch < s.epoch then { x.slotTo D i with epoch := s.epoch, term := s.term, vote := s.vote, base := s.base } else x.slotTo D i
/-- Behind the chain: nothing is left where the base lies behind it. -/
def LG.fixX (r : LG × List (List Int) × Int) : LG × List (List Int) × Int :=
  if r.1.next ≤ r.1.base then ({ r.1 with chain := [], next := r.1.base + 1 }, [], r.1.base + 1) else r
structure OpenR where
  x : LG
  out : List (List Int)
  err : Int
  D : DS
def openR (D : DS) (from_ segs per : Nat) : OpenR :=
  (fun r : LG × List (List Int) × Int => ⟨r.1.putX D, r.2.1.drop (min (max (r.1.base + 1 - r.2.2) 0).toNat r.2.1.length), r.1.putE D, r.1.putD D⟩)
    (LG.fixX (((LG.new from_ segs per).slotTo D 2).rdX D))
section
variable {w w' : World} {p d : Nat} {x : LG} {A : Option Addr} {c : Nat} {D : DS} {M R F : Nat → Prop}
theorem slotL_ok {l : List Int} {s : SL} (h : slotL l = some s) : (1 ≤ s.epoch ∧ s.epoch ≤ 1152921504606846976) ∧ (0 ≤ s.term ∧ s.term ≤ 1152921504606846976) ∧ (-1 ≤ s.vote ∧ s.vote ≤ 4) ∧ (0 ≤ s.base ∧ s.base ≤ 1152921504606846976) := by
  unfold slotL at h
  split at h
  · rename_i hc
    injection h with h
    subst h
    obtain ⟨_, h1, h2, h3, h4⟩ := hc
    unfold inW at h1 h2 h3 h4
    simp only [Bool.and_eq_true, decide_eq_true_eq] at h1 h2 h3 h4
    exact ⟨h1, h2, by show -1 ≤ numAt l 2 - 1 ∧ numAt l 2 - 1 ≤ 4; omega, h4⟩
  · cases h
theorem slotTo_ok (f s q : Nat) : ∀ i, let y := (LG.new f s q).slotTo D i
    y.from_ = f ∧ y.segs = s ∧ y.per = q ∧ y.chain = [] ∧ y.next = 0 ∧ y.at_ = 0 ∧ y.fresh = true ∧ y.dead = false ∧ (0 ≤ y.epoch ∧ y.epoch ≤ 1152921504606846976) ∧ (0 ≤ y.term ∧ y.term ≤ 1152921504606846976) ∧ (-1 ≤ y.vote ∧ y.vote ≤ 4) ∧ (0 ≤ y.base ∧ y.base ≤ 1152921504606846976)
  | 0 => ⟨rfl, rfl, rfl, rfl, rfl, rfl, rfl, rfl, by simp [LG.slotTo, LG.new], by simp [LG.slotTo, LG.new], by simp [LG.slotTo, LG.new], by simp [LG.slotTo, LG.new]⟩
  | i + 1 => by
    have ih := slotTo_ok f s q i
    simp only at ih ⊢
    unfold LG.slotTo
    split
    · exact ih
    · rename_i sl hs
      obtain ⟨h1, h2, h3, h4⟩ := slotL_ok hs
      split
      · obtain ⟨a1, a2, a3, a4, a5, a6, a7, a8, _⟩ := ih
        exact ⟨a1, a2, a3, a4, a5, a6, a7, a8, ⟨Int.le_trans (by decide) h1.1, h1.2⟩, h2, h3, h4⟩
      · exact ih
/-- What reading the chain leaves as it was. -/
def LG.Same (x y : LG) : Prop := x.from_ = y.from_ ∧ x.segs = y.segs ∧ x.per = y.per ∧ x.epoch = y.epoch ∧ x.term = y.term ∧ x.vote = y.vote ∧ x.base = y.base ∧ x.at_ = y.at_ ∧ x.fresh = y.fresh ∧ x.dead = y.dead
theorem LG.Same.rfl' (x : LG) : x.Same x := ⟨rfl, rfl, rfl, rfl, rfl, rfl, rfl, rfl, rfl, rfl⟩
theorem rdTo_keep {f0 : Int} : ∀ (k : Nat) (y : LG) (out : List (List Int)) (last : SG), (LG.rdTo D f0 k y out last).1.Same y
  | 0, y, _, _ => LG.Same.rfl' y
  | k + 1, y, out, last => by
    unfold LG.rdTo
    split
    · split
      · exact LG.Same.rfl' y
      · rename_i s _
        exact rdTo_keep k (y.folX D s) _ s
    · exact LG.Same.rfl' y
theorem rdX_keep (y : LG) : (y.rdX D).1.Same y := by
  unfold LG.rdX
  split
  · exact LG.Same.rfl' y
  · exact rdTo_keep 64 _ _ _
/-- Numbers and records go together. -/
theorem rdTo_next {f0 : Int} : ∀ (k : Nat) (y : LG) (out : List (List Int)) (last : SG), y.next = f0 + (out.length : Int) → f0 ≤ last.first → (LG.rdTo D f0 k y out last).1.next = f0 + ((LG.rdTo D f0 k y out last).2.length : Int)
  | 0, y, out, last, h, _ => h
  | k + 1, y, out, last, h, ho => by
    unfold LG.rdTo
    split
    · split
      · exact h
      · rename_i s hs
        have hw : last.first ≤ s.first ∧ s.first ≤ y.next := by
          unfold LG.nextH at hs
          split at hs
          · cases hs
          · split at hs
            · rename_i hc
              injection hs with hs
              subst hs
              have := hc.2.2
              unfold inW at this
              simpa using this
            · cases hs
        refine rdTo_next k (y.folX D s) _ s ?_ (by omega)
        show s.first + ((y.folL D s).length : Int) = _
        rw [List.length_append, List.length_take]
        have h1 : (s.first - f0).toNat ≤ out.length := by omega
        omega
    · exact h
theorem rdX_next (y : LG) : (y.rdX D).1.next = (y.rdX D).2.2 + ((y.rdX D).2.1.length : Int) ∧ (y.rdX D).2.2 ≤ y.base + 1 ∧ (0 ≤ y.base → 1 ≤ (y.rdX D).2.2) := by
  unfold LG.rdX
  split
  · exact ⟨by simp, Int.le_refl _, fun h => by show 1 ≤ y.base + 1; omega⟩
  · rename_i h0
    rcases selTo_ok (x := y) (D := D) y.segs with e | ⟨e1, e2, e3, e4⟩
    · rw [e] at h0
      exact absurd rfl h0
    · exact ⟨rdTo_next 64 _ _ _ rfl (Int.le_refl _), e4, fun _ => e2.1⟩
theorem LgAt.meta (h : LgAt w p d x A c D M R) (ep tm vt bs : Int) : LgAt ((((w.setCell ⟨p, 4, none⟩ (.int .i64 ep)).setCell ⟨p, 5, none⟩ (.int .i64 tm)).setCell ⟨p, 6, none⟩ (.int .i64 vt)).setCell ⟨p, 7, none⟩ (.int .i64 bs)) p d { x with epoch := ep, term := tm, vote := vt, base := bs } A c D M R ∧ Tr (fun b => b = p) w ((((w.setCell ⟨p, 4, none⟩ (.int .i64 ep)).setCell ⟨p, 5, none⟩ (.int .i64 tm)).setCell ⟨p, 6, none⟩ (.int .i64 vt)).setCell ⟨p, 7, none⟩ (.int .i64 bs)) := by
  have ts : Tr (fun b => b = p) w ((((w.setCell ⟨p, 4, none⟩ (.int .i64 ep)).setCell ⟨p, 5, none⟩ (.int .i64 tm)).setCell ⟨p, 6, none⟩ (.int .i64 vt)).setCell ⟨p, 7, none⟩ (.int .i64 bs)) := ((((Tr.refl (fun b => b = p) w).setCell (p := ⟨p, 4, none⟩) (fun _ => rfl) _).setCell (p := ⟨p, 5, none⟩) (fun _ => rfl) _).setCell (p := ⟨p, 6, none⟩) (fun _ => rfl) _).setCell (p := ⟨p, 7, none⟩) (fun _ => rfl) _
  have hb := (((h.lg.set_ 4 (.int .i64 ep)).set_ 5 (.int .i64 tm)).set_ 6 (.int .i64 vt)).set_ 7 (.int .i64 bs)
  refine ⟨⟨?_, h.row.tr ts (fun b hb e => h.pa (e ▸ hb)), h.dk.tr ts (fun b hb e => h.pm (e ▸ hb)) (fun b hb e => h.pr (e ▸ hb)), h.pa, h.pm, h.pr, h.am⟩, ts⟩
  simpa [lgCells, IsLg] using hb
/-- Records that can be read in a slice. -/
def RecRd (w : World) (B : Nat) (A : Option Addr) (ls : List (List Int)) : Prop :=
  ∃ vs : List Value, Rd w A vs ∧ vs.length = ls.length ∧ ∀ i (h : i < ls.length), ∃ A' c', vs[i]? = some (.slice A' ls[i].length c') ∧ w.ownsRow B 5 1 (.slice A' ls[i].length c') ls[i].length (by8 ls[i])
theorem RecRow.cut {B k : Nat} {ls : List (List Int)} (h : RecRow w B A c ls) (hk : k ≤ ls.length) : RecRd w B (if c = k then A else A.map (·.add k)) (ls.drop k) := by
  obtain ⟨vs, h1, h2⟩ := h
  have hvl : vs.length = ls.length := by have := h1.1; omega
  refine ⟨vs.drop k, fun j u hj => ?_, by simp [hvl], fun i hi => ?_⟩
  · rw [List.getElem?_drop] at hj
    have hjl := (List.getElem?_eq_some_iff.1 hj).1
    obtain ⟨_, _, e, hnc, _⟩ := ownsRow_slice h1
    injection e with e1 e2 e3
    rw [if_neg (by omega)]
    obtain ⟨ad, rfl, hc⟩ := (Rd.of_own (ownsRow_base h1 (Nat.zero_le _))) (k + j) u hj
    refine ⟨ad.add k, rfl, ?_⟩
    rw [← hc, Go.Deep.add_add]
  · rw [List.length_drop] at hi
    obtain ⟨A', c', e, ho⟩ := h2 (k + i) (by omega)
    refine ⟨A', c', ?_, ?_⟩
    · rw [List.getElem?_drop, List.getElem_drop]
      exact e
    · rw [List.getElem_drop]
      exact ho
def RetOpn (w : World) (d : Nat) (M R : Nat → Prop) (r : OpenR) (e : Ending) (w' : World) : Prop :=
  if r.err = 0 then ∃ p A c Ar cr M' R', e = .returned (.tuple #[.pointer (some ⟨p, 0, none⟩), .slice Ar r.out.length cr, .agg #[.int .i64 r.x.term, .int .i64 r.x.vote, .int .i64 r.x.base], .int .i64 0]) ∧ LgAt w' p d r.x A c r.D M' R' ∧ w.heap.size ≤ p ∧ (∀ b, Blo A b → w.heap.size ≤ b) ∧ RecRd w' w.heap.size Ar r.out ∧ (∀ b, M' b → M b ∨ w.heap.size ≤ b) ∧ (∀ b, R' b → R b ∨ w.heap.size ≤ b) ∧ Tr M w w'
  else ∃ M' R', e = .returned (.tuple #[.pointer none, .slice none 0 0, .agg #[.int .i64 0, .int .i64 0, .int .i64 0], .int .i64 r.err]) ∧ IsDisk w' d r.D M' R' ∧ (∀ b, M' b → M b ∨ w.heap.size ≤ b) ∧ (∀ b, R' b → R b ∨ w.heap.size ≤ b) ∧ Tr M w w'
theorem LgAt.cleared (h : LgAt w p d x A c D M R) (n : Int) : LgAt ((w.setCell ⟨p, 8, none⟩ (.slice none 0 0)).setCell ⟨p, 9, none⟩ (.int .i64 n)) p d { x with chain := [], next := n } none 0 D M R ∧ Tr (fun b => b = p) w ((w.setCell ⟨p, 8, none⟩ (.slice none 0 0)).setCell ⟨p, 9, none⟩ (.int .i64 n)) := by
  have ts : Tr (fun b => b = p) w ((w.setCell ⟨p, 8, none⟩ (.slice none 0 0)).setCell ⟨p, 9, none⟩ (.int .i64 n)) := ((Tr.refl (fun b => b = p) w).setCell (p := ⟨p, 8, none⟩) (fun _ => rfl) _).setCell (p := ⟨p, 9, none⟩) (fun _ => rfl) _
  have hb := (h.lg.set_ 8 (.slice none 0 0)).set_ 9 (.int .i64 n)
  refine ⟨⟨?_, SegRow.nil _ _, h.dk.tr ts (fun b hb e => h.pm (e ▸ hb)) (fun b hb e => h.pr (e ▸ hb)), Blo.none _, h.pm, h.pr, fun b hb => absurd hb (Blo.none b)⟩, ts⟩
  simpa [lgCells, IsLg] using hb
theorem RetOpn.good {w6 : World} {x6 : LG} {D6 : DS} {A5 Ar : Option Addr} {c5 cr B5 kk : Nat} {ls : List (List Int)} {M6 R6 : Nat → Prop} {r : OpenR} (h6 : LgAt w6 p d x6 A5 c5 D6 M6 R6) (hrr : RecRow w6 B5 Ar cr ls) (hkk : kk ≤ ls.length)
    (hB5 : w.heap.size < B5) (hp : w.heap.size < p) (hA : ∀ b, Blo A5 b → w.heap.size < b) (hm : ∀ b, M6 b → M b ∨ w.heap.size < b) (hr : ∀ b, R6 b → R b ∨ w.heap.size < b) (hM : ∀ b, M b → b < w.heap.size) (hR : ∀ b, R b → b < w.heap.size)
    (t6 : Tr M w w6) (t7 : Tr (fun b => b = w.heap.size) w6 w') (hE : r = ⟨x6, ls.drop kk, 0, D6⟩) :
    RetOpn w d M R r (.returned (.tuple #[.pointer (some ⟨p, 0, none⟩), .slice (if cr = kk then Ar else Ar.map (·.add kk)) (ls.length - kk) (cr - kk), .agg #[.int .i64 x6.term, .int .i64 x6.vote, .int .i64 x6.base], .int .i64 0])) w' := by
  subst hE
  unfold RetOpn
  rw [if_pos rfl]
  refine ⟨p, A5, c5, _, _, M6, R6, by rw [List.length_drop], h6.tr t7 (fun b hb e => ?_), by omega, fun b hb => Nat.le_of_lt (hA b hb), ?_, fun b hb => (hm b hb).imp id Nat.le_of_lt, fun b hb => (hr b hb).imp id Nat.le_of_lt, t6.trans t7 (fun b hb e => by omega)⟩
  · rcases hb with hb | hb | hb | hb
    · omega
    · have := hA b hb; omega
    · rcases hm b hb with h | h
      · have := hM b h; omega
      · omega
    · rcases hr b hb with h | h
      · have := hR b h; omega
      · omega
  · exact RecRow.cut ((hrr.tr t7 (fun b h1 h2 e => by omega)).base (by omega)) hkk
theorem RetOpn.bad {x6 : LG} {D6 : DS} {ls : List (List Int)} {M6 R6 : Nat → Prop} {r : OpenR} {er : Int} (her : er ≠ 0) (h6 : IsDisk w' d D6 M6 R6) (hm : ∀ b, M6 b → M b ∨ w.heap.size ≤ b) (hr : ∀ b, R6 b → R b ∨ w.heap.size ≤ b)
    (t6 : Tr M w w') (hE : r = ⟨x6, ls, er, D6⟩) :
    RetOpn w d M R r (.returned (.tuple #[.pointer none, .slice none 0 0, .agg #[.int .i64 0, .int .i64 0, .int .i64 0], .int .i64 er])) w' := by
  subst hE
  unfold RetOpn
  rw [if_neg her]
  exact ⟨M6, R6, rfl, h6, hm, hr, t6⟩
set_option maxHeartbeats 12800000 in
theorem wopen_any (hd : IsDisk w d D M R) (Fr Sg P : Nat) (h1 : 2 ≤ Sg) (h2 : Sg ≤ 64) (h3 : 2 ≤ P) (h4 : P ≤ 64) (h5 : Fr + 2 + Sg * P ≤ D.n) (hfew : D.gs.length < 1000000) :
    Calls Try.prog 7 #[.pointer (some ⟨d, 0, none⟩), .int .i64 (Fr : Int), .int .i64 (Sg : Int), .int .i64 (P : Int)] w (RetOpn w d M R (openR D Fr Sg P)) := by
  have hok := IsDisk.ok hd
  have hmost := hok.most
  have HD := Lib.hid hd
  have HOK := Lib.hid hok
  have HSZ := Lib.hid (fun (W : World) (hW : Below w.heap.size w W) => size_any (hd.below hW))
  obtain ⟨N, hN⟩ : ∃ N, D.n = N := ⟨_, rfl⟩
  obtain ⟨q, hq⟩ : ∃ q, Sg * P = q := ⟨_, rfl⟩
  have hqm : (Sg : Int) * (P : Int) = (q : Int) := by rw [← hq]; simp
  rw [hN] at HSZ h5 hmost
  rw [hq] at h5
  have hFN : Fr ≤ N := by omega
  have b1 : decide ((Fr : Int) < 0) = false := decide_eq_false (by omega)
  have b2 : decide ((N : Int) < (Fr : Int)) = false := decide_eq_false (by omega)
  have b3 : decide ((Sg : Int) < 2) = false := decide_eq_false (by omega)
  have b4 : decide ((64 : Int) < (Sg : Int)) = false := decide_eq_false (by omega)
  have b5 : decide ((P : Int) < 2) = false := decide_eq_false (by omega)
  have b6 : decide ((64 : Int) < (P : Int)) = false := decide_eq_false (by omega)
  have b7 : decide ((N : Int) - (Fr : Int) < 2 + (q : Int)) = false := decide_eq_false (by omega)
  have b2n : ¬ N < Fr := by omega
  have b3n : ¬ Sg < 2 := by omega
  have b4n : ¬ 64 < Sg := by omega
  have b5n : ¬ P < 2 := by omega
  have b6n : ¬ 64 < P := by omega
  have HN := Lib.hid hN
  have HQ := Lib.hid hq
  clear hd hok hN hq
  go_enter Try.func7, Try.ntmps7
  go_wp2_with (first
    | (go_at_call 29; (with_reducible refine (HSZ.out _ (bl_alloc _ _)).mono ?_); rintro e w1 ⟨rfl, rfl⟩))
  have hbl := bl_chain (bl_alloc w (.cells #[.int .i64 0, .int .i64 0, .int .i64 0] 30)) (bl_alloc _ (.cells #[.pointer (some ⟨d, 0, none⟩), .int .i64 (Fr : Int), .int .i64 (Sg : Int), .int .i64 (P : Int), .int .i64 0, .int .i64 0, .int .i64 (-1), .int .i64 0, .slice none 0 0, .int .i64 0, .int .i64 0, .bool true, .bool false] 64))
  have hmt := (Blk.new w 30 #[.int .i64 0, .int .i64 0, .int .i64 0]).keep (bl_alloc _ (.cells #[.pointer (some ⟨d, 0, none⟩), .int .i64 (Fr : Int), .int .i64 (Sg : Int), .int .i64 (P : Int), .int .i64 0, .int .i64 0, .int .i64 (-1), .int .i64 0, .slice none 0 0, .int .i64 0, .int .i64 0, .bool true, .bool false] 64))
  have hsz0 : (w.alloc (.cells #[.int .i64 0, .int .i64 0, .int .i64 0] 30)).heap.size = w.heap.size + 1 := by simp
  have hlg : LgAt ((w.alloc (.cells #[.int .i64 0, .int .i64 0, .int .i64 0] 30)).alloc (.cells #[.pointer (some ⟨d, 0, none⟩), .int .i64 (Fr : Int), .int .i64 (Sg : Int), .int .i64 (P : Int), .int .i64 0, .int .i64 0, .int .i64 (-1), .int .i64 0, .slice none 0 0, .int .i64 0, .int .i64 0, .bool true, .bool false] 64)) (w.heap.size + 1) d (LG.new Fr Sg P) none 0 D M R := by
    have h0 := Blk.new (w.alloc (.cells #[.int .i64 0, .int .i64 0, .int .i64 0] 30)) 64 (lgCells d (LG.new Fr Sg P) none 0)
    rw [hsz0] at h0
    exact ⟨h0, SegRow.nil _ _, HD.out.below hbl, Blo.none _, fun e => by have := HD.out.mlt _ e; omega, fun e => by have := HD.out.rlt _ e; omega, fun b hb => absurd hb (Blo.none b)⟩
  have HBL := Lib.hid hbl
  have HMT := Lib.hid hmt
  have HLG := Lib.hid hlg
  have HGEO : Hid (∀ i, ((LG.new Fr Sg P).slotTo D i).Geo D.n) := Lib.hid (fun i => by
    obtain ⟨a1, a2, a3, _⟩ := slotTo_ok (D := D) Fr Sg P i
    exact ⟨by rw [a2]; exact h1, by rw [a2]; exact h2, by rw [a3]; exact h3, by rw [a3]; exact h4, by rw [a1, a2, a3, HQ.out, HN.out]; exact h5, by rw [HN.out]; exact hmost⟩)
  have HFR : Hid (∀ i, ((LG.new Fr Sg P).slotTo D i).from_ = Fr) := Lib.hid (fun i => (slotTo_ok (D := D) Fr Sg P i).1)
  clear hbl hmt hsz0 hlg
  generalize (w.alloc (.cells #[.int .i64 0, .int .i64 0, .int .i64 0] 30)).alloc (.cells #[.pointer (some ⟨d, 0, none⟩), .int .i64 (Fr : Int), .int .i64 (Sg : Int), .int .i64 (P : Int), .int .i64 0, .int .i64 0, .int .i64 (-1), .int .i64 0, .slice none 0 0, .int .i64 0, .int .i64 0, .bool true, .bool false] 64) = W1 at HBL HMT HLG ⊢
  obtain ⟨p, hp⟩ : ∃ p, w.heap.size + 1 = p := ⟨_, rfl⟩
  rw [hp] at HLG ⊢
  go_loopw [14, 15, 16, 17, 67] (fun _ _ _ _ v W => ∃ i : Nat, i ≤ 2 ∧ v = .int .i64 (i : Int) ∧ LgAt W p d ((LG.new Fr Sg P).slotTo D i) none 0 D M R ∧ Blk W w.heap.size 30 #[.int .i64 0, .int .i64 0, .int .i64 0] ∧ Tr (fun b => b = p) W1 W) (fun _ _ _ _ v _ => 2 - (intOf v).toNat)
  case atStart => exact ⟨0, by omega, rfl, HLG.out, HMT.out, Tr.refl _ _⟩
  case round =>
    obtain ⟨i, hi, rfl, hl, hm, ht⟩ := hrel
    have HL := Lib.hid hl
    have HM := Lib.hid hm
    have HT := Lib.hid ht
    clear hl hm ht
    by_cases hlt : i < 2
    · have hslot := slot_any HL.out.lg (HGEO.out i) HL.out.dk i hlt
      rw [HFR.out i] at hslot
      have hst : (LG.new Fr Sg P).slotTo D (i + 1) = match slotL (secL D (Fr + i)) with
        | none => (LG.new Fr Sg P).slotTo D i
        | some s => if ((LG.new Fr Sg P).slotTo D i).epoch < s.epoch then { (LG.new Fr Sg P).slotTo D i with epoch := s.epoch, term := s.term, vote := s.vote, base := s.base } else (LG.new Fr Sg P).slotTo D i := rfl
      have HSL := Lib.hid hslot
      have HST := Lib.hid hst
      have hwl : p < wr.heap.size := HL.out.lg.lt
      clear hslot hst
      generalize slotL (secL D (Fr + i)) = o at HSL HST
      obtain ⟨y, hy⟩ : ∃ y, (LG.new Fr Sg P).slotTo D i = y := ⟨_, rfl⟩
      rw [hy] at HL HST
      clear hy
      cases o with
      | none =>
        have HSL : Hid (Calls Try.prog 30 #[.pointer (some ⟨p, 0, none⟩), .int .i64 (i : Int)] wr fun e w' => e = .returned (.tuple #[.int .i64 0, .agg #[.int .i64 0, .int .i64 0, .int .i64 0], .bool false]) ∧ Below wr.heap.size wr w') := HSL
        have HST : Hid ((LG.new Fr Sg P).slotTo D (i + 1) = y) := HST
        go_wp2_with (first
          | (go_at_call 30; (with_reducible refine HSL.out.mono ?_); rintro e w4 ⟨rfl, hb4⟩; have HB4 := Lib.hid (bl_chain hb4 (bl_alloc w4 (.cells #[.int .i64 0, .int .i64 0, .int .i64 0] 30))); clear hb4))
        go_roundw
        case measure => simp [intOf]; omega
        case rel => exact ⟨i + 1, by omega, by go_num, by rw [HST.out]; exact HL.out.below HB4.out, HM.out.keep HB4.out, HT.out.then_below HB4.out⟩
      | some sl =>
        obtain ⟨ep, tm, vt, bs⟩ := sl
        have HSL : Hid (Calls Try.prog 30 #[.pointer (some ⟨p, 0, none⟩), .int .i64 (i : Int)] wr fun e w' => e = .returned (.tuple #[.int .i64 ep, .agg #[.int .i64 tm, .int .i64 vt, .int .i64 bs], .bool true]) ∧ Below wr.heap.size wr w') := HSL
        have HST : Hid ((LG.new Fr Sg P).slotTo D (i + 1) = if y.epoch < ep then { y with epoch := ep, term := tm, vote := vt, base := bs } else y) := HST
        obtain ⟨ye, hye⟩ : ∃ e, y.epoch = e := ⟨_, rfl⟩
        rw [hye] at HST
        have HYE := Lib.hid hye
        clear hye
        by_cases q1 : ye < ep
        · have HS2 := Lib.hid (HST.out.trans (if_pos q1))
          have k1 : decide (ye < ep) = true := decide_eq_true q1
          clear HST
          go_wp2_with (first
            | (go_at_call 30; (with_reducible refine HSL.out.mono ?_); rintro e w4 ⟨rfl, hb4⟩; have hb5 := bl_chain hb4 (bl_alloc w4 (.cells #[.int .i64 tm, .int .i64 vt, .int .i64 bs] 30)); have hl5 := HL.out.below hb5; have c4 := hl5.lg.cell 4; have c5 := hl5.lg.cell 5; have c6 := hl5.lg.cell 6; have c7 := hl5.lg.cell 7; have f4 := hl5.lg.frozen 4; have f5 := hl5.lg.frozen 5; have f6 := hl5.lg.frozen 6; have f7 := hl5.lg.frozen 7; simp [lgCells] at c4 c5 c6 c7; rw [HYE.out] at c4; have HL5 := Lib.hid hl5; have HB5 := Lib.hid hb5; have HN5 := Lib.hid (Blk.new w4 30 #[.int .i64 tm, .int .i64 vt, .int .i64 bs]); clear hb4 hl5 hb5))
          generalize w4.alloc (.cells #[.int .i64 tm, .int .i64 vt, .int .i64 bs] 30) = W5 at HL5 HB5 HN5 c4 c5 c6 c7 f4 f5 f6 f7 ⊢
          generalize w4.heap.size = T5 at HN5 ⊢
          have t0 := HN5.out.cell 0
          have t1 := HN5.out.cell 1
          have t2 := HN5.out.cell 2
          simp at t0 t1 t2
          go_region
          all_goals
            go_wp2_with fail
            go_roundw
            case measure => simp [intOf]; omega
            case rel =>
              obtain ⟨hm1, hm2⟩ := (HL5.out.below (bl_drew W5)).meta ep tm vt bs
              have hbw := bl_chain HB5.out (bl_drew W5)
              exact ⟨i + 1, by omega, by go_num, by rw [HS2.out]; exact hm1, hm2.blk (HM.out.keep hbw) (fun e => by omega), (HT.out.then_below hbw).trans hm2 (fun b _ e => e)⟩
        · have HS2 := Lib.hid (HST.out.trans (if_neg q1))
          have k1 : decide (ye < ep) = false := decide_eq_false q1
          clear HST
          go_wp2_with (first
            | (go_at_call 30; (with_reducible refine HSL.out.mono ?_); rintro e w4 ⟨rfl, hb4⟩; have hb5 := bl_chain hb4 (bl_alloc w4 (.cells #[.int .i64 tm, .int .i64 vt, .int .i64 bs] 30)); have hl5 := HL.out.below hb5; have c4 := hl5.lg.cell 4; simp [lgCells] at c4; rw [HYE.out] at c4; have HL5 := Lib.hid hl5; have HB5 := Lib.hid hb5; clear hb4 hl5 hb5))
          go_roundw
          case measure => simp [intOf]; omega
          case rel => exact ⟨i + 1, by omega, by go_num, by rw [HS2.out]; exact HL5.out, HM.out.keep HB5.out, HT.out.then_below HB5.out⟩
    · obtain rfl : i = 2 := by omega
      obtain ⟨y, hy⟩ : ∃ y, (LG.new Fr Sg P).slotTo D 2 = y := ⟨_, rfl⟩
      obtain ⟨s1, s2, s3, s4, s5, s6, s7, s8, s9, s10, s11, s12⟩ := slotTo_ok (D := D) Fr Sg P 2
      have hgy := HGEO.out 2
      rw [hy] at s1 s2 s3 s4 s5 s6 s7 s8 s9 s10 s11 s12 hgy HL
      have HRD := Lib.hid (wread_any HL.out hgy s4 s12)
      obtain ⟨⟨rx, ro, rl⟩, hr⟩ : ∃ r, y.rdX D = r := ⟨_, rfl⟩
      have hsame := rdX_keep (D := D) y
      have hnxt := rdX_next (D := D) y
      rw [hr] at hsame hnxt
      simp only at hnxt
      have HRD2 : Hid (Calls Try.prog 31 #[.pointer (some ⟨p, 0, none⟩)] wr fun e w' => ∃ A' c' Ar cr B, e = .returned (.tuple #[.slice Ar ro.length cr, .int .i64 rl]) ∧ LgAt w' p d rx A' c' D M R ∧ wr.heap.size ≤ B ∧ RecRow w' B Ar cr ro ∧ (∀ b, Blo A' b → Blo none b ∨ wr.heap.size ≤ b) ∧ Tr (fun b => b = p ∨ Blo none b) wr w') := Lib.hid (by
        have := HRD.out
        unfold RetRead at this
        rw [hr] at this
        exact this)
      have HSM := Lib.hid hsame
      have HRR := Lib.hid hr
      have HYY := Lib.hid hy
      have HGY := Lib.hid hgy
      clear HRD hsame hr hy hgy
      have hwp : w.heap.size ≠ p := by omega
      go_wp2_with (first
        | (go_at_call 31; (with_reducible refine HRD2.out.mono ?_); rintro e w5 ⟨A5, c5, Ar, cr, B5, rfl, hl5, hB5, hr5, hA5, ht5⟩; have HA5 := Lib.hid hA5; have q7 := hl5.lg.cell 7; have q9 := hl5.lg.cell 9; simp [lgCells] at q7 q9; have hm5 := ht5.blk HM.out (fun e => e.elim hwp (fun h => Blo.none _ h)); have HM5 := Lib.hid hm5; have HL5 := Lib.hid hl5; have HR5 := Lib.hid hr5; have HT5 := Lib.hid ht5; have HB5 := Lib.hid hB5; clear hl5 hr5 ht5 hB5 hm5 hA5))
      obtain ⟨m1, m2, m3, m4, m5, m6, m7, m8, m9, m10⟩ := HSM.out
      have HNU : Hid rx.Nums := Lib.hid ⟨by rw [m4]; exact ⟨s9.1, by omega⟩, by rw [m5]; exact s10, by rw [m6]; exact ⟨s11.1, by omega⟩, by rw [m7]; exact s12⟩
      have hrb : 0 ≤ rx.base ∧ rx.base ≤ 1152921504606846976 := by rw [m7]; exact s12
      have hrf : rx.from_ ≤ 100000 := by rw [m1, s1]; omega
      obtain ⟨bs, hbs⟩ : ∃ b, rx.base = b := ⟨_, rfl⟩
      obtain ⟨nx, hnx⟩ : ∃ b, rx.next = b := ⟨_, rfl⟩
      rw [hbs] at q7 hrb
      rw [hnx] at q9 hnxt
      rw [show y.base = bs by rw [← hbs, m7]] at hnxt
      have hrl1 := hnxt.2.2 hrb.1
      have HBS := Lib.hid hbs
      have HNX := Lib.hid hnx
      clear hbs hnx m1 m2 m3 m4 m5 m6 m7 m8 m9 m10 s1 s2 s3 s4 s5 s6 s7 s8 s9 s10 s11 s12
      have z1 := HBL.out.size
      have z2 := HT.out.size
      have z3 := HT5.out.size
      have HBB : Hid (w.heap.size < w5.heap.size ∧ w.heap.size < B5 ∧ p < B5) := Lib.hid (by have := HB5.out; have := HLG.out.lg.lt; exact ⟨by omega, by omega, by omega⟩)
      have tW : Tr M w wr := (Tr.of_below HBL.out).trans HT.out (fun b hb e => by omega)
      have HT05 : Hid (Tr M w w5) := Lib.hid (tW.trans HT5.out (fun b hb e => e.elim (fun e => by omega) (fun e => absurd e (Blo.none b))))
      have HA2 : Hid (∀ b, Blo A5 b → w.heap.size < b) := Lib.hid (fun b hb => (HA5.out b hb).elim (fun e => absurd e (Blo.none b)) (fun e => by have := HLG.out.lg.lt; omega))
      clear tW
      have w1 : IntKind.i64.wrap (bs + 1) = bs + 1 := by rw [IntKind.wrap_i64]; omega
      by_cases q : nx ≤ bs
      · have k1 : decide (nx ≤ bs) = true := decide_eq_true q
        have q8 := HL5.out.lg.cell 8
        have f8 := HL5.out.lg.frozen 8
        have f9 := HL5.out.lg.frozen 9
        simp [lgCells] at q8
        obtain ⟨x2, hx2⟩ : ∃ x2 : LG, { rx with chain := [], next := bs + 1 } = x2 := ⟨_, rfl⟩
        have HCL : Hid (∀ n, LgAt (((w5.drewN n).setCell ⟨p, 8, none⟩ (.slice none 0 0)).setCell ⟨p, 9, none⟩ (.int .i64 (bs + 1))) p d x2 none 0 D M R ∧ Tr (fun b => b = p) w5 (((w5.drewN n).setCell ⟨p, 8, none⟩ (.slice none 0 0)).setCell ⟨p, 9, none⟩ (.int .i64 (bs + 1)))) := Lib.hid (fun n => by
          rw [← hx2]
          obtain ⟨a1, a2⟩ := (HL5.out.below (bl_drewN w5 n)).cleared (bs + 1)
          exact ⟨a1, (Tr.of_below (bl_drewN w5 n)).trans a2 (fun b _ e => e)⟩)
        have HN2 : Hid x2.Nums := Lib.hid (by rw [← hx2]; obtain ⟨a1, a2, a3, a4⟩ := HNU.out; exact ⟨a1, a2, a3, a4⟩)
        have HF2 : x2.from_ ≤ 100000 := by rw [← hx2]; exact hrf
        have HBS2 : Hid (x2.base = bs) := Lib.hid (by rw [← hx2]; exact HBS.out)
        have HT2 := Lib.hid (fun n => (HCL.out n).2)
        have HM2 := Lib.hid (fun n => (HT2.out n).blk HM5.out (fun e => hwp e))
        have HR2 := Lib.hid (fun (n : Nat) => RecRow.nil (((w5.drewN n).setCell ⟨p, 8, none⟩ (.slice none 0 0)).setCell ⟨p, 9, none⟩ (.int .i64 (bs + 1))) B5)
        have HPUT := Lib.hid (fun n => put_any (HCL.out n).1 HN2.out HF2 hfew)
        clear HA2
        have HA2 : Hid (∀ b, Blo none b → w.heap.size < b) := Lib.hid (fun b hb => absurd hb (Blo.none b))
        have HOR0 : Hid (openR D Fr Sg P = ⟨x2.putX D, ([] : List (List Int)).drop 0, x2.putE D, x2.putD D⟩) := Lib.hid (by
          unfold openR
          rw [HYY.out, HRR.out]
          unfold LG.fixX
          rw [if_pos (by show rx.next ≤ rx.base; rw [HNX.out, HBS.out]; omega)]
          simp only
          have e : ({ rx with chain := [], next := rx.base + 1 } : LG) = x2 := by rw [← hx2, HBS.out]
          rw [e]
          simp)
        clear hx2 HNX HCL hnxt
        go_wp2_with fail
        go_quiet (fail)
        go_wp2_with fail
        go_region
        obtain ⟨er, her⟩ : ∃ e, x2.putE D = e := ⟨_, rfl⟩
        have HER := Lib.hid her
        rw [her] at HPUT
        clear her
        have HOR : Hid (openR D Fr Sg P = ⟨x2.putX D, ([] : List (List Int)).drop 0, er, x2.putD D⟩) := Lib.hid (by
          rw [← HER.out]
          exact HOR0.out)
        clear HOR0
        by_cases r : er = 0
        · have hpx : x2.putX D = { x2 with epoch := x2.epoch + 1 } := if_pos (HER.out.trans r)
          rw [hpx] at HPUT HOR
          clear hpx
          subst r
          go_wp2_with (first
            | (go_at_call 32; (with_reducible refine (HPUT.out _).mono ?_); rintro e w6 ⟨M6, R6, rfl, hl6, hm6, hr6, ht6⟩; have u5 := hl6.lg.cell 5; have u6 := hl6.lg.cell 6; have u7 := hl6.lg.cell 7; simp [lgCells] at u5 u6 u7; rw [HBS2.out] at u7; have HR6 := Lib.hid ((HR2.out _).tr ht6 (fun b h1 h2 e => e.elim (fun e => by have := HD.out.mlt _ e; have := HBB.out; omega) (fun e => by have := HBB.out; omega))); have hm6' := Lib.hid (fun b hb => (hm6 b hb).imp (fun e => e) (Nat.le_trans (HT2.out _).size)); have hr6' := Lib.hid (fun b hb => (hr6 b hb).imp (fun e => e) (Nat.le_trans (HT2.out _).size)); have HT6 := Lib.hid (((HT2.out _).mono (fun b _ e => Or.inr e)).trans ht6 (fun b _ e => e)); have hmm := ht6.blk (HM2.out _) (fun e => e.elim (fun h => by have := HD.out.mlt _ h; omega) hwp); have r0 := hmm.cell 0; have r1 := hmm.cell 1; have r2 := hmm.cell 2; have g0 := hmm.frozen 0; have g1 := hmm.frozen 1; have g2 := hmm.frozen 2; simp at r0 r1 r2; have HM6 := Lib.hid hmm; clear hmm hm6 hr6 ht6; have HL6 := Lib.hid hl6; clear hl6))
          go_region
          skip
          go_wp2_with fail
          have hf := (((HM6.out.set_ 0 (.int .i64 x2.term)).set_ 1 (.int .i64 x2.vote)).set_ 2 (.int .i64 bs)).drew
          have x0 := (hf.cell 0).trans (show _ = some (Value.int .i64 x2.term) from rfl)
          have x1 := (hf.cell 1).trans (show _ = some (Value.int .i64 x2.vote) from rfl)
          have x2' := (hf.cell 2).trans (show _ = some (Value.int .i64 bs) from rfl)
          refine bodyPost_ret (v := .tuple #[.pointer (some ⟨p, 0, none⟩), .slice none 0 0, .agg #[.int .i64 x2.term, .int .i64 x2.vote, .int .i64 bs], .int .i64 0]) (by simp [results, Try.results7, go_sem, x0, x1, x2']) rfl ?_
          rw [← HBS2.out]
          have hm7 : ∀ b, M6 b → M b ∨ w.heap.size < b := fun b hb => (hm6'.out b hb).imp id (fun e => by have := HBB.out; omega)
          have hr7 : ∀ b, R6 b → R b ∨ w.heap.size < b := fun b hb => (hr6'.out b hb).imp id (fun e => by have := HBB.out; omega)
          have t6 : Tr M w w6 := HT05.out.trans HT6.out (fun b hb e => e.elim id (fun e => by omega))
          exact RetOpn.good (kk := 0) (x6 := { x2 with epoch := x2.epoch + 1 }) HL6.out HR6.out (by omega) (by have := HBB.out; omega) (by omega) HA2.out hm7 hr7 HD.out.mlt HD.out.rlt t6 (((((Tr.refl (fun b => b = w.heap.size) w6).setCell (p := ⟨w.heap.size, 0, none⟩) (fun _ => rfl) _).setCell (p := ⟨w.heap.size, 1, none⟩) (fun _ => rfl) _).setCell (p := ⟨w.heap.size, 2, none⟩) (fun _ => rfl) _).drew) HOR.out
        · have k2 : (er == 0) = false := by simp [r]
          have hpx : x2.putX D = { x2 with dead := true } := if_neg (fun h => r (HER.out.symm.trans h))
          rw [hpx] at HPUT HOR
          clear hpx
          go_wp2_with (first
            | (go_at_call 32; (with_reducible refine (HPUT.out _).mono ?_); rintro e w6 ⟨M6, R6, rfl, hl6, hm6, hr6, ht6⟩; have hm6' := Lib.hid (fun b hb => (hm6 b hb).imp (fun e => e) (Nat.le_trans (HT2.out _).size)); have hr6' := Lib.hid (fun b hb => (hr6 b hb).imp (fun e => e) (Nat.le_trans (HT2.out _).size)); have HT6 := Lib.hid (((HT2.out _).mono (fun b _ e => Or.inr e)).trans ht6 (fun b _ e => e)); have hmm := ht6.blk (HM2.out _) (fun e => e.elim (fun h => by have := HD.out.mlt _ h; omega) hwp); have r0 := hmm.cell 0; have r1 := hmm.cell 1; have r2 := hmm.cell 2; have g0 := hmm.frozen 0; have g1 := hmm.frozen 1; have g2 := hmm.frozen 2; simp at r0 r1 r2; have HM6 := Lib.hid hmm; clear hmm hm6 hr6 ht6; have HL6 := Lib.hid hl6; clear hl6))
          have hf := ((HM6.out.set_ 0 (.int .i64 0)).set_ 1 (.int .i64 0)).set_ 2 (.int .i64 0)
          have x0 := (hf.cell 0).trans (show _ = some (Value.int .i64 0) from rfl)
          have x1 := (hf.cell 1).trans (show _ = some (Value.int .i64 0) from rfl)
          have x2' := (hf.cell 2).trans (show _ = some (Value.int .i64 0) from rfl)
          refine bodyPost_ret (v := .tuple #[.pointer none, .slice none 0 0, .agg #[.int .i64 0, .int .i64 0, .int .i64 0], .int .i64 er]) (by simp [results, Try.results7, go_sem, x0, x1, x2']) rfl ?_
          have t6 : Tr M w w6 := HT05.out.trans HT6.out (fun b hb e => e.elim id (fun e => by omega))
          have ts : Tr (fun b => b = w.heap.size) w6 (((w6.setCell ⟨w.heap.size, 0, none⟩ (.int .i64 0)).setCell ⟨w.heap.size, 1, none⟩ (.int .i64 0)).setCell ⟨w.heap.size, 2, none⟩ (.int .i64 0)) := (((Tr.refl (fun b => b = w.heap.size) w6).setCell (p := ⟨w.heap.size, 0, none⟩) (fun _ => rfl) _).setCell (p := ⟨w.heap.size, 1, none⟩) (fun _ => rfl) _).setCell (p := ⟨w.heap.size, 2, none⟩) (fun _ => rfl) _
          exact RetOpn.bad r (HL6.out.dk.tr ts (fun b hb e => (hm6'.out b hb).elim (fun h => by have := HD.out.mlt _ h; omega) (fun h => by have := HBB.out; omega)) (fun b hb e => (hr6'.out b hb).elim (fun h => by have := HD.out.rlt _ h; omega) (fun h => by have := HBB.out; omega))) (fun b hb => (hm6'.out b hb).imp id (fun e => by have := HBB.out; omega)) (fun b hb => (hr6'.out b hb).imp id (fun e => by have := HBB.out; omega)) (t6.trans ts (fun b hb e => by omega)) HOR.out
      · have k1 : decide (nx ≤ bs) = false := decide_eq_false q
        obtain ⟨kk, hkk⟩ : ∃ kk : Nat, bs + 1 - rl = (kk : Int) := Int.eq_ofNat_of_zero_le (by omega)
        obtain ⟨nn, hnn⟩ : ∃ nn, ro.length = nn := ⟨_, rfl⟩
        have hkn : kk ≤ nn := by omega
        obtain ⟨nc, hnc⟩ : ∃ nc : Nat, nn ≤ cr := by
          obtain ⟨vs, hv, _⟩ := HR5.out
          obtain ⟨A', c', e, h1, _⟩ := ownsRow_slice hv
          injection e with e1 e2 e3
          exact ⟨0, by omega⟩
        have w2 : IntKind.i64.wrap (kk : Int) = (kk : Int) := by rw [IntKind.wrap_i64]; omega
        have HBS2 := HBS
        have HT2 := Lib.hid (fun n => (Tr.of_below (F := fun b => b = p) (bl_drewN w5 n)))
        have HM2 := Lib.hid (fun n => (HT2.out n).blk HM5.out (fun e => hwp e))
        have HR2 := Lib.hid (fun n => HR5.out.below (bl_drewN w5 n))
        have HPUT := Lib.hid (fun n => put_any (HL5.out.below (bl_drewN w5 n)) HNU.out hrf hfew)
        have HOR0 : Hid (openR D Fr Sg P = ⟨rx.putX D, ro.drop kk, rx.putE D, rx.putD D⟩) := Lib.hid (by
          unfold openR
          rw [HYY.out, HRR.out]
          unfold LG.fixX
          rw [if_neg (by show ¬ rx.next ≤ rx.base; rw [HNX.out, HBS.out]; omega)]
          simp only
          congr 2
          rw [HBS.out, hkk]
          omega)
        go_wp2_with fail
        go_quiet (fail)
        obtain ⟨er, her⟩ : ∃ e, rx.putE D = e := ⟨_, rfl⟩
        have HER := Lib.hid her
        rw [her] at HPUT
        clear her
        have HOR : Hid (openR D Fr Sg P = ⟨rx.putX D, ro.drop kk, er, rx.putD D⟩) := Lib.hid (by
          rw [← HER.out]
          exact HOR0.out)
        clear HOR0
        by_cases r : er = 0
        · have hpx : rx.putX D = { rx with epoch := rx.epoch + 1 } := if_pos (HER.out.trans r)
          rw [hpx] at HPUT HOR
          clear hpx
          subst r
          go_wp2_with (first
            | (go_at_call 32; (with_reducible refine (HPUT.out _).mono ?_); rintro e w6 ⟨M6, R6, rfl, hl6, hm6, hr6, ht6⟩; have u5 := hl6.lg.cell 5; have u6 := hl6.lg.cell 6; have u7 := hl6.lg.cell 7; simp [lgCells] at u5 u6 u7; rw [HBS2.out] at u7; have HR6 := Lib.hid ((HR2.out _).tr ht6 (fun b h1 h2 e => e.elim (fun e => by have := HD.out.mlt _ e; have := HBB.out; omega) (fun e => by have := HBB.out; omega))); have hm6' := Lib.hid (fun b hb => (hm6 b hb).imp (fun e => e) (Nat.le_trans (HT2.out _).size)); have hr6' := Lib.hid (fun b hb => (hr6 b hb).imp (fun e => e) (Nat.le_trans (HT2.out _).size)); have HT6 := Lib.hid (((HT2.out _).mono (fun b _ e => Or.inr e)).trans ht6 (fun b _ e => e)); have hmm := ht6.blk (HM2.out _) (fun e => e.elim (fun h => by have := HD.out.mlt _ h; omega) hwp); have r0 := hmm.cell 0; have r1 := hmm.cell 1; have r2 := hmm.cell 2; have g0 := hmm.frozen 0; have g1 := hmm.frozen 1; have g2 := hmm.frozen 2; simp at r0 r1 r2; have HM6 := Lib.hid hmm; clear hmm hm6 hr6 ht6; have HL6 := Lib.hid hl6; clear hl6))
          go_region
          generalize hA9 : (if cr = kk then Ar else Option.map (fun x => x.add kk) Ar) = A9
          have HA9 := Lib.hid hA9
          clear hA9
          go_wp2_with fail
          have hf := (((HM6.out.set_ 0 (.int .i64 rx.term)).set_ 1 (.int .i64 rx.vote)).set_ 2 (.int .i64 bs)).drew
          have x0 := (hf.cell 0).trans (show _ = some (Value.int .i64 rx.term) from rfl)
          have x1 := (hf.cell 1).trans (show _ = some (Value.int .i64 rx.vote) from rfl)
          have x2 := (hf.cell 2).trans (show _ = some (Value.int .i64 bs) from rfl)
          refine bodyPost_ret (v := .tuple #[.pointer (some ⟨p, 0, none⟩), .slice A9 (nn - kk) (cr - kk), .agg #[.int .i64 rx.term, .int .i64 rx.vote, .int .i64 bs], .int .i64 0]) (by simp [results, Try.results7, go_sem, x0, x1, x2]) rfl ?_
          rw [← HA9.out, ← hnn, ← HBS2.out]
          have hm7 : ∀ b, M6 b → M b ∨ w.heap.size < b := fun b hb => (hm6'.out b hb).imp id (fun e => by have := HBB.out; omega)
          have hr7 : ∀ b, R6 b → R b ∨ w.heap.size < b := fun b hb => (hr6'.out b hb).imp id (fun e => by have := HBB.out; omega)
          have t6 : Tr M w w6 := HT05.out.trans HT6.out (fun b hb e => e.elim id (fun e => by omega))
          exact RetOpn.good (kk := kk) (x6 := { rx with epoch := rx.epoch + 1 }) HL6.out HR6.out (by omega) (by have := HBB.out; omega) (by omega) HA2.out hm7 hr7 HD.out.mlt HD.out.rlt t6 (((((Tr.refl (fun b => b = w.heap.size) w6).setCell (p := ⟨w.heap.size, 0, none⟩) (fun _ => rfl) _).setCell (p := ⟨w.heap.size, 1, none⟩) (fun _ => rfl) _).setCell (p := ⟨w.heap.size, 2, none⟩) (fun _ => rfl) _).drew) HOR.out
        · have k2 : (er == 0) = false := by simp [r]
          have hpx : rx.putX D = { rx with dead := true } := if_neg (fun h => r (HER.out.symm.trans h))
          rw [hpx] at HPUT HOR
          clear hpx
          go_wp2_with (first
            | (go_at_call 32; (with_reducible refine (HPUT.out _).mono ?_); rintro e w6 ⟨M6, R6, rfl, hl6, hm6, hr6, ht6⟩; have hm6' := Lib.hid (fun b hb => (hm6 b hb).imp (fun e => e) (Nat.le_trans (HT2.out _).size)); have hr6' := Lib.hid (fun b hb => (hr6 b hb).imp (fun e => e) (Nat.le_trans (HT2.out _).size)); have HT6 := Lib.hid (((HT2.out _).mono (fun b _ e => Or.inr e)).trans ht6 (fun b _ e => e)); have hmm := ht6.blk (HM2.out _) (fun e => e.elim (fun h => by have := HD.out.mlt _ h; omega) hwp); have r0 := hmm.cell 0; have r1 := hmm.cell 1; have r2 := hmm.cell 2; have g0 := hmm.frozen 0; have g1 := hmm.frozen 1; have g2 := hmm.frozen 2; simp at r0 r1 r2; have HM6 := Lib.hid hmm; clear hmm hm6 hr6 ht6; have HL6 := Lib.hid hl6; clear hl6))
          have hf := ((HM6.out.set_ 0 (.int .i64 0)).set_ 1 (.int .i64 0)).set_ 2 (.int .i64 0)
          have x0 := (hf.cell 0).trans (show _ = some (Value.int .i64 0) from rfl)
          have x1 := (hf.cell 1).trans (show _ = some (Value.int .i64 0) from rfl)
          have x2 := (hf.cell 2).trans (show _ = some (Value.int .i64 0) from rfl)
          refine bodyPost_ret (v := .tuple #[.pointer none, .slice none 0 0, .agg #[.int .i64 0, .int .i64 0, .int .i64 0], .int .i64 er]) (by simp [results, Try.results7, go_sem, x0, x1, x2]) rfl ?_
          have t6 : Tr M w w6 := HT05.out.trans HT6.out (fun b hb e => e.elim id (fun e => by omega))
          have ts : Tr (fun b => b = w.heap.size) w6 (((w6.setCell ⟨w.heap.size, 0, none⟩ (.int .i64 0)).setCell ⟨w.heap.size, 1, none⟩ (.int .i64 0)).setCell ⟨w.heap.size, 2, none⟩ (.int .i64 0)) := (((Tr.refl (fun b => b = w.heap.size) w6).setCell (p := ⟨w.heap.size, 0, none⟩) (fun _ => rfl) _).setCell (p := ⟨w.heap.size, 1, none⟩) (fun _ => rfl) _).setCell (p := ⟨w.heap.size, 2, none⟩) (fun _ => rfl) _
          exact RetOpn.bad r (HL6.out.dk.tr ts (fun b hb e => (hm6'.out b hb).elim (fun h => by have := HD.out.mlt _ h; omega) (fun h => by have := HBB.out; omega)) (fun b hb e => (hr6'.out b hb).elim (fun h => by have := HD.out.rlt _ h; omega) (fun h => by have := HBB.out; omega))) (fun b hb => (hm6'.out b hb).imp id (fun e => by have := HBB.out; omega)) (fun b hb => (hr6'.out b hb).imp id (fun e => by have := HBB.out; omega)) (t6.trans ts (fun b hb e => by omega)) HOR.out
end
end Go.Proofs.Ytceajiliahmkaaa
