/- Contracts of the program's package disk: Write for any arguments, Crash. -/
import Derived.Test.YthlijldapoeepaaGreatM3
import Derived.Test.YthlijldapoeepaaGreatM2
import Derived.RangeFuncNested
import Derived.RangeFuncBound
import Derived.RangeFuncCalls
import Derived.RangeFuncLeaves
import Derived.RangeFuncFrom
import Derived.RangeFuncOne
import Derived.Shelf.Abstract
import Derived.Shelf.RegionOpen
import Derived.OwnWalkIn
import Derived.TacticsInMore
import Derived.LoopNIn
import Derived.LoopIn
import Derived.Test.YthlijldapoeepaaGreatM1
set_option maxRecDepth 100000
namespace Go.Proofs.YthlijldapoeepaaGreat.Dk
set_option linter.unusedVariables false
open Go.RowKit

/-- A call on a disk: the error, the disk behind it. -/
def RetW (w : World) (g : Nat) (M R : Nat → Prop) (D' : DS) (err : Int) (e : Ending) (w' : World) : Prop :=
  e = .returned (.int .i64 err) ∧ ∃ M' R', IsDisk w' g D' M' R' ∧ (∀ b, M' b → M b ∨ w.heap.size ≤ b) ∧ (∀ b, R' b → R b ∨ w.heap.size ≤ b) ∧ Tr M w w'

section
variable {g : Nat} {D : DS} {M R : Nat → Prop} {w : World}
theorem RetW.same {err : Int} {e : Ending} {w' : World} (hd : IsDisk w g D M R) (he : e = .returned (.int .i64 err)) (hb : Below w.heap.size w w') : RetW w g M R D err e w' :=
  ⟨he, M, R, hd.below hb, fun b h => .inl h, fun b h => .inl h, Tr.of_below hb⟩

set_option maxHeartbeats 400000 in
theorem write_any (A : Option Addr) (c : Nat) (l : List Int) (a : Int) (hd : IsDisk w g D M R) (hr : Rd w A (by8 l)) (hB : isB l) (hl : l.length ≤ 140737488351232) (hfew : D.gs.length < 1000000) (ha : -9223372036854775808 ≤ a ∧ a ≤ 9223372036854775807) :
    Calls Tryz.prog 50 #[.pointer (some ⟨g, 0, none⟩), .int .i64 a, .slice A l.length c] w (RetW w g M R (writeD D a l) (writeE D a l)) := by
  have HD := Lib.hid hd
  have hsecs : ((l.length : Int) + 256 - 1) / 256 = (secs l : Int) := by unfold secs; omega
  have hsecs2 : ((l.length : Int) + 255) / 256 = (secs l : Int) := by unfold secs; omega
  have hs2 : secs l ≤ 140737488351232 := by unfold secs; omega
  have hd' := hd
  obtain ⟨bs, cs, bn, cn, Al, cl, cells, h⟩ := hd'
  have c4 := h.blk.cell 4
  simp at c4
  cases hdead : D.dead with
  | true =>
    rw [show writeD D a l = D from if_pos hdead, show writeE D a l = 21 from if_pos hdead]
    rw [hdead] at c4
    clear hd hr h
    go_enter Tryz.func50, Tryz.ntmps50
    go_wp2_with fail
    go_ret
    exact RetW.same HD.out (by rfl) (Below.refl _ _)
  | false =>
    rw [hdead] at c4
    have hw1 := wrong_any (w := w) a (secs l) hd (by omega)
    cases hw : wrongD D.n a (secs l) with
    | true =>
      rw [hw] at hw1
      rw [show writeD D a l = D from by unfold writeD; rw [if_neg (by rw [hdead]; decide), if_pos hw], show writeE D a l = 1 from by unfold writeE; rw [if_neg (by rw [hdead]; decide), if_pos hw]]
      have HW1 := Lib.hid hw1
      clear hd hr h hw1
      go_enter Tryz.func50, Tryz.ntmps50
      go_wp2_with (first | (go_at_call 55; (with_reducible refine HW1.out.mono ?_); rintro e w1 ⟨rfl, rfl⟩))
      go_ret
      exact RetW.same HD.out (by rfl) (Below.refl _ _)
    | false =>
      obtain ⟨q1, q2, q3, q4⟩ := wrongD_no hw
      have hm := h.ok.most
      obtain ⟨a, rfl⟩ := Int.eq_ofNat_of_zero_le q1
      rw [show writeD D a l = D.put a (pad l) from by unfold writeD; rw [if_neg (by rw [hdead]; decide), if_neg (by rw [hw]; decide)]; rfl, show writeE D a l = 0 from by unfold writeE; rw [if_neg (by rw [hdead]; decide), if_neg (by rw [hw]; decide)]]
      exact write_ok A c l a hd hr hB (by unfold secs at q3; omega) hdead hw hfew

theorem _root_.Go.Proofs.YthlijldapoeepaaGreat.Rd.tr_ne {w w' : World} {A : Option Addr} {xs : List Value} {F : Nat → Prop} (h : Rd w A xs) (ht : Tr F w w') (hn : xs ≠ [] → ∀ b, Blo A b → ¬ F b) : Rd w' A xs := by
  cases xs with
  | nil => exact Rd.nil
  | cons x xs => exact h.tr ht (fun ad e => hn (by simp) _ (by subst e; rfl))
theorem _root_.Go.Proofs.YthlijldapoeepaaGreat.Rd.blo_lt {w : World} {A : Option Addr} {xs : List Value} (h : Rd w A xs) (hne : xs ≠ []) : ∀ b, Blo A b → b < w.heap.size := fun b hb => by
  obtain ⟨ad, e, hlt, _⟩ := h.at_ (k := 0) (by cases xs with | nil => exact absurd rfl hne | cons _ _ => simp)
  subst e
  exact (Blo.some_iff _ _).1 hb ▸ hlt
/-- Ints as values. -/
def byI (l : List Int) : List Value := l.map (.int .i64 ·)
theorem byI_length (l : List Int) : (byI l).length = l.length := List.length_map ..

theorem crashG_length {x : Int} {at_ : Nat} {d : List Int} {m : Nat} : ∀ {k : Nat} {s : List Int}, s.length = 256 * m → 256 * k ≤ d.length → at_ + k ≤ m → (crashG x at_ d k s).length = 256 * m
  | 0, _, hs, _, _ => hs
  | k + 1, s, hs, hd, ha => by
    have ih := crashG_length (x := x) (at_ := at_) (d := d) (k := k) hs (by omega) (by omega)
    unfold crashG
    by_cases hb : keptBit x k = true
    · simp only [hb, if_true]
      rw [length_splice _ _ _ (by rw [ih, List.length_take, List.length_drop]; omega), ih]
    · simp only [hb]
      exact ih
theorem crashG_isB {x : Int} {at_ : Nat} {d : List Int} (hd : isB d) : ∀ {k : Nat} {s : List Int}, isB s → isB (crashG x at_ d k s)
  | 0, _, hs => hs
  | k + 1, s, hs => by
    have ih := crashG_isB (x := x) (at_ := at_) hd (k := k) hs
    unfold crashG
    by_cases hb : keptBit x k = true
    · simp only [hb, if_true]
      exact splice_isB ih ((hd.drop _).take _)
    · simp only [hb]
      exact ih
theorem crashG_yes {x : Int} {at_ : Nat} {d s : List Int} {k : Nat} (h : keptBit x k = true) : crashG x at_ d (k + 1) s = splice (crashG x at_ d k s) (256 * (at_ + k)) ((d.drop (256 * k)).take 256) := by
  show (if keptBit x k = true then _ else _) = _
  rw [if_pos h]
theorem crashG_no {x : Int} {at_ : Nat} {d s : List Int} {k : Nat} (h : keptBit x k = false) : crashG x at_ d (k + 1) s = crashG x at_ d k s := by
  show (if keptBit x k = true then _ else _) = _
  rw [if_neg (by rw [h]; decide)]
theorem crashL_at {kept : List Int} {gs : List (Nat × List Int)} {s : List Int} {i : Nat} (h1 : i < gs.length) (h2 : i < kept.length) :
    crashL kept gs (i + 1) s = crashG kept[i] gs[i].1 gs[i].2 (gs[i].2.length / 256) (crashL kept gs i s) := by
  show (match gs[i]?, kept[i]? with | some g, some x => _ | _, _ => _) = _
  rw [List.getElem?_eq_getElem h1, List.getElem?_eq_getElem h2]
theorem crashL_past {kept : List Int} {gs : List (Nat × List Int)} {s : List Int} {i : Nat} (h2 : kept.length ≤ i) : crashL kept gs (i + 1) s = crashL kept gs i s := by
  show (match gs[i]?, kept[i]? with | some g, some x => _ | _, _ => _) = _
  rw [List.getElem?_eq_none h2]
  cases gs[i]? <;> rfl
theorem crashL_end {kept : List Int} {gs : List (Nat × List Int)} {s : List Int} {i : Nat} (h2 : kept.length ≤ i) : ∀ j, i ≤ j → crashL kept gs j s = crashL kept gs i s
  | 0, h => by rw [show i = 0 from by omega]
  | j + 1, h => by
    by_cases e : i = j + 1
    · rw [e]
    · rw [crashL_past (by omega), crashL_end h2 j (by omega)]
theorem crashL_length {D : DS} (ho : D.Ok) (kept : List Int) : ∀ {i : Nat}, i ≤ D.gs.length → (crashL kept D.gs i D.safe).length = 256 * D.n
  | 0, _ => ho.len
  | i + 1, h => by
    have ih := crashL_length ho kept (i := i) (by omega)
    by_cases h2 : i < kept.length
    · rw [crashL_at (by omega) h2]
      obtain ⟨_, k, h3, h4, h5⟩ := ho.gs _ (List.getElem_mem (show i < D.gs.length by omega))
      exact crashG_length ih (by omega) (by rw [h4]; omega)
    · rw [crashL_past (by omega)]
      exact ih
theorem crashL_isB {D : DS} (ho : D.Ok) (kept : List Int) : ∀ {i : Nat}, i ≤ D.gs.length → isB (crashL kept D.gs i D.safe)
  | 0, _ => ho.bs
  | i + 1, h => by
    have ih := crashL_isB ho kept (i := i) (by omega)
    by_cases h2 : i < kept.length
    · rw [crashL_at (by omega) h2]
      exact crashG_isB (ho.gs _ (List.getElem_mem (show i < D.gs.length by omega))).1 ih
    · rw [crashL_past (by omega)]
      exact ih
theorem crash_ok {D : DS} (ho : D.Ok) (kept : List Int) : (crashD D kept).Ok := by
  have h1 := crashL_length ho kept (Nat.le_refl _)
  have h2 := crashL_isB ho kept (Nat.le_refl _)
  have hn : (crashD D kept).n = D.n := by show (crashL kept D.gs D.gs.length D.safe).length / 256 = _; rw [h1]; omega
  refine ⟨by rw [hn]; exact ho.pos, by rw [hn]; exact ho.most, by rw [hn]; exact h1, by rw [hn]; exact h1, h2, h2, fun x hx => ?_⟩
  cases hx

theorem i64_and1 (n : Int) : bits .and .i64 n 1 = n % 2 := by
  have h1 : (BitVec.ofInt 64 1).toNat = 2 ^ 1 - 1 := by decide
  have key : (BitVec.ofInt 64 n &&& BitVec.ofInt 64 1).toNat = (n % ((2 ^ 64 : Nat) : Int)).toNat % 2 ^ 1 := by
    rw [BitVec.toNat_and, BitVec.toNat_ofInt, h1, Nat.and_two_pow_sub_one_eq_mod]
  show IntKind.i64.wrap ((BitVec.ofInt 64 n &&& BitVec.ofInt 64 1).toNat : Nat) = n % 2
  rw [key, IntKind.wrap_i64]
  omega
theorem bit_kept (x : Int) (k : Nat) : (bits .and .i64 (x / 2 ^ (k % 16)) 1 == 1) = keptBit x k := by
  rw [i64_and1]
  rfl

set_option maxHeartbeats 400000 in
theorem part_gen (b : Nat) (len cap at_ : Nat) (a' n' : Int) (ha : a' = at_) (hn' : n' = 1) (w : World) (hfit : (at_ + 1) * 256 ≤ cap) (hsm : at_ ≤ 1000000) (hcap : cap ≤ 9223372036854775807) :
    Calls Tryz.prog 46 #[.slice (some ⟨b, 0, none⟩) len cap, .int .i64 a', .int .i64 n'] w fun e w' => e = .returned (.slice (some ⟨b, 256 * at_, none⟩) 256 256) ∧ w = w' := by
  subst ha
  subst hn'
  go_enter Tryz.func46, Tryz.ntmps46
  go_wp2_with fail
  go_ret
  refine ⟨?_, rfl⟩
  show Ending.returned (Value.slice (some ⟨b, at_ * 256, none⟩) ((at_ + 1) * 256 - at_ * 256) ((at_ + 1) * 256 - at_ * 256)) = _
  rw [show (at_ + 1) * 256 - at_ * 256 = 256 from by omega, Nat.mul_comm at_ 256]

theorem _root_.Go.Proofs.YthlijldapoeepaaGreat.Rd.mid2 {w : World} {b n : Nat} {l : List Int} (h : Rd w (some ⟨b, 0, none⟩) (by8 l)) (o : Nat) : Rd w (some ⟨b, o, none⟩) (by8 ((l.drop o).take n)) := fun j u hj => by
  refine ⟨_, rfl, ?_⟩
  rw [← by8_take, ← by8_drop, List.getElem?_take] at hj
  split at hj
  · rw [List.getElem?_drop] at hj
    obtain ⟨ad, e, hc⟩ := h _ _ hj
    injection e with e
    subst e
    rw [add_lit] at hc ⊢
    simpa using hc
  · cases hj

theorem _root_.Go.Proofs.YthlijldapoeepaaGreat.Blk.five {w : World} {g : Nat} {t : TypeId} {a0 a1 a2 a3 a4 : Value} (h : Blk w g t #[a0, a1, a2, a3, a4]) (b0 b1 b2 b3 b4 : Value) :
    Blk (((((w.setCell ⟨g, 0, none⟩ b0).setCell ⟨g, 1, none⟩ b1).setCell ⟨g, 2, none⟩ b2).setCell ⟨g, 3, none⟩ b3).setCell ⟨g, 4, none⟩ b4) g t #[b0, b1, b2, b3, b4] := by
  have := ((((h.set_ 0 b0).set_ 1 b1).set_ 2 b2).set_ 3 b3).set_ 4 b4
  simpa using this
theorem _root_.Go.Proofs.YthlijldapoeepaaGreat.Tr.five (w : World) (g : Nat) (b0 b1 b2 b3 b4 : Value) : Tr (fun b => b = g) w (((((w.setCell ⟨g, 0, none⟩ b0).setCell ⟨g, 1, none⟩ b1).setCell ⟨g, 2, none⟩ b2).setCell ⟨g, 3, none⟩ b3).setCell ⟨g, 4, none⟩ b4) :=
  (((((Tr.refl (fun b => b = g) w).setCell (p := ⟨g, 0, none⟩) (fun _ => rfl) b0).setCell (p := ⟨g, 1, none⟩) (fun _ => rfl) b1).setCell (p := ⟨g, 2, none⟩) (fun _ => rfl) b2).setCell (p := ⟨g, 3, none⟩) (fun _ => rfl) b3).setCell (p := ⟨g, 4, none⟩) (fun _ => rfl) b4
theorem hcs_of {a j q n cs : Nat} (h : 256 * n ≤ cs) (h2 : a + q ≤ n) (h3 : j < q) : (a + j + 1) * 256 ≤ cs := by omega
theorem DAt.caps {bs cs bn cn : Nat} {Al : Option Addr} {cl : Nat} {cells : List Value} (h : DAt w g D M R bs cs bn cn Al cl cells) : 256 * D.n ≤ cs ∧ cs ≤ 9223372036854775807 := by
  obtain ⟨A, c, hv, hc, _, hm⟩ := ownsRow_slice h.safe
  injection hv with _ _ hv
  simp only [maxLen] at hm
  have := h.ok.len
  omega

theorem crash_at {bs cs bn cn : Nat} {Al : Option Addr} {cl : Nat} {cells : List Value} {kept : List Int} (h : DAt w g D M R bs cs bn cn Al cl cells) {W w5 : World} (htW : Tr (fun b => b = bs) w W) {S : List Int}
    (ho : W.ownsRow 0 5 1 (.slice (some ⟨bs, 0, none⟩) D.safe.length cs) D.safe.length (by8 S)) (hS : crashL kept D.gs D.gs.length D.safe = S) {A5 : Option Addr} {c5 : Nat}
    (ho5 : w5.ownsRow W.heap.size 5 1 (.slice A5 D.safe.length c5) D.safe.length (by8 S)) (hb5 : Below W.heap.size W w5) {a0 a1 a2 a3 a4 : Value} (hk : Blk w5 g 89 #[a0, a1, a2, a3, a4]) :
    RetW w g M R (crashD D kept) 0 (.returned (.int .i64 0)) (((((w5.setCell ⟨g, 0, none⟩ (.slice (some ⟨bs, 0, none⟩) D.safe.length cs)).setCell ⟨g, 1, none⟩ (.slice A5 D.safe.length c5)).setCell ⟨g, 2, none⟩ (.slice none 0 0)).setCell ⟨g, 3, none⟩ (.bool false)).setCell ⟨g, 4, none⟩ (.bool false)) := by
  have hSl : S.length = D.safe.length := by rw [← hS, crashL_length h.ok kept (Nat.le_refl _), h.ok.len]
  have hpos : 1 ≤ D.safe.length := by have := h.ok.pos; rw [h.ok.len]; omega
  obtain ⟨b5, rfl⟩ := ownsRow_addr ho5 hpos
  have hb5g := own_ge ho5 b5 rfl
  have hb5l := own_lt ho5 b5 rfl
  have hgl := h.blk.lt
  have hbl := h.mlt _ h.ms
  have hsz := htW.size
  have tf := Tr.five w5 g (.slice (some ⟨bs, 0, none⟩) D.safe.length cs) (.slice (some ⟨b5, 0, none⟩) D.safe.length c5) (.slice none 0 0) (.bool false) (.bool false)
  have hk5 := hk.five (.slice (some ⟨bs, 0, none⟩) D.safe.length cs) (.slice (some ⟨b5, 0, none⟩) D.safe.length c5) (.slice none 0 0) (.bool false) (.bool false)
  refine ⟨rfl, fun b => M b ∨ b = b5, fun _ => False, ⟨bs, cs, b5, c5, none, 0, [], ⟨crash_ok h.ok kept, ?_, ?_, ?_, ownsRow_emp _ _ _ _, rfl, ?_, .inl h.mg, .inl h.ms, .inr rfl, fun b hb => (Blo.none b hb).elim, fun b hb => hb.elim, by show (([] : List (Nat × List Int)).length ≤ 1000000); simp, ?_, fun b hb => hb.elim⟩⟩, ?_, fun b hb => hb.elim, ?_⟩
  · show Blk _ g _ #[.slice _ (crashL kept D.gs D.gs.length D.safe).length cs, .slice _ (crashL kept D.gs D.gs.length D.safe).length c5, .slice none 0 0, .bool false, .bool false]
    rw [hS, hSl]
    exact hk5
  · show World.ownsRow _ 0 _ 1 (.slice _ (crashL kept D.gs D.gs.length D.safe).length cs) (crashL kept D.gs D.gs.length D.safe).length (by8 (crashL kept D.gs D.gs.length D.safe))
    rw [hS, hSl]
    refine own_tr (own_below (B := 0) ho hb5) tf (fun b hb he => ?_)
    have := (Blo.some_iff _ _).1 hb
    exact h.ne1 (this.trans he)
  · show World.ownsRow _ 0 _ 1 (.slice _ (crashL kept D.gs D.gs.length D.safe).length c5) (crashL kept D.gs D.gs.length D.safe).length (by8 (crashL kept D.gs D.gs.length D.safe))
    rw [hS, hSl]
    refine own_tr (ownsRow_base ho5 (Nat.zero_le _)) tf (fun b hb he => ?_)
    have := (Blo.some_iff _ _).1 hb
    simp at this
    omega
  · omega
  · rintro b (hb | rfl)
    · have h1 := h.mlt b hb
      have h2 := hb5.size
      have h3 := tf.size
      omega
    · have h3 := tf.size
      omega
  · rintro b (hb | rfl)
    · exact .inl hb
    · exact .inr (by omega)
  · refine (((htW.mono (fun b _ e => (e ▸ h.ms : M b))).then_below hb5)).trans tf (fun b _ e => (e ▸ h.mg : M b))

set_option maxHeartbeats 1600000 in
theorem crash_any (A : Option Addr) (c : Nat) (kept : List Int) (hd : IsDisk w g D M R) (hr : Rd w A (byI kept)) (hl : kept.length ≤ 140737488351232) (hA : kept ≠ [] → ∀ b, Blo A b → ¬ M b) :
    Calls Tryz.prog 18 #[.pointer (some ⟨g, 0, none⟩), .slice A kept.length c] w (RetW w g M R (crashD D kept) 0) := by
  obtain ⟨bs, cs, bn, cn, Al, cl, cells, h⟩ := hd
  have c0 := h.blk.cell 0
  have c2 := h.blk.cell 2
  simp at c0 c2
  have HH := Lib.hid h
  have HR := Lib.hid hr
  have HA := Lib.hid hA
  clear h hr hA
  go_enter Tryz.func18, Tryz.ntmps18
  go_wp2_with fail
  go_loopw [15] (fun v w2 => ∃ k : Nat, k ≤ D.gs.length ∧ v = .int .i64 k ∧ w2.ownsRow 0 5 1 (.slice (some ⟨bs, 0, none⟩) D.safe.length cs) D.safe.length (by8 (crashL kept D.gs k D.safe)) ∧ Tr (fun b => b = bs) w w2) (fun v _ => D.gs.length - (intOf v).toNat)
  case atStart => exact ⟨0, by omega, rfl, HH.out.safe, Tr.refl _ _⟩
  case round =>
    obtain ⟨k, hk, rfl, ho1, ht1⟩ := hrel
    have HO1 := Lib.hid ho1
    have HT1 := Lib.hid ht1
    have hz := HT1.out.size
    clear ho1 ht1
    by_cases hlt : k < D.gs.length
    · by_cases hlt2 : k < kept.length
      · have HS1 := Lib.hid (crashL_at (kept := kept) (s := D.safe) hlt hlt2)
        obtain ⟨al, rfl⟩ := ownsRow_addr HH.out.row (by omega)
        obtain ⟨bg, g1, g2, g4, g5⟩ := HH.out.gat.get k hlt
        obtain ⟨_, q, hq1, hq2, hq3⟩ := HH.out.ok.gs _ (List.getElem_mem hlt)
        have hbx : (byI kept)[k]? = some (.int .i64 kept[k]) := by rw [byI, List.getElem?_map, List.getElem?_eq_getElem hlt2]; rfl
        have HBX := Lib.hid hbx
        clear hbx
        generalize kept[k] = x at HS1 HBX
        generalize hgk : D.gs[k] = gk at HS1 g1 g2 g4 hq2 hq3
        clear hgk
        obtain ⟨at_, d⟩ := gk
        dsimp only at HS1 g1 g2 g4 hq2 hq3
        have hmost := HH.out.ok.most
        have hdl : (d.length : Int) / 256 = (q : Int) := by omega
        have hdl2 : d.length / 256 = q := by omega
        rw [hdl2] at HS1
        have hdb : d.length ≤ 1048576 := by omega
        have hne : al ≠ bs := fun e => own_two_ne HH.out.row HH.out.safe (by decide) (b := al) rfl (by rw [e]; rfl)
        have hlta : al < w.heap.size := HH.out.mlt _ (HH.out.ml al rfl)
        have x1 : wr.cell? ⟨al, k * 2, none⟩ = some (.int .i64 at_) := by
          rw [HT1.out.cell hlta hne, HH.out.row.cellAt _ (by omega), Nat.mul_comm]; exact g1
        have x2 : wr.cell? ⟨al, k * 2 + 1, none⟩ = some ((.slice (some ⟨bg, 0, none⟩) d.length d.length : Value)) := by
          rw [HT1.out.cell hlta hne, HH.out.row.cellAt _ (by omega), Nat.mul_comm]; exact g2
        have hal : al ≠ wr.heap.size := by omega
        have G4 := Lib.hid g4
        have HQ2 := Lib.hid hq2
        clear g1 g2 g4 hdl2 hq2
        have hdd : decide (kept.length ≤ k) = false := decide_eq_false (by omega)
        go_wp2_with fail
        obtain ⟨wo, rfl⟩ : ∃ wo : World, wo = wr := ⟨_, rfl⟩
        go_loopw [28] (fun v w2 => ∃ j : Nat, j ≤ q ∧ v = .int .i64 j ∧ w2.ownsRow 0 5 1 (.slice (some ⟨bs, 0, none⟩) D.safe.length cs) D.safe.length (by8 (crashG x at_ d j (crashL kept D.gs k D.safe))) ∧ Tr (fun b => b = bs) w w2 ∧ Blk w2 wo.heap.size 91 #[.int .i64 at_, (.slice (some ⟨bg, 0, none⟩) d.length d.length : Value)]) (fun v _ => q - (intOf v).toNat)
        case atStart => exact ⟨0, by omega, rfl, HO1.out.alloc _, HT1.out.alloc _, Blk.new _ _ _⟩
        case round =>
          obtain ⟨j, hj, rfl, ho2, ht2, hb2⟩ := hrel
          have HO2 := Lib.hid ho2
          have HT2 := Lib.hid ht2
          have HB2 := Lib.hid hb2
          clear ho2 ht2 hb2
          by_cases hltj : j < q
          · have hr2 := HR.out.tr HT2.out (fun ad e => by
              subst e
              intro h
              exact HA.out (fun hk => by rw [hk] at hlt2; cases hlt2) bs ((Blo.some_iff _ _).2 h) HH.out.ms)
            obtain ⟨ad, rfl, hblk, hcell⟩ := hr2.at_ (k := k) (by rw [byI_length]; exact hlt2)
            have hb' := HBX.out
            rw [List.getElem?_eq_getElem (by rw [byI_length]; exact hlt2)] at hb'
            injection hb' with hb'
            rw [hb'] at hcell
            clear hb' hr2
            have hcg : (j + 1) * 256 ≤ d.length := by
              have h := HQ2.out
              omega
            have hwr : IntKind.i64.wrap ((at_ : Int) + j) = (at_ : Int) + j := IntWalk.i64_in _ (by omega)
            have y0 := (HT2.out.blk HH.out.blk HH.out.ne1.symm).cell 0
            have y1 := HB2.out.cell 0
            have y2 := HB2.out.cell 1
            simp at y0 y1 y2
            obtain ⟨hcs0, hcs2⟩ := HH.out.caps
            have hcs : (at_ + j + 1) * 256 ≤ cs := hcs_of hcs0 hq3 hltj
            have CP := Lib.hid (show (by8 ((d.drop (256 * j)).take 256)).length = Nat.min 256 256 from by
              have h := HQ2.out
              rw [by8_length, List.length_take, List.length_drop]
              show min 256 (d.length - 256 * j) = 256
              omega)
            have FP := Lib.hid (show 256 * (at_ + j) + (by8 ((d.drop (256 * j)).take 256)).length ≤ D.safe.length from by
              rw [CP.out, HH.out.ok.len]
              show 256 * (at_ + j) + 256 ≤ _
              omega)
            have RP := Lib.hid ((G4.out.tr HT2.out (fun ad e => by
              injection e with e
              subst e
              intro hb
              have hb : bg = bs := hb
              rw [hb] at g5
              exact HH.out.rm _ g5 HH.out.ms)).mid2 (n := 256) (256 * j))
            have hbn : bs ≠ g := HH.out.ne1
            have hbo : bs < w.heap.size := HH.out.mlt _ HH.out.ms
            have EQ1 : Hid ((at_ : Int) + j = ((at_ + j : Nat) : Int)) := Lib.hid (by omega)
            have hbk := bit_kept x j
            cases hbit : keptBit x j with
            | true =>
              rw [hbit] at hbk
              go_wp2_with fail
              go_region_held3 (fun w' => w'.cell? ⟨g, 0, none⟩ = some (.slice (some ⟨bs, 0, none⟩) D.safe.length cs) ∧ w'.cell? ⟨wo.heap.size, 0, none⟩ = some (.int .i64 at_) ∧ w'.cell? ⟨wo.heap.size, 1, none⟩ = some (.slice (some ⟨bg, 0, none⟩) d.length d.length)) (go_keep) ((first
                | (refine stepR_copy (off := 256 * (at_ + j)) (cs := by8 ((d.drop (256 * j)).take 256)) Tryz.underlying52 sizes rfl rfl (by exact HO2.out) rfl rfl (fun _ => rfl) (by exact RP.out) CP.out FP.out (by8_one _) ?_; intro w4 ho4 ht4; have e4 := (ht4.blk (HT2.out.blk HH.out.blk HH.out.ne1.symm).drew (fun hb => hbn ((Blo.some_iff _ _).1 hb))).cell 0; have v4 := ht4.blk HB2.out.drew (fun hb => by have := (Blo.some_iff _ _).1 hb; simp at this; omega); have v40 := v4.cell 0; have v41 := v4.cell 1; simp at e4 v40 v41; have HO4 := Lib.hid ho4; have HT4 := Lib.hid ht4; have HB4 := Lib.hid v4; clear ho4 ht4 v4)
                | (go_at_call 46; (with_reducible refine (part_gen bs _ cs (at_ + j) ((at_ : Int) + j) 1 EQ1.out rfl _ hcs (by omega) hcs2).mono ?_); rintro e w' ⟨rfl, rfl⟩)
                | (go_at_call 46; (with_reducible refine (part_gen bg _ d.length j (j : Int) 1 rfl rfl _ hcg (by omega) (by omega)).mono ?_); rintro e w' ⟨rfl, rfl⟩)))
              go_wp2_with fail
              go_roundw
              case rel =>
                refine ⟨j + 1, by omega, by go_num, ?_, (HT2.out.drew).trans HT4.out (fun b _ hb => (((Blo.some_iff _ _).1 hb).symm : b = bs)), HB4.out⟩
                have h4 := HO4.out
                rw [by8_splice, ← crashG_yes hbit] at h4
                exact h4
              case measure => simp [intOf]; omega
            | false =>
              rw [hbit] at hbk
              go_wp2_with fail
              go_roundw
              case rel =>
                refine ⟨j + 1, by omega, by go_num, ?_, HT2.out, HB2.out⟩
                rw [crashG_no hbit]
                exact HO2.out
              case measure => simp [intOf]; omega
          · have hjq : j = q := by omega
            subst hjq
            go_wp2_with fail
            go_roundw
            case rel =>
              refine ⟨k + 1, by omega, by go_num, ?_, HT2.out⟩
              rw [HS1.out]
              exact HO2.out
            case measure => simp [intOf]; omega
      · have HE := Lib.hid (crashL_end (kept := kept) (gs := D.gs) (s := D.safe) (i := k) (by omega) D.gs.length hk)
        obtain ⟨al, rfl⟩ := ownsRow_addr HH.out.row (by omega)
        obtain ⟨bg, g1, g2, g4, g5⟩ := HH.out.gat.get k hlt
        have hne : al ≠ bs := fun e => own_two_ne HH.out.row HH.out.safe (by decide) (b := al) rfl (by rw [e]; rfl)
        have hlta : al < w.heap.size := HH.out.mlt _ (HH.out.ml al rfl)
        generalize hgk : D.gs[k] = gk at g1 g2 g4
        clear hgk
        obtain ⟨at_, d⟩ := gk
        dsimp only at g1 g2 g4
        have x1 : wr.cell? ⟨al, k * 2, none⟩ = some (.int .i64 at_) := by
          rw [HT1.out.cell hlta hne, HH.out.row.cellAt _ (by omega), Nat.mul_comm]; exact g1
        have x2 : wr.cell? ⟨al, k * 2 + 1, none⟩ = some (.slice (some ⟨bg, 0, none⟩) d.length d.length) := by
          rw [HT1.out.cell hlta hne, HH.out.row.cellAt _ (by omega), Nat.mul_comm]; exact g2
        have hal : al ≠ wr.heap.size := by omega
        clear g1 g2 g4
        go_wp2_with fail
        have z0 := (HT1.out.blk HH.out.blk HH.out.ne1.symm).cell 0
        simp at z0
        have hcl := HH.out.caps
        have hlen := HH.out.ok.len
        have hmost := HH.out.ok.most
        have CLN : ∀ W, W.ownsRow 0 5 1 (.slice (some ⟨bs, 0, none⟩) D.safe.length cs) D.safe.length (by8 (crashL kept D.gs k D.safe)) → Calls Tryz.prog 47 #[.slice (some ⟨bs, 0, none⟩) D.safe.length cs] W fun e w' => ∃ A' c', e = .returned (.slice A' D.safe.length c') ∧ D.safe.length ≤ c' ∧ w'.ownsRow W.heap.size 5 1 (.slice A' D.safe.length c') D.safe.length (by8 (crashL kept D.gs k D.safe)) ∧ Below W.heap.size W w' := fun W h =>
          clone_n _ _ _ _ W (Rd.of_own h) (by rw [crashL_length HH.out.ok kept hk, hlen]) (by omega)
        have CLN := Lib.hid CLN
        clear hlen hcl
        have HK := Lib.hid (HT1.out.blk HH.out.blk HH.out.ne1.symm)
        go_region_held3 (fun w' => w'.cell? ⟨g, 0, none⟩ = some (.slice (some ⟨bs, 0, none⟩) D.safe.length cs)) (first | (go_keep; done) | exact (HK5.out.five _ _ _ _ _).cell 0) ((first
                | (go_at_call 47; (with_reducible refine (CLN.out _ ?_).mono ?_); exact HO1.out.alloc _; rintro e w' ⟨A5, c5, rfl, hc5, ho5, hb5⟩; have hk5 := (HK.out.alloc _).drew.keep hb5; have p0 := hk5.cell 0; have p1 := hk5.cell 1; have p2 := hk5.cell 2; have p3 := hk5.cell 3; have p4 := hk5.cell 4; have f0 := hk5.frozen 0; have f1 := hk5.frozen 1; have f2 := hk5.frozen 2; have f3 := hk5.frozen 3; have f4 := hk5.frozen 4; simp at p0 p1 p2 p3 p4; have HK5 := Lib.hid hk5; clear hk5; have HO5 := Lib.hid ho5; have HB5 := Lib.hid hb5; clear ho5 hb5)))
        go_wp2_with fail
        go_ret
        exact crash_at HH.out (HT1.out.alloc _).drew (HO1.out.alloc _) HE.out HO5.out HB5.out HK5.out
    · have hke : k = D.gs.length := by omega
      have HE : Hid (crashL kept D.gs D.gs.length D.safe = crashL kept D.gs k D.safe) := Lib.hid (by rw [hke])
      clear hke
      go_wp2_with fail
      have z0 := (HT1.out.blk HH.out.blk HH.out.ne1.symm).cell 0
      simp at z0
      have hcl := HH.out.caps
      have hlen := HH.out.ok.len
      have hmost := HH.out.ok.most
      have CLN : ∀ W, W.ownsRow 0 5 1 (.slice (some ⟨bs, 0, none⟩) D.safe.length cs) D.safe.length (by8 (crashL kept D.gs k D.safe)) → Calls Tryz.prog 47 #[.slice (some ⟨bs, 0, none⟩) D.safe.length cs] W fun e w' => ∃ A' c', e = .returned (.slice A' D.safe.length c') ∧ D.safe.length ≤ c' ∧ w'.ownsRow W.heap.size 5 1 (.slice A' D.safe.length c') D.safe.length (by8 (crashL kept D.gs k D.safe)) ∧ Below W.heap.size W w' := fun W h =>
        clone_n _ _ _ _ W (Rd.of_own h) (by rw [crashL_length HH.out.ok kept hk, hlen]) (by omega)
      have CLN := Lib.hid CLN
      clear hlen hcl
      have HK := Lib.hid (HT1.out.blk HH.out.blk HH.out.ne1.symm)
      go_region_held3 (fun w' => w'.cell? ⟨g, 0, none⟩ = some (.slice (some ⟨bs, 0, none⟩) D.safe.length cs)) (first | (go_keep; done) | exact (HK5.out.five _ _ _ _ _).cell 0) ((first
              | (go_at_call 47; (with_reducible refine (CLN.out _ ?_).mono ?_); exact HO1.out; rintro e w' ⟨A5, c5, rfl, hc5, ho5, hb5⟩; have hk5 := HK.out.drew.keep hb5; have p0 := hk5.cell 0; have p1 := hk5.cell 1; have p2 := hk5.cell 2; have p3 := hk5.cell 3; have p4 := hk5.cell 4; have f0 := hk5.frozen 0; have f1 := hk5.frozen 1; have f2 := hk5.frozen 2; have f3 := hk5.frozen 3; have f4 := hk5.frozen 4; simp at p0 p1 p2 p3 p4; have HK5 := Lib.hid hk5; clear hk5; have HO5 := Lib.hid ho5; have HB5 := Lib.hid hb5; clear ho5 hb5)))
      go_wp2_with fail
      go_ret
      exact crash_at HH.out HT1.out.drew HO1.out HE.out HO5.out HB5.out HK5.out
end
end Go.Proofs.YthlijldapoeepaaGreat.Dk

/- The disk's sectors, plainly: a sector of a group written; what a crash leaves of a sector. -/

namespace Go.Proofs.YthlijldapoeepaaGreat.Dk
set_option linter.unusedVariables false
set_option linter.unusedSimpArgs false
open Go.RowKit
def sect (n : Nat) (s : List Int) : List Int := (s.drop (256 * n)).take 256
theorem sect_get (n : Nat) (s : List Int) (i : Nat) : (sect n s)[i]? = if i < 256 then s[256 * n + i]? else none := by
  unfold sect
  rw [List.getElem?_take]
  by_cases h : i < 256
  · rw [if_pos h, if_pos h, List.getElem?_drop]
  · rw [if_neg h, if_neg h]
theorem splice_get {s d : List Int} {o : Nat} (h : o + d.length ≤ s.length) (i : Nat) : (splice s o d)[i]? = if i < o then s[i]? else if i < o + d.length then d[i - o]? else s[i]? := by
  unfold splice
  have h1 : (s.take o).length = o := by rw [List.length_take]; omega
  by_cases c1 : i < o
  · rw [if_pos c1, List.getElem?_append_left (by omega), List.getElem?_take, if_pos c1]
  · rw [if_neg c1, List.getElem?_append_right (by omega), h1]
    by_cases c2 : i < o + d.length
    · rw [if_pos c2, List.getElem?_append_left (by omega)]
    · rw [if_neg c2, List.getElem?_append_right (by omega), List.getElem?_drop]
      congr 1
      omega
theorem sect_at {s d : List Int} {a n : Nat} (h : 256 * a + d.length ≤ s.length) (h1 : a ≤ n) (h2 : 256 * (n + 1) ≤ 256 * a + d.length) : sect n (splice s (256 * a) d) = (d.drop (256 * (n - a))).take 256 := by
  apply List.ext_getElem?
  intro i
  rw [sect_get, splice_get h, List.getElem?_take]
  by_cases c : i < 256
  · rw [if_pos c, if_pos c, if_neg (by omega), if_pos (by omega), List.getElem?_drop]
    congr 1
    omega
  · rw [if_neg c, if_neg c]
theorem sect_off {s d : List Int} {a n : Nat} (h : 256 * a + d.length ≤ s.length) (h1 : n < a ∨ 256 * a + d.length ≤ 256 * n) : sect n (splice s (256 * a) d) = sect n s := by
  apply List.ext_getElem?
  intro i
  rw [sect_get, sect_get]
  by_cases c : i < 256
  · rw [if_pos c, if_pos c, splice_get h]
    rcases h1 with h1 | h1
    · rw [if_pos (by omega)]
    · rw [if_neg (by omega), if_neg (by omega)]
  · rw [if_neg c, if_neg c]

theorem crashG_sect {x : Int} {a m : Nat} {d s : List Int} (hs : s.length = 256 * m) {q : Nat} (hd : d.length = 256 * q) (hf : a + q ≤ m) (n : Nat) : ∀ k, k ≤ q → sect n (crashG x a d k s) = sect n s ∨ (a ≤ n ∧ n < a + q ∧ sect n (crashG x a d k s) = (d.drop (256 * (n - a))).take 256)
  | 0, _ => .inl rfl
  | k + 1, hk => by
    have ih := crashG_sect (x := x) hs hd hf n k (by omega)
    by_cases hb : keptBit x k = true
    · rw [crashG_yes hb]
      have hl : (crashG x a d k s).length = 256 * m := crashG_length hs (by omega) (by omega)
      have h2 : ((d.drop (256 * k)).take 256).length = 256 := by rw [List.length_take, List.length_drop]; omega
      by_cases hn : n = a + k
      · right
        refine ⟨by omega, by omega, ?_⟩
        rw [sect_at (by rw [h2, hl]; omega) (by omega) (by rw [h2]; omega), hn]
        rw [show a + k - (a + k) = 0 from by omega, show a + k - a = k from by omega, Nat.mul_zero, List.drop_zero, List.take_of_length_le (by omega)]
      · rw [sect_off (by rw [h2, hl]; omega) (by rw [h2]; omega)]
        exact ih
    · rw [crashG_no (by simpa using hb)]
      exact ih
/-- Each group was read in one of the states. -/
def Seen (D : DS) (sts : List (List Int)) : Prop := ∀ g ∈ D.gs, ∃ t : List Int, t.length = 256 * D.n ∧ splice t (256 * g.1) g.2 ∈ sts
theorem crash_seen {D : DS} (ho : D.Ok) {sts : List (List Int)} (h0 : D.safe ∈ sts) (hg : Seen D sts) (kept : List Int) (n : Nat) : ∀ i, i ≤ D.gs.length → ∃ st, st ∈ sts ∧ sect n (crashL kept D.gs i D.safe) = sect n st
  | 0, _ => ⟨_, h0, rfl⟩
  | i + 1, hi => by
    have ih := crash_seen ho h0 hg kept n i (by omega)
    by_cases hk : i < kept.length
    · rw [crashL_at (by omega) hk]
      have hl := crashL_length ho kept (i := i) (by omega)
      obtain ⟨_, q, h1, h2, h3⟩ := ho.gs _ (List.getElem_mem (show i < D.gs.length by omega))
      rw [show D.gs[i].2.length / 256 = q from by omega]
      rcases crashG_sect (x := kept[i]) hl h2 h3 n q (Nat.le_refl _) with e | ⟨e1, e2, e3⟩
      · rw [e]; exact ih
      · obtain ⟨t, ht, hm⟩ := hg _ (List.getElem_mem (show i < D.gs.length by omega))
        refine ⟨_, hm, ?_⟩
        rw [e3, sect_at (by rw [ht]; omega) e1 (by rw [h2]; omega)]
    · rw [crashL_past (by omega)]
      exact ih
theorem safe_write {D : DS} (a : Int) (b : List Int) : (writeD D a b).safe = D.safe := by
  unfold writeD
  split
  · rfl
  · split
    · rfl
    · rfl

end Go.Proofs.YthlijldapoeepaaGreat.Dk

/- slices.Chunk at bytes: the iterator's contract; a range over a function with what a round keeps named freely. -/

namespace Go.Proofs.YthlijldapoeepaaGreat
set_option linter.unusedVariables false
set_option maxRecDepth 100000
open Go.RowKit Go.Shelf

attribute [local go_sem] Oper.semAt_some

/-- Two blocks lie as they lay. -/
def Two (a b : Nat) (A B : World) : Prop := B.heap[a]? = A.heap[a]? ∧ B.heap[b]? = A.heap[b]?
theorem two_t {a b : Nat} {A B C : World} (h : Two a b A B) (k : Two a b B C) : Two a b A C := ⟨k.1.trans h.1, k.2.trans h.2⟩
theorem two_b {a b : Nat} {w : World} (ha : a < w.heap.size) (hb : b < w.heap.size) (W : World) (l : Nat) (o o' : Obj) (hl : w.heap.size ≤ l) (h : W.heap[l]? = some o) (_ : o.isCells = false) (_ : o.isWalk = false) : Two a b W (W.putObj l o') :=
  ⟨World.putObj_heap_other (by omega), World.putObj_heap_other (by omega)⟩
theorem Two.blk1 {a b : Nat} {A B : World} (h : Two a b A B) {t : TypeId} {cs : Array Value} (k : Blk A a t cs) : Blk B a t cs := h.1.trans k
theorem Two.blk2 {a b : Nat} {A B : World} (h : Two a b A B) {t : TypeId} {cs : Array Value} (k : Blk A b t cs) : Blk B b t cs := h.2.trans k

theorem range_ownK1 {α : Type} {P : Program} {g : Operand} {p : Tmp} {assign body : Code} {Q : Exit → Act → World → Prop} {a : Act} {w : World} {gf : Nat} {lb : Array Value} {v : α → Value} {Kp : World → World → Prop} {S Sp : List α → Prop} {N : Nat}
    (hg : a.eval g = .func (.func gf) #[] lb) (eg : ∀ args w, (callFunc gf args).run P w = .ok (.enter gf args) w) (hseq : SeqStopsK Fence.wide 9 P gf lb (fun x => #[v x]) Kp S Sp N w)
    (hKt : ∀ {A B C : World}, Kp A B → Kp B C → Kp A C) (hKb : ∀ (W : World) (l : Nat) (o o' : Obj), w.heap.size ≤ l → W.heap[l]? = some o → o.isCells = false → o.isWalk = false → Kp W (W.putObj l o'))
    (I : List α → World → Prop) (hI : OwnFrom w.heap.size I) (h0 : I [] w) (f : Array Value → α → Array Value)
    (hassign : ∀ (l : Nat) (x : α) (W : World) (K : Act → World → Prop), K { tmps := f a.tmps x, defers := [] } W →
      assign.wpIn (Fence.wide.inRound l) 8 P (Exit.then K (fun _ _ _ => False)) { tmps := a.tmps.setIfInBounds p (v x), defers := [] } W)
    (hbody : ∀ (l : Nat) (pre : List α) (x : α) (W : World), I pre W → pre.length < N → body.wpIn (Fence.wide.inRound l) 8 P (ownPostK Kp I (fun _ _ _ => False) (pre ++ [x]) W) { tmps := f a.tmps x, defers := [] } W)
    (hdone : ∀ (D : Nat) (xs : List α) (W : World), w.heap.size ≤ D → S xs → I xs W → W.heap[D]? = some (.deferred (some [])) → Q .normal { a with defers := { target := .collected D, args := #[] } :: a.defers } W) :
    (Code.rangeFunc g #[p] assign body).wp P Q a w :=
  wpIn_wide.1 (wpIn_rangeFunc_ownF (n := 10) rfl (by omega) hg trivial eg hseq hKt hKb (Below.refl _ _) (fun _ => rfl) I (fun _ _ _ => False) hI (fun _ _ _ _ _ hs _ _ => hs) h0 _ (fun l x W K hK => by
    rw [show (#[p].zip #[v x]).foldl (fun t (p, v) => t.setIfInBounds p v) a.tmps = a.tmps.setIfInBounds p (v x) from by simp]
    exact hassign l x W K hK) hbody hdone (fun _ _ _ _ _ _ h _ => h.elim))

def idx (N x : Nat) : Nat := if x < N then x else 0
theorem idx_lt {N x : Nat} (h : 0 < N) : idx N x < N := by unfold idx; split <;> omega
theorem idx_of {N x : Nat} (h : x < N) : idx N x = x := if_pos h

/-- How many pieces of 64 bytes. -/
def many64 (len : Nat) : Nat := (len + (64 - 1)) / 64
def piece64 (b off len k : Nat) : Value := .slice (some ⟨b, off + 64 * k, none⟩) (min 64 (len - 64 * k)) (min 64 (len - 64 * k))

set_option maxHeartbeats 400000 in
theorem chunk64_any (A : Option Addr) (n c : Nat) (w : World) : Calls Tryz.prog 63 #[.slice A n c, .int .i64 64] w fun e w' =>
    e = .returned (.func (.func 85) #[] #[.pointer (some ⟨w.heap.size, 0, none⟩), .pointer (some ⟨w.heap.size + 1, 0, none⟩)]) ∧ Blk w' w.heap.size 52 #[.slice A n c] ∧ Blk w' (w.heap.size + 1) 3 #[.int .i64 64] ∧ Below w.heap.size w w' := by
  go_enter Tryz.func63, Tryz.ntmps63
  go_wp2_with fail
  go_ret
  refine ⟨rfl, (Blk.new w _ _).alloc _, ?_, bl_chain (bl_alloc w _) (bl_alloc _ _)⟩
  have := Blk.new (w.alloc (.cells #[.slice A n c] 52)) 3 #[.int .i64 64]
  simpa using this

set_option maxRecDepth 100000 in
set_option maxHeartbeats 2000000 in
theorem chunk64_in (n l Bs Bn b off len c : Nat) (A : Option Addr) (hA : 0 < len → A = some ⟨b, off, none⟩) (hc : len ≤ c) (hl : len ≤ 140737488355328) (J Jx : List Nat → World → Prop) (hab : ∀ pre W, J pre W → J pre W.drew)
    (hY : ∀ pre x W, J pre W → pre.length < many64 len → YieldAt Fence.wide (n - 1) Tryz.prog l #[piece64 b off len (idx (many64 len) x)] W fun e W' =>
      (e = .returned (.bool true) ∧ J (pre ++ [x]) W' ∧ Two Bs Bn W W') ∨ (e = .returned (.bool false) ∧ Jx (pre ++ [x]) W'))
    (W : World) (hs : Blk W Bs 52 #[.slice A len c]) (hn : Blk W Bn 3 #[.int .i64 64]) (h0 : J [] W) :
    CallsIn Fence.wide n Tryz.prog 85 #[.func (.yield l) #[] #[], .pointer (some ⟨Bs, 0, none⟩), .pointer (some ⟨Bn, 0, none⟩)] W fun e W' => (∃ v, e = .returned v) ∧
      ((∃ ys, ys = List.range (many64 len) ∧ J ys W') ∨ (∃ pre, True ∧ Jx pre W')) := by
  refine callsIn_of_wp Tryz.func85 rfl trivial ?_ rfl
  simp only [Tryz.ntmps85, List.size_toArray, List.length_cons, List.length_nil, Nat.reduceAdd, Nat.reduceSub, Array.replicate_succ, Array.replicate_zero, List.push_toArray, List.append_toArray, List.nil_append, List.cons_append]
  gi_wp2
  gi_loopw [4, 5] (fun i _ wr => ∃ k : Nat, k ≤ many64 len ∧ i = .int .i64 ((64 * k : Nat) : Int) ∧ J (List.range k) wr ∧ Blk wr Bs 52 #[.slice A len c] ∧ Blk wr Bn 3 #[.int .i64 64])
    (fun i _ _ => len + 64 - (intOf i).toNat)
  case atStart => exact ⟨0, by omega, rfl, h0, hs, hn⟩
  case round =>
    obtain ⟨k, hk, rfl, hJ, h1, h2⟩ := hrel
    have cs := h1.cell 0
    have cn := h2.cell 0
    simp at cs cn
    have H1 := Lib.hid h1
    have H2 := Lib.hid h2
    clear h1 h2
    by_cases hlt : 64 * k < len
    · have hkN : k < many64 len := by unfold many64; omega
      obtain rfl := hA (by omega)
      obtain ⟨fn, tmps, assign, body, hy, hR⟩ := hY (List.range k) k wr.drew (hab _ _ hJ) (by simpa using hkN)
      rw [idx_of hkN] at hy
      obtain ⟨m, hm⟩ : ∃ m, min 64 (len - 64 * k) = m := ⟨_, rfl⟩
      have hm0 : 0 < m := by omega
      have hm1 : 64 * k + m ≤ len := by omega
      have hm2 : m ≤ 64 := by omega
      have hif : (if ((len - 64 * k : Nat) : Int) < 64 then ((len - 64 * k : Nat) : Int) else 64) = (m : Int) := by split <;> omega
      have hnext : Hid (m < 64 → many64 len = k + 1) := Lib.hid (by unfold many64; omega)
      unfold piece64 at hy
      rw [hm] at hy
      clear hm
      have i1 : ((64 * k : Nat) : Int) ≤ (len : Int) := by omega
      have i2 : ((64 * k : Nat) : Int) ≤ (c : Int) := by omega
      gi_wp2
      gi_region
      clear hif
      gi_wp2
      refine ⟨fun h => (by cases h), ?_⟩
      refine hR.mono ?_
      rintro e W3 (⟨rfl, hJ3, hk3⟩ | ⟨rfl, hJx3⟩)
      · have G1 := Lib.hid (hk3.blk1 H1.out.drew)
        have G2 := Lib.hid (hk3.blk2 H2.out.drew)
        have cn3 := G2.out.cell 0
        simp at cn3
        have HJ3 := Lib.hid hJ3
        clear hJ3 hk3
        gi_wp2
        exact ⟨⟨k + 1, by omega, by rw [Nat.mul_succ]; go_num, by rw [List.range_succ]; exact HJ3.out, G1.out, G2.out⟩, by simp [intOf]; omega⟩
      · gi_wp2
        refine bodyPost_ret (results_none rfl _ _ _) rfl ?_
        exact ⟨⟨_, rfl⟩, .inr ⟨_, trivial, hJx3⟩⟩
    · have hkN : k = many64 len := by unfold many64 at hk ⊢; omega
      gi_wp2
      go_end0
      exact ⟨⟨_, rfl⟩, .inl ⟨_, rfl, hkN ▸ hJ⟩⟩

theorem chunk64_stops (Bs Bn b off len c : Nat) (A : Option Addr) (hA : 0 < len → A = some ⟨b, off, none⟩) (hc : len ≤ c) (hl : len ≤ 140737488355328) (w : World) (hs : Blk w Bs 52 #[.slice A len c]) (hn : Blk w Bn 3 #[.int .i64 64]) :
    SeqStopsK Fence.wide 9 Tryz.prog 85 #[.pointer (some ⟨Bs, 0, none⟩), .pointer (some ⟨Bn, 0, none⟩)] (fun x => #[piece64 b off len (idx (many64 len) x)]) (Two Bs Bn) (fun ys => ys = List.range (many64 len)) (fun _ => True) (many64 len) w := fun l J Jx W hW hab _ hY h0 =>
  chunk64_in 9 l Bs Bn b off len c A hA hc hl J Jx (fun pre W1 h => hab pre W1 W1.drew none h ⟨rfl, rfl, rfl, Nat.le_refl _, fun _ _ _ => rfl⟩ (fun r e => by cases e)) hY W (hs.keep hW) (hn.keep hW) h0
end Go.Proofs.YthlijldapoeepaaGreat

/- What abides the turn of blocks that are no cells. No program in sight. -/

namespace Go.Proofs.YthlijldapoeepaaGreat
set_option linter.unusedVariables false
open Go.RowKit

theorem own_cellsB {w : World} {base : Nat} {e : TypeId} {size n m c : Nat} {A : Option Addr} {xs : List Value} (h : w.ownsRow base e size (.slice A n c) m xs) {b : Nat} (hb : Blo A b) {o : Obj} (ho : w.heap[b]? = some o) : o.isCells = true := by
  rcases h.2 with ⟨h1, h2⟩ | ⟨g, cap, cur, h1, _, hg, _⟩
  · injection h1 with h1
    subst h1
    exact (Blo.none b hb).elim
  · injection h1 with h1
    subst h1
    have e := (Blo.some_iff _ _).1 hb
    simp at e
    subst e
    have := hg.symm.trans ho
    injection this with this
    subst this
    rfl
theorem keeps_tr {F : Nat → Prop} {w w' : World} (ht : Tr F w w') (hF : ∀ b, F b → ∀ o, w.heap[b]? = some o → o.isCells = true) : KeepsOthers w w' :=
  ⟨ht.size, fun k o hk ho => by
    refine (ht.block k (Array.getElem?_eq_some_iff.1 hk).1 (fun h => ?_)).trans hk
    rw [hF k h o hk] at ho
    cases ho⟩
section
variable {W W' : World} {row : Option Nat} {B : Nat}
def Turn (W W' : World) : Prop := Tr (fun b => ∃ o, W.heap[b]? = some o ∧ o.isCells = false) W W'
theorem turn_of (hg : W.grownBy W' row) (hr : ∀ r, row = some r → B ≤ r ∧ ∃ o : Obj, W.heap[r]? = some o ∧ o.isCells = false) : Turn W W' := Tr.of_grown hg (fun b hb _ => (hr b hb).2)
theorem Blk.turn {g : Nat} {t : TypeId} {cs : Array Value} (h : Blk W g t cs) (ht : Turn W W') : Blk W' g t cs := ht.blk h (fun ⟨o, ho, hc⟩ => by
  have := h.symm.trans ho
  injection this with this
  subst this
  cases hc)
theorem own_turn {base : Nat} {e : TypeId} {size n m c : Nat} {A : Option Addr} {xs : List Value} (h : W.ownsRow base e size (.slice A n c) m xs) (ht : Turn W W') : W'.ownsRow base e size (.slice A n c) m xs :=
  ownsRow_tr h ht (fun g hg ⟨o, ho, hc⟩ => by
    rw [ownBlock_slice] at hg
    rw [own_cellsB h hg ho] at hc
    cases hc)
theorem below_turn {n₀ : Nat} {w : World} (h : Below n₀ w W) (hn : n₀ ≤ W.heap.size) (hg : W.grownBy W' row) (hr : ∀ r, row = some r → B ≤ r ∧ ∃ o : Obj, W.heap[r]? = some o ∧ o.isCells = false) (hB : n₀ ≤ B) : Below n₀ w W' := h.grown hg hn (fun k e => Nat.le_trans hB (hr k e).1)
end
end Go.Proofs.YthlijldapoeepaaGreat
