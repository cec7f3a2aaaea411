/- Contracts of the program's package disk: Write for any arguments, Crash. -/
import Derived.Test.YtceajiliahmkaaaDisk3
set_option maxRecDepth 100000
namespace Go.Proofs.Ytceajiliahmkaaa
set_option linter.unusedVariables false
open Go.RowKit

/-- A call on a disk: the error, the disk behind it. -/
def RetW (w : World) (g : Nat) (M R : Nat → Prop) (D' : DS) (err : Int) (e : Ending) (w' : World) : Prop :=
  e = .returned (.int .i64 err) ∧ ∃ M' R', IsDisk w' g D' M' R' ∧ (∀ b, M' b → M b ∨ w.heap.size ≤ b) ∧ (∀ b, R' b → R b ∨ w.heap.size ≤ b) ∧ Tr M w w'

section
variable {g : Nat} {D : DS} {M R : Nat → Prop} {w : World}
theorem RetW.same {err : Int} {e : Ending} {w' : World} (hd : IsDisk w g D M R) (he : e = .returned (.int .i64 err)) (hb : Below w.heap.size w w') : RetW w g M R D err e w' :=
  ⟨he, M, R, hd.below hb, fun b h => .inl h, fun b h => .inl h, Tr.of_below hb⟩

set_option maxHeartbeats 400000 in
theorem write_any (A : Option Addr) (c : Nat) (l : List Int) (a : Int) (hd : IsDisk w g D M R) (hr : Rd w A (by8 l)) (hB : isB l) (hl : l.length ≤ 140737488351232) (hfew : D.gs.length < 1000000) (ha : -9223372036854775808 ≤ a ∧ a ≤ 9223372036854775807) :
    Calls Try.prog 39 #[.pointer (some ⟨g, 0, none⟩), .int .i64 a, .slice A l.length c] w (RetW w g M R (writeD D a l) (writeE D a l)) := by
  have HD := Lib.hid hd
  have hsecs : ((l.length : Int) + 256 - 1) / 256 = (secs l : Int) := by unfold secs; omega
  have hsecs2 : ((l.length : Int) + 255) / 256 = (secs l : Int) := by unfold secs; omega
  have hs2 : secs l ≤ 140737488351232 := by unfold secs; omega
  have hd' := hd
  obtain ⟨bs, cs, bn, cn, Al, cl, cells, h⟩ := hd'
  have c4 := h.blk.cell 4
  simp at c4
  cases hdead : D.dead with
  | true =>
    rw [show writeD D a l = D from if_pos hdead, show writeE D a l = 21 from if_pos hdead]
    rw [hdead] at c4
    clear hd hr h
    go_enter Try.func39, Try.ntmps39
    go_wp2_with fail
    go_ret
    exact RetW.same HD.out (by rfl) (Below.refl _ _)
  | false =>
    rw [hdead] at c4
    have hw1 := wrong_any (w := w) a (secs l) hd (by omega)
    cases hw : wrongD D.n a (secs l) with
    | true =>
      rw [hw] at hw1
      rw [show writeD D a l = D from by unfold writeD; rw [if_neg (by rw [hdead]; decide), if_pos hw], show writeE D a l = 1 from by unfold writeE; rw [if_neg (by rw [hdead]; decide), if_pos hw]]
      have HW1 := Lib.hid hw1
      clear hd hr h hw1
      go_enter Try.func39, Try.ntmps39
      go_wp2_with (first | (go_at_call 56; (with_reducible refine HW1.out.mono ?_); rintro e w1 ⟨rfl, rfl⟩))
      go_ret
      exact RetW.same HD.out (by rfl) (Below.refl _ _)
    | false =>
      obtain ⟨q1, q2, q3, q4⟩ := wrongD_no hw
      have hm := h.ok.most
      obtain ⟨a, rfl⟩ := Int.eq_ofNat_of_zero_le q1
      rw [show writeD D a l = D.put a (pad l) from by unfold writeD; rw [if_neg (by rw [hdead]; decide), if_neg (by rw [hw]; decide)]; rfl, show writeE D a l = 0 from by unfold writeE; rw [if_neg (by rw [hdead]; decide), if_neg (by rw [hw]; decide)]]
      exact write_ok A c l a hd hr hB (by unfold secs at q3; omega) hdead hw hfew

theorem _root_.Go.Proofs.Ytceajiliahmkaaa.Rd.tr_ne {w w' : World} {A : Option Addr} {xs : List Value} {F : Nat → Prop} (h : Rd w A xs) (ht : Tr F w w') (hn : xs ≠ [] → ∀ b, Blo A b → ¬ F b) : Rd w' A xs := by
  cases xs with
  | nil => exact Rd.nil
  | cons x xs => exact h.tr ht (fun ad e => hn (by simp) _ (by subst e; rfl))
theorem _root_.Go.Proofs.Ytceajiliahmkaaa.Rd.blo_lt {w : World} {A : Option Addr} {xs : List Value} (h : Rd w A xs) (hne : xs ≠ []) : ∀ b, Blo A b → b < w.heap.size := fun b hb => by
  obtain ⟨ad, e, hlt, _⟩ := h.at_ (k := 0) (by cases xs with | nil => exact absurd rfl hne | cons _ _ => simp)
  subst e
  exact (Blo.some_iff _ _).1 hb ▸ hlt
/-- Ints as values. -/
def byI (l : List Int) : List Value := l.map (.int .i64 ·)
theorem byI_length (l : List Int) : (byI l).length = l.length := List.length_map ..

theorem crashG_length {x : Int} {at_ : Nat} {d : List Int} {m : Nat} : ∀ {k : Nat} {s : List Int}, s.length = 256 * m → 256 * k ≤ d.length → at_ + k ≤ m → (crashG x at_ d k s).length = 256 * m
  | 0, _, hs, _, _ => hs
  | k + 1, s, hs, hd, ha => by
    have ih := crashG_length (x := x) (at_ := at_) (d := d) (k := k) hs (by omega) (by omega)
    unfold crashG
    by_cases hb : keptBit x k = true
    · simp only [hb, if_true]
      rw [length_splice _ _ _ (by rw [ih, List.length_take, List.length_drop]; omega), ih]
    · simp only [hb]
      exact ih
theorem crashG_isB {x : Int} {at_ : Nat} {d : List Int} (hd : isB d) : ∀ {k : Nat} {s : List Int}, isB s → isB (crashG x at_ d k s)
  | 0, _, hs => hs
  | k + 1, s, hs => by
    have ih := crashG_isB (x := x) (at_ := at_) hd (k := k) hs
    unfold crashG
    by_cases hb : keptBit x k = true
    · simp only [hb, if_true]
      exact splice_isB ih ((hd.drop _).take _)
    · simp only [hb]
      exact ih
theorem crashG_yes {x : Int} {at_ : Nat} {d s : List Int} {k : Nat} (h : keptBit x k = true) : crashG x at_ d (k + 1) s = splice (crashG x at_ d k s) (256 * (at_ + k)) ((d.drop (256 * k)).take 256) := by
  show (if keptBit x k = true then _ else _) = _
  rw [if_pos h]
theorem crashG_no {x : Int} {at_ : Nat} {d s : List Int} {k : Nat} (h : keptBit x k = false) : crashG x at_ d (k + 1) s = crashG x at_ d k s := by
  show (if keptBit x k = true then _ else _) = _
  rw [if_neg (by rw [h]; decide)]
theorem crashL_at {kept : List Int} {gs : List (Nat × List Int)} {s : List Int} {i : Nat} (h1 : i < gs.length) (h2 : i < kept.length) :
    crashL kept gs (i + 1) s = crashG kept[i] gs[i].1 gs[i].2 (gs[i].2.length / 256) (crashL kept gs i s) := by
  show (match gs[i]?, kept[i]? with | some g, some x => _ | _, _ => _) = _
  rw [List.getElem?_eq_getElem h1, List.getElem?_eq_getElem h2]
theorem crashL_past {kept : List Int} {gs : List (Nat × List Int)} {s : List Int} {i : Nat} (h2 : kept.length ≤ i) : crashL kept gs (i + 1) s = crashL kept gs i s := by
  show (match gs[i]?, kept[i]? with | some g, some x => _ | _, _ => _) = _
  rw [List.getElem?_eq_none h2]
  cases gs[i]? <;> rfl
theorem crashL_end {kept : List Int} {gs : List (Nat × List Int)} {s : List Int} {i : Nat} (h2 : kept.length ≤ i) : ∀ j, i ≤ j → crashL kept gs j s = crashL kept gs i s
  | 0, h => by rw [show i = 0 from by omega]
  | j + 1, h => by
    by_cases e : i = j + 1
    · rw [e]
    · rw [crashL_past (by omega), crashL_end h2 j (by omega)]
theorem crashL_length {D : DS} (ho : D.Ok) (kept : List Int) : ∀ {i : Nat}, i ≤ D.gs.length → (crashL kept D.gs i D.safe).length = 256 * D.n
  | 0, _ => ho.len
  | i + 1, h => by
    have ih := crashL_length ho kept (i := i) (by omega)
    by_cases h2 : i < kept.length
    · rw [crashL_at (by omega) h2]
      obtain ⟨_, k, h3, h4, h5⟩ := ho.gs _ (List.getElem_mem (show i < D.gs.length by omega))
      exact crashG_length ih (by omega) (by rw [h4]; omega)
    · rw [crashL_past (by omega)]
      exact ih
theorem crashL_isB {D : DS} (ho : D.Ok) (kept : List Int) : ∀ {i : Nat}, i ≤ D.gs.length → isB (crashL kept D.gs i D.safe)
  | 0, _ => ho.bs
  | i + 1, h => by
    have ih := crashL_isB ho kept (i := i) (by omega)
    by_cases h2 : i < kept.length
    · rw [crashL_at (by omega) h2]
      exact crashG_isB (ho.gs _ (List.getElem_mem (show i < D.gs.length by omega))).1 ih
    · rw [crashL_past (by omega)]
      exact ih
theorem crash_ok {D : DS} (ho : D.Ok) (kept : List Int) : (crashD D kept).Ok := by
  have h1 := crashL_length ho kept (Nat.le_refl _)
  have h2 := crashL_isB ho kept (Nat.le_refl _)
  have hn : (crashD D kept).n = D.n := by show (crashL kept D.gs D.gs.length D.safe).length / 256 = _; rw [h1]; omega
  refine ⟨by rw [hn]; exact ho.pos, by rw [hn]; exact ho.most, by rw [hn]; exact h1, by rw [hn]; exact h1, h2, h2, fun x hx => ?_⟩
  cases hx

theorem i64_and1 (n : Int) : bits .and .i64 n 1 = n % 2 := by
  have h1 : (BitVec.ofInt 64 1).toNat = 2 ^ 1 - 1 := by decide
  have key : (BitVec.ofInt 64 n &&& BitVec.ofInt 64 1).toNat = (n % ((2 ^ 64 : Nat) : Int)).toNat % 2 ^ 1 := by
    rw [BitVec.toNat_and, BitVec.toNat_ofInt, h1, Nat.and_two_pow_sub_one_eq_mod]
  show IntKind.i64.wrap ((BitVec.ofInt 64 n &&& BitVec.ofInt 64 1).toNat : Nat) = n % 2
  rw [key, IntKind.wrap_i64]
  omega
theorem bit_kept (x : Int) (k : Nat) : (bits .and .i64 (x / 2 ^ (k % 16)) 1 == 1) = keptBit x k := by
  rw [i64_and1]
  rfl

set_option maxHeartbeats 400000 in
theorem part_gen (b : Nat) (len cap at_ : Nat) (a' n' : Int) (ha : a' = at_) (hn' : n' = 1) (w : World) (hfit : (at_ + 1) * 256 ≤ cap) (hsm : at_ ≤ 1000000) (hcap : cap ≤ 9223372036854775807) :
    Calls Try.prog 45 #[.slice (some ⟨b, 0, none⟩) len cap, .int .i64 a', .int .i64 n'] w fun e w' => e = .returned (.slice (some ⟨b, 256 * at_, none⟩) 256 256) ∧ w = w' := by
  subst ha
  subst hn'
  go_enter Try.func45, Try.ntmps45
  go_wp2_with fail
  go_ret
  refine ⟨?_, rfl⟩
  show Ending.returned (Value.slice (some ⟨b, at_ * 256, none⟩) ((at_ + 1) * 256 - at_ * 256) ((at_ + 1) * 256 - at_ * 256)) = _
  rw [show (at_ + 1) * 256 - at_ * 256 = 256 from by omega, Nat.mul_comm at_ 256]

theorem _root_.Go.Proofs.Ytceajiliahmkaaa.Rd.mid2 {w : World} {b n : Nat} {l : List Int} (h : Rd w (some ⟨b, 0, none⟩) (by8 l)) (o : Nat) : Rd w (some ⟨b, o, none⟩) (by8 ((l.drop o).take n)) := fun j u hj => by
  refine ⟨_, rfl, ?_⟩
  rw [← by8_take, ← by8_drop, List.getElem?_take] at hj
  split at hj
  · rw [List.getElem?_drop] at hj
    obtain ⟨ad, e, hc⟩ := h _ _ hj
    injection e with e
    subst e
    rw [add_lit] at hc ⊢
    simpa using hc
  · cases hj

theorem _root_.Go.Proofs.Ytceajiliahmkaaa.Blk.five {w : World} {g : Nat} {t : TypeId} {a0 a1 a2 a3 a4 : Value} (h : Blk w g t #[a0, a1, a2, a3, a4]) (b0 b1 b2 b3 b4 : Value) :
    Blk (((((w.setCell ⟨g, 0, none⟩ b0).setCell ⟨g, 1, none⟩ b1).setCell ⟨g, 2, none⟩ b2).setCell ⟨g, 3, none⟩ b3).setCell ⟨g, 4, none⟩ b4) g t #[b0, b1, b2, b3, b4] := by
  have := ((((h.set_ 0 b0).set_ 1 b1).set_ 2 b2).set_ 3 b3).set_ 4 b4
  simpa using this
theorem _root_.Go.Proofs.Ytceajiliahmkaaa.Tr.five (w : World) (g : Nat) (b0 b1 b2 b3 b4 : Value) : Tr (fun b => b = g) w (((((w.setCell ⟨g, 0, none⟩ b0).setCell ⟨g, 1, none⟩ b1).setCell ⟨g, 2, none⟩ b2).setCell ⟨g, 3, none⟩ b3).setCell ⟨g, 4, none⟩ b4) :=
  (((((Tr.refl (fun b => b = g) w).setCell (p := ⟨g, 0, none⟩) (fun _ => rfl) b0).setCell (p := ⟨g, 1, none⟩) (fun _ => rfl) b1).setCell (p := ⟨g, 2, none⟩) (fun _ => rfl) b2).setCell (p := ⟨g, 3, none⟩) (fun _ => rfl) b3).setCell (p := ⟨g, 4, none⟩) (fun _ => rfl) b4
theorem hcs_of {a j q n cs : Nat} (h : 256 * n ≤ cs) (h2 : a + q ≤ n) (h3 : j < q) : (a + j + 1) * 256 ≤ cs := by omega
theorem DAt.caps {bs cs bn cn : Nat} {Al : Option Addr} {cl : Nat} {cells : List Value} (h : DAt w g D M R bs cs bn cn Al cl cells) : 256 * D.n ≤ cs ∧ cs ≤ 9223372036854775807 := by
  obtain ⟨A, c, hv, hc, _, hm⟩ := ownsRow_slice h.safe
  injection hv with _ _ hv
  simp only [maxLen] at hm
  have := h.ok.len
  omega

theorem crash_at {bs cs bn cn : Nat} {Al : Option Addr} {cl : Nat} {cells : List Value} {kept : List Int} (h : DAt w g D M R bs cs bn cn Al cl cells) {W w5 : World} (htW : Tr (fun b => b = bs) w W) {S : List Int}
    (ho : W.ownsRow 0 5 1 (.slice (some ⟨bs, 0, none⟩) D.safe.length cs) D.safe.length (by8 S)) (hS : crashL kept D.gs D.gs.length D.safe = S) {A5 : Option Addr} {c5 : Nat}
    (ho5 : w5.ownsRow W.heap.size 5 1 (.slice A5 D.safe.length c5) D.safe.length (by8 S)) (hb5 : Below W.heap.size W w5) {a0 a1 a2 a3 a4 : Value} (hk : Blk w5 g 84 #[a0, a1, a2, a3, a4]) :
    RetW w g M R (crashD D kept) 0 (.returned (.int .i64 0)) (((((w5.setCell ⟨g, 0, none⟩ (.slice (some ⟨bs, 0, none⟩) D.safe.length cs)).setCell ⟨g, 1, none⟩ (.slice A5 D.safe.length c5)).setCell ⟨g, 2, none⟩ (.slice none 0 0)).setCell ⟨g, 3, none⟩ (.bool false)).setCell ⟨g, 4, none⟩ (.bool false)) := by
  have hSl : S.length = D.safe.length := by rw [← hS, crashL_length h.ok kept (Nat.le_refl _), h.ok.len]
  have hpos : 1 ≤ D.safe.length := by have := h.ok.pos; rw [h.ok.len]; omega
  obtain ⟨b5, rfl⟩ := ownsRow_addr ho5 hpos
  have hb5g := own_ge ho5 b5 rfl
  have hb5l := own_lt ho5 b5 rfl
  have hgl := h.blk.lt
  have hbl := h.mlt _ h.ms
  have hsz := htW.size
  have tf := Tr.five w5 g (.slice (some ⟨bs, 0, none⟩) D.safe.length cs) (.slice (some ⟨b5, 0, none⟩) D.safe.length c5) (.slice none 0 0) (.bool false) (.bool false)
  have hk5 := hk.five (.slice (some ⟨bs, 0, none⟩) D.safe.length cs) (.slice (some ⟨b5, 0, none⟩) D.safe.length c5) (.slice none 0 0) (.bool false) (.bool false)
  refine ⟨rfl, fun b => M b ∨ b = b5, fun _ => False, ⟨bs, cs, b5, c5, none, 0, [], ⟨crash_ok h.ok kept, ?_, ?_, ?_, ownsRow_emp _ _ _ _, rfl, ?_, .inl h.mg, .inl h.ms, .inr rfl, fun b hb => (Blo.none b hb).elim, fun b hb => hb.elim, by show (([] : List (Nat × List Int)).length ≤ 1000000); simp, ?_, fun b hb => hb.elim⟩⟩, ?_, fun b hb => hb.elim, ?_⟩
  · show Blk _ g _ #[.slice _ (crashL kept D.gs D.gs.length D.safe).length cs, .slice _ (crashL kept D.gs D.gs.length D.safe).length c5, .slice none 0 0, .bool false, .bool false]
    rw [hS, hSl]
    exact hk5
  · show World.ownsRow _ 0 _ 1 (.slice _ (crashL kept D.gs D.gs.length D.safe).length cs) (crashL kept D.gs D.gs.length D.safe).length (by8 (crashL kept D.gs D.gs.length D.safe))
    rw [hS, hSl]
    refine own_tr (own_below (B := 0) ho hb5) tf (fun b hb he => ?_)
    have := (Blo.some_iff _ _).1 hb
    exact h.ne1 (this.trans he)
  · show World.ownsRow _ 0 _ 1 (.slice _ (crashL kept D.gs D.gs.length D.safe).length c5) (crashL kept D.gs D.gs.length D.safe).length (by8 (crashL kept D.gs D.gs.length D.safe))
    rw [hS, hSl]
    refine own_tr (ownsRow_base ho5 (Nat.zero_le _)) tf (fun b hb he => ?_)
    have := (Blo.some_iff _ _).1 hb
    simp at this
    omega
  · omega
  · rintro b (hb | rfl)
    · have h1 := h.mlt b hb
      have h2 := hb5.size
      have h3 := tf.size
      omega
    · have h3 := tf.size
      omega
  · rintro b (hb | rfl)
    · exact .inl hb
    · exact .inr (by omega)
  · refine (((htW.mono (fun b _ e => (e ▸ h.ms : M b))).then_below hb5)).trans tf (fun b _ e => (e ▸ h.mg : M b))

set_option maxHeartbeats 1600000 in
theorem crash_any (A : Option Addr) (c : Nat) (kept : List Int) (hd : IsDisk w g D M R) (hr : Rd w A (byI kept)) (hl : kept.length ≤ 140737488351232) (hA : kept ≠ [] → ∀ b, Blo A b → ¬ M b) :
    Calls Try.prog 24 #[.pointer (some ⟨g, 0, none⟩), .slice A kept.length c] w (RetW w g M R (crashD D kept) 0) := by
  obtain ⟨bs, cs, bn, cn, Al, cl, cells, h⟩ := hd
  have c0 := h.blk.cell 0
  have c2 := h.blk.cell 2
  simp at c0 c2
  have HH := Lib.hid h
  have HR := Lib.hid hr
  have HA := Lib.hid hA
  clear h hr hA
  go_enter Try.func24, Try.ntmps24
  go_wp2_with fail
  go_loopw [15] (fun v w2 => ∃ k : Nat, k ≤ D.gs.length ∧ v = .int .i64 k ∧ w2.ownsRow 0 5 1 (.slice (some ⟨bs, 0, none⟩) D.safe.length cs) D.safe.length (by8 (crashL kept D.gs k D.safe)) ∧ Tr (fun b => b = bs) w w2) (fun v _ => D.gs.length - (intOf v).toNat)
  case atStart => exact ⟨0, by omega, rfl, HH.out.safe, Tr.refl _ _⟩
  case round =>
    obtain ⟨k, hk, rfl, ho1, ht1⟩ := hrel
    have HO1 := Lib.hid ho1
    have HT1 := Lib.hid ht1
    have hz := HT1.out.size
    clear ho1 ht1
    by_cases hlt : k < D.gs.length
    · by_cases hlt2 : k < kept.length
      · have HS1 := Lib.hid (crashL_at (kept := kept) (s := D.safe) hlt hlt2)
        obtain ⟨al, rfl⟩ := ownsRow_addr HH.out.row (by omega)
        obtain ⟨bg, g1, g2, g4, g5⟩ := HH.out.gat.get k hlt
        obtain ⟨_, q, hq1, hq2, hq3⟩ := HH.out.ok.gs _ (List.getElem_mem hlt)
        have hbx : (byI kept)[k]? = some (.int .i64 kept[k]) := by rw [byI, List.getElem?_map, List.getElem?_eq_getElem hlt2]; rfl
        have HBX := Lib.hid hbx
        clear hbx
        generalize kept[k] = x at HS1 HBX
        generalize hgk : D.gs[k] = gk at HS1 g1 g2 g4 hq2 hq3
        clear hgk
        obtain ⟨at_, d⟩ := gk
        dsimp only at HS1 g1 g2 g4 hq2 hq3
        have hmost := HH.out.ok.most
        have hdl : (d.length : Int) / 256 = (q : Int) := by omega
        have hdl2 : d.length / 256 = q := by omega
        rw [hdl2] at HS1
        have hdb : d.length ≤ 1048576 := by omega
        have hne : al ≠ bs := fun e => own_two_ne HH.out.row HH.out.safe (by decide) (b := al) rfl (by rw [e]; rfl)
        have hlta : al < w.heap.size := HH.out.mlt _ (HH.out.ml al rfl)
        have x1 : wr.cell? ⟨al, k * 2, none⟩ = some (.int .i64 at_) := by
          rw [HT1.out.cell hlta hne, HH.out.row.cellAt _ (by omega), Nat.mul_comm]; exact g1
        have x2 : wr.cell? ⟨al, k * 2 + 1, none⟩ = some ((.slice (some ⟨bg, 0, none⟩) d.length d.length : Value)) := by
          rw [HT1.out.cell hlta hne, HH.out.row.cellAt _ (by omega), Nat.mul_comm]; exact g2
        have hal : al ≠ wr.heap.size := by omega
        have G4 := Lib.hid g4
        have HQ2 := Lib.hid hq2
        clear g1 g2 g4 hdl2 hq2
        have hdd : decide (kept.length ≤ k) = false := decide_eq_false (by omega)
        go_wp2_with fail
        obtain ⟨wo, rfl⟩ : ∃ wo : World, wo = wr := ⟨_, rfl⟩
        go_loopw [28] (fun v w2 => ∃ j : Nat, j ≤ q ∧ v = .int .i64 j ∧ w2.ownsRow 0 5 1 (.slice (some ⟨bs, 0, none⟩) D.safe.length cs) D.safe.length (by8 (crashG x at_ d j (crashL kept D.gs k D.safe))) ∧ Tr (fun b => b = bs) w w2 ∧ Blk w2 wo.heap.size 86 #[.int .i64 at_, (.slice (some ⟨bg, 0, none⟩) d.length d.length : Value)]) (fun v _ => q - (intOf v).toNat)
        case atStart => exact ⟨0, by omega, rfl, HO1.out.alloc _, HT1.out.alloc _, Blk.new _ _ _⟩
        case round =>
          obtain ⟨j, hj, rfl, ho2, ht2, hb2⟩ := hrel
          have HO2 := Lib.hid ho2
          have HT2 := Lib.hid ht2
          have HB2 := Lib.hid hb2
          clear ho2 ht2 hb2
          by_cases hltj : j < q
          · have hr2 := HR.out.tr HT2.out (fun ad e => by
              subst e
              intro h
              exact HA.out (fun hk => by rw [hk] at hlt2; cases hlt2) bs ((Blo.some_iff _ _).2 h) HH.out.ms)
            obtain ⟨ad, rfl, hblk, hcell⟩ := hr2.at_ (k := k) (by rw [byI_length]; exact hlt2)
            have hb' := HBX.out
            rw [List.getElem?_eq_getElem (by rw [byI_length]; exact hlt2)] at hb'
            injection hb' with hb'
            rw [hb'] at hcell
            clear hb' hr2
            have hcg : (j + 1) * 256 ≤ d.length := by
              have h := HQ2.out
              omega
            have hwr : IntKind.i64.wrap ((at_ : Int) + j) = (at_ : Int) + j := IntWalk.i64_in _ (by omega)
            have y0 := (HT2.out.blk HH.out.blk HH.out.ne1.symm).cell 0
            have y1 := HB2.out.cell 0
            have y2 := HB2.out.cell 1
            simp at y0 y1 y2
            obtain ⟨hcs0, hcs2⟩ := HH.out.caps
            have hcs : (at_ + j + 1) * 256 ≤ cs := hcs_of hcs0 hq3 hltj
            have CP := Lib.hid (show (by8 ((d.drop (256 * j)).take 256)).length = Nat.min 256 256 from by
              have h := HQ2.out
              rw [by8_length, List.length_take, List.length_drop]
              show min 256 (d.length - 256 * j) = 256
              omega)
            have FP := Lib.hid (show 256 * (at_ + j) + (by8 ((d.drop (256 * j)).take 256)).length ≤ D.safe.length from by
              rw [CP.out, HH.out.ok.len]
              show 256 * (at_ + j) + 256 ≤ _
              omega)
            have RP := Lib.hid ((G4.out.tr HT2.out (fun ad e => by
              injection e with e
              subst e
              intro hb
              have hb : bg = bs := hb
              rw [hb] at g5
              exact HH.out.rm _ g5 HH.out.ms)).mid2 (n := 256) (256 * j))
            have hbn : bs ≠ g := HH.out.ne1
            have hbo : bs < w.heap.size := HH.out.mlt _ HH.out.ms
            have EQ1 : Hid ((at_ : Int) + j = ((at_ + j : Nat) : Int)) := Lib.hid (by omega)
            have hbk := bit_kept x j
            cases hbit : keptBit x j with
            | true =>
              rw [hbit] at hbk
              go_wp2_with fail
              go_region_held3 (fun w' => w'.cell? ⟨g, 0, none⟩ = some (.slice (some ⟨bs, 0, none⟩) D.safe.length cs) ∧ w'.cell? ⟨wo.heap.size, 0, none⟩ = some (.int .i64 at_) ∧ w'.cell? ⟨wo.heap.size, 1, none⟩ = some (.slice (some ⟨bg, 0, none⟩) d.length d.length)) (go_keep) ((first
                | (refine stepR_copy (off := 256 * (at_ + j)) (cs := by8 ((d.drop (256 * j)).take 256)) Try.underlying33 sizes rfl rfl (by exact HO2.out) rfl rfl (fun _ => rfl) (by exact RP.out) CP.out FP.out (by8_one _) ?_; intro w4 ho4 ht4; have e4 := (ht4.blk (HT2.out.blk HH.out.blk HH.out.ne1.symm).drew (fun hb => hbn ((Blo.some_iff _ _).1 hb))).cell 0; have v4 := ht4.blk HB2.out.drew (fun hb => by have := (Blo.some_iff _ _).1 hb; simp at this; omega); have v40 := v4.cell 0; have v41 := v4.cell 1; simp at e4 v40 v41; have HO4 := Lib.hid ho4; have HT4 := Lib.hid ht4; have HB4 := Lib.hid v4; clear ho4 ht4 v4)
                | (go_at_call 45; (with_reducible refine (part_gen bs _ cs (at_ + j) ((at_ : Int) + j) 1 EQ1.out rfl _ hcs (by omega) hcs2).mono ?_); rintro e w' ⟨rfl, rfl⟩)
                | (go_at_call 45; (with_reducible refine (part_gen bg _ d.length j (j : Int) 1 rfl rfl _ hcg (by omega) (by omega)).mono ?_); rintro e w' ⟨rfl, rfl⟩)))
              go_wp2_with fail
              go_roundw
              case rel =>
                refine ⟨j + 1, by omega, by go_num, ?_, (HT2.out.drew).trans HT4.out (fun b _ hb => (((Blo.some_iff _ _).1 hb).symm : b = bs)), HB4.out⟩
                have h4 := HO4.out
                rw [by8_splice, ← crashG_yes hbit] at h4
                exact h4
              case measure => simp [intOf]; omega
            | false =>
              rw [hbit] at hbk
              go_wp2_with fail
              go_roundw
              case rel =>
                refine ⟨j + 1, by omega, by go_num, ?_, HT2.out, HB2.out⟩
                rw [crashG_no hbit]
                exact HO2.out
              case measure => simp [intOf]; omega
          · have hjq : j = q := by omega
            subst hjq
            go_wp2_with fail
            go_roundw
            case rel =>
              refine ⟨k + 1, by omega, by go_num, ?_, HT2.out⟩
              rw [HS1.out]
              exact HO2.out
            case measure => simp [intOf]; omega
      · have HE := Lib.hid (crashL_end (kept := kept) (gs := D.gs) (s := D.safe) (i := k) (by omega) D.gs.length hk)
        obtain ⟨al, rfl⟩ := ownsRow_addr HH.out.row (by omega)
        obtain ⟨bg, g1, g2, g4, g5⟩ := HH.out.gat.get k hlt
        have hne : al ≠ bs := fun e => own_two_ne HH.out.row HH.out.safe (by decide) (b := al) rfl (by rw [e]; rfl)
        have hlta : al < w.heap.size := HH.out.mlt _ (HH.out.ml al rfl)
        generalize hgk : D.gs[k] = gk at g1 g2 g4
        clear hgk
        obtain ⟨at_, d⟩ := gk
        dsimp only at g1 g2 g4
        have x1 : wr.cell? ⟨al, k * 2, none⟩ = some (.int .i64 at_) := by
          rw [HT1.out.cell hlta hne, HH.out.row.cellAt _ (by omega), Nat.mul_comm]; exact g1
        have x2 : wr.cell? ⟨al, k * 2 + 1, none⟩ = some (.slice (some ⟨bg, 0, none⟩) d.length d.length) := by
          rw [HT1.out.cell hlta hne, HH.out.row.cellAt _ (by omega), Nat.mul_comm]; exact g2
        have hal : al ≠ wr.heap.size := by omega
        clear g1 g2 g4
        go_wp2_with fail
        have z0 := (HT1.out.blk HH.out.blk HH.out.ne1.symm).cell 0
        simp at z0
        have hcl := HH.out.caps
        have hlen := HH.out.ok.len
        have hmost := HH.out.ok.most
        have CLN : ∀ W, W.ownsRow 0 5 1 (.slice (some ⟨bs, 0, none⟩) D.safe.length cs) D.safe.length (by8 (crashL kept D.gs k D.safe)) → Calls Try.prog 46 #[.slice (some ⟨bs, 0, none⟩) D.safe.length cs] W fun e w' => ∃ A' c', e = .returned (.slice A' D.safe.length c') ∧ D.safe.length ≤ c' ∧ w'.ownsRow W.heap.size 5 1 (.slice A' D.safe.length c') D.safe.length (by8 (crashL kept D.gs k D.safe)) ∧ Below W.heap.size W w' := fun W h =>
          clone_n _ _ _ _ W (Rd.of_own h) (by rw [crashL_length HH.out.ok kept hk, hlen]) (by omega)
        have CLN := Lib.hid CLN
        clear hlen hcl
        have HK := Lib.hid (HT1.out.blk HH.out.blk HH.out.ne1.symm)
        go_region_held3 (fun w' => w'.cell? ⟨g, 0, none⟩ = some (.slice (some ⟨bs, 0, none⟩) D.safe.length cs)) (first | (go_keep; done) | exact (HK5.out.five _ _ _ _ _).cell 0) ((first
                | (go_at_call 46; (with_reducible refine (CLN.out _ ?_).mono ?_); exact HO1.out.alloc _; rintro e w' ⟨A5, c5, rfl, hc5, ho5, hb5⟩; have hk5 := (HK.out.alloc _).drew.keep hb5; have p0 := hk5.cell 0; have p1 := hk5.cell 1; have p2 := hk5.cell 2; have p3 := hk5.cell 3; have p4 := hk5.cell 4; have f0 := hk5.frozen 0; have f1 := hk5.frozen 1; have f2 := hk5.frozen 2; have f3 := hk5.frozen 3; have f4 := hk5.frozen 4; simp at p0 p1 p2 p3 p4; have HK5 := Lib.hid hk5; clear hk5; have HO5 := Lib.hid ho5; have HB5 := Lib.hid hb5; clear ho5 hb5)))
        go_wp2_with fail
        go_ret
        exact crash_at HH.out (HT1.out.alloc _).drew (HO1.out.alloc _) HE.out HO5.out HB5.out HK5.out
    · have hke : k = D.gs.length := by omega
      have HE : Hid (crashL kept D.gs D.gs.length D.safe = crashL kept D.gs k D.safe) := Lib.hid (by rw [hke])
      clear hke
      go_wp2_with fail
      have z0 := (HT1.out.blk HH.out.blk HH.out.ne1.symm).cell 0
      simp at z0
      have hcl := HH.out.caps
      have hlen := HH.out.ok.len
      have hmost := HH.out.ok.most
      have CLN : ∀ W, W.ownsRow 0 5 1 (.slice (some ⟨bs, 0, none⟩) D.safe.length cs) D.safe.length (by8 (crashL kept D.gs k D.safe)) → Calls Try.prog 46 #[.slice (some ⟨bs, 0, none⟩) D.safe.length cs] W fun e w' => ∃ A' c', e = .returned (.slice A' D.safe.length c') ∧ D.safe.length ≤ c' ∧ w'.ownsRow W.heap.size 5 1 (.slice A' D.safe.length c') D.safe.length (by8 (crashL kept D.gs k D.safe)) ∧ Below W.heap.size W w' := fun W h =>
        clone_n _ _ _ _ W (Rd.of_own h) (by rw [crashL_length HH.out.ok kept hk, hlen]) (by omega)
      have CLN := Lib.hid CLN
      clear hlen hcl
      have HK := Lib.hid (HT1.out.blk HH.out.blk HH.out.ne1.symm)
      go_region_held3 (fun w' => w'.cell? ⟨g, 0, none⟩ = some (.slice (some ⟨bs, 0, none⟩) D.safe.length cs)) (first | (go_keep; done) | exact (HK5.out.five _ _ _ _ _).cell 0) ((first
              | (go_at_call 46; (with_reducible refine (CLN.out _ ?_).mono ?_); exact HO1.out; rintro e w' ⟨A5, c5, rfl, hc5, ho5, hb5⟩; have hk5 := HK.out.drew.keep hb5; have p0 := hk5.cell 0; have p1 := hk5.cell 1; have p2 := hk5.cell 2; have p3 := hk5.cell 3; have p4 := hk5.cell 4; have f0 := hk5.frozen 0; have f1 := hk5.frozen 1; have f2 := hk5.frozen 2; have f3 := hk5.frozen 3; have f4 := hk5.frozen 4; simp at p0 p1 p2 p3 p4; have HK5 := Lib.hid hk5; clear hk5; have HO5 := Lib.hid ho5; have HB5 := Lib.hid hb5; clear ho5 hb5)))
      go_wp2_with fail
      go_ret
      exact crash_at HH.out HT1.out.drew HO1.out HE.out HO5.out HB5.out HK5.out
end
end Go.Proofs.Ytceajiliahmkaaa
