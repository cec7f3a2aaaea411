/- Contracts of the program's package disk: Write for any arguments, Crash. -/
import Derived.Test.YthlijldapoeepaaDisk3
set_option maxRecDepth 100000
namespace Go.Proofs.Ythlijldapoeepaa.Dk
set_option linter.unusedVariables false
open Go.RowKit

/-- A call on a disk: the error, the disk behind it. -/
def RetW (w : World) (g : Nat) (M R : Nat → Prop) (D' : DS) (err : Int) (e : Ending) (w' : World) : Prop :=
  e = .returned (.int .i64 err) ∧ ∃ M' R', IsDisk w' g D' M' R' ∧ (∀ b, M' b → M b ∨ w.heap.size ≤ b) ∧ (∀ b, R' b → R b ∨ w.heap.size ≤ b) ∧ Tr M w w'

section
variable {g : Nat} {D : DS} {M R : Nat → Prop} {w : World}
theorem RetW.same {err : Int} {e : Ending} {w' : World} (hd : IsDisk w g D M R) (he : e = .returned (.int .i64 err)) (hb : Below w.heap.size w w') : RetW w g M R D err e w' :=
  ⟨he, M, R, hd.below hb, fun b h => .inl h, fun b h => .inl h, Tr.of_below hb⟩

set_option maxHeartbeats 400000 in
theorem write_any (A : Option Addr) (c : Nat) (l : List Int) (a : Int) (hd : IsDisk w g D M R) (hr : Rd w A (by8 l)) (hB : isB l) (hl : l.length ≤ 140737488351232) (hfew : D.gs.length < 1000000) (ha : -9223372036854775808 ≤ a ∧ a ≤ 9223372036854775807) :
    Calls Try.prog 30 #[.pointer (some ⟨g, 0, none⟩), .int .i64 a, .slice A l.length c] w (RetW w g M R (writeD D a l) (writeE D a l)) := by
  have HD := Lib.hid hd
  have hsecs : ((l.length : Int) + 256 - 1) / 256 = (secs l : Int) := by unfold secs; omega
  have hsecs2 : ((l.length : Int) + 255) / 256 = (secs l : Int) := by unfold secs; omega
  have hs2 : secs l ≤ 140737488351232 := by unfold secs; omega
  have hd' := hd
  obtain ⟨bs, cs, bn, cn, Al, cl, cells, h⟩ := hd'
  have c4 := h.blk.cell 4
  simp at c4
  cases hdead : D.dead with
  | true =>
    rw [show writeD D a l = D from if_pos hdead, show writeE D a l = 21 from if_pos hdead]
    rw [hdead] at c4
    clear hd hr h
    go_enter Try.func30, Try.ntmps30
    go_wp2_with fail
    go_ret
    exact RetW.same HD.out (by rfl) (Below.refl _ _)
  | false =>
    rw [hdead] at c4
    have hw1 := wrong_any (w := w) a (secs l) hd (by omega)
    cases hw : wrongD D.n a (secs l) with
    | true =>
      rw [hw] at hw1
      rw [show writeD D a l = D from by unfold writeD; rw [if_neg (by rw [hdead]; decide), if_pos hw], show writeE D a l = 1 from by unfold writeE; rw [if_neg (by rw [hdead]; decide), if_pos hw]]
      have HW1 := Lib.hid hw1
      clear hd hr h hw1
      go_enter Try.func30, Try.ntmps30
      go_wp2_with (first | (go_at_call 39; (with_reducible refine HW1.out.mono ?_); rintro e w1 ⟨rfl, rfl⟩))
      go_ret
      exact RetW.same HD.out (by rfl) (Below.refl _ _)
    | false =>
      obtain ⟨q1, q2, q3, q4⟩ := wrongD_no hw
      have hm := h.ok.most
      obtain ⟨a, rfl⟩ := Int.eq_ofNat_of_zero_le q1
      rw [show writeD D a l = D.put a (pad l) from by unfold writeD; rw [if_neg (by rw [hdead]; decide), if_neg (by rw [hw]; decide)]; rfl, show writeE D a l = 0 from by unfold writeE; rw [if_neg (by rw [hdead]; decide), if_neg (by rw [hw]; decide)]]
      exact write_ok A c l a hd hr hB (by unfold secs at q3; omega) hdead hw hfew

theorem _root_.Go.Proofs.Ythlijldapoeepaa.Rd.tr_ne {w w' : World} {A : Option Addr} {xs : List Value} {F : Nat → Prop} (h : Rd w A xs) (ht : Tr F w w') (hn : xs ≠ [] → ∀ b, Blo A b → ¬ F b) : Rd w' A xs := by
  cases xs with
  | nil => exact Rd.nil
  | cons x xs => exact h.tr ht (fun ad e => hn (by simp) _ (by subst e; rfl))
theorem _root_.Go.Proofs.Ythlijldapoeepaa.Rd.blo_lt {w : World} {A : Option Addr} {xs : List Value} (h : Rd w A xs) (hne : xs ≠ []) : ∀ b, Blo A b → b < w.heap.size := fun b hb => by
  obtain ⟨ad, e, hlt, _⟩ := h.at_ (k := 0) (by cases xs with | nil => exact absurd rfl hne | cons _ _ => simp)
  subst e
  exact (Blo.some_iff _ _).1 hb ▸ hlt
/-- Ints as values. -/
def byI (l : List Int) : List Value := l.map (.int .i64 ·)
theorem byI_length (l : List Int) : (byI l).length = l.length := List.length_map ..

theorem crashG_length {x : Int} {at_ : Nat} {d : List Int} {m : Nat} : ∀ {k : Nat} {s : List Int}, s.length = 256 * m → 256 * k ≤ d.length → at_ + k ≤ m → (crashG x at_ d k s).length = 256 * m
  | 0, _, hs, _, _ => hs
  | k + 1, s, hs, hd, ha => by
    have ih := crashG_length (x := x) (at_ := at_) (d := d) (k := k) hs (by omega) (by omega)
    unfold crashG
    by_cases hb : keptBit x k = true
    · simp only [hb, if_true]
      rw [length_splice _ _ _ (by rw [ih, List.length_take, List.length_drop]; omega), ih]
    · simp only [hb]
      exact ih
theorem crashG_isB {x : Int} {at_ : Nat} {d : List Int} (hd : isB d) : ∀ {k : Nat} {s : List Int}, isB s → isB (crashG x at_ d k s)
  | 0, _, hs => hs
  | k + 1, s, hs => by
    have ih := crashG_isB (x := x) (at_ := at_) hd (k := k) hs
    unfold crashG
    by_cases hb : keptBit x k = true
    · simp only [hb, if_true]
      exact splice_isB ih ((hd.drop _).take _)
    · simp only [hb]
      exact ih
theorem crashG_yes {x : Int} {at_ : Nat} {d s : List Int} {k : Nat} (h : keptBit x k = true) : crashG x at_ d (k + 1) s = splice (crashG x at_ d k s) (256 * (at_ + k)) ((d.drop (256 * k)).take 256) := by
  show (if keptBit x k = true then _ else _) = _
  rw [if_pos h]
theorem crashG_no {x : Int} {at_ : Nat} {d s : List Int} {k : Nat} (h : keptBit x k = false) : crashG x at_ d (k + 1) s = crashG x at_ d k s := by
  show (if keptBit x k = true then _ else _) = _
  rw [if_neg (by rw [h]; decide)]
theorem crashL_at {kept : List Int} {gs : List (Nat × List Int)} {s : List Int} {i : Nat} (h1 : i < gs.length) (h2 : i < kept.length) :
    crashL kept gs (i + 1) s = crashG kept[i] gs[i].1 gs[i].2 (gs[i].2.length / 256) (crashL kept gs i s) := by
  show (match gs[i]?, kept[i]? with | some g, some x => _ | _, _ => _) = _
  rw [List.getElem?_eq_getElem h1, List.getElem?_eq_getElem h2]
theorem crashL_past {kept : List Int} {gs : List (Nat × List Int)} {s : List Int} {i : Nat} (h2 : kept.length ≤ i) : crashL kept gs (i + 1) s = crashL kept gs i s := by
  show (match gs[i]?, kept[i]? with | some g, some x => _ | _, _ => _) = _
  rw [List.getElem?_eq_none h2]
  cases gs[i]? <;> rfl
theorem crashL_end {kept : List Int} {gs : List (Nat × List Int)} {s : List Int} {i : Nat} (h2 : kept.length ≤ i) : ∀ j, i ≤ j → crashL kept gs j s = crashL kept gs i s
  | 0, h => by rw [show i = 0 from by omega]
  | j + 1, h => by
    by_cases e : i = j + 1
    · rw [e]
    · rw [crashL_past (by omega), crashL_end h2 j (by omega)]
theorem crashL_length {D : DS} (ho : D.Ok) (kept : List Int) : ∀ {i : Nat}, i ≤ D.gs.length → (crashL kept D.gs i D.safe).length = 256 * D.n
  | 0, _ => ho.len
  | i + 1, h => by
    have ih := crashL_length ho kept (i := i) (by omega)
    by_cases h2 : i < kept.length
    · rw [crashL_at (by omega) h2]
      obtain ⟨_, k, h3, h4, h5⟩ := ho.gs _ (List.getElem_mem (show i < D.gs.length by omega))
      exact crashG_length ih (by omega) (by rw [h4]; omega)
    · rw [crashL_past (by omega)]
      exact ih
theorem crashL_isB {D : DS} (ho : D.Ok) (kept : List Int) : ∀ {i : Nat}, i ≤ D.gs.length → isB (crashL kept D.gs i D.safe)
  | 0, _ => ho.bs
  | i + 1, h => by
    have ih := crashL_isB ho kept (i := i) (by omega)
    by_cases h2 : i < kept.length
    · rw [crashL_at (by omega) h2]
      exact crashG_isB (ho.gs _ (List.getElem_mem (show i < D.gs.length by omega))).1 ih
    · rw [crashL_past (by omega)]
      exact ih
theorem crash_ok {D : DS} (ho : D.Ok) (kept : List Int) : (crashD D kept).Ok := by
  have h1 := crashL_length ho kept (Nat.le_refl _)
  have h2 := crashL_isB ho kept (Nat.le_refl _)
  have hn : (crashD D kept).n = D.n := by show (crashL kept D.gs D.gs.length D.safe).length / 256 = _; rw [h1]; omega
  refine ⟨by rw [hn]; exact ho.pos, by rw [hn]; exact ho.most, by rw [hn]; exact h1, by rw [hn]; exact h1, h2, h2, fun x hx => ?_⟩
  cases hx

theorem i64_and1 (n : Int) : bits .and .i64 n 1 = n % 2 := by
  have h1 : (BitVec.ofInt 64 1).toNat = 2 ^ 1 - 1 := by decide
  have key : (BitVec.ofInt 64 n &&& BitVec.ofInt 64 1).toNat = (n % ((2 ^ 64 : Nat) : Int)).toNat % 2 ^ 1 := by
    rw [BitVec.toNat_and, BitVec.toNat_ofInt, h1, Nat.and_two_pow_sub_one_eq_mod]
  show IntKind.i64.wrap ((BitVec.ofInt 64 n &&& BitVec.ofInt 64 1).toNat : Nat) = n % 2
  rw [key, IntKind.wrap_i64]
  omega
theorem bit_kept (x : Int) (k : Nat) : (bits .and .i64 (x / 2 ^ (k % 16)) 1 == 1) = keptBit x k := by
  rw [i64_and1]
  rfl

set_option maxHeartbeats 400000 in
theorem part_gen (b : Nat) (len cap at_ : Nat) (a' n' : Int) (ha : a' = at_) (hn' : n' = 1) (w : World) (hfit : (at_ + 1) * 256 ≤ cap) (hsm : at_ ≤ 1000000) (hcap : cap ≤ 9223372036854775807) :
    Calls Try.prog 40 #[.slice (some ⟨b, 0, none⟩) len cap, .int .i64 a', .int .i64 n'] w fun e w' => e = .returned (.slice (some ⟨b, 256 * at_, none⟩) 256 256) ∧ w = w' := by
  subst ha
  subst hn'
  go_enter Try.func40, Try.ntmps40
  go_wp2_with fail
  go_ret
  refine ⟨?_, rfl⟩
  show Ending.returned (Value.slice (some ⟨b, at_ * 256, none⟩) ((at_ + 1) * 256 - at_ * 256) ((at_ + 1) * 256 - at_ * 256)) = _
  rw [show (at_ + 1) * 256 - at_ * 256 = 256 from by omega, Nat.mul_comm at_ 256]

theorem _root_.Go.Proofs.Ythlijldapoeepaa.Rd.mid2 {w : World} {b n : Nat} {l : List Int} (h : Rd w (some ⟨b, 0, none⟩) (by8 l)) (o : Nat) : Rd w (some ⟨b, o, none⟩) (by8 ((l.drop o).take n)) := fun j u hj => by
  refine ⟨_, rfl, ?_⟩
  rw [← by8_take, ← by8_drop, List.getElem?_take] at hj
  split at hj
  · rw [List.getElem?_drop] at hj
    obtain ⟨ad, e, hc⟩ := h _ _ hj
    injection e with e
    subst e
    rw [add_lit] at hc ⊢
    simpa using hc
  · cases hj

theorem _root_.Go.Proofs.Ythlijldapoeepaa.Blk.five {w : World} {g : Nat} {t : TypeId} {a0 a1 a2 a3 a4 : Value} (h : Blk w g t #[a0, a1, a2, a3, a4]) (b0 b1 b2 b3 b4 : Value) :
    Blk (((((w.setCell ⟨g, 0, none⟩ b0).setCell ⟨g, 1, none⟩ b1).setCell ⟨g, 2, none⟩ b2).setCell ⟨g, 3, none⟩ b3).setCell ⟨g, 4, none⟩ b4) g t #[b0, b1, b2, b3, b4] := by
  have := ((((h.set_ 0 b0).set_ 1 b1).set_ 2 b2).set_ 3 b3).set_ 4 b4
  simpa using this
theorem _root_.Go.Proofs.Ythlijldapoeepaa.Tr.five (w : World) (g : Nat) (b0 b1 b2 b3 b4 : Value) : Tr (fun b => b = g) w (((((w.setCell ⟨g, 0, none⟩ b0).setCell ⟨g, 1, none⟩ b1).setCell ⟨g, 2, none⟩ b2).setCell ⟨g, 3, none⟩ b3).setCell ⟨g, 4, none⟩ b4) :=
  (((((Tr.refl (fun b => b = g) w).setCell (p := ⟨g, 0, none⟩) (fun _ => rfl) b0).setCell (p := ⟨g, 1, none⟩) (fun _ => rfl) b1).setCell (p := ⟨g, 2, none⟩) (fun _ => rfl) b2).setCell (p := ⟨g, 3, none⟩) (fun _ => rfl) b3).setCell (p := ⟨g, 4, none⟩) (fun _ => rfl) b4
theorem hcs_of {a j q n cs : Nat} (h : 256 * n ≤ cs) (h2 : a + q ≤ n) (h3 : j < q) : (a + j + 1) * 256 ≤ cs := by omega
theorem DAt.caps {bs cs bn cn : Nat} {Al : Option Addr} {cl : Nat} {cells : List Value} (h : DAt w g D M R bs cs bn cn Al cl cells) : 256 * D.n ≤ cs ∧ cs ≤ 9223372036854775807 := by
  obtain ⟨A, c, hv, hc, _, hm⟩ := ownsRow_slice h.safe
  injection hv with _ _ hv
  simp only [maxLen] at hm
  have := h.ok.len
  omega

theorem crash_at {bs cs bn cn : Nat} {Al : Option Addr} {cl : Nat} {cells : List Value} {kept : List Int} (h : DAt w g D M R bs cs bn cn Al cl cells) {W w5 : World} (htW : Tr (fun b => b = bs) w W) {S : List Int}
    (ho : W.ownsRow 0 5 1 (.slice (some ⟨bs, 0, none⟩) D.safe.length cs) D.safe.length (by8 S)) (hS : crashL kept D.gs D.gs.length D.safe = S) {A5 : Option Addr} {c5 : Nat}
    (ho5 : w5.ownsRow W.heap.size 5 1 (.slice A5 D.safe.length c5) D.safe.length (by8 S)) (hb5 : Below W.heap.size W w5) {a0 a1 a2 a3 a4 : Value} (hk : Blk w5 g 74 #[a0, a1, a2, a3, a4]) :
    RetW w g M R (crashD D kept) 0 (.returned (.int .i64 0)) (((((w5.setCell ⟨g, 0, none⟩ (.slice (some ⟨bs, 0, none⟩) D.safe.length cs)).setCell ⟨g, 1, none⟩ (.slice A5 D.safe.length c5)).setCell ⟨g, 2, none⟩ (.slice none 0 0)).setCell ⟨g, 3, none⟩ (.bool false)).setCell ⟨g, 4, none⟩ (.bool false)) := by
  have hSl : S.length = D.safe.length := by rw [← hS, crashL_length h.ok kept (Nat.le_refl _), h.ok.len]
  have hpos : 1 ≤ D.safe.length := by have := h.ok.pos; rw [h.ok.len]; omega
  obtain ⟨b5, rfl⟩ := ownsRow_addr ho5 hpos
  have hb5g := own_ge ho5 b5 rfl
  have hb5l := own_lt ho5 b5 rfl
  have hgl := h.blk.lt
  have hbl := h.mlt _ h.ms
  have hsz := htW.size
  have tf := Tr.five w5 g (.slice (some ⟨bs, 0, none⟩) D.safe.length cs) (.slice (some ⟨b5, 0, none⟩) D.safe.length c5) (.slice none 0 0) (.bool false) (.bool false)
  have hk5 := hk.five (.slice (some ⟨bs, 0, none⟩) D.safe.length cs) (.slice (some ⟨b5, 0, none⟩) D.safe.length c5) (.slice none 0 0) (.bool false) (.bool false)
  refine ⟨rfl, fun b => M b ∨ b = b5, fun _ => False, ⟨bs, cs, b5, c5, none, 0, [], ⟨crash_ok h.ok kept, ?_, ?_, ?_, ownsRow_emp _ _ _ _, rfl, ?_, .inl h.mg, .inl h.ms, .inr rfl, fun b hb => (Blo.none b hb).elim, fun b hb => hb.elim, by show (([] : List (Nat × List Int)).length ≤ 1000000); simp, ?_, fun b hb => hb.elim⟩⟩, ?_, fun b hb => hb.elim, ?_⟩
  · show Blk _ g _ #[.slice _ (crashL kept D.gs D.gs.length D.safe).length cs, .slice _ (crashL kept D.gs D.gs.length D.safe).length c5, .slice none 0 0, .bool false, .bool false]
    rw [hS, hSl]
    exact hk5
  · show World.ownsRow _ 0 _ 1 (.slice _ (crashL kept D.gs D.gs.length D.safe).length cs) (crashL kept D.gs D.gs.length D.safe).length (by8 (crashL kept D.gs D.gs.length D.safe))
    rw [hS, hSl]
    refine own_tr (own_below (B := 0) ho hb5) tf (fun b hb he => ?_)
    have := (Blo.some_iff _ _).1 hb
    exact h.ne1 (this.trans he)
  · show World.ownsRow _ 0 _ 1 (.slice _ (crashL kept D.gs D.gs.length D.safe).length c5) (crashL kept D.gs D.gs.length D.safe).length (by8 (crashL kept D.gs D.gs.length D.safe))
    rw [hS, hSl]
    refine own_tr (ownsRow_base ho5 (Nat.zero_le _)) tf (fun b hb he => ?_)
    have := (Blo.some_iff _ _).1 hb
    simp at this
    omega
  · omega
  · rintro b (hb | rfl)
    · have h1 := h.mlt b hb
      have h2 := hb5.size
      have h3 := tf.size
      omega
    · have h3 := tf.size
      omega
  · rintro b (hb | rfl)
    · exact .inl hb
    · exact .inr (by omega)
  · refine (((htW.mono (fun b _ e => (e ▸ h.ms : M b))).then_below hb5)).trans tf (fun b _ e => (e ▸ h.mg : M b))

end
end Go.Proofs.Ythlijldapoeepaa.Dk
