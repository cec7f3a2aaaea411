/- Contracts of the program's package disk: wrong, part, Read, Flush. -/
import Derived.Test.YtceajiliahmkaaaDisk1
set_option maxRecDepth 100000
namespace Go.Proofs.Ytceajiliahmkaaa
set_option linter.unusedVariables false
open Go.RowKit

section
variable {g : Nat} {D : DS} {M R : Nat → Prop} {w : World}
set_option maxHeartbeats 400000 in
theorem wrong_any (at_ n : Int) (hd : IsDisk w g D M R) (hbig : -9223372036854775808 ≤ at_ ∧ at_ ≤ 9223372036854775807 ∧ -9223372036854775808 ≤ n ∧ n ≤ 9223372036854775807) :
    Calls Try.prog 56 #[.pointer (some ⟨g, 0, none⟩), .int .i64 at_, .int .i64 n] w fun e w' => e = .returned (.bool (wrongD D.n at_ n)) ∧ w = w' := by
  have HD := Lib.hid hd
  have hm : D.n ≤ 4096 := by obtain ⟨bs, cs, bn, cn, Al, cl, cells, h⟩ := hd; exact h.ok.most
  clear hd
  obtain ⟨b, hb⟩ : ∃ b, wrongD D.n at_ n = b := ⟨_, rfl⟩
  rw [hb]
  have hb' : (b = true ∧ (at_ < 0 ∨ (0 ≤ at_ ∧ n < 1) ∨ (0 ≤ at_ ∧ 1 ≤ n ∧ (D.n : Int) < n) ∨ (0 ≤ at_ ∧ 1 ≤ n ∧ n ≤ D.n ∧ (D.n : Int) - n < at_))) ∨ (b = false ∧ 0 ≤ at_ ∧ 1 ≤ n ∧ n ≤ D.n ∧ at_ ≤ D.n - n) := by
    subst hb
    unfold wrongD
    by_cases h : at_ < 0 ∨ n < 1 ∨ (D.n : Int) < n ∨ (D.n : Int) - n < at_
    · left; exact ⟨decide_eq_true h, by omega⟩
    · right; exact ⟨decide_eq_false h, by omega⟩
  clear hb
  rcases hb' with ⟨rfl, h | ⟨h, h2⟩ | ⟨h, h2, h3⟩ | ⟨h, h2, h3, h4⟩⟩ | ⟨rfl, h, h2, h3, h4⟩
  all_goals
    go_enter Try.func56, Try.ntmps56
    go_wp2_with (first | (go_at_call 29; (with_reducible refine (size_any HD.out).mono ?_); rintro e w1 ⟨rfl, rfl⟩))
    go_ret
    exact ⟨by first | rfl | (simp; omega), rfl⟩

set_option maxHeartbeats 400000 in
theorem part_any (b : Nat) (len cap at_ n : Nat) (a' n' : Int) (ha : a' = at_) (hn' : n' = n) (w : World) (hn : 1 ≤ n) (hfit : (at_ + n) * 256 ≤ cap) (hsm : at_ + n ≤ 1000000) (hcap : cap ≤ 9223372036854775807) :
    Calls Try.prog 45 #[.slice (some ⟨b, 0, none⟩) len cap, .int .i64 a', .int .i64 n'] w fun e w' => e = .returned (.slice (some ⟨b, 256 * at_, none⟩) (256 * n) (256 * n)) ∧ w = w' := by
  subst ha
  subst hn'
  go_enter Try.func45, Try.ntmps45
  go_wp2_with fail
  go_ret
  refine ⟨?_, rfl⟩
  show Ending.returned (Value.slice (some ⟨b, at_ * 256, none⟩) ((at_ + n) * 256 - at_ * 256) ((at_ + n) * 256 - at_ * 256)) = _
  rw [show (at_ + n) * 256 - at_ * 256 = 256 * n from by omega, Nat.mul_comm at_ 256]

/-- Bytes and an error, the bytes in new memory. -/
def RetB (w : World) (l : List Int) (err : Int) (e : Ending) (w' : World) : Prop :=
  ∃ A c, e = .returned (.tuple #[.slice A l.length c, .int .i64 err]) ∧ l.length ≤ c ∧ w'.ownsRow w.heap.size 5 1 (.slice A l.length c) l.length (by8 l) ∧ Below w.heap.size w w'

theorem readD_length {at_ n : Int} (ho : D.Ok) (h : wrongD D.n at_ n = false) : ((D.now.drop (256 * at_.toNat)).take (256 * n.toNat)).length = 256 * n.toNat := by
  obtain ⟨h1, h2, h3, h4⟩ := wrongD_no h
  rw [List.length_take, List.length_drop, ho.lnow]
  omega

theorem _root_.Go.Proofs.Ytceajiliahmkaaa.Rd.mid {A : Option Addr} {b c n : Nat} {l : List Int} (h : w.ownsRow 0 5 1 (.slice (some ⟨b, 0, none⟩) l.length c) l.length (by8 l)) (o : Nat) : Rd w (some ⟨b, o, none⟩) (by8 ((l.drop o).take n)) := fun j u hj => by
  refine ⟨_, rfl, ?_⟩
  rw [← by8_take, ← by8_drop, List.getElem?_take] at hj
  split at hj
  · rw [List.getElem?_drop] at hj
    have hl := (List.getElem?_eq_some_iff.1 hj).1
    rw [by8_length] at hl
    rw [add_lit, h.cellAt _ (by omega)]
    exact hj
  · cases hj

set_option maxHeartbeats 400000 in
theorem read_any (at_ n : Int) (hd : IsDisk w g D M R) (hbig : -9223372036854775808 ≤ at_ ∧ at_ ≤ 9223372036854775807 ∧ -9223372036854775808 ≤ n ∧ n ≤ 9223372036854775807) :
    Calls Try.prog 66 #[.pointer (some ⟨g, 0, none⟩), .int .i64 at_, .int .i64 n] w (RetB w (readD D at_ n) (readE D at_ n)) := by
  have HD := Lib.hid hd
  have HBIG := Lib.hid hbig
  obtain ⟨bs, cs, bn, cn, Al, cl, cells, h⟩ := hd
  have c1 := h.blk.cell 1
  simp at c1
  have HH := Lib.hid h
  clear h hbig
  cases hw : wrongD D.n at_ n with
  | true =>
    rw [show readD D at_ n = [] from if_pos hw, show readE D at_ n = 1 from if_pos hw]
    have HW := Lib.hid (wrong_any (w := w) at_ n HD.out HBIG.out)
    rw [hw] at HW
    clear hw
    go_enter Try.func66, Try.ntmps66
    go_wp2_with (first | (go_at_call 56; (with_reducible refine HW.out.mono ?_); rintro e w1 ⟨rfl, rfl⟩))
    go_ret2
    exact ⟨none, 0, rfl, by simp, ownsRow_emp _ _ _ _, Below.refl _ _⟩
  | false =>
    have hlen := readD_length HH.out.ok hw
    obtain ⟨h1, h2, h3, h4⟩ := wrongD_no hw
    obtain ⟨a, rfl⟩ := Int.eq_ofNat_of_zero_le h1
    obtain ⟨k, rfl⟩ := Int.eq_ofNat_of_zero_le (show 0 ≤ n by omega)
    rw [Int.toNat_natCast, Int.toNat_natCast] at hlen
    rw [show readD D a k = (D.now.drop (256 * a)).take (256 * k) from if_neg (by rw [hw]; simp), show readE D a k = 0 from if_neg (by rw [hw]; simp)]
    have HW := Lib.hid (wrong_any (w := w) a k HD.out HBIG.out)
    rw [hw] at HW
    have hln := HH.out.ok.lnow
    have hcn : D.now.length ≤ cn ∧ cn ≤ maxLen := by
      obtain ⟨A, c, hv, hc, _, hm⟩ := ownsRow_slice HH.out.now
      injection hv with _ _ hv
      omega
    have HMID := Lib.hid (Rd.mid (A := none) (n := 256 * k) HH.out.now (256 * a))
    have HLEN := Lib.hid hlen
    have hmost := HH.out.ok.most
    have hb1 : (a + k) * 256 ≤ D.now.length := by omega
    have hb2 : 1 ≤ k := by omega
    have HLN := Lib.hid hln
    clear hw hlen hln
    have hcn1 := hcn.1
    have hcn2 : cn ≤ 9223372036854775807 := by have := hcn.2; simp only [maxLen] at this; omega
    have hkm : k ≤ 4096 := by omega
    clear hcn
    go_enter Try.func66, Try.ntmps66
    go_wp2_with (first
      | (go_at_call 56; (with_reducible refine HW.out.mono ?_); rintro e w1 ⟨rfl, rfl⟩)
      | (go_at_call 45; (with_reducible refine (part_any bn _ cn a k _ _ rfl rfl _ hb2 (by omega) (by omega) hcn2).mono ?_); rintro e w1 ⟨rfl, rfl⟩)
      | (go_at_call 46; (with_reducible refine (clone_n _ _ (256 * k) _ _ HMID.out HLEN.out (by omega)).mono ?_); rintro e w1 ⟨A1, c1, rfl, hc1, ho1, hb1⟩; have HO1 := Lib.hid ho1; have HB1 := Lib.hid hb1; clear ho1 hb1))
    go_ret2
    exact ⟨A1, c1, by rw [HLEN.out]; rfl, by rw [HLEN.out]; exact hc1, by rw [HLEN.out]; exact HO1.out, HB1.out⟩

theorem bl_of_tr {w : World} {F : Nat → Prop} : Tr F w w.drew := (Tr.refl F w).drew

theorem sizes : (Try.prog.info? 5).map (·.size) = some 1 := by kernel_rfl

theorem flush_dead (hd : IsDisk w g D M R) (h1 : D.dead = true) : Calls Try.prog 44 #[.pointer (some ⟨g, 0, none⟩)] w fun e w' => e = .returned (.int .i64 21) ∧ w = w' := by
  obtain ⟨bs, cs, bn, cn, Al, cl, cells, h⟩ := hd
  have c4 := h.blk.cell 4
  simp at c4
  rw [h1] at c4
  clear h h1
  go_enter Try.func44, Try.ntmps44
  go_wp2_with fail
  go_ret
  exact ⟨rfl, rfl⟩
theorem flush_failing (hd : IsDisk w g D M R) (h1 : D.dead = false) (h2 : D.failing = true) : Calls Try.prog 44 #[.pointer (some ⟨g, 0, none⟩)] w fun e w' => e = .returned (.int .i64 20) ∧ IsDisk w' g { D with dead := true } M R ∧ Tr M w w' := by
  obtain ⟨bs, cs, bn, cn, Al, cl, cells, h⟩ := hd
  have c3 := h.blk.cell 3
  have c4 := h.blk.cell 4
  have f4 := h.blk.frozen 4
  simp at c3 c4
  rw [h1] at c4
  rw [h2] at c3
  have HH := Lib.hid h
  clear h h1 h2
  go_enter Try.func44, Try.ntmps44
  go_wp2_with fail
  go_ret
  have h := HH.out
  have ht : Tr (fun b => b = g) w (w.setCell ⟨g, 4, none⟩ (.bool true)) := (Tr.refl (fun b => b = g) w).setCell (p := ⟨g, 4, none⟩) (fun _ => rfl) _
  refine ⟨rfl, ⟨bs, cs, bn, cn, Al, cl, cells, ⟨h.ok.pos, h.ok.most, h.ok.len, h.ok.lnow, h.ok.bs, h.ok.bn, h.ok.gs⟩, h.blk.set_ 4 (.bool true), ?_, ?_, ?_, ?_, h.ne, h.mg, h.ms, h.mn, h.ml, h.rm, h.few, fun b x => Nat.lt_of_lt_of_le (h.mlt b x) ht.size, fun b x => Nat.lt_of_lt_of_le (h.rlt b x) ht.size⟩, ht.mono (fun b _ e => e ▸ h.mg)⟩
  · exact own_tr h.safe ht (fun b hb e => h.ne1 (((Blo.some_iff _ _).1 hb).trans e))
  · exact own_tr h.now ht (fun b hb e => h.ne2 (((Blo.some_iff _ _).1 hb).trans e))
  · exact own_tr h.row ht (fun b hb e => h.ne3 (e ▸ hb))
  · exact h.gat.tr ht (fun b hb e => h.rm b hb (e ▸ h.mg))

set_option maxHeartbeats 800000 in
theorem flush_ok (hd : IsDisk w g D M R) (h1 : D.dead = false) (h2 : D.failing = false) : Calls Try.prog 44 #[.pointer (some ⟨g, 0, none⟩)] w fun e w' => e = .returned (.int .i64 0) ∧ IsDisk w' g { D with safe := D.now, gs := [] } M R ∧ Tr M w w' := by
  obtain ⟨bs, cs, bn, cn, Al, cl, cells, h⟩ := hd
  have c0 := h.blk.cell 0
  have c1 := h.blk.cell 1
  have c3 := h.blk.cell 3
  have c4 := h.blk.cell 4
  simp at c0 c1 c3 c4
  rw [h1] at c4
  rw [h2] at c3
  have HH := Lib.hid h
  have hll : Hid ((by8 D.now).length = Nat.min D.now.length D.safe.length) := Lib.hid (by rw [by8_length, h.ok.len, h.ok.lnow]; exact (Nat.min_self _).symm)
  have hfit : Hid (0 + (by8 D.now).length ≤ D.safe.length) := Lib.hid (by rw [by8_length, h.ok.len, h.ok.lnow]; omega)
  have H1 := Lib.hid h1
  have H2 := Lib.hid h2
  clear h h1 h2
  go_enter Try.func44, Try.ntmps44
  go_wp2_with fail
  go_region_law (refine stepR_copy (off := 0) (cs := by8 D.now) Try.underlying33 sizes rfl rfl (by exact HH.out.safe) rfl rfl (fun _ => rfl) (Rd.of_own (by exact HH.out.now)) hll.out hfit.out (by8_one _) ?_; intro w2 ho2 ht2; have hb2 := ht2.blk (by exact HH.out.blk) (fun hb => HH.out.ne1 ((Blo.some_iff _ _).1 hb)); have d2 := hb2.cell 2; have f2 := hb2.frozen 2; simp at d2; have HO2 := Lib.hid ho2; have HT2 := Lib.hid ht2; have HB2 := Lib.hid hb2; clear ho2 ht2 hb2)
  all_goals
    go_wp2_with fail
    go_ret
    have h := HH.out
    have hlen : D.safe.length = D.now.length := by rw [h.ok.len, h.ok.lnow]
    have hsp : splice (by8 D.safe) 0 (by8 D.now) = by8 D.now := by
      unfold splice
      rw [List.take_zero, List.nil_append, Nat.zero_add, List.drop_of_length_le (by rw [by8_length, by8_length]; omega), List.append_nil]
    have ht2 : Tr (fun b => b = bs) w w2 := ((bl_of_tr (w := w)).trans HT2.out (fun b _ hb => ((Blo.some_iff _ _).1 hb).symm))
    have ht3 : Tr (fun b => b = g) w2 (w2.setCell ⟨g, 2, none⟩ (.slice none 0 0)) := (Tr.refl (fun b => b = g) w2).setCell (p := ⟨g, 2, none⟩) (fun _ => rfl) _
    have hd2 := DAt.now h
    have hsafe := HO2.out
    rw [hsp] at hsafe
    have hn2 : D.now.length / 256 = D.n := by rw [h.ok.lnow]; omega
    have hp := h.ok.pos
    have hm := h.ok.most
    have hl := h.ok.lnow
    have hblk := HB2.out.set_ 2 (.slice none 0 0)
    rw [hlen] at hblk
    rw [hlen] at hsafe
    refine ⟨rfl, ⟨bs, cs, bn, cn, none, 0, [], ⟨?_, ?_, ?_, ?_, h.ok.bn, h.ok.bn, fun x hx => by cases hx⟩, hblk, ?_, ?_, ownsRow_emp _ _ _ _, rfl, h.ne, h.mg, h.ms, h.mn, fun b hb => (Blo.none b hb).elim, h.rm, by simp, fun b x => Nat.lt_of_lt_of_le (h.mlt b x) (Nat.le_trans ht2.size ht3.size), fun b x => Nat.lt_of_lt_of_le (h.rlt b x) (Nat.le_trans ht2.size ht3.size)⟩, (ht2.mono (G := M) (fun b _ e => e ▸ h.ms)).trans ht3 (fun b _ e => e ▸ h.mg)⟩
    · show 1 ≤ D.now.length / 256; omega
    · show D.now.length / 256 ≤ 4096; omega
    · show D.now.length = 256 * (D.now.length / 256); omega
    · show D.now.length = 256 * (D.now.length / 256); omega
    · exact own_tr hsafe ht3 (fun b hb e => h.ne1 (((Blo.some_iff _ _).1 hb).trans e))
    · exact own_tr (own_tr h.now ht2 (fun b hb e => h.ne ((((Blo.some_iff _ _).1 hb).trans e).symm))) ht3 (fun b hb e => h.ne2 (((Blo.some_iff _ _).1 hb).trans e))

/-- What a call that writes the disk leaves: the error, the disk behind it, and nothing else turned. -/
def RetD (w : World) (g : Nat) (D' : DS) (M R : Nat → Prop) (err : Int) (e : Ending) (w' : World) : Prop :=
  e = .returned (.int .i64 err) ∧ IsDisk w' g D' M R ∧ Tr M w w'
theorem flush_any (hd : IsDisk w g D M R) : Calls Try.prog 44 #[.pointer (some ⟨g, 0, none⟩)] w (RetD w g (flushD D) M R (flushE D)) := by
  unfold RetD flushD flushE
  by_cases h1 : D.dead = true
  · rw [if_pos h1, if_pos h1]
    exact (flush_dead hd h1).mono fun e w' ⟨he, hw⟩ => by subst hw; exact ⟨he, hd, Tr.refl _ _⟩
  · rw [if_neg h1, if_neg h1]
    by_cases h2 : D.failing = true
    · rw [if_pos h2, if_pos h2]
      exact flush_failing hd (by simpa using h1) h2
    · rw [if_neg h2, if_neg h2]
      exact flush_ok hd (by simpa using h1) (by simpa using h2)
end
end Go.Proofs.Ytceajiliahmkaaa
