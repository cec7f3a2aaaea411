/- Contract of the statements' do: a call of the program's disk. -/
import Derived.Test.YtadoclcabkcmeaaDisk5
namespace Go.Proofs.Ytadoclcabkcmeaa
set_option linter.unusedVariables false
open Go.RowKit

/-- A call of a disk. -/
structure OpS where
  kind : Int
  n : Int
  b : List Int
  l : List Int
structure OpS.Ok (o : OpS) : Prop where
  kind : -9223372036854775808 ≤ o.kind ∧ o.kind ≤ 9223372036854775807
  n : -9223372036854775808 ≤ o.n ∧ o.n ≤ 9223372036854775807
  b : isB o.b
  lb : o.b.length ≤ 140737488351232
  l : ∀ x ∈ o.l, -9223372036854775808 ≤ x ∧ x ≤ 9223372036854775807
  ll : o.l.length ≤ 140737488351232
def doD (D : DS) (o : OpS) : DS := if o.kind = 0 ∨ o.kind = 1 then writeD D o.n o.b else if o.kind = 2 then flushD D else if o.kind = 3 then failD D else if o.kind = 4 then crashD D o.l else D
def doE (D : DS) (o : OpS) : Int := if o.kind = 0 ∨ o.kind = 1 then writeE D o.n o.b else if o.kind = 2 then flushE D else 0

section
variable {g : Nat} {D : DS} {M R : Nat → Prop} {w : World}
theorem RetW.from_ {w1 w' : World} {D' : DS} {err : Int} {e : Ending} (hb : Below w.heap.size w w1) (h : RetW w1 g M R D' err e w') : RetW w g M R D' err e w' := by
  obtain ⟨he, M', R', h1, h2, h3, h4⟩ := h
  have := hb.size
  exact ⟨he, M', R', h1, fun b x => (h2 b x).imp id (fun q => by omega), fun b x => (h3 b x).imp id (fun q => by omega), (Tr.of_below hb).trans h4 (fun _ _ q => q)⟩
theorem RetW.of_d {w' : World} {D' : DS} {err : Int} {e : Ending} (h : RetD w g D' M R err e w') : RetW w g M R D' err e w' :=
  ⟨h.1, M, R, h.2.1, fun b x => .inl x, fun b x => .inl x, h.2.2⟩

set_option maxHeartbeats 1600000 in
theorem do_any (A B : Option Addr) (c c' : Nat) (o : OpS) (hd : IsDisk w g D M R) (ho : o.Ok) (hA : Rd w A (by8 o.b)) (hB : Rd w B (byI o.l)) (hAM : o.b ≠ [] → ∀ b, Blo A b → ¬ M b) (hBM : o.l ≠ [] → ∀ b, Blo B b → ¬ M b) (hfew : D.gs.length < 1000000) :
    Calls Try.prog 8 #[.pointer (some ⟨g, 0, none⟩), .agg #[.int .i64 o.kind, .int .i64 o.n, .slice A o.b.length c, .slice B o.l.length c']] w (RetW w g M R (doD D o) (doE D o)) := by
  have HD := Lib.hid hd
  have HO := Lib.hid ho
  have HA := Lib.hid hA
  have HB := Lib.hid hB
  have HAM := Lib.hid hAM
  have HBM := Lib.hid hBM
  have hk := ho.kind
  have hn := ho.n
  have hlb := ho.lb
  clear hd ho hA hB hAM hBM
  have BA : ∀ cs : Array Value, Hid (Below w.heap.size w (w.alloc (.cells cs 31))) := fun cs => Lib.hid (bl_alloc _ _)
  have BA := Lib.hid BA
  by_cases h01 : o.kind = 0 ∨ o.kind = 1
  · have e1 : doD D o = writeD D o.n o.b := if_pos h01
    have e2 : doE D o = writeE D o.n o.b := if_pos h01
    rw [e1, e2]
    clear e1 e2
    have hkk : (o.kind == 0 || o.kind == 1) = true := by simpa using h01
    by_cases h0 : o.kind = 0
    all_goals
      go_enter Try.func8, Try.ntmps8
      go_wp2_with (first
        | (go_at_call 14; (with_reducible refine (lent_any A c o.b _ (HA.out.below (BA.out _).out) hlb).mono ?_); rintro e w1 ⟨b1, k1, rfl, ho1, hb1⟩; have nb1 := (Blk.new _ _ _).keep hb1; have x1 := nb1.cell 1; have x2 := nb1.cell 2; simp at x1 x2; have HK1 := Lib.hid (own_pre1 ho1 rfl); have NB1 := Lib.hid nb1; have GE1 := Lib.hid (own_ge ho1 b1 rfl); have LT1 := Lib.hid (own_lt ho1 b1 rfl); have HO1 := Lib.hid (own_pre8 (m := [167]) ho1); have RO1 := Lib.hid (Rd.of_own (ownsRow_base ho1 (Nat.zero_le _))); have HB1 := Lib.hid (bl_chain (BA.out _).out hb1); clear ho1 hb1 nb1)
        | (go_at_call 22; (with_reducible refine (write_any (some ⟨b1, 0, none⟩) k1 o.b o.n (HD.out.below HB1.out) (Rd.of_own (ownsRow_base HO1.out (Nat.zero_le _))) HO.out.b hlb hfew hn).mono ?_); rintro e w2 ⟨rfl, M2, R2, hd2, hm2, hr2, ht2⟩; have gl := HD.out.mlt; have nb2 := ht2.blk NB1.out (fun hM => by have := gl _ hM; omega); have y1 := nb2.cell 1; have y2 := nb2.cell 2; simp at y1 y2; have RA2 := Lib.hid ((HA.out.below HB1.out).tr_ne ht2 (fun hne => HAM.out (fun h0 => hne (by rw [h0]; rfl)))); have RO2 := Lib.hid (RO1.out.tr ht2 (fun ad e h => by injection e with e; subst e; have h1 := HD.out.mlt _ h; have h2 := GE1.out; simp at h1 h2; omega)); have OW2 := Lib.hid (own_tr (ownsRow_base HO1.out (Nat.zero_le _)) ht2 (fun b hb h => by have h0 := (Blo.some_iff _ _).1 hb; have h1 := HD.out.mlt _ h; have h2 := GE1.out; simp at h0 h1 h2; omega)); have HD2 := Lib.hid hd2; have HM2 := Lib.hid hm2; have HR2 := Lib.hid hr2; have HT2 := Lib.hid ht2; clear hd2 hm2 hr2 ht2 gl nb2)
        | (go_at_call 17; (with_reducible refine (kept_any A c b1 k1 o.b _ RA2.out RO2.out HK1.out hlb).mono ?_); rintro e w' ⟨rfl, rfl⟩)
        | (go_at_call 18; (with_reducible refine (spoil_any (some ⟨b1, 0, none⟩) o.b.length k1 _ _ OW2.out hlb).mono ?_); rintro e w3 ⟨rfl, ht3⟩; have HT3 := Lib.hid ht3; clear ht3))
    all_goals
      go_ret
      have h2 := GE1.out
      have h3 := LT1.out
      simp at h2
      have hbm : ∀ b, M2 b ∨ R2 b → ¬ Blo (some ⟨b1, 0, none⟩) b := fun b hb hbb => by
        have h0 := (Blo.some_iff _ _).1 hbb
        simp at h0
        subst h0
        rcases hb with hb | hb
        · rcases HM2.out _ hb with h1 | h1
          · have := HD.out.mlt _ h1; omega
          · omega
        · rcases HR2.out _ hb with h1 | h1
          · have := HD.out.rlt _ h1; omega
          · omega
      have hs1 := HB1.out.size
      refine ⟨by rfl, M2, R2, HD2.out.tr HT3.out (fun b hb => hbm b (.inl hb)) (fun b hb => hbm b (.inr hb)), fun b x => (HM2.out b x).imp id (fun q => by omega), fun b x => (HR2.out b x).imp id (fun q => by omega), ?_⟩
      refine (((Tr.of_below HB1.out).trans HT2.out (fun _ _ q => q)).trans HT3.out (fun b hb h => ?_))
      have h0 := (Blo.some_iff _ _).1 h
      simp at h0
      omega
  · have e1 : doD D o = if o.kind = 2 then flushD D else if o.kind = 3 then failD D else if o.kind = 4 then crashD D o.l else D := if_neg h01
    have e2 : doE D o = if o.kind = 2 then flushE D else 0 := if_neg h01
    rw [e1, e2]
    clear e1 e2
    by_cases h2 : o.kind = 2
    · rw [if_pos h2, if_pos h2]
      go_enter Try.func8, Try.ntmps8
      go_wp2_with (first
        | (go_at_call 25; (with_reducible refine (flush_any (HD.out.below (BA.out _).out)).mono ?_); rintro e w1 hw1; have HW1 := Lib.hid hw1; obtain ⟨he1, hw1⟩ := hw1; subst he1; clear hw1))
      go_ret
      exact RetW.from_ (BA.out _).out (RetW.of_d HW1.out)
    · rw [if_neg h2, if_neg h2]
      by_cases h3 : o.kind = 3
      · rw [if_pos h3]
        go_enter Try.func8, Try.ntmps8
        go_wp2_with (first
          | (go_at_call 27; (with_reducible refine (fail_any (HD.out.below (BA.out _).out)).mono ?_); rintro e w1 ⟨rfl, hw1⟩; have HW1 := Lib.hid hw1; clear hw1))
        go_ret
        exact RetW.from_ (BA.out _).out (RetW.of_d ⟨rfl, HW1.out⟩)
      · rw [if_neg h3]
        by_cases h4 : o.kind = 4
        · rw [if_pos h4]
          go_enter Try.func8, Try.ntmps8
          go_wp2_with (first
            | (go_at_call 9; (with_reducible refine (crash_any B c' o.l (HD.out.below (BA.out _).out) (HB.out.below (BA.out _).out) HO.out.ll HBM.out).mono ?_); rintro e w1 hw1; have HW1 := Lib.hid hw1; obtain ⟨he1, hw1⟩ := hw1; subst he1; clear hw1))
          go_ret
          exact RetW.from_ (BA.out _).out HW1.out
        · rw [if_neg h4]
          go_enter Try.func8, Try.ntmps8
          go_wp2_with fail
          go_ret
          exact RetW.same HD.out (by rfl) (BA.out _).out
end
end Go.Proofs.Ytadoclcabkcmeaa
