/- The walk of DiskPlays. -/
import Derived.Test.YtadoclcabkcmeaaRefAlike
import Derived.Lib.SlBytesConst
namespace Go.Proofs.Ytadoclcabkcmeaa
set_option linter.unusedVariables false
open Go.RowKit

/-- All that a script's call reads lies below. -/
theorem OpArg.In.noP {w : World} {y : OpArg} {M : Nat → Prop} (h : y.In w) (hM : ∀ b, M b → w.heap.size ≤ b) : (y.o.b ≠ [] → ∀ b, Blo y.A b → ¬ M b) ∧ (y.o.l ≠ [] → ∀ b, Blo y.B b → ¬ M b) := by
  refine ⟨fun hne b hb hm => ?_, fun hne b hb hm => ?_⟩
  · have h1 := h.rb.blo_lt (fun e => hne (by simpa [by8] using e)) b hb
    have h2 := hM b hm
    omega
  · have h1 := h.rl.blo_lt (fun e => hne (by simpa [byI] using e)) b hb
    have h2 := hM b hm
    omega
/-- A disk and the reference's, apart. -/
structure Two (w W : World) (g r : Nat) (D E : DS) (M R Mr Rr : Nat → Prop) : Prop where
  d : IsDisk W g D M R
  r : IsRef W r E Mr Rr
  dr : ∀ b, Mr b ∨ Rr b → ¬ M b
  rd : ∀ b, M b ∨ R b → ¬ Mr b
  m : ∀ b, M b → w.heap.size ≤ b
  mr : ∀ b, Mr b → w.heap.size ≤ b
  b : Below w.heap.size w W
section
variable {w W W' : World} {g r : Nat} {D D' E E' : DS} {M R Mr Rr M' R' : Nat → Prop}
theorem Two.below (h : Two w W g r D E M R Mr Rr) (hb : Below W.heap.size W W') : Two w W' g r D E M R Mr Rr := ⟨h.d.below hb, h.r.below hb, h.dr, h.rd, h.m, h.mr, bl_chain h.b hb⟩
theorem Two.do_ (h : Two w W g r D E M R Mr Rr) (hd : IsDisk W' g D' M' R') (hm : ∀ b, M' b → M b ∨ W.heap.size ≤ b) (hr : ∀ b, R' b → R b ∨ W.heap.size ≤ b) (ht : Tr M W W') : Two w W' g r D' E M' R' Mr Rr := by
  have z := h.b.size
  refine ⟨hd, h.r.tr ht (fun b x => h.dr b (.inl x)) (fun b x => h.dr b (.inr x)), fun b x hM => ?_, fun b x hM => ?_, fun b x => ?_, h.mr, bl_tr h.b ht (fun b x => h.m b x)⟩
  · have hlt : b < W.heap.size := by rcases x with x | x; exact h.r.mlt b x; exact h.r.rlt b x
    rcases hm b hM with y | y
    · exact h.dr b x y
    · omega
  · have hlt := h.r.mlt b hM
    rcases x with x | x
    · rcases hm b x with y | y
      · exact h.rd b (.inl y) hM
      · omega
    · rcases hr b x with y | y
      · exact h.rd b (.inr y) hM
      · omega
  · rcases hm b x with y | y
    · exact h.m b y
    · omega
theorem Two.rdo (h : Two w W g r D E M R Mr Rr) (hd : IsRef W' r E' M' R') (hm : ∀ b, M' b → Mr b ∨ W.heap.size ≤ b) (hr : ∀ b, R' b → Rr b ∨ W.heap.size ≤ b) (ht : Tr Mr W W') : Two w W' g r D E' M R M' R' := by
  have z := h.b.size
  refine ⟨h.d.tr ht (fun b x => h.rd b (.inl x)) (fun b x => h.rd b (.inr x)), hd, fun b x hM => ?_, fun b x hM => ?_, h.m, fun b x => ?_, bl_tr h.b ht (fun b x => h.mr b x)⟩
  · have hlt := h.d.mlt b hM
    rcases x with x | x
    · rcases hm b x with y | y
      · exact h.dr b (.inl y) hM
      · omega
    · rcases hr b x with y | y
      · exact h.dr b (.inr y) hM
      · omega
  · have hlt : b < W.heap.size := by rcases x with x | x; exact h.d.mlt b x; exact h.d.rlt b x
    rcases hm b hM with y | y
    · exact h.rd b x y
    · omega
  · rcases hm b x with y | y
    · exact h.mr b y
    · omega
end
theorem two_start {w w3 w4 w5 w6 : World} {g r b3 : Nat} {D : DS} {M Mr Rr : Nat → Prop} (hd : IsDisk w4 g D M NoB) (hm : ∀ b, M b → w3.heap.size ≤ b) (q4 : Below w3.heap.size w3 w4) (hr : IsRef w5 r D Mr Rr) (hm5 : ∀ b, Mr b → w4.heap.size ≤ b) (hr5 : ∀ b, Rr b → w4.heap.size ≤ b) (q5 : Below w4.heap.size w4 w5)
    (b5 : Below w.heap.size w w5) (b3' : Below w.heap.size w w3) (lo : w.heap.size ≤ b3) (lt : b3 < w3.heap.size) (ht : Tr (Blo (some ⟨b3, 0, none⟩)) w5 w6) : Two w w6 g r D D M NoB Mr Rr := by
  have z3 := b3'.size
  have z4 := q4.size
  have z5 := q5.size
  have hb : ∀ b, Blo (some ⟨b3, 0, none⟩) b → b = b3 := fun b h => by have := (Blo.some_iff _ _).1 h; simp at this; omega
  refine ⟨(hd.below q5).tr ht (fun b x y => by have h1 := hm b x; have h2 := hb b y; omega) (fun b x => x.elim), hr.tr ht (fun b x y => by have h1 := hm5 b x; have h2 := hb b y; omega) (fun b x y => by have h1 := hr5 b x; have h2 := hb b y; omega), fun b x y => ?_, fun b x y => ?_, fun b x => by have := hm b x; omega, fun b x => by have := hm5 b x; omega, bl_tr b5 ht (fun b x => by have := hb b x; omega)⟩
  · have h1 := hd.mlt b y
    rcases x with x | x
    · have := hm5 b x; omega
    · have := hr5 b x; omega
  · rcases x with x | x
    · have h1 := hd.mlt b x
      have := hm5 b y; omega
    · exact x
theorem rd_mark {W : World} (t : TypeId) (l : List Int) (fr : Nat × Nat) : Rd (W.alloc (.cells (by8 l).toArray t fr)) (some ⟨W.heap.size, 0, none⟩) (by8 l) := fun j u hj => by
  refine ⟨_, rfl, ?_⟩
  rw [add_lit, Nat.zero_add, World.cell?_alloc_mark]
  simpa using hj

def other : List Int := [111, 116, 104, 101, 114]

set_option maxHeartbeats 8000000 in
set_option maxRecDepth 20000 in
theorem diskPlays_walk (sc : Int) (A1 : Option Addr) (c1 : Nat) (im : List Int) (A : Option Addr) (c : Nat) (l : List OpArg) (n : Int) (w : World) (hsc : -9223372036854775808 ≤ sc ∧ sc ≤ 9223372036854775807)
    (hr1 : Rd w A1 (by8 im)) (hc1 : im.length ≤ c1) (hB1 : isB im) (hl1 : im.length ≤ 140737488351232) (hl : l.length ≤ 140737488351232)
    (hx : ∀ i (h : i < l.length), l[i].In w ∧ ∃ b o, A = some ⟨b, o, none⟩ ∧ ∀ j u, l[i].cells[j]? = some u → w.cell? ⟨b, o + (i * 4 + j), none⟩ = some u) (hn : -9223372036854775808 ≤ n ∧ n ≤ 9223372036854775807) :
    Calls Try.prog 4 #[.int .i64 sc, .slice A1 im.length c1, .slice A l.length c, .int .i64 n] w fun e w' => e = .returned (.bool true) ∧ Below w.heap.size w w' := by
  have HX := Lib.hid hx
  have HR := Lib.hid hr1
  have HB := Lib.hid hB1
  have HN := Lib.hid hn
  clear hx hr1 hB1 hc1 hn
  have LN : Hid (∀ W, Below w.heap.size w W → Calls Try.prog 14 #[.slice A1 im.length c1] W fun e w' => ∃ g cap, e = .returned (.slice (some ⟨g, 0, none⟩) im.length cap) ∧ w'.ownsRow W.heap.size 5 1 (.slice (some ⟨g, 0, none⟩) (im.length + 1) cap) (im.length + 1) (by8 (im ++ [167])) ∧ Below W.heap.size W w') := Lib.hid fun W hW => lent_any A1 c1 im W (HR.out.below hW) hl1
  have hns : ∃ (q : Nat → Value) (ec : Int), Hid (∀ W, Calls Try.prog 7 #[.int .i64 sc] W fun e w' => ∃ k, e = .returned (.tuple #[q k, .int .i64 ec]) ∧ Below W.heap.size W w') ∧ Hid (∀ W, Calls Try.prog 13 #[.int .i64 sc] W (RetE W ec)) ∧ ((q = fun k => .pointer (some ⟨k, 0, none⟩)) ∧ ec = 0 ∨ (q = fun k => .pointer none) ∧ ec = 1) := by
    by_cases h : 1 ≤ sc ∧ sc ≤ 4096
    · refine ⟨fun k => .pointer (some ⟨k, 0, none⟩), 0, Lib.hid fun W => ?_, Lib.hid fun W => ?_, .inl ⟨rfl, rfl⟩⟩
      · obtain ⟨m, rfl⟩ := Int.eq_ofNat_of_zero_le (show 0 ≤ sc by omega)
        exact (new_ok m W (by omega) (by omega)).mono fun e w' ⟨g, M, he, _, _, hb⟩ => ⟨g, he, hb⟩
      · have := rnew_any sc W hsc
        rwa [if_pos h] at this
    · refine ⟨fun k => .pointer none, 1, Lib.hid fun W => ?_, Lib.hid fun W => ?_, .inr ⟨rfl, rfl⟩⟩
      · exact (new_bad sc W h).mono fun e w' ⟨he, hb⟩ => ⟨0, he, hb⟩
      · have := rnew_any sc W hsc
        rwa [if_neg h] at this
  obtain ⟨q, ec, NW, RN, hq⟩ := hns
  by_cases hlo : loadOk im
  · have HLO := Lib.hid hlo
    clear hlo
    rcases hq with ⟨rfl, rfl⟩ | ⟨rfl, rfl⟩
    all_goals
      go_enter Try.func4, Try.ntmps4
      go_wp2_with (first
        | (go_at_call 7; (with_reducible refine (NW.out _).mono ?_); rintro e w1 ⟨k1, rfl, hb⟩; have B1 := Lib.hid hb; clear hb)
        | (go_at_call 13; (with_reducible refine (RN.out _).mono ?_); rintro e w2 ⟨p2, rfl, hb⟩; have B2 := Lib.hid (bl_chain B1.out hb); clear hb)
        | (go_at_call 14; (with_reducible refine (LN.out _ B2.out).mono ?_); rintro e w3 ⟨b3, k3, rfl, ho, hb⟩; have HK3 := Lib.hid (own_pre1 ho rfl); have RO3 := Lib.hid (Rd.of_own (ownsRow_base ho (Nat.zero_le _))); have HO3 := Lib.hid (own_pre8 (m := [167]) ho); have GE3 := Lib.hid (own_ge ho b3 rfl); have LT3 := Lib.hid (own_lt ho b3 rfl); have B3 := Lib.hid (bl_chain B2.out hb); clear ho hb)
        | (go_at_call 15; (with_reducible refine (load_ok (some ⟨b3, 0, none⟩) k3 im w3 (Rd.of_own (ownsRow_base HO3.out (Nat.zero_le _))) HB.out HLO.out).mono ?_); rintro e w4 ⟨g, M, rfl, hd, hm, hb⟩; have HD4 := Lib.hid hd; have HM4 := Lib.hid hm; have Q4 := Lib.hid hb; have B4 := Lib.hid (bl_chain B3.out hb); clear hd hm hb)
        | (go_at_call 16; (with_reducible refine (rload_ok A1 c1 im w4 (HR.out.below B4.out) HB.out HLO.out).mono ?_); rintro e w5 ⟨r, Mr, Rr, rfl, hd, hm, hr, hb⟩; have HD5 := Lib.hid hd; have HM5 := Lib.hid hm; have HR5 := Lib.hid hr; have Q5 := Lib.hid hb; have B5 := Lib.hid (bl_chain B4.out hb); clear hd hm hr hb)
        | (go_at_call 17; (with_reducible refine (kept_any A1 c1 b3 k3 im w5 (HR.out.below B5.out) (RO3.out.below (bl_chain Q4.out Q5.out)) HK3.out hl1).mono ?_); rintro e w' ⟨rfl, rfl⟩)
        | (go_at_call 18; (with_reducible refine (spoil_any (some ⟨b3, 0, none⟩) im.length k3 _ w5 (ownsRow_base (own_below (B := 0) HO3.out (bl_chain Q4.out Q5.out)) (Nat.zero_le _)) hl1).mono ?_); rintro e w6 ⟨rfl, ht⟩; have T6 := Lib.hid (two_start HD4.out HM4.out Q4.out HD5.out HM5.out HR5.out Q5.out B5.out B3.out (by have h2 := GE3.out; have h3 := B2.out.size; omega) LT3.out ht); (obtain ⟨rs, rc, ra, rl, hrc⟩ := ref_cells T6.out.r); (obtain ⟨y0, y1, y3⟩ := hrc w6 (Ext.refl _)); clear ht hrc y1 y3)
        | (go_at_call 12; (with_reducible refine (known_any _).mono ?_); rintro e w7 ⟨rfl, hb⟩; have B7 := Lib.hid hb; clear hb))
      · go_ret
        exact ⟨by rfl, bl_chain T6.out.b B7.out⟩
      · clear HD4 HM4 Q4 B4 HD5 HM5 HR5 Q5 B5 HK3 RO3 HO3 GE3 LT3 B3 B2 B1 y0 LN NW RN HLO HR HB
        go_loopw [18] (fun v w2 => ∃ (k : Nat) (D : DS) (M R Mr Rr : Nat → Prop), k ≤ l.length ∧ k ≤ 80 ∧ v = .int .i64 k ∧ Two w w2 g r D D M R Mr Rr ∧ D.gs.length ≤ k) (fun v _ => 80 - (intOf v).toNat)
        case atStart => exact ⟨0, _, M, NoB, Mr, Rr, by omega, by omega, rfl, T6.out, by show ([] : List (Nat × List Int)).length ≤ 0; simp⟩
        case round =>
          obtain ⟨k, D, M3, R3, Mr3, Rr3, hkl, hk, rfl, ht3, hf3⟩ := hrel
          have T3 := Lib.hid ht3
          clear ht3 T6
          by_cases hlt : k < l.length ∧ k < 80
          · obtain ⟨h1, h2⟩ := hlt
            obtain ⟨hin, ab, ao, rfl, hce⟩ := HX.out k h1
            have HIN := Lib.hid hin
            have hbl : ab < w.heap.size := cell_block_lt (hce 0 _ rfl)
            have x0 : ∀ W, Ext w W → W.cell? ⟨ab, ao + k * 4, none⟩ = some (.int .i64 (l[k]).o.kind) := fun W hW => (hW.cell hbl).trans (hce 0 _ rfl)
            have x1 : ∀ W, Ext w W → W.cell? ⟨ab, ao + k * 4 + 1, none⟩ = some (.int .i64 (l[k]).o.n) := fun W hW => (hW.cell hbl).trans (hce 1 _ rfl)
            have x2 : ∀ W, Ext w W → W.cell? ⟨ab, ao + k * 4 + 2, none⟩ = some (.slice (l[k]).A (l[k]).o.b.length (l[k]).c) := fun W hW => (hW.cell hbl).trans (hce 2 _ rfl)
            have x3 : ∀ W, Ext w W → W.cell? ⟨ab, ao + k * 4 + 3, none⟩ = some (.slice (l[k]).B (l[k]).o.l.length (l[k]).d) := fun W hW => (hW.cell hbl).trans (hce 3 _ rfl)
            clear hin hce
            generalize l[k] = y at HIN x0 x1 x2 x3
            have HN1 := Lib.hid (HIN.out.noP T3.out.m)
            have HN2 := Lib.hid (HIN.out.noP T3.out.mr)
            have hfew : D.gs.length < 1000000 := by omega
            have hyn := HIN.out.ok.n
            have HDR := Lib.hid (T3.out.below (bl_drew wr))
            go_wp2_with fail
            refine ext_start0 (w0 := w) (by kernel_rfl) ?_
            refine ext_take0 (w0 := w) (HDR.out.b) (i := 0) (v := ?_) rfl (by kernel_rfl) (by kernel_rfl) (by kernel_rfl) (fun _ _ _ h => h) (Or.inl ⟨by rfl, ?_⟩) ?_
            rotate_left
            · (intro W hSw; go_simp; try with_reducible rfl)
            try simp only [Act.put, List.setIfInBounds_toArray, List.set_cons_zero, List.set_cons_succ]
            refine ext_take0 (w0 := w) (HDR.out.b) (i := 1) (v := ?_) rfl (by kernel_rfl) (by kernel_rfl) (by kernel_rfl) (fun _ _ _ h => h) (Or.inl ⟨by rfl, ?_⟩) ?_
            rotate_left
            · (intro W hSw; go_simp; try with_reducible rfl)
            try simp only [Act.put, List.setIfInBounds_toArray, List.set_cons_zero, List.set_cons_succ]
            refine ext_take0 (w0 := w) (HDR.out.b) (i := 2) (v := ?_) rfl (by kernel_rfl) (by kernel_rfl) (by kernel_rfl) (fun _ _ _ h => h) (Or.inl ⟨by rfl, ?_⟩) ?_
            rotate_left
            · (intro W hSw; go_simp; try with_reducible rfl)
            try simp only [Act.put, List.setIfInBounds_toArray, List.set_cons_zero, List.set_cons_succ]
            refine ext_take0 (w0 := w) (HDR.out.b) (i := 3) (v := ?_) rfl (by kernel_rfl) (by kernel_rfl) (by kernel_rfl) (fun _ _ _ h => h) (Or.inl ⟨by rfl, ?_⟩) ?_
            rotate_left
            · (intro W hSw; go_simp; try with_reducible rfl)
            try simp only [Act.put, List.setIfInBounds_toArray, List.set_cons_zero, List.set_cons_succ]
            refine ext_take0 (w0 := w) (HDR.out.b) (i := 4) (v := ?_) rfl (by kernel_rfl) (by kernel_rfl) (by kernel_rfl) (fun _ _ _ h => h) (Or.inl ⟨by rfl, ?_⟩) ?_
            rotate_left
            · (intro W hSw; go_simp; try with_reducible rfl)
            try simp only [Act.put, List.setIfInBounds_toArray, List.set_cons_zero, List.set_cons_succ]
            refine ext_take0 (w0 := w) (HDR.out.b) (i := 6) (v := ?_) rfl (by kernel_rfl) (by kernel_rfl) (by kernel_rfl) (fun _ _ _ h => h) (Or.inl ⟨by rfl, ?_⟩) ?_
            rotate_left
            · (intro W hSw; go_simp; try with_reducible rfl)
            try simp only [Act.put, List.setIfInBounds_toArray, List.set_cons_zero, List.set_cons_succ]
            refine ext_take0 (w0 := w) (HDR.out.b) (i := 7) (v := ?_) rfl (by kernel_rfl) (by kernel_rfl) (by kernel_rfl) (fun _ _ _ h => h) (Or.inl ⟨by rfl, ?_⟩) ?_
            rotate_left
            · (intro W hSw; go_simp; try with_reducible rfl)
            try simp only [Act.put, List.setIfInBounds_toArray, List.set_cons_zero, List.set_cons_succ]
            refine ext_take0 (w0 := w) (HDR.out.b) (i := 8) (v := ?_) rfl (by kernel_rfl) (by kernel_rfl) (by kernel_rfl) (fun _ _ _ h => h) (Or.inl ⟨by rfl, ?_⟩) ?_
            rotate_left
            · (intro W hSw; go_simp; try with_reducible rfl)
            try simp only [Act.put, List.setIfInBounds_toArray, List.set_cons_zero, List.set_cons_succ]
            refine ext_take0 (w0 := w) (HDR.out.b) (i := 9) (v := ?_) rfl (by kernel_rfl) (by kernel_rfl) (by kernel_rfl) (fun _ _ _ h => h) (Or.inl ⟨by rfl, ?_⟩) ?_
            rotate_left
            · (intro W hSw; go_simp; try with_reducible rfl)
            try simp only [Act.put, List.setIfInBounds_toArray, List.set_cons_zero, List.set_cons_succ]
            refine ext_take0 (w0 := w) (HDR.out.b) (i := 10) (v := ?_) rfl (by kernel_rfl) (by kernel_rfl) (by kernel_rfl) (fun _ _ _ h => h) (Or.inl ⟨by rfl, ?_⟩) ?_
            rotate_left
            · (intro W hSw; go_simp; try with_reducible rfl)
            try simp only [Act.put, List.setIfInBounds_toArray, List.set_cons_zero, List.set_cons_succ]
            refine ext_call0 (w0 := w) (i := 5) (by kernel_rfl) rfl (fun K hK => ?_)
            go_simp
            (first | (go_at_call 8; (with_reducible refine (do_any y.A y.B y.c y.d y.o HDR.out.d HIN.out.ok (HIN.out.rb.below HDR.out.b) (HIN.out.rl.below HDR.out.b) HN1.out.1 HN1.out.2 hfew).mono ?_); rintro e w4 ⟨rfl, M4, R4, hd4, hm4, hr4, ht4⟩; have T4 := Lib.hid (HDR.out.do_ hd4 hm4 hr4 ht4); clear hd4 hm4 hr4 ht4))
            refine hK.out _ _ (T4.out.b) ?_
            clear hK K
            try simp only [Act.put, List.setIfInBounds_toArray, List.set_cons_zero, List.set_cons_succ]
            refine ext_call0 (w0 := w) (i := 11) (by kernel_rfl) rfl (fun K hK => ?_)
            go_simp
            (first | (go_at_call 19; (with_reducible refine (rdo_any y.A y.B y.c y.d y.o T4.out.r HIN.out.ok (HIN.out.rb.below T4.out.b) (HIN.out.rl.below T4.out.b) HN2.out.2 hfew).mono ?_); rintro e w5 ⟨rfl, M5, R5, hd5, hm5, hr5, ht5⟩; have T5 := Lib.hid (T4.out.rdo hd5 hm5 hr5 ht5); clear hd5 hm5 hr5 ht5))
            refine hK.out _ _ (T5.out.b) ?_
            clear hK K
            try simp only [Act.put, List.setIfInBounds_toArray, List.set_cons_zero, List.set_cons_succ]
            refine ext_take0 (w0 := w) (T5.out.b) (i := 12) (v := ?_) rfl (by kernel_rfl) (by kernel_rfl) (by kernel_rfl) (fun _ _ _ h => h) (Or.inl ⟨by rfl, ?_⟩) ?_
            rotate_left
            · (intro W hSw; go_simp; try with_reducible rfl)
            try simp only [Act.put, List.setIfInBounds_toArray, List.set_cons_zero, List.set_cons_succ]
            refine ext_take0 (w0 := w) (T5.out.b) (i := 13) (v := ?_) rfl (by kernel_rfl) (by kernel_rfl) (by kernel_rfl) (fun _ _ _ h => h) (Or.inl ⟨by rfl, ?_⟩) ?_
            rotate_left
            · (intro W hSw; go_simp; try with_reducible rfl)
            try simp only [Act.put, List.setIfInBounds_toArray, List.set_cons_zero, List.set_cons_succ]
            refine ext_take0 (w0 := w) (T5.out.b) (i := 14) (v := ?_) rfl (by kernel_rfl) (by kernel_rfl) (by kernel_rfl) (fun _ _ _ h => h) (Or.inl ⟨by rfl, ?_⟩) ?_
            rotate_left
            · (intro W hSw; go_simp; try with_reducible rfl)
            try simp only [Act.put, List.setIfInBounds_toArray, List.set_cons_zero, List.set_cons_succ]
            refine ext_take0 (w0 := w) (T5.out.b) (i := 15) (v := ?_) rfl (by kernel_rfl) (by kernel_rfl) (by kernel_rfl) (fun _ _ _ h => h) (Or.inl ⟨by rfl, ?_⟩) ?_
            rotate_left
            · (intro W hSw; go_simp; try with_reducible rfl)
            try simp only [Act.put, List.setIfInBounds_toArray, List.set_cons_zero, List.set_cons_succ]
            refine ext_take0 (w0 := w) (T5.out.b) (i := 16) (v := ?_) rfl (by kernel_rfl) (by kernel_rfl) (by kernel_rfl) (fun _ _ _ h => h) (Or.inl ⟨by rfl, ?_⟩) ?_
            rotate_left
            · (intro W hSw; go_simp; try with_reducible rfl)
            try simp only [Act.put, List.setIfInBounds_toArray, List.set_cons_zero, List.set_cons_succ]
            refine ext_take0 (w0 := w) (T5.out.b) (i := 17) (v := ?_) rfl (by kernel_rfl) (by kernel_rfl) (by kernel_rfl) (fun _ _ _ h => h) (Or.inl ⟨by rfl, ?_⟩) ?_
            rotate_left
            · (intro W hSw; go_simp; try with_reducible rfl)
            try simp only [Act.put, List.setIfInBounds_toArray, List.set_cons_zero, List.set_cons_succ]
            refine ext_take0 (w0 := w) (T5.out.b) (i := 18) (v := ?_) rfl (by kernel_rfl) (by kernel_rfl) (by kernel_rfl) (fun _ _ _ h => h) (Or.inl ⟨by rfl, ?_⟩) ?_
            rotate_left
            · (intro W hSw; go_simp; try with_reducible rfl)
            try simp only [Act.put, List.setIfInBounds_toArray, List.set_cons_zero, List.set_cons_succ]
            refine ext_take0 (w0 := w) (T5.out.b) (i := 19) (v := ?_) rfl (by kernel_rfl) (by kernel_rfl) (by kernel_rfl) (fun _ _ _ h => h) (Or.inl ⟨by rfl, ?_⟩) ?_
            rotate_left
            · (intro W hSw; go_simp; try with_reducible rfl)
            try simp only [Act.put, List.setIfInBounds_toArray, List.set_cons_zero, List.set_cons_succ]
            refine ext_take0 (w0 := w) (T5.out.b) (i := 20) (v := ?_) rfl (by kernel_rfl) (by kernel_rfl) (by kernel_rfl) (fun _ _ _ h => h) (Or.inl ⟨by rfl, ?_⟩) ?_
            rotate_left
            · (intro W hSw; go_simp; try with_reducible rfl)
            try simp only [Act.put, List.setIfInBounds_toArray, List.set_cons_zero, List.set_cons_succ]
            refine ext_take0 (w0 := w) (T5.out.b) (i := 21) (v := ?_) rfl (by kernel_rfl) (by kernel_rfl) (by kernel_rfl) (fun _ _ _ h => h) (Or.inl ⟨by rfl, ?_⟩) ?_
            rotate_left
            · (intro W hSw; go_simp; try with_reducible rfl)
            try simp only [Act.put, List.setIfInBounds_toArray, List.set_cons_zero, List.set_cons_succ]
            refine ext_call0 (w0 := w) (i := 22) (by kernel_rfl) rfl (fun K hK => ?_)
            go_simp
            (first | (go_at_call 20; (with_reducible refine (alike_any y.o.n n T5.out.d T5.out.r (by have := HN.out; omega)).mono ?_); rintro e w6 ⟨rfl, hb⟩; have T7 := Lib.hid (T5.out.below hb); clear hb))
            refine hK.out _ _ (T7.out.b) ?_
            clear hK K
            try simp only [Act.put, List.setIfInBounds_toArray, List.set_cons_zero, List.set_cons_succ]
            refine ext_take0 (w0 := w) (T7.out.b) (i := 23) (v := ?_) rfl (by kernel_rfl) (by kernel_rfl) (by kernel_rfl) (fun _ _ _ h => h) (Or.inl ⟨by rfl, ?_⟩) ?_
            rotate_left
            · (intro W hSw; go_simp; try with_reducible rfl)
            try simp only [Act.put, List.setIfInBounds_toArray, List.set_cons_zero, List.set_cons_succ]
            refine ext_take0 (w0 := w) (T7.out.b) (i := 24) (v := ?_) rfl (by kernel_rfl) (by kernel_rfl) (by kernel_rfl) (fun _ _ _ h => h) (Or.inl ⟨by rfl, ?_⟩) ?_
            rotate_left
            · (intro W hSw; go_simp; try with_reducible rfl)
            try simp only [Act.put, List.setIfInBounds_toArray, List.set_cons_zero, List.set_cons_succ]
            refine wpAnyH_done (by kernel_rfl) ?_ _
            go_wp2_with fail
            go_roundw
            case rel => exact ⟨k + 1, _, _, _, _, _, by omega, by omega, by go_num, T7.out, few_do hf3 _⟩
            case measure => simp [intOf]; omega
          · have hcase : (k < l.length ∧ k = 80) ∨ k = l.length := by omega
            clear hlt
            have kc := fun (w : World) (C : Array Value) (n c : Nat) => Lib.run_convert_bytes_const (P := Try.prog) w 29 5 C n c Try.underlying29 Try.underlying5
            have hfew : D.gs.length < 1000000 := by omega
            have LO : Hid (other.length = 5) := Lib.hid rfl
            have LI : Hid (([1] : List Int).length = 1) := Lib.hid rfl
            have RDM : Hid (∀ W : World, Rd (W.alloc (.cells #[.int .u8 111, .int .u8 116, .int .u8 104, .int .u8 101, .int .u8 114] 5 (5, 6))) (some ⟨W.heap.size, 0, none⟩) (by8 other)) := Lib.hid fun W => rd_mark _ other (5, 6)
            have OB : Hid (isB other) := Lib.hid (by unfold other; intro x hx; simp at hx; omega)
            have RDI : Hid (∀ W : World, Rd (W.alloc (.cells #[.int .i64 1] 3)) (some ⟨W.heap.size, 0, none⟩) (byI [1])) := Lib.hid fun W => Rd.new1 W _ _
            rcases hcase with ⟨h1, h2⟩ | h1
            all_goals
              go_wp2_with (first
                | (go_at_call 21; (with_reducible refine (copy_any T3.out.d).mono ?_); rintro e w5 ⟨gc, Mc, rfl, hd, hm, hb⟩; have HDC := Lib.hid hd; have HMC := Lib.hid hm; have B5 := Lib.hid hb; clear hd hm hb)
                | (go_at_call 20; (with_reducible refine (alike_any 0 1 HDC.out (T3.out.r.below B5.out) (by omega)).mono ?_); rintro e w6 ⟨rfl, hb⟩; have HDC6 := Lib.hid (HDC.out.below hb); have B6 := Lib.hid (bl_chain B5.out hb); clear hb)
                | (go_at_call 22; (with_reducible refine (write_n (some ⟨w6.heap.size, 0, none⟩) 5 5 other 0 LO.out (HDC6.out.below (bl_alloc _ _)) (RDM.out w6) OB.out (by omega) hfew (by omega)).mono ?_); rintro e w7 ⟨rfl, M7, R7, hd, hm, hr, ht⟩; have HD7 := Lib.hid hd; have HG7 := Lib.hid hd.mlt; have B7 := Lib.hid (bl_tr (bl_chain B6.out (bl_alloc _ _)) ht (fun b hb => HMC.out b hb)); have HM7 := Lib.hid (fun b hb => by rcases hm b hb with h | h; exact HMC.out b h; have h3 := B6.out.size; simp at h; omega : ∀ b, M7 b → wr.heap.size ≤ b); clear hd hm hr ht)
                | (go_at_call 9; (with_reducible refine (crash_n (some ⟨w7.heap.size, 0, none⟩) 1 1 [1] LI.out (HD7.out.below (bl_alloc _ _)) (RDI.out w7) (by omega) (fun _ => fresh_no HG7.out)).mono ?_); rintro e w8 ⟨rfl, M8, R8, hd, hm, hr, ht⟩; have B8 := Lib.hid (bl_tr (bl_chain B7.out (bl_alloc _ _)) ht (fun b hb => HM7.out b hb)); have T8 := Lib.hid (T3.out.below B8.out); clear hd hm hr ht)
                | (go_at_call 20; (with_reducible refine (alike_any 0 n T8.out.d T8.out.r (by have := HN.out; omega)).mono ?_); rintro e w9 ⟨rfl, hb⟩; have T9 := Lib.hid (T8.out.below hb); clear hb)
                | (go_at_call 12; (with_reducible refine (known_any _).mono ?_); rintro e w10 ⟨rfl, hb⟩; have B10 := Lib.hid hb; clear hb))
              go_ret
              exact ⟨by rfl, bl_chain T9.out.b B10.out⟩
  · rcases hq with ⟨rfl, rfl⟩ | ⟨rfl, rfl⟩
    all_goals
      go_enter Try.func4, Try.ntmps4
      go_wp2_with (first
        | (go_at_call 7; (with_reducible refine (NW.out _).mono ?_); rintro e w1 ⟨k1, rfl, hb⟩; have B1 := Lib.hid hb; clear hb)
        | (go_at_call 13; (with_reducible refine (RN.out _).mono ?_); rintro e w2 ⟨p2, rfl, hb⟩; have B2 := Lib.hid (bl_chain B1.out hb); clear hb)
        | (go_at_call 14; (with_reducible refine (LN.out _ B2.out).mono ?_); rintro e w3 ⟨b3, k3, rfl, ho, hb⟩; have HK3 := Lib.hid (own_pre1 ho rfl); have RO3 := Lib.hid (Rd.of_own (ownsRow_base ho (Nat.zero_le _))); have HO3 := Lib.hid (own_pre8 (m := [167]) ho); have GE3 := Lib.hid (own_ge ho b3 rfl); have LT3 := Lib.hid (own_lt ho b3 rfl); have B3 := Lib.hid (bl_chain B2.out hb); clear ho hb)
        | (go_at_call 15; (with_reducible refine (load_bad (some ⟨b3, 0, none⟩) k3 im w3 (by omega) hlo).mono ?_); rintro e w4 ⟨rfl, hb⟩; have Q4 := Lib.hid hb; have B4 := Lib.hid (bl_chain B3.out hb); clear hb)
        | (go_at_call 16; (with_reducible refine (rload_bad A1 c1 im w4 (by omega) hlo).mono ?_); rintro e w5 ⟨rfl, hb⟩; have Q5 := Lib.hid hb; have B5 := Lib.hid (bl_chain B4.out hb); clear hb)
        | (go_at_call 17; (with_reducible refine (kept_any A1 c1 b3 k3 im w5 (HR.out.below B5.out) (RO3.out.below (bl_chain Q4.out Q5.out)) HK3.out hl1).mono ?_); rintro e w' ⟨rfl, rfl⟩)
        | (go_at_call 18; (with_reducible refine (spoil_any (some ⟨b3, 0, none⟩) im.length k3 _ w5 (ownsRow_base (own_below (B := 0) HO3.out (bl_chain Q4.out Q5.out)) (Nat.zero_le _)) hl1).mono ?_); rintro e w6 ⟨rfl, ht⟩; have T6 := Lib.hid ht; clear ht)
        | (go_at_call 12; (with_reducible refine (known_any _).mono ?_); rintro e w7 ⟨rfl, hb⟩; have B7 := Lib.hid hb; clear hb))
      go_ret
      have h2 := GE3.out
      have h3 := B2.out.size
      exact ⟨by rfl, bl_chain (bl_tr B5.out T6.out (fun b hb => by have h0 := (Blo.some_iff _ _).1 hb; simp at h0 h2; omega)) B7.out⟩
end Go.Proofs.Ytadoclcabkcmeaa
