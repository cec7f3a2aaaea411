/- Contract of the program's package disk: Copy. -/
import Derived.Test.YtadoclcabkcmeaaDisk4
namespace Go.Proofs.Ytadoclcabkcmeaa
set_option linter.unusedVariables false
open Go.RowKit

theorem Rd.of_own2 {w : World} {e : TypeId} {A : Option Addr} {n c : Nat} {xs : List Value} (h : w.ownsRow 0 e 2 (.slice A n c) n xs) : Rd w A xs := fun j u hj => by
  have hl := (List.getElem?_eq_some_iff.1 hj).1
  have h1 := h.1
  obtain ⟨g, rfl⟩ := ownsRow_addr h (by omega)
  refine ⟨_, rfl, ?_⟩
  rw [add_lit, h.cellAt _ (by omega)]
  simpa using hj

set_option maxHeartbeats 400000 in
theorem clone_groups (A : Option Addr) (c n : Nat) (xs : List Value) (w : World) (hr : w.ownsRow 0 63 2 (.slice A n c) n xs) (h1 : ∀ u ∈ xs, u.oneCell' = true) (hn : n ≤ 1000000) :
    Calls Try.prog 38 #[.slice A n c] w fun e w' => ∃ A' c', e = .returned (.slice A' n c') ∧
      w'.ownsRow w.heap.size 63 2 (.slice A' n c') n xs ∧ Below w.heap.size w w' := by
  have HR := Lib.hid hr
  have kn := fun w => Lib.run_eql_slice_nil (P := Try.prog) w 59 63 A n c 0 0 Try.underlying59
  have hlen := hr.1
  cases A with
  | none =>
    rcases hr.2 with ⟨h2, h3⟩ | ⟨g, cap, cur, hv, _⟩
    · injection h2 with _ h2 h4
      subst h2 h4
      have hx : xs = [] := List.length_eq_zero_iff.1 (by omega)
      clear hr h3 hlen
      subst hx
      simp only [Option.isNone_none] at kn
      go_enter Try.func38, Try.ntmps38
      go_wp2_with fail
      go_ret
      exact ⟨none, 0, rfl, ownsRow_emp _ _ _ _, Below.refl _ _⟩
    · injection hv with hv
      cases hv
  | some ad =>
    have H1 := Lib.hid h1
    have HL := Lib.hid hlen
    have RR := Lib.hid (Rd.of_own2 hr)
    clear hr h1 hlen
    simp only [Option.isNone_some] at kn
    go_enter Try.func38, Try.ntmps38
    go_wp2_with (first
      | (at_builtin; refine wpL_append EG rfl rfl (World.ownsRow_lit w #[] 0 (Nat.le_refl _) (by simp [maxLen]) rfl) rfl (RR.out.below ((Below.refl _ _).alloc (Nat.le_refl _) _)) rfl HL.out H1.out n xs (by simp) (by simp) (by simp only [maxLen]; omega) (by omega) (by simp) ?_; intro A1 c1 w1 hc1 ho1 ht1 _; have HO1 := Lib.hid ho1; have HT1 := Lib.hid ht1; clear ho1 ht1))
    go_ret
    refine ⟨A1, c1, rfl, HO1.out, ((((Tr.refl NoB w).alloc _).trans HT1.out (fun b hb h => ?_)).below (fun _ _ => id))⟩
    have h := (Blo.some_iff _ _).1 h
    simp at h
    omega

section
variable {g : Nat} {D : DS} {M R : Nat → Prop} {w : World}
set_option maxHeartbeats 1600000 in
theorem copy_any (hd : IsDisk w g D M R) :
    Calls Try.prog 21 #[.pointer (some ⟨g, 0, none⟩)] w fun e w' => ∃ g' M', e = .returned (.pointer (some ⟨g', 0, none⟩)) ∧ IsDisk w' g' D M' R ∧ (∀ b, M' b → w.heap.size ≤ b) ∧ Below w.heap.size w w' := by
  obtain ⟨bs, cs, bn, cn, Al, cl, cells, h⟩ := hd
  have c0 := h.blk.cell 0
  have c1 := h.blk.cell 1
  have c2 := h.blk.cell 2
  have c3 := h.blk.cell 3
  have c4 := h.blk.cell 4
  simp at c0 c1 c2 c3 c4
  have HH := Lib.hid h
  clear h
  go_enter Try.func21, Try.ntmps21
  go_wp2_with fail
  have hlen1 := HH.out.ok.len
  have hlen2 := HH.out.ok.lnow
  have hmost := HH.out.ok.most
  have C1 : Hid (∀ W, Below w.heap.size w W → Calls Try.prog 30 #[.slice (some ⟨bs, 0, none⟩) D.safe.length cs] W fun e w' => ∃ A' c', e = .returned (.slice A' D.safe.length c') ∧ D.safe.length ≤ c' ∧ w'.ownsRow W.heap.size 5 1 (.slice A' D.safe.length c') D.safe.length (by8 D.safe) ∧ Below W.heap.size W w') :=
    Lib.hid fun W h => clone_n _ _ _ _ W (Rd.of_own (own_below (B := 0) HH.out.safe h)) rfl (by omega)
  have C2 : Hid (∀ W, Below w.heap.size w W → Calls Try.prog 30 #[.slice (some ⟨bn, 0, none⟩) D.now.length cn] W fun e w' => ∃ A' c', e = .returned (.slice A' D.now.length c') ∧ D.now.length ≤ c' ∧ w'.ownsRow W.heap.size 5 1 (.slice A' D.now.length c') D.now.length (by8 D.now) ∧ Below W.heap.size W w') :=
    Lib.hid fun W h => clone_n _ _ _ _ W (Rd.of_own (own_below (B := 0) HH.out.now h)) rfl (by omega)
  have C3 : Hid (∀ W, Below w.heap.size w W → Calls Try.prog 38 #[.slice Al D.gs.length cl] W fun e w' => ∃ A' c', e = .returned (.slice A' D.gs.length c') ∧ w'.ownsRow W.heap.size 63 2 (.slice A' D.gs.length c') D.gs.length cells ∧ Below W.heap.size W w') :=
    Lib.hid fun W h => clone_groups _ _ _ _ W (own_below (B := 0) HH.out.row h) HH.out.gat.one HH.out.few
  clear hlen1 hlen2 hmost
  have hgl := HH.out.blk.lt
  have hgn : g ≠ w.heap.size := by omega
  have hgn2 : w.heap.size ≠ g := by omega
  have K0 : Hid (Below w.heap.size w (w.alloc (.cells #[.slice (some ⟨bs, 0, none⟩) D.safe.length cs, .slice (some ⟨bn, 0, none⟩) D.now.length cn, .slice Al D.gs.length cl, .bool D.failing, .bool D.dead] 61)).drew) := Lib.hid ((bl_alloc _ _).drew)
  have N0 : Hid (Blk (w.alloc (.cells #[.slice (some ⟨bs, 0, none⟩) D.safe.length cs, .slice (some ⟨bn, 0, none⟩) D.now.length cn, .slice Al D.gs.length cl, .bool D.failing, .bool D.dead] 61)).drew w.heap.size 61 #[.slice (some ⟨bs, 0, none⟩) D.safe.length cs, .slice (some ⟨bn, 0, none⟩) D.now.length cn, .slice Al D.gs.length cl, .bool D.failing, .bool D.dead]) := Lib.hid ((Blk.new _ _ _).drew)
  go_region_held3 (fun w' => w'.cell? ⟨g, 0, none⟩ = some (.slice (some ⟨bs, 0, none⟩) D.safe.length cs) ∧ w'.cell? ⟨g, 1, none⟩ = some (.slice (some ⟨bn, 0, none⟩) D.now.length cn) ∧ w'.cell? ⟨g, 2, none⟩ = some (.slice Al D.gs.length cl)) (first | (go_keep; done) | (refine ⟨?_, ?_, ?_⟩ <;> (repeat rw [World.cell?_setCell_far _ _ _ _ hgn2]) <;> assumption)) ((first
    | (go_at_call 30; (with_reducible refine (C1.out _ ?_).mono ?_); exact K0.out; rintro e w1 ⟨A1, k1, rfl, hk1, ho1, hb1⟩; have hb01 := bl_chain K0.out hb1; have q1 := HH.out.blk.keep hb01; have q10 := q1.cell 0; have q11 := q1.cell 1; have q12 := q1.cell 2; simp at q10 q11 q12; have HO1 := Lib.hid ho1; have HB1 := Lib.hid hb1; have K1 := Lib.hid hb01; clear ho1 hb1 hb01 q1)
    | (go_at_call 30; (with_reducible refine (C2.out _ ?_).mono ?_); exact K1.out; rintro e w2 ⟨A2, k2, rfl, hk2, ho2, hb2⟩; have hb02 := bl_chain K1.out hb2; have q1 := HH.out.blk.keep hb02; have q20 := q1.cell 0; have q21 := q1.cell 1; have q22 := q1.cell 2; simp at q20 q21 q22; have HO2 := Lib.hid ho2; have HB2 := Lib.hid hb2; have K2 := Lib.hid hb02; clear ho2 hb2 hb02 q1)
    | (go_at_call 38; (with_reducible refine (C3.out _ ?_).mono ?_); exact K2.out; rintro e w3 ⟨A3, k3, rfl, ho3, hb3⟩; have hb03 := bl_chain K2.out hb3; have q1 := HH.out.blk.keep hb03; have q30 := q1.cell 0; have q31 := q1.cell 1; have q32 := q1.cell 2; have z1 := ((N0.out.keep HB1.out).keep HB2.out).keep hb3; have z0 := z1.cell 0; have z2 := z1.cell 1; have z3 := z1.cell 2; have y0 := z1.frozen 0; have y1 := z1.frozen 1; have y2 := z1.frozen 2; simp at q30 q31 q32 z0 z2 z3; have Z1 := Lib.hid z1; have HO3 := Lib.hid ho3; have HB3 := Lib.hid hb3; have K3 := Lib.hid hb03; clear ho3 hb3 hb03 q1 z1)))
  go_wp2_with fail
  go_ret
  have tf : Tr (fun b => b = w.heap.size) w3 (((w3.setCell ⟨w.heap.size, 0, none⟩ (.slice A1 D.safe.length k1)).setCell ⟨w.heap.size, 1, none⟩ (.slice A2 D.now.length k2)).setCell ⟨w.heap.size, 2, none⟩ (.slice A3 D.gs.length k3)) :=
    (((Tr.refl (fun b => b = w.heap.size) w3).setCell (p := ⟨w.heap.size, 0, none⟩) (fun _ => rfl) _).setCell (p := ⟨w.heap.size, 1, none⟩) (fun _ => rfl) _).setCell (p := ⟨w.heap.size, 2, none⟩) (fun _ => rfl) _
  have hz := ((Z1.out.set_ 0 (.slice A1 D.safe.length k1)).set_ 1 (.slice A2 D.now.length k2)).set_ 2 (.slice A3 D.gs.length k3)
  simp at hz
  have ho := HH.out.ok
  have hp1 : 1 ≤ D.safe.length := by have := ho.pos; rw [ho.len]; omega
  have hp2 : 1 ≤ D.now.length := by have := ho.pos; rw [ho.lnow]; omega
  obtain ⟨b1, rfl⟩ := ownsRow_addr HO1.out hp1
  obtain ⟨b2, rfl⟩ := ownsRow_addr HO2.out hp2
  have g1 := own_ge HO1.out b1 rfl
  have l1 := own_lt HO1.out b1 rfl
  have g2 := own_ge HO2.out b2 rfl
  have l2 := own_lt HO2.out b2 rfl
  simp at g1
  have s1 := HB1.out.size
  have s2 := HB2.out.size
  have s3 := HB3.out.size
  simp at s1
  have g3 := own_ge HO3.out
  have l3 := own_lt HO3.out
  have s4 := tf.size
  refine ⟨w.heap.size, fun b => w.heap.size ≤ b ∧ b < w3.heap.size, rfl, ⟨b1, k1, b2, k2, A3, k3, cells, ⟨ho, hz, ?_, ?_, ?_, ?_, by omega, ⟨by omega, by omega⟩, ⟨by omega, by omega⟩, ⟨by omega, by omega⟩, fun b hb => ⟨by have := g3 b hb; omega, l3 b hb⟩, ?_, HH.out.few, fun b hb => by have := hb.2; omega, ?_⟩⟩, fun b hb => hb.1, ?_⟩
  · refine own_tr (own_below (B := 0) (own_below (B := 0) (ownsRow_base HO1.out (Nat.zero_le _)) HB2.out) HB3.out) tf (fun b hb he => ?_)
    have := (Blo.some_iff _ _).1 hb
    simp at this
    omega
  · refine own_tr (own_below (B := 0) (ownsRow_base HO2.out (Nat.zero_le _)) HB3.out) tf (fun b hb he => ?_)
    have := (Blo.some_iff _ _).1 hb
    simp at this
    omega
  · refine own_tr (ownsRow_base HO3.out (Nat.zero_le _)) tf (fun b hb he => ?_)
    have := g3 b hb
    omega
  · refine (HH.out.gat.tr (Tr.of_below (F := NoB) K3.out) (fun _ _ => id)).tr tf (fun b hb he => ?_)
    have := HH.out.rlt b hb
    omega
  · intro b hb hM
    have := HH.out.rlt b hb
    omega
  · intro b hb
    have := HH.out.rlt b hb
    omega
  · refine bl_tr K3.out tf (fun b hb => by omega)
end
end Go.Proofs.Ytadoclcabkcmeaa
