/- SenseInquiry: the given card, proved: for every input the law returns true, and each argument reads as it read before; the listed variable is tied to the program's text. No conditions beside the card's. -/
import Derived.Test.YtifhlkfdmnkhoaaDoorRow0
import Derived.Test.YtifhlkfdmnkhoaaDoorWSenseInquiry
import Derived.Test.YtifhlkfdmnkhoaaDoorTie
import Derived.Test.YtifhlkfdmnkhoaaDoorCards
import Derived.LaidMore
import Derived.Stop.Joined
import Derived.ChangeSame
namespace Go.Proofs.YtifhlkfdmnkhoaaDoor.SenseInquiryRow
set_option linter.unusedVariables false
open Go.ChangeShapes Go.WideShapes Go.ChangeAt Go.RowKit

theorem gKinds : Tryd.prog.globalNamed "caisson/sense.kinds" = some 0 := by kernel_rfl
theorem tKinds : (Tryd.prog.globals[0]?).map (·.type) = some 31 := by kernel_rfl
def laid1 : List (String × DataW Unit) := [("caisson/sense.kinds", Rows.laid_caisson_sense_kinds)]

theorem door_met (os : Os) (args : Array Value) : laidMetH Tryd.prog laid1 ((World.doorLaid Tryd.prog 400 os).forCall (fun _ _ => 0) ⟨#[], args, []⟩).memory :=
  laidMetH_of_parts3 (fuel := 8) (laidMet_of_run' 8 (by kernel_rfl) (by kernel_rfl)) (by kernel_rfl) (by kernel_rfl)

/-- What the condition gives the walk: the variable's cells. -/
theorem of_laid {W : World} (h : laidMetH Tryd.prog laid1 W) : Kin W := by
  rw [MakeChecks.laidMetH_plain _ _ _ (by kernel_rfl)] at h
  obtain ⟨ps, ⟨g0, t0, cs0, f0, p0, q0, hg0, ht0, hv0, hd0, _, _⟩, _, _⟩ := h
  obtain rfl := Option.some.inj (gKinds.symm.trans hg0)
  obtain rfl := Option.some.inj (tKinds.symm.trans ht0)
  obtain ⟨xs, m1, rfl, hx1, hlen, hn3, hel⟩ := DataW.trod_array Tryd.underlying31 hd0
  have c30 : Tryd.prog.cellsOf 30 = 2 := by kernel_rfl
  have c31 : Tryd.prog.cellsOf 31 = 6 := by kernel_rfl
  have c3 : Tryd.prog.cellsOf 3 = 1 := by kernel_rfl
  have e0 := hel 0 (by decide)
  have e1 := hel 1 (by decide)
  have e2 := hel 2 (by decide)
  rw [c30] at e0 e1 e2
  rw [c31] at hlen
  have hcell : ∀ off, W.cell? ⟨0, off, none⟩ = cs0[off]? := World.var?_cell hg0 hv0
  obtain ⟨l⟩ := cs0
  match l, hlen, xs, hn3 with
  | [a0, a1, a2, a3, a4, a5], _, [x0, x1, x2], _ =>
    simp only [Prod.mk.injEq, List.map_cons, List.map_nil, Rows.laid_caisson_sense_kinds, DataW.agg.injEq, List.cons.injEq] at hx1
    obtain ⟨⟨h0, h1, h2, _⟩, _⟩ := hx1
    have two : ∀ (u v : Value) (x : DataW Unit × List MemPlace) (m : Nat) (i j : Int), DataW.trod (fun _ => ()) Tryd.prog W 0 (fun _ => true) false m 30 [u, v] = some x → DataW.agg [.lit (.int .i64 i), .lit (.int .i64 j)] = x.1 → u = .int .i64 i ∧ v = .int .i64 j := by
      intro u v x m i j ht hx
      obtain ⟨y0, y1, n, rfl, _, k0, k1⟩ := trod_struct2 Tryd.underlying30 ht
      simp only [DataW.agg.injEq, List.cons.injEq] at hx
      obtain ⟨a, q1, q2, _⟩ := DataW.trod_int Tryd.underlying3 k0
      obtain ⟨b, r1, r2, _⟩ := DataW.trod_int Tryd.underlying3 k1
      subst q2
      subst r2
      simp [c3] at q1 r1 hx
      obtain ⟨rfl, rfl⟩ := hx
      exact ⟨q1, r1⟩
    obtain ⟨rfl, rfl⟩ := two _ _ _ _ _ _ e0 h0
    obtain ⟨rfl, rfl⟩ := two _ _ _ _ _ _ e1 h1
    obtain ⟨rfl, rfl⟩ := two _ _ _ _ _ _ e2 h2
    intro j v hj
    rw [add_lit, Nat.zero_add, hcell]
    exact hj

set_option maxRecDepth 100000 in
theorem lifted (os : Os) (started : os.Started) (H : Type) (enc : TypeId × Value → H) :
    ReturnsInHanded {} Tryd.checked os 3 .any (fun w args => (Rows.senseInquirySpec.pre enc Tryd.prog Tryd.f3 [] false w args ∧ laidMetH Tryd.prog laid1 w) ∧ sizedMet enc Tryd.prog Tryd.f3 (OpenSpec.ofChange Rows.senseInquirySpec) false w args)
      (Rows.senseInquirySpec.post enc Tryd.prog Tryd.f3 false true false false) := by
  refine returnsInHanded_of_change_and (C := Tryd.checked) (X := fun w _ => laidMetH Tryd.prog laid1 w) (fun _ _ _ hh h => h.of_heap hh) own_ started (by kernel_rfl) Tryd.func3
    (ChangeSpec.witness_shaped (enc := enc) (C := Tryd.checked) (os := os) (X := fun w _ => laidMetH Tryd.prog laid1 w) false (World.doorLaid Tryd.prog 400 os) #[.bool false, .int .i64 0, .int .i64 0] 8 rfl (World.shaped_of_RefB (by kernel_rfl) (by kernel_rfl)) (by kernel_rfl) (by kernel_rfl) (by kernel_rfl) (door_met os _)) ?_
  intro W base args ds gs before hval0 hW _ _ hL _
  have hval : ∀ (j : Nat) t v, Tryd.f3.params[j]? = some t → args[j]? = some v → Value.okWide Tryd.prog W .any base t v := hval0
  have hW' := hW
  obtain ⟨p, q, hA0, hV, rfl, hfz, hnd⟩ := hW
  have hA : DataW.TrodAll enc Tryd.prog W 0 (fun _ => true) true Tryd.f3.params.toList args.toList ds p := hA0
  rw [Tryd.params3] at hA hval
  obtain ⟨v0, vs0, d0, ds0, p0, q0, hargs, rfl, rfl, h0, r0⟩ := trodAll_cons hA
  obtain ⟨v1, vs1, d1, ds1, p1, q1, rfl, rfl, rfl, h1, r1⟩ := trodAll_cons r0
  obtain ⟨v2, vs2, d2, ds2, p2, q2, rfl, rfl, rfl, h2, r2⟩ := trodAll_cons r1
  obtain ⟨rfl, rfl, rfl⟩ := trodAll_nil r2
  obtain rfl : args = #[v0, v1, v2] := by cases args; simp_all
  obtain ⟨rfl, rfl⟩ := trodVars_none hV
  obtain ⟨a0, rfl, rfl, rfl⟩ := open_bool Tryd.underlying4 (hval 0 4 v0 rfl rfl) h0
  obtain ⟨a1, rfl, rfl, rfl, w1⟩ := open_int Tryd.underlying3 (hval 1 3 v1 rfl rfl) h1
  obtain ⟨a2, rfl, rfl, rfl, w2⟩ := open_int Tryd.underlying3 (hval 2 3 v2 rfl rfl) h2
  have hk := of_laid hL
  clear hA0 hval0
  refine (senseInquiry_walk a0 a1 a2 W hk).mono fun e W' ⟨he, bel⟩ => ?_
  subst he
  exact ⟨_, rfl, _, _, _, [], _, [], hW', trodAll_mk1 (shut_bool Tryd.underlying4 _), (trodAll_cons_mk (shut_bool Tryd.underlying4 _) (trodAll_cons_mk (shut_int Tryd.underlying3 w1) (trodAll_cons_mk (shut_int Tryd.underlying3 w2) trodAll_mk0))), rfl, bel.frame _, fun h => by cases h⟩

theorem row_proved : Rows.SenseInquirySaid :=
  OpenClaim.holds_of_wide 3 Tryd.f3 rfl rfl rfl rfl rfl rfl rfl ⟨rfl, rfl, rfl, rfl, rfl⟩ rfl rfl rfl rfl rfl (by kernel_rfl) Tryd.func3 (by kernel_rfl)
    (of_decide_eq_true (by kernel_rfl)) (by unfold Func.isWrapper; first | (rw [if_pos (by decide +kernel)]; kernel_rfl) | (rw [if_neg (by decide +kernel)]; exact ⟨rfl, rfl⟩))
    (fun os started H enc _ => lifted os started H enc)

/-- The given statement. -/
theorem proved : Rows.SenseInquiryCardSaid :=
  Claim7.holds_tied_plain_at .later [] [.data] true (true, "75092ae499f018c394319e364fb79e8b90de3adbb978672646608585ec22477e") false
    row_proved (fun _ h => by cases h) (by kernel_rfl) (fun _ h => by cases h) senseInquiry_row_tie rfl ⟨rfl, rfl⟩ (by kernel_rfl) rfl
    (fun f fn hf hfn => by
      obtain rfl : f = 3 := Option.some.inj ((show Tryd.prog.funcNamed "caisson/caissonlaw16.SenseInquiry" = some 3 by kernel_rfl).symm.trans hf) |>.symm
      obtain rfl : fn = Tryd.f3 := (Option.some.inj (Tryd.func3.symm.trans hfn)).symm
      exact ⟨by kernel_rfl, fun j t ht => by
        rw [Tryd.params3] at ht
        rcases j with _ | _ | _ | j
        · have h : t = 4 := by simpa using ht.symm
          subst h; exact (show Tryd.prog.wantsStandIn 4 = false by kernel_rfl)
        · have h : t = 3 := by simpa using ht.symm
          subst h; exact (show Tryd.prog.wantsStandIn 3 = false by kernel_rfl)
        · have h : t = 3 := by simpa using ht.symm
          subst h; exact (show Tryd.prog.wantsStandIn 3 = false by kernel_rfl)
        · simp at ht⟩)
    (by kernel_rfl)
#print axioms proved
end Go.Proofs.YtifhlkfdmnkhoaaDoor.SenseInquiryRow
