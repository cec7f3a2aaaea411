/- Layer 4: a term and a vote. -/
import Derived.Test.YtceajiliahmkaaaWalK
namespace Go.Proofs.Ytceajiliahmkaaa
set_option linter.unusedVariables false
set_option linter.unusedSimpArgs false
set_option maxRecDepth 100000
open Go.RowKit

structure OpR where
  x : LG
  D : DS
  err : Int
def LG.put (x : LG) (D : DS) : OpR := ⟨x.putX D, x.putD D, x.putE D⟩
def setOk (t v : Int) : Prop := (0 ≤ t ∧ t ≤ 1152921504606846976) ∧ -1 ≤ v ∧ v < 5
instance (t v : Int) : Decidable (setOk t v) := by unfold setOk; exact inferInstance
def LG.set (x : LG) (D : DS) (t v : Int) : OpR := if x.dead = true then ⟨x, D, 21⟩ else if setOk t v then ({ x with term := t, vote := v } : LG).put D else ⟨x, D, 1⟩
def RetOp (w : World) (p d : Nat) (M R : Nat → Prop) (A0 : Option Addr) (r : OpR) (e : Ending) (w' : World) : Prop := RetLg w p d M R A0 r.x r.D (.int .i64 r.err) e w'
section
variable {w w' : World} {p d : Nat} {x : LG} {A : Option Addr} {c : Nat} {D : DS} {M R F : Nat → Prop}
theorem RetPut.op {err : Int} {x' : LG} {D' : DS} {e : Ending} {w0 : World} {M0 R0 : Nat → Prop} {A0 : Option Addr} (h : RetPut w p d x A c D M R err x' D' e w') (ht : Tr (fun b => M0 b ∨ b = p ∨ Blo A0 b) w0 w) (hM : ∀ b, M b → M0 b ∨ w0.heap.size ≤ b) (hR : ∀ b, R b → R0 b ∨ w0.heap.size ≤ b) (hA : ∀ b, Blo A b → Blo A0 b ∨ w0.heap.size ≤ b) : RetOp w0 p d M0 R0 A0 ⟨x', D', err⟩ e w' := by
  obtain ⟨M', R', he, hl, hm, hr, ht'⟩ := h
  have hz := ht.size
  refine ⟨A, c, M', R', he, hl, hA, fun b hb => (hm b hb).elim (hM b) (fun h => .inr (by omega)), fun b hb => (hr b hb).elim (hR b) (fun h => .inr (by omega)), ht.trans ht' (fun b hb e => e.elim (fun e => .inl ((hM b e).resolve_right (by omega))) (fun e => .inr (.inl e)))⟩
theorem RetOp.same {e : Ending} {v : Int} (he : e = .returned (.int .i64 v)) (h : LgAt w p d x A c D M R) : RetOp w p d M R A ⟨x, D, v⟩ e w :=
  ⟨A, c, M, R, he, h, fun b h => .inl h, fun b h => .inl h, fun b h => .inl h, Tr.refl _ _⟩
theorem LgAt.set56 (h : LgAt w p d x A c D M R) (t v : Int) : LgAt ((w.setCell ⟨p, 5, none⟩ (.int .i64 t)).setCell ⟨p, 6, none⟩ (.int .i64 v)) p d { x with term := t, vote := v } A c D M R ∧ Tr (fun b => b = p) w ((w.setCell ⟨p, 5, none⟩ (.int .i64 t)).setCell ⟨p, 6, none⟩ (.int .i64 v)) := by
  have ts : Tr (fun b => b = p) w ((w.setCell ⟨p, 5, none⟩ (.int .i64 t)).setCell ⟨p, 6, none⟩ (.int .i64 v)) := ((Tr.refl (fun b => b = p) w).setCell (p := ⟨p, 5, none⟩) (fun _ => rfl) _).setCell (p := ⟨p, 6, none⟩) (fun _ => rfl) _
  have hb := (h.lg.set_ 5 (.int .i64 t)).set_ 6 (.int .i64 v)
  refine ⟨⟨?_, h.row.tr ts (fun b hb e => h.pa (e ▸ hb)), h.dk.tr ts (fun b hb e => h.pm (e ▸ hb)) (fun b hb e => h.pr (e ▸ hb)), h.pa, h.pm, h.pr, h.am⟩, ts⟩
  simpa [lgCells, IsLg] using hb
set_option maxHeartbeats 3200000 in
theorem set_any (h : LgAt w p d x A c D M R) (t v : Int) (hF : x.from_ ≤ 100000) (he : 0 ≤ x.epoch ∧ x.epoch ≤ 2000000000000000000) (hb : 0 ≤ x.base ∧ x.base ≤ 1152921504606846976) (hfew : D.gs.length < 1000000) :
    Calls Try.prog 11 #[.pointer (some ⟨p, 0, none⟩), .int .i64 t, .int .i64 v] w (RetOp w p d M R A (x.set D t v)) := by
  have HH := Lib.hid h
  have HS := Lib.hid (state_any h.lg)
  by_cases hd : x.dead = true
  · have HE : Hid (x.set D t v = ⟨x, D, 21⟩) := Lib.hid (if_pos hd)
    rw [show stateE x = 21 from if_pos hd] at HS
    clear h hd
    go_enter Try.func11, Try.ntmps11
    go_wp2_with (first
      | (go_at_call 33; (with_reducible refine HS.out.mono ?_); rintro e w1 ⟨rfl, rfl⟩))
    go_ret
    rw [HE.out]
    exact RetOp.same rfl HH.out
  · rw [show stateE x = 0 from if_neg hd] at HS
    have c5 := h.lg.cell 5
    have c6 := h.lg.cell 6
    have f5 := h.lg.frozen 5
    have f6 := h.lg.frozen 6
    simp [lgCells] at c5 c6
    have HW := Lib.hid (fun (W : World) => within_any t 0 1152921504606846976 W)
    have HE : Hid (x.set D t v = if setOk t v then ({ x with term := t, vote := v } : LG).put D else ⟨x, D, 1⟩) := Lib.hid (if_neg hd)
    by_cases h1 : 0 ≤ t ∧ t ≤ 1152921504606846976
    · have hw1 : inW t 0 1152921504606846976 = true := by unfold inW; simp [h1.1, h1.2]
      rw [hw1] at HW
      by_cases h2 : -1 ≤ v
      · have b2 : decide (v < -1) = false := decide_eq_false (by omega)
        by_cases h3 : v < 5
        · have b3 : decide (5 ≤ v) = false := decide_eq_false (by omega)
          have HE' := Lib.hid (HE.out.trans (if_pos ⟨h1, h2, h3⟩))
          obtain ⟨y, hy⟩ : ∃ y : LG, { x with term := t, vote := v } = y := ⟨_, rfl⟩
          have HP : Hid (Calls Try.prog 32 #[.pointer (some ⟨p, 0, none⟩)] ((w.setCell ⟨p, 5, none⟩ (.int .i64 t)).setCell ⟨p, 6, none⟩ (.int .i64 v)) (RetPut ((w.setCell ⟨p, 5, none⟩ (.int .i64 t)).setCell ⟨p, 6, none⟩ (.int .i64 v)) p d y A c D M R (y.putE D) (y.putX D) (y.putD D))) := Lib.hid (by
            have h5 := (h.set56 t v).1
            rw [hy] at h5
            exact put_any h5 (by subst hy; exact ⟨he, h1, ⟨h2, by show v ≤ 100; omega⟩, hb⟩) (by subst hy; exact hF) hfew)
          rw [hy] at HE'
          clear h hd h1 hw1 HE hy he hb
          go_enter Try.func11, Try.ntmps11
          go_wp2_with (first
            | (go_at_call 33; (with_reducible refine HS.out.mono ?_); rintro e w1 ⟨rfl, rfl⟩)
            | (go_at_call 42; (with_reducible refine (HW.out _).mono ?_); rintro e w1 ⟨rfl, rfl⟩)
            | (go_at_call 32; (with_reducible refine HP.out.mono ?_); rintro e w2 h2; have HR := Lib.hid h2; obtain ⟨_, _, rfl, _⟩ := h2))
          go_ret
          rw [HE'.out]
          exact RetPut.op HR.out ((HH.out.set56 t v).2.mono (fun b _ e => .inr (.inl e))) (fun b h => .inl h) (fun b h => .inl h) (fun b h => .inl h)
        · have b3 : decide (5 ≤ v) = true := decide_eq_true (by omega)
          have HE' := Lib.hid (HE.out.trans (if_neg (fun h => h3 h.2.2)))
          clear h hd h1 hw1 HE he hb
          go_enter Try.func11, Try.ntmps11
          go_wp2_with (first
            | (go_at_call 33; (with_reducible refine HS.out.mono ?_); rintro e w1 ⟨rfl, rfl⟩)
            | (go_at_call 42; (with_reducible refine (HW.out _).mono ?_); rintro e w1 ⟨rfl, rfl⟩))
          go_ret
          rw [HE'.out]
          exact RetOp.same rfl HH.out
      · have b2 : decide (v < -1) = true := decide_eq_true (by omega)
        have HE' := Lib.hid (HE.out.trans (if_neg (fun h => h2 h.2.1)))
        clear h hd h1 hw1 HE he hb
        go_enter Try.func11, Try.ntmps11
        go_wp2_with (first
          | (go_at_call 33; (with_reducible refine HS.out.mono ?_); rintro e w1 ⟨rfl, rfl⟩)
          | (go_at_call 42; (with_reducible refine (HW.out _).mono ?_); rintro e w1 ⟨rfl, rfl⟩))
        go_ret
        rw [HE'.out]
        exact RetOp.same rfl HH.out
    · have hw1 : inW t 0 1152921504606846976 = false := by
        unfold inW
        rw [Bool.and_eq_false_iff]
        by_cases h : 0 ≤ t
        · exact .inr (decide_eq_false (fun h' => h1 ⟨h, h'⟩))
        · exact .inl (decide_eq_false h)
      rw [hw1] at HW
      have HE' := Lib.hid (HE.out.trans (if_neg (fun h => h1 h.1)))
      clear h hd h1 hw1 HE he hb
      go_enter Try.func11, Try.ntmps11
      go_wp2_with (first
        | (go_at_call 33; (with_reducible refine HS.out.mono ?_); rintro e w1 ⟨rfl, rfl⟩)
        | (go_at_call 42; (with_reducible refine (HW.out _).mono ?_); rintro e w1 ⟨rfl, rfl⟩))
      go_ret
      rw [HE'.out]
      exact RetOp.same rfl HH.out
end
end Go.Proofs.Ytceajiliahmkaaa
