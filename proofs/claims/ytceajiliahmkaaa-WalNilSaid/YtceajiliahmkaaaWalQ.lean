/- Layer 4: those up to a number are not wanted any more. -/
import Derived.Test.YtceajiliahmkaaaWalP
namespace Go.Proofs.Ytceajiliahmkaaa
set_option linter.unusedVariables false
set_option linter.unusedSimpArgs false
set_option maxRecDepth 100000
open Go.RowKit

def dropC (n : Int) : List SG → List SG
  | a :: b :: l => if b.first ≤ n + 1 then dropC n (b :: l) else a :: b :: l
  | l => l
def LG.drop (x : LG) (D : DS) (n : Int) : OpR :=
  if x.dead = true then ⟨x, D, 21⟩ else if inW n x.base (x.next - 1) = true then
    (fun y : LG => if y.putE D = 0 then ⟨{ y.putX D with chain := dropC n x.chain }, y.putD D, 0⟩ else y.put D) { x with base := n }
  else ⟨x, D, 1⟩
section
variable {w w' : World} {p d : Nat} {x : LG} {A : Option Addr} {c : Nat} {D : DS} {M R F : Nat → Prop}
theorem LgAt.set7 (h : LgAt w p d x A c D M R) (n : Int) : LgAt (w.setCell ⟨p, 7, none⟩ (.int .i64 n)) p d { x with base := n } A c D M R ∧ Tr (fun b => b = p) w (w.setCell ⟨p, 7, none⟩ (.int .i64 n)) := by
  have ts : Tr (fun b => b = p) w (w.setCell ⟨p, 7, none⟩ (.int .i64 n)) := (Tr.refl (fun b => b = p) w).setCell (p := ⟨p, 7, none⟩) (fun _ => rfl) _
  have hb := h.lg.set_ 7 (.int .i64 n)
  refine ⟨⟨?_, h.row.tr ts (fun b hb e => h.pa (e ▸ hb)), h.dk.tr ts (fun b hb e => h.pm (e ▸ hb)) (fun b hb e => h.pr (e ▸ hb)), h.pa, h.pm, h.pr, h.am⟩, ts⟩
  simpa [lgCells, IsLg] using hb
theorem SegRow.tail {B g off c : Nat} {a : SG} {L : List SG} (h : SegRow w B (some ⟨g, off, none⟩) c (a :: L)) : SegRow w B (some ⟨g, off + 3, none⟩) (c - 1) L := by
  rcases h with ⟨e, _⟩ | ⟨g', off', e, h1, h2, h3, h4, h5, h6, h7⟩
  · cases e
  · injection e with e
    injection e with e1 e2
    subst e1
    subst e2
    simp only [List.length_cons] at h3
    refine .inr ⟨g, off + 3, rfl, h1, h2, by omega, by omega, fun j hj => ?_, fun j u hj => ?_, h7⟩
    · have := h5 (j + 3) (by omega)
      rwa [show off + (j + 3) = off + 3 + j from by omega] at this
    · have := h6 (j + 3) u (by
        show (a.cells ++ segCells L)[j + 3]? = _
        rw [List.getElem?_append_right (by simp [SG.cells])]
        simpa [SG.cells] using hj)
      rwa [show off + (j + 3) = off + 3 + j from by omega] at this
theorem RetOp.far {e : Ending} {v : Int} (he : e = .returned (.int .i64 v)) (h : LgAt w' p d x A c D M R) (hb : Below w.heap.size w w') : RetOp w p d M R A ⟨x, D, v⟩ e w' :=
  ⟨A, c, M, R, he, h, fun b h => .inl h, fun b h => .inl h, fun b h => .inl h, Tr.of_below hb⟩
def chainLen (W : World) (p : Nat) : Nat := match W.cell? ⟨p, 8, none⟩ with
  | some (.slice _ n _) => n
  | _ => 0
theorem IsLg.chainLen (h : IsLg w p d x A c) : chainLen w p = x.chain.length := by
  have c8 := h.cell 8
  simp [lgCells] at c8
  unfold Go.Proofs.Ytceajiliahmkaaa.chainLen
  rw [c8]
/-- The chain's row turned, in its own block. -/
theorem LgAt.chainTo {g off off' c' : Nat} {L : List SG} (h : LgAt w p d x (some ⟨g, off, none⟩) c D M R) (hr : SegRow w 0 (some ⟨g, off', none⟩) c' L) :
    LgAt (w.setCell ⟨p, 8, none⟩ (.slice (some ⟨g, off', none⟩) L.length c')) p d { x with chain := L } (some ⟨g, off', none⟩) c' D M R ∧ Tr (fun b => b = p) w (w.setCell ⟨p, 8, none⟩ (.slice (some ⟨g, off', none⟩) L.length c')) := by
  have ts : Tr (fun b => b = p) w (w.setCell ⟨p, 8, none⟩ (.slice (some ⟨g, off', none⟩) L.length c')) := (Tr.refl (fun b => b = p) w).setCell (p := ⟨p, 8, none⟩) (fun _ => rfl) _
  have hb := h.lg.set_ 8 (.slice (some ⟨g, off', none⟩) L.length c')
  have hbl : ∀ b, Blo (some ⟨g, off', none⟩) b → Blo (some ⟨g, off, none⟩) b := fun b hb => (Blo.some_iff _ _).2 ((Blo.some_iff _ _).1 hb)
  refine ⟨⟨?_, hr.tr ts (fun b hb e => h.pa (e ▸ hbl b hb)), h.dk.tr ts (fun b hb e => h.pm (e ▸ hb)) (fun b hb e => h.pr (e ▸ hb)), fun e => h.pa (hbl _ e), h.pm, h.pr, fun b hb => h.am b (hbl b hb)⟩, ts⟩
  simpa [lgCells, IsLg] using hb
set_option maxHeartbeats 6400000 in
theorem drop_any (h : LgAt w p d x A c D M R) (n : Int) (hn : 0 ≤ n ∧ n ≤ 1152921504606846976) (hF : x.from_ ≤ 100000) (he : 0 ≤ x.epoch ∧ x.epoch ≤ 2000000000000000000) (ht : 0 ≤ x.term ∧ x.term ≤ 1152921504606846976) (hv : -1 ≤ x.vote ∧ x.vote ≤ 100) (hx : 0 ≤ x.next ∧ x.next ≤ 2000000000000000000) (hfew : D.gs.length < 1000000) :
    Calls Try.prog 10 #[.pointer (some ⟨p, 0, none⟩), .int .i64 n] w (RetOp w p d M R A (x.drop D n)) := by
  have HH := Lib.hid h
  have HS := Lib.hid (state_any h.lg)
  by_cases hd : x.dead = true
  · have HE : Hid (x.drop D n = ⟨x, D, 21⟩) := Lib.hid (if_pos hd)
    rw [show stateE x = 21 from if_pos hd] at HS
    clear h hd
    go_enter Try.func10, Try.ntmps10
    go_wp2_with (first
      | (go_at_call 33; (with_reducible refine HS.out.mono ?_); rintro e w1 ⟨rfl, rfl⟩))
    go_ret
    rw [HE.out]
    exact RetOp.same rfl HH.out
  · rw [show stateE x = 0 from if_neg hd] at HS
    have c7 := h.lg.cell 7
    have c9 := h.lg.cell 9
    have f7 := h.lg.frozen 7
    simp [lgCells] at c7 c9
    obtain ⟨bs, hbs⟩ : ∃ b, x.base = b := ⟨_, rfl⟩
    obtain ⟨nx, hnx⟩ : ∃ b, x.next = b := ⟨_, rfl⟩
    rw [hbs] at c7
    rw [hnx] at c9 hx
    have HW := Lib.hid (fun (W : World) => within_any n bs (nx - 1) W)
    obtain ⟨y, hy⟩ : ∃ y : LG, { x with base := n } = y := ⟨_, rfl⟩
    have HE : Hid (x.drop D n = if inW n bs (nx - 1) = true then (if y.putE D = 0 then ⟨{ y.putX D with chain := dropC n x.chain }, y.putD D, 0⟩ else y.put D) else ⟨x, D, 1⟩) := Lib.hid (by
      have h : x.drop D n = if inW n x.base (x.next - 1) = true then (if y.putE D = 0 then ⟨{ y.putX D with chain := dropC n x.chain }, y.putD D, 0⟩ else y.put D) else ⟨x, D, 1⟩ := by subst hy; exact if_neg hd
      rw [hbs, hnx] at h
      exact h)
    have w1 : IntKind.i64.wrap (nx - 1) = nx - 1 := by rw [IntKind.wrap_i64]; omega
    have w2 : IntKind.i64.wrap (n + 1) = n + 1 := by rw [IntKind.wrap_i64]; omega
    cases hin : inW n bs (nx - 1) with
    | false =>
      rw [hin] at HW
      have HE' := Lib.hid (HE.out.trans (if_neg (by rw [hin]; simp)))
      clear h hd HE he ht hv hbs hnx hy hin
      go_enter Try.func10, Try.ntmps10
      go_wp2_with (first
        | (go_at_call 33; (with_reducible refine HS.out.mono ?_); rintro e w1 ⟨rfl, rfl⟩))
      go_quiet ((go_at_call 42; exact Calls.quiet_of_same ((HW.out _).mono (fun e w' h => ⟨h.1, h.2.symm⟩))))
      go_wp2_with fail
      go_ret
      rw [HE'.out]
      exact RetOp.far rfl (HH.out.below (bl_drewN _ _)) (bl_drewN _ _)
    | true =>
      rw [hin] at HW
      replace HE := Lib.hid (HE.out.trans (if_pos hin))
      have HP : Hid (∀ V, Below w.heap.size w V → Calls Try.prog 32 #[.pointer (some ⟨p, 0, none⟩)] (V.setCell ⟨p, 7, none⟩ (.int .i64 n)) (RetPut (V.setCell ⟨p, 7, none⟩ (.int .i64 n)) p d y A c D M R (y.putE D) (y.putX D) (y.putD D))) := Lib.hid (fun V hV => by
        have h5 := ((h.below hV).set7 n).1
        rw [hy] at h5
        exact put_any h5 (by subst hy; exact ⟨he, ht, hv, hn⟩) (by subst hy; exact hF) hfew)
      obtain ⟨er, her⟩ : ∃ e, y.putE D = e := ⟨_, rfl⟩
      have HER := Lib.hid her
      rw [her] at HP HE
      have hyc : (y.putX D).chain = x.chain := by subst hy; unfold LG.putX; split <;> rfl
      by_cases hr : er = 0
      · subst hr
        replace HE := Lib.hid (HE.out.trans (if_pos rfl))
        obtain ⟨y2, hy2⟩ : ∃ z, y.putX D = z := ⟨_, rfl⟩
        rw [hy2] at HE HP hyc
        have HYC := Lib.hid hyc
        clear h hd he ht hv hbs hnx hy hin her hyc hy2
        go_enter Try.func10, Try.ntmps10
        go_wp2_with (first
          | (go_at_call 33; (with_reducible refine HS.out.mono ?_); rintro e w1 ⟨rfl, rfl⟩))
        go_quiet ((go_at_call 42; exact Calls.quiet_of_same ((HW.out _).mono (fun e w' h => ⟨h.1, h.2.symm⟩))))
        go_wp2_with (first
          | (go_at_call 32; (with_reducible refine (HP.out _ (bl_drewN _ _)).mono ?_); rintro e w2 ⟨M2, R2, rfl, hl2, hm2, hr2, ht2⟩; have HL2 := Lib.hid hl2; have HM2 : Hid (∀ b, M2 b → M b ∨ w.heap.size ≤ b) := Lib.hid (by simpa using hm2); have HR2 : Hid (∀ b, R2 b → R b ∨ w.heap.size ≤ b) := Lib.hid (by simpa using hr2); have HT2 := Lib.hid (((Tr.of_below (F := fun b => M b ∨ b = p ∨ Blo A b) (bl_drewN w _)).trans ((HH.out.below (bl_drewN w _)).set7 n).2 (fun b _ e => .inr (.inl e))).trans ht2 (fun b _ e => e.elim (fun e => .inl e) (fun e => .inr (.inl e)))); clear hl2 hm2 hr2 ht2))
        go_loopw [] (fun W => ∃ (L : List SG) (A' : Option Addr) (c' : Nat), LgAt W p d { y2 with chain := L } A' c' (y.putD D) M2 R2 ∧ dropC n L = dropC n x.chain ∧ (∀ b, Blo A' b → Blo A b) ∧ Tr (fun b => b = p) w2 W) (fun W => chainLen W p)
        case atStart => exact ⟨x.chain, A, c, by rw [← HYC.out]; exact HL2.out, rfl, fun b h => h, Tr.refl _ _⟩
        case round =>
          obtain ⟨L, A', c', hl, hdr, hA', htr⟩ := hrel
          have HL := Lib.hid hl
          have HDR := Lib.hid hdr
          have HA' := Lib.hid hA'
          have HTR := Lib.hid htr
          have c8 := hl.lg.cell 8
          have f8 := hl.lg.frozen 8
          simp [lgCells] at c8
          clear hl hdr hA' htr
          by_cases h2 : 2 ≤ L.length
          · obtain ⟨s0, s1, L2, hL⟩ : ∃ a b l, L = a :: b :: l := by
              match L, h2 with
              | a :: b :: l, _ => exact ⟨a, b, l, rfl⟩
            subst hL
            obtain ⟨g, off, hA, hgl, _, e1, _⟩ := HL.out.row.at_ 1 (by simp)
            subst hA
            simp only [List.getElem_cons_succ, List.getElem_cons_zero] at e1
            have hle := HL.out.row.le
            simp only [List.length_cons] at hle c8
            obtain ⟨m, hm⟩ : ∃ m, L2.length = m := ⟨_, rfl⟩
            rw [hm] at hle c8
            have HM := Lib.hid hm
            have hmb : c' ≤ 9223372036854775807 := by
              have h2 := HL.out.row.cap
              simp only [maxLen] at h2
              omega
            obtain ⟨s1f, hs1f⟩ : ∃ z, s1.first = z := ⟨_, rfl⟩
            rw [hs1f] at e1
            clear hm
            by_cases h3 : s1f ≤ n + 1
            · have b3 : decide (s1f ≤ n + 1) = true := decide_eq_true h3
              have HD2 : Hid (dropC n (s0 :: s1 :: L2) = dropC n (s1 :: L2)) := Lib.hid (by rw [dropC, if_pos (by rw [hs1f]; exact h3)])
              clear hs1f
              go_wp2_with fail
              obtain ⟨hl3, t3⟩ := HL.out.chainTo HL.out.row.tail
              rw [show (s1 :: L2).length = m + 1 from by simp [HM.out]] at hl3 t3
              refine ⟨⟨s1 :: L2, _, _, hl3, HD2.out.symm.trans HDR.out, fun b hb => HA'.out b ((Blo.some_iff _ _).2 ((Blo.some_iff _ _).1 hb)), HTR.out.trans t3 (fun b _ e => e)⟩, ?_⟩
              rw [hl3.lg.chainLen, HL.out.lg.chainLen]
              simp
            · have b3 : decide (s1f ≤ n + 1) = false := decide_eq_false h3
              have HD2 : Hid (dropC n (s0 :: s1 :: L2) = s0 :: s1 :: L2) := Lib.hid (by rw [dropC, if_neg (by rw [hs1f]; exact h3)])
              clear hs1f
              go_wp2_with fail
              go_ret
              rw [HE.out, ← HDR.out, HD2.out]
              exact ⟨_, c', M2, R2, rfl, HL.out, fun b hb => .inl (HA'.out b hb), HM2.out, HR2.out, HT2.out.trans HTR.out (fun b _ e => .inr (.inl e))⟩
          · obtain ⟨m, hm⟩ : ∃ m, L.length = m := ⟨_, rfl⟩
            rw [hm] at c8 h2
            have b2 : decide (1 < (m : Int)) = false := decide_eq_false (by omega)
            have HD2 : Hid (dropC n L = L) := Lib.hid (by
              match L, hm with
              | [], _ => rfl
              | [a], _ => rfl
              | a :: b :: l, h => simp at h; omega)
            clear hm
            go_wp2_with fail
            go_ret
            rw [HE.out, ← HDR.out, HD2.out]
            exact ⟨A', c', M2, R2, rfl, HL.out, fun b hb => .inl (HA'.out b hb), HM2.out, HR2.out, HT2.out.trans HTR.out (fun b _ e => .inr (.inl e))⟩
      · replace HE := Lib.hid (HE.out.trans (if_neg hr))
        have k1 : (er == 0) = false := by simp [hr]
        clear h hd he ht hv hbs hnx hy hin her hyc
        go_enter Try.func10, Try.ntmps10
        go_wp2_with (first
          | (go_at_call 33; (with_reducible refine HS.out.mono ?_); rintro e w1 ⟨rfl, rfl⟩))
        go_quiet ((go_at_call 42; exact Calls.quiet_of_same ((HW.out _).mono (fun e w' h => ⟨h.1, h.2.symm⟩))))
        go_wp2_with (first
          | (go_at_call 32; (with_reducible refine (HP.out _ (bl_drewN _ _)).mono ?_); rintro e w2 h2; have HR := Lib.hid h2; obtain ⟨_, _, rfl, _⟩ := h2))
        go_ret
        rw [HE.out]
        unfold LG.put
        rw [HER.out]
        exact RetPut.op HR.out ((Tr.of_below (F := fun b => M b ∨ b = p ∨ Blo A b) (bl_drewN w _)).trans ((HH.out.below (bl_drewN w _)).set7 n).2 (fun b _ e => .inr (.inl e))) (fun b h => .inl h) (fun b h => .inl h) (fun b h => .inl h)
end
end Go.Proofs.Ytceajiliahmkaaa
