/- Contracts of the reference's disk: Flush, Crash, Do. -/
import Derived.Test.YtadoclcabkcmeaaRef4
namespace Go.Proofs.Ytadoclcabkcmeaa
set_option linter.unusedVariables false
open Go.RowKit

def flatD (s : List Int) (f d : Bool) : DS := ⟨s, s, [], f, d⟩
theorem flat_ok {s : List Int} {f d : Bool} {n : Nat} (hl : s.length = 256 * n) (h1 : 1 ≤ n) (h2 : n ≤ 4096) (hB : isB s) : (flatD s f d).Ok ∧ (flatD s f d).n = n := by
  have e : (flatD s f d).n = n := by show s.length / 256 = n; omega
  exact ⟨⟨by rw [e]; exact h1, by rw [e]; exact h2, by rw [e]; exact hl, by rw [e]; exact hl, hB, hB, fun x hx => by cases hx⟩, e⟩
theorem ref_fresh {W : World} {g n b2 c2 : Nat} {s : List Int} {cells2 : List Value} {M2 R2 : Nat → Prop} {f d : Bool} (hl : s.length = 256 * n) (h1 : 1 ≤ n) (h2 : n ≤ 4096) (hB : isB s)
    (hb : Blk W g 47 #[.slice (some ⟨b2, 0, none⟩) n c2, .slice none 0 0, .bool f, .bool d]) (hr : W.ownsRow 0 29 1 (.slice (some ⟨b2, 0, none⟩) n c2) n cells2) (hs : StsAt W R2 256 (chunks n s) cells2)
    (hg : M2 g) (hm : M2 b2) (hrm : ∀ b, R2 b → ¬ M2 b) (hml : ∀ b, M2 b → b < W.heap.size) (hrl : ∀ b, R2 b → b < W.heap.size) : IsRef W g (flatD s f d) M2 R2 := by
  obtain ⟨ok, e⟩ := flat_ok (f := f) (d := d) hl h1 h2 hB
  exact ⟨b2, c2, cells2, none, 0, [], ok, rfl, by rw [e]; exact hb, by rw [e]; exact hr, by rw [e]; exact hs, ownsRow_emp _ _ _ _, rfl, hg, hm, fun b hb => (Blo.none b hb).elim, hrm, by simp [flatD], hml, hrl⟩
theorem ref_flags {w : World} {g : Nat} {D : DS} {M R : Nat → Prop} {bs cs : Nat} {cells : List Value} {Al : Option Addr} {cl : Nat} {lcells : List Value} (h : RAt w g D M R bs cs cells Al cl lcells) (i : Nat) (v : Value) (f d : Bool)
    (hc : (#[.slice (some ⟨bs, 0, none⟩) D.n cs, .slice Al D.gs.length cl, .bool D.failing, .bool D.dead] : Array Value).setIfInBounds i v = #[.slice (some ⟨bs, 0, none⟩) D.n cs, .slice Al D.gs.length cl, .bool f, .bool d]) :
    RAt (w.setCell ⟨g, i, none⟩ v) g { D with failing := f, dead := d } M R bs cs cells Al cl lcells ∧ Tr (fun b => b = g) w (w.setCell ⟨g, i, none⟩ v) := by
  have tg : Tr (fun b => b = g) w (w.setCell ⟨g, i, none⟩ v) := (Tr.refl (fun b => b = g) w).setCell (p := ⟨g, i, none⟩) (fun _ => rfl) _
  have gne : ¬ Blo Al g := own_blk h.row h.blk (by decide)
  have bsg : bs ≠ g := fun e => own_blk h.safe h.blk (by decide) (by rw [e]; rfl)
  have hRg : ∀ b, R b → b ≠ g := fun b hb e => h.rm b hb (e ▸ h.mg)
  have hb := h.blk.set_ i v
  rw [hc] at hb
  exact ⟨⟨⟨h.ok.pos, h.ok.most, h.ok.len, h.ok.lnow, h.ok.bs, h.ok.bn, h.ok.gs⟩, h.good, hb, own_tr h.safe tg (fun b hb e => bsg (by have := (Blo.some_iff _ _).1 hb; simp at this; omega)), h.sat.tr tg hRg (fun _ x => x),
    own_tr h.row tg (fun b hb e => gne (e ▸ hb)), h.gat.tr tg hRg (fun _ x => x), h.mg, h.ms, h.ml, h.rm, h.few, fun b x => by have := h.mlt b x; simpa [World.setCell] using this, fun b x => by have := h.rlt b x; simpa [World.setCell] using this⟩, tg⟩

section
variable {g : Nat} {D : DS} {M R : Nat → Prop} {w : World}
theorem rfail_store {bs cs : Nat} {cells : List Value} {Al : Option Addr} {cl : Nat} {lcells : List Value} (h : RAt w g D M R bs cs cells Al cl lcells) (i : Nat) (v : Value) (f d : Bool) (err : Int)
    (hc : (#[.slice (some ⟨bs, 0, none⟩) D.n cs, .slice Al D.gs.length cl, .bool D.failing, .bool D.dead] : Array Value).setIfInBounds i v = #[.slice (some ⟨bs, 0, none⟩) D.n cs, .slice Al D.gs.length cl, .bool f, .bool d]) :
    RetR w g M R { D with failing := f, dead := d } err (.returned (.int .i64 err)) (w.setCell ⟨g, i, none⟩ v) := by
  obtain ⟨h1, h2⟩ := ref_flags h i v f d hc
  exact ⟨rfl, M, R, ⟨_, _, _, _, _, _, h1⟩, fun b x => .inl x, fun b x => .inl x, h2.mono (fun b _ e => e ▸ h.mg)⟩
theorem ref_flush {w1 w2 : World} {bs cs : Nat} {cells : List Value} {Al : Option Addr} {cl : Nat} {lcells : List Value} (h : RAt w g D M R bs cs cells Al cl lcells) {b2 c2 : Nat} {cells2 : List Value} (hb1 : Below w.heap.size w w1)
    (ho : w2.ownsRow w1.heap.size 29 1 (.slice (some ⟨b2, 0, none⟩) D.n c2) D.n cells2) (ha : StsAt w2 (fun b => w1.heap.size ≤ b ∧ b < w2.heap.size ∧ ¬ Blo (some ⟨b2, 0, none⟩) b) 256 (chunks D.n D.now) cells2) (hb2 : Below w1.heap.size w1 w2) :
    RetR w g M R { D with safe := D.now, gs := [] } 0 (.returned (.int .i64 0)) ((w2.setCell ⟨g, 0, none⟩ (.slice (some ⟨b2, 0, none⟩) D.n c2)).setCell ⟨g, 1, none⟩ (.slice none 0 0)) := by
  have z1 := hb1.size
  have z2 := hb2.size
  have hgw := h.mlt g h.mg
  have g1 := own_ge ho b2 rfl
  have g2 := own_lt ho b2 rfl
  have tg : Tr (fun b => b = g) w2 ((w2.setCell ⟨g, 0, none⟩ (.slice (some ⟨b2, 0, none⟩) D.n c2)).setCell ⟨g, 1, none⟩ (.slice none 0 0)) :=
    ((Tr.refl (fun b => b = g) w2).setCell (p := ⟨g, 0, none⟩) (fun _ => rfl) _).setCell (p := ⟨g, 1, none⟩) (fun _ => rfl) _
  have hbk := ((h.blk.keep (bl_chain hb1 hb2)).set_ 0 (.slice (some ⟨b2, 0, none⟩) D.n c2)).set_ 1 (.slice none 0 0)
  simp at hbk
  refine ⟨rfl, fun b => M b ∨ b = b2, fun b => w1.heap.size ≤ b ∧ b < w2.heap.size ∧ ¬ Blo (some ⟨b2, 0, none⟩) b, ref_fresh (s := D.now) (n := D.n) (f := D.failing) (d := D.dead) h.ok.lnow h.ok.pos h.ok.most h.ok.bn hbk (own_tr (ownsRow_base ho (Nat.zero_le _)) tg (fun b hb e => ?_)) (ha.tr tg (fun b x e => ?_) (fun _ x => x)) (.inl h.mg) (.inr rfl) ?_ ?_ ?_, ?_, ?_, ?_⟩
  · have := (Blo.some_iff _ _).1 hb; simp at this; omega
  · have := x.1; omega
  · rintro b ⟨x1, x2, x3⟩ (hm | rfl)
    · have := h.mlt b hm; omega
    · exact x3 rfl
  · rintro b (hm | rfl)
    · have := h.mlt b hm; simp [World.setCell]; omega
    · simp [World.setCell]; omega
  · rintro b ⟨x1, x2, x3⟩
    simp [World.setCell]; omega
  · rintro b (hm | rfl)
    · exact .inl hm
    · right; omega
  · rintro b ⟨x1, x2, x3⟩
    right; omega
  · exact (Tr.of_below (F := M) (bl_chain hb1 hb2)).trans tg (fun b _ e => e ▸ h.mg)

set_option maxHeartbeats 1600000 in
theorem rflush_any (hd : IsRef w g D M R) : Calls Try.prog 33 #[.pointer (some ⟨g, 0, none⟩)] w (RetR w g M R (flushD D) (flushE D)) := by
  have HD := Lib.hid hd
  obtain ⟨bs, cs, cells, Al, cl, lcells, h⟩ := hd
  have c2 := h.blk.cell 2
  have c3 := h.blk.cell 3
  have f2 := h.blk.frozen 2
  have f3 := h.blk.frozen 3
  simp at c2 c3
  have HH := Lib.hid h
  have hmost := h.ok.most
  have hpos := h.ok.pos
  clear h
  by_cases h1 : D.dead = true
  · have e1 : flushD D = D := if_pos h1
    have e2 : flushE D = 21 := if_pos h1
    rw [e1, e2]
    clear e1 e2
    rw [h1] at c3
    clear h1
    go_enter Try.func33, Try.ntmps33
    go_wp2_with fail
    go_ret
    exact RetR.same HD.out (Below.refl _ _)
  · have e1 : flushD D = if D.failing = true then { D with dead := true } else { D with safe := D.now, gs := [] } := if_neg h1
    have e2 : flushE D = if D.failing = true then 20 else 0 := if_neg h1
    rw [e1, e2]
    clear e1 e2
    have h1' : D.dead = false := by simpa using h1
    rw [h1'] at c3
    clear h1 h1'
    by_cases h2 : D.failing = true
    · rw [if_pos h2, if_pos h2]
      rw [h2] at c2
      have H2 := Lib.hid h2
      clear h2
      go_enter Try.func33, Try.ntmps33
      go_wp2_with fail
      go_ret
      have := rfail_store HH.out 3 (.bool true) D.failing true 20 rfl
      exact this
    · rw [if_neg h2, if_neg h2]
      have h2' : D.failing = false := by simpa using h2
      rw [h2'] at c2
      clear h2 h2'
      have HSC := Lib.hid (secs_of HH.out.ok.lnow)
      have HPD := Lib.hid (pad_of HH.out.ok.lnow)
      have HSE : Hid (∀ A c W, Rd W A (by8 D.now) → Calls Try.prog 31 #[.slice A (256 * D.n) c] W (RetSecs W D.n (chunks D.n D.now))) := Lib.hid fun A c W hr => by
        have := sectors_any A (256 * D.n) c D.now W HH.out.ok.lnow hr HH.out.ok.bn (by omega)
        rw [HSC.out, HPD.out] at this
        exact this
      go_enter Try.func33, Try.ntmps33
      go_wp2_with (first
        | (go_at_call 37; (with_reducible refine (rnow_any HD.out).mono ?_); rintro e w1 ⟨A1, c1, rfl, hc1, ho1, hb1⟩; have HR1 := Lib.hid (Rd.of_own (ownsRow_base ho1 (Nat.zero_le _))); have HB1 := Lib.hid hb1; clear ho1 hb1)
        | (go_at_call 31; (with_reducible refine (HSE.out _ _ _ HR1.out).mono ?_); rintro e w5 ⟨A5, c5, cells5, rfl, hc5, ho5, ha5, hb5⟩; (obtain ⟨b5, rfl⟩ := ownsRow_addr ho5 (by omega)); have k5 := HH.out.blk.keep (bl_chain HB1.out hb5); have y0 := k5.cell 0; have y1 := k5.cell 1; have z0 := k5.frozen 0; have z1 := k5.frozen 1; simp at y0 y1; have HO5 := Lib.hid ho5; have HA5 := Lib.hid ha5; have HB5 := Lib.hid hb5; clear ho5 ha5 hb5 k5))
      go_ret
      exact ref_flush HH.out HB1.out HO5.out HA5.out HB5.out
end
end Go.Proofs.Ytadoclcabkcmeaa
