/- Contracts of the reference's disk: Crash, Do. -/
import Derived.Test.YtadoclcabkcmeaaRef5
namespace Go.Proofs.Ytadoclcabkcmeaa
set_option linter.unusedVariables false
open Go.RowKit

theorem crashG_zero (a : Nat) (d s : List Int) : ∀ k, crashG 0 a d k s = s
  | 0 => rfl
  | k + 1 => by
    rw [crashG_no (by unfold keptBit; simp), crashG_zero a d s k]
/-- Which sectors of a group are kept. -/
def keptAt (kept : List Int) (i : Nat) : Int := kept[i]?.getD 0
theorem crashL_step {kept : List Int} {gs : List (Nat × List Int)} {s : List Int} {i : Nat} (h1 : i < gs.length) : crashL kept gs (i + 1) s = crashG (keptAt kept i) gs[i].1 gs[i].2 (gs[i].2.length / 256) (crashL kept gs i s) := by
  by_cases h : i < kept.length
  · rw [crashL_at h1 h]
    unfold keptAt
    rw [List.getElem?_eq_getElem h]
    rfl
  · rw [crashL_past (by omega)]
    unfold keptAt
    rw [List.getElem?_eq_none (by omega)]
    exact (crashG_zero _ _ _ _).symm
/-- In the loops of Crash. -/
structure CrIn (w W : World) (R : Nat → Prop) (n : Nat) (X : List Int) (bs c : Nat) (cells : List Value) : Prop where
  t : Tr (fun b => b = bs) w W
  row : W.ownsRow 0 29 1 (.slice (some ⟨bs, 0, none⟩) n c) n cells
  at_ : StsAt W R 256 (chunks n X) cells
theorem CrIn.drew {w W : World} {R : Nat → Prop} {n : Nat} {X : List Int} {b c : Nat} {cells : List Value} (h : CrIn w W R n X b c cells) : CrIn w W.drew R n X b c cells :=
  have hb : Below W.heap.size W W.drew := ⟨rfl, rfl, rfl, Nat.le_refl _, fun _ _ => rfl⟩
  ⟨h.t.then_below hb, own_below (B := 0) h.row hb, h.at_.below hb⟩
theorem CrIn.store {w W : World} {R : Nat → Prop} {n : Nat} {X d : List Int} {b c a q k sb sc : Nat} {x : Int} {cells : List Value} (h : CrIn w W R n (crashG x a d k X) b c cells) (hR : ∀ x, R x → x ≠ b) (hd : d.length = 256 * q) (hX : X.length = 256 * n) (hf : a + q ≤ n) (hk : k < q) (hbit : keptBit x k = true) (hB : isB (sect k d)) (hc : 256 ≤ sc) (hm : sc ≤ maxLen) (hr : Rd W (some ⟨sb, 0, none⟩) (by8 (sect k d))) (hs : R sb) :
    CrIn w (W.setCell ⟨b, a + k, none⟩ (.slice (some ⟨sb, 0, none⟩) 256 sc)) R n (crashG x a d (k + 1) X) b c (cells.set (a + k) (.slice (some ⟨sb, 0, none⟩) 256 sc)) := by
  obtain ⟨s1, s2⟩ := own_stored h.row (a + k) (.slice (some ⟨sb, 0, none⟩) 256 sc)
  have hno : ∀ x, R x → ¬ Blo (some ⟨b, 0, none⟩) x := fun x hx hb => by
    have h2 := (Blo.some_iff _ _).1 hb
    simp at h2
    exact hR x hx h2.symm
  refine ⟨h.t.trans s2 (fun y _ hy => by have h2 := (Blo.some_iff _ _).1 hy; simp at h2; omega), s1, ?_⟩
  rw [crashG_yes hbit]
  have e : chunks n (splice (crashG x a d k X) (256 * (a + k)) ((d.drop (256 * k)).take 256)) = (chunks n (crashG x a d k X)).set (a + k) (sect k d) :=
    (chunks_set (crashG_length hX (by omega) (by omega)) (sect_length (by omega)) (by omega)).symm
  rw [e]
  exact (h.at_.set (sect_length (by omega)) hB hc hm hr hs (a + k)).tr s2 hno (fun _ x => x)

section
variable {g : Nat} {D : DS} {M R : Nat → Prop} {w : World}
/-- Behind Crash: nothing is answered. -/
def RetC (w : World) (g : Nat) (M R : Nat → Prop) (D : DS) (e : Ending) (w' : World) : Prop :=
  e = .returned (.tuple #[]) ∧ ∃ M' R', IsRef w' g D M' R' ∧ (∀ b, M' b → M b ∨ w.heap.size ≤ b) ∧ (∀ b, R' b → R b ∨ w.heap.size ≤ b) ∧ Tr M w w'
theorem rcrash_end {W : World} {bs cs : Nat} {cells cells2 : List Value} {Al : Option Addr} {cl : Nat} {lcells : List Value} {kept : List Int} (h : RAt w g D M R bs cs cells Al cl lcells) (hc : CrIn w W R D.n (crashL kept D.gs D.gs.length D.safe) bs cs cells2) :
    RetC w g M R (crashD D kept) (.returned (.tuple #[])) (((W.setCell ⟨g, 1, none⟩ (.slice none 0 0)).setCell ⟨g, 2, none⟩ (.bool false)).setCell ⟨g, 3, none⟩ (.bool false)) := by
  have bsg : bs ≠ g := fun e => own_blk h.safe h.blk (by decide) (by rw [e]; rfl)
  have hz := hc.t.size
  have tg : Tr (fun b => b = g) W (((W.setCell ⟨g, 1, none⟩ (.slice none 0 0)).setCell ⟨g, 2, none⟩ (.bool false)).setCell ⟨g, 3, none⟩ (.bool false)) :=
    (((Tr.refl (fun b => b = g) W).setCell (p := ⟨g, 1, none⟩) (fun _ => rfl) _).setCell (p := ⟨g, 2, none⟩) (fun _ => rfl) _).setCell (p := ⟨g, 3, none⟩) (fun _ => rfl) _
  have hbk := (((h.blk.far_tr hc.t (fun e => bsg e.symm)).set_ 1 (.slice none 0 0)).set_ 2 (.bool false)).set_ 3 (.bool false)
  simp at hbk
  have hRg : ∀ b, R b → b ≠ g := fun b hb e => h.rm b hb (e ▸ h.mg)
  refine ⟨rfl, M, R, ref_fresh (s := crashL kept D.gs D.gs.length D.safe) (n := D.n) (crashL_length h.ok kept (Nat.le_refl _)) h.ok.pos h.ok.most (crashL_isB h.ok kept (Nat.le_refl _)) hbk (own_tr hc.row tg (fun b hb e => ?_)) (hc.at_.tr tg hRg (fun _ x => x)) h.mg h.ms h.rm ?_ ?_, fun b x => .inl x, fun b x => .inl x, (hc.t.mono (G := M) (fun b _ e => e ▸ h.ms)).trans tg (fun b _ e => e ▸ h.mg)⟩
  · have := (Blo.some_iff _ _).1 hb; simp at this; omega
  · intro b hb; have := h.mlt b hb; simp [World.setCell]; omega
  · intro b hb; have := h.rlt b hb; simp [World.setCell]; omega

set_option maxHeartbeats 1600000 in
set_option maxRecDepth 20000 in
theorem rcrash_any (A : Option Addr) (c : Nat) (kept : List Int) (hd : IsRef w g D M R) (hr : Rd w A (byI kept)) (hl : kept.length ≤ 140737488351232) (hA : kept ≠ [] → ∀ b, Blo A b → ¬ M b) :
    Calls Try.prog 34 #[.pointer (some ⟨g, 0, none⟩), .slice A kept.length c] w (RetC w g M R (crashD D kept)) := by
  obtain ⟨bs, cs, cells, Al, cl, lcells, h⟩ := hd
  have HH := Lib.hid h
  have HR := Lib.hid hr
  have HA := Lib.hid hA
  have hmost := h.ok.most
  have hpos := h.ok.pos
  have hfew := h.few
  clear h hr hA
  go_enter Try.func34, Try.ntmps34
  go_wp2_with fail
  go_loopw [4] (fun v w2 => ∃ (i : Nat) (cells2 : List Value), i ≤ D.gs.length ∧ v = .int .i64 i ∧ CrIn w w2 R D.n (crashL kept D.gs i D.safe) bs cs cells2) (fun v _ => D.gs.length - (intOf v).toNat)
  case atStart => exact ⟨0, cells, by omega, rfl, ⟨Tr.refl _ _, HH.out.safe, HH.out.sat⟩⟩
  case round =>
    obtain ⟨i, cells2, hi, rfl, hs⟩ := hrel
    have HS := Lib.hid hs
    clear hs
    have bsg : bs ≠ g := fun e => own_blk HH.out.safe HH.out.blk (by decide) (by rw [e]; rfl)
    have hRb : Hid (∀ x, R x → x ≠ bs) := Lib.hid fun x hx e => HH.out.rm x hx (e ▸ HH.out.ms)
    have KB : Hid (∀ W, Tr (fun b => b = bs) w W → Blk W g 47 #[.slice (some ⟨bs, 0, none⟩) D.n cs, .slice Al D.gs.length cl, .bool D.failing, .bool D.dead]) := Lib.hid fun W hW => HH.out.blk.far_tr hW (fun e => bsg e.symm)
    have k1 := (KB.out wr HS.out.t).cell 1
    simp at k1
    by_cases hlt : i < D.gs.length
    · obtain ⟨gb, q, qc, gcells, hg0, hg1, hgl, hgr, hgs, hgR⟩ := HH.out.gat.get i hlt
      obtain ⟨ab, hAl⟩ := ownsRow_addr HH.out.row (show 0 < D.gs.length by omega)
      have hll := HH.out.gat.length
      have habm : M ab := HH.out.ml ab (by rw [hAl]; rfl)
      have hablt : ab < w.heap.size := HH.out.mlt ab habm
      have habs : ab ≠ bs := fun e => own_two_ne HH.out.row HH.out.safe (by decide) (b := ab) (by rw [hAl]; rfl) (by rw [e]; rfl)
      have hrow := HH.out.row
      rw [hAl] at hrow
      obtain ⟨hgB, q', hq1, hq2, hq3⟩ := HH.out.ok.gs _ (List.getElem_mem hlt)
      have hqq : q' = q := by omega
      subst hqq
      have HST := Lib.hid (crashL_step (kept := kept) (s := D.safe) hlt)
      have HXL := Lib.hid (crashL_length HH.out.ok kept (show i ≤ D.gs.length by omega))
      generalize D.gs[i] = y at hg0 hgl hgs hgB hq2 hq3 HST
      obtain ⟨a, d⟩ := y
      have hfit : a + q' ≤ D.n := hq3
      have hdl : d.length = 256 * q' := hgl
      have KA : Hid (∀ W, Tr (fun b => b = bs) w W → W.cell? ⟨ab, i * 2, none⟩ = some (.int .i64 (a : Nat)) ∧ W.cell? ⟨ab, i * 2 + 1, none⟩ = some (.slice (some ⟨gb, 0, none⟩) q' qc)) := Lib.hid fun W hW => by
        refine ⟨?_, ?_⟩
        · rw [hW.cell hablt habs, hrow.cellAt (i * 2) (by omega), Nat.mul_comm]; exact hg0
        · rw [hW.cell hablt habs, hrow.cellAt (i * 2 + 1) (by omega), Nat.mul_comm]; exact hg1
      have HST2 : Hid (crashL kept D.gs (i + 1) D.safe = crashG (keptAt kept i) a d q' (crashL kept D.gs i D.safe)) := Lib.hid (by
        have := HST.out
        rw [show d.length / 256 = q' by omega] at this
        exact this)
      rw [hAl] at k1
      have KC : Hid (∀ W, Tr (fun b => b = bs) w W → Blk W g 47 #[.slice (some ⟨bs, 0, none⟩) D.n cs, .slice (some ⟨ab, 0, none⟩) D.gs.length cl, .bool D.failing, .bool D.dead]) := Lib.hid fun W hW => by rw [← hAl]; exact KB.out W hW
      have HGR := Lib.hid hgr
      have HGS := Lib.hid hgs
      have HDL := Lib.hid hdl
      have HGB := Lib.hid (show isB d from hgB)
      have HGRx := Lib.hid (hRb.out gb hgR)
      clear hg0 hg1 hgl hgr hgs hgR hAl hll habm hrow hq2 hq3 hgB HST hdl KB
      generalize crashL kept D.gs i D.safe = X at HS HXL HST2
      have HC0 := Lib.hid (show CrIn w wr R D.n (crashG (keptAt kept i) a d 0 X) bs cs cells2 from HS.out)
      have hcase : (i < kept.length) ∨ (¬ i < kept.length) := by omega
      obtain ⟨x, hx⟩ : ∃ x, x = keptAt kept i := ⟨_, rfl⟩
      rw [← hx] at HC0 HST2
      have HX := Lib.hid hx
      clear hx
      obtain ⟨k2, k3⟩ := KA.out wr HS.out.t
      rcases hcase with hin | hin
      · have hx2 : kept[i] = x := by have := HX.out; unfold keptAt at this; rw [List.getElem?_eq_getElem hin] at this; exact this.symm
        obtain ⟨ad, rfl, _, hcell⟩ := (HR.out.tr HS.out.t (fun ad e => by
          subst e
          intro hb
          exact HA.out (fun hk => by rw [hk] at hin; cases hin) _ ((Blo.some_iff _ _).2 hb) HH.out.ms)).at_ (k := i) (by rw [byI_length]; exact hin)
        have hkc : wr.cell? (ad.add i) = some (.int .i64 x) := by rw [hcell]; simp [byI, hx2]
        clear hcell hx2
        go_wp2_with fail
        clear k1 k2 k3 hkc
        obtain ⟨wo, rfl⟩ : ∃ wo : World, wo = wr := ⟨_, rfl⟩
        go_loopw [6] (fun v w2 => ∃ (k : Nat) (cells3 : List Value), k ≤ q' ∧ v = .int .i64 k ∧ CrIn w w2 R D.n (crashG x a d k X) bs cs cells3) (fun v _ => q' - (intOf v).toNat)
        case atStart => exact ⟨0, cells2, by omega, rfl, HC0.out⟩
        case round =>
          obtain ⟨k, cells3, hk, rfl, hs3⟩ := hrel
          have HS3 := Lib.hid hs3
          clear hs3
          obtain ⟨x0, x1⟩ := KA.out wr HS3.out.t
          have y0 := (KC.out wr HS3.out.t).cell 0
          have y1 := (KC.out wr HS3.out.t).cell 1
          simp at y0 y1
          by_cases hgo : k < q'
          · have hbk := bit_kept x k
            cases hbit : keptBit x k with
            | true =>
              rw [hbit] at hbk
              obtain ⟨sb, sc, hsc, hsl, hsB, hs1, hs2, hsr, hsR⟩ := (HGS.out.tr HS3.out.t hRb.out (fun _ x => x)).get k (by rw [chunks_length]; exact hgo)
              have hsec : (chunks q' d)[k]'(by rw [chunks_length]; exact hgo) = sect k d := (List.getElem?_eq_some_iff.1 (chunks_get hgo)).2
              rw [hsec] at hsB hsr
              have x2 : wr.cell? ⟨gb, k, none⟩ = some (.slice (some ⟨sb, 0, none⟩) 256 sc) := by
                obtain ⟨ad, e, hc⟩ := (HGR.out.tr HS3.out.t (fun ad e => by injection e with e; subst e; exact HGRx.out)) k _ hsc
                injection e with e
                subst e
                rw [add_lit, Nat.zero_add] at hc
                exact hc
              obtain ⟨v0, hc⟩ : ∃ v0, wr.cell? ⟨bs, a + k, none⟩ = some v0 := ⟨_, by
                rw [HS3.out.row.cellAt (a + k) (by omega)]; exact List.getElem?_eq_getElem (by rw [HS3.out.at_.length, chunks_length]; omega)⟩
              have hf : wr.frozen? ⟨bs, a + k, none⟩ = false := HS3.out.row.frozenAt (a + k)
              have HN4 := Lib.hid (HS3.out.store hRb.out HDL.out HXL.out hfit hgo hbit hsB hs1 hs2 hsr hsR)
              have q1 : IntKind.i64.wrap ((a : Int) + (k : Int)) = (a : Int) + (k : Int) := IntWalk.i64_in _ (by omega)
              have q2 : ((a : Int) + (k : Int)).toNat = a + k := by omega
              clear hsc hsl hsB hsr hsR hsec hbit
              go_wp2_with fail
              go_region
              go_wp2_with fail
              go_roundw
              case rel => exact ⟨k + 1, _, by omega, by go_num, HN4.out.drew⟩
              case measure => simp [intOf]; omega
            | false =>
              rw [hbit] at hbk
              have HBT := Lib.hid hbit
              clear hbit
              go_wp2_with fail
              go_roundw
              case rel =>
                refine ⟨k + 1, cells3, by omega, by go_num, ?_⟩
                rw [crashG_no HBT.out]
                exact HS3.out
              case measure => simp [intOf]; omega
          · have hkq : k = q' := by omega
            subst hkq
            go_wp2_with fail
            go_roundw
            case rel => exact ⟨i + 1, cells3, by omega, by go_num, by rw [HST2.out]; exact HS3.out⟩
            case measure => simp [intOf]; omega
      · have hx0 : x = 0 := by have := HX.out; unfold keptAt at this; rw [List.getElem?_eq_none (by omega)] at this; exact this
        have hst := HST2.out
        rw [hx0, crashG_zero] at hst
        have HST3 := Lib.hid hst
        clear hst hx0
        go_wp2_with fail
        clear k1 k2 k3
        obtain ⟨wo, rfl⟩ : ∃ wo : World, wo = wr := ⟨_, rfl⟩
        go_loopw [6] (fun v w2 => ∃ (k : Nat), k ≤ q' ∧ v = .int .i64 k ∧ CrIn w w2 R D.n X bs cs cells2) (fun v _ => q' - (intOf v).toNat)
        case atStart => exact ⟨0, by omega, rfl, HS.out⟩
        case round =>
          obtain ⟨k, hk, rfl, hs3⟩ := hrel
          have HS3 := Lib.hid hs3
          clear hs3
          obtain ⟨x0, x1⟩ := KA.out wr HS3.out.t
          have y0 := (KC.out wr HS3.out.t).cell 0
          have y1 := (KC.out wr HS3.out.t).cell 1
          simp at y0 y1
          by_cases hgo : k < q'
          · have hbk : (bits .and .i64 0 1 == 1) = false := by decide +kernel
            go_wp2_with fail
            go_roundw
            case rel => exact ⟨k + 1, by omega, by go_num, HS3.out⟩
            case measure => simp [intOf]; omega
          · go_wp2_with fail
            go_roundw
            case rel => exact ⟨i + 1, cells2, by omega, by go_num, by rw [HST3.out]; exact HS3.out⟩
            case measure => simp [intOf]; omega
    · have hin : i = D.gs.length := by omega
      have hs := HS.out
      rw [hin] at hs
      have HS5 := Lib.hid hs
      clear hs hin
      have k2 := (KB.out wr HS5.out.t).cell 2
      have k3 := (KB.out wr HS5.out.t).cell 3
      have f1 := (KB.out wr HS5.out.t).frozen 1
      have f2 := (KB.out wr HS5.out.t).frozen 2
      have f3 := (KB.out wr HS5.out.t).frozen 3
      simp at k2 k3
      go_wp2_with fail
      go_end0
      exact rcrash_end HH.out HS5.out

theorem crash_agree (w' : World) {kept : List Int} (h : RetC w g M R (crashD D kept) (.returned (.tuple #[])) w') : RetR w g M R (crashD D kept) 0 (.returned (.int .i64 0)) w' := ⟨rfl, h.2⟩
theorem RetR.from_ {w1 w' : World} {D' : DS} {err : Int} {e : Ending} (hb : Below w.heap.size w w1) (h : RetR w1 g M R D' err e w') : RetR w g M R D' err e w' := by
  obtain ⟨he, M', R', h1, h2, h3, h4⟩ := h
  have := hb.size
  exact ⟨he, M', R', h1, fun b x => (h2 b x).imp id (fun q => by omega), fun b x => (h3 b x).imp id (fun q => by omega), (Tr.of_below hb).trans h4 (fun _ _ q => q)⟩
set_option maxHeartbeats 1600000 in
theorem rdo_any (A B : Option Addr) (c c' : Nat) (o : OpS) (hd : IsRef w g D M R) (ho : o.Ok) (hA : Rd w A (by8 o.b)) (hB : Rd w B (byI o.l)) (hBM : o.l ≠ [] → ∀ b, Blo B b → ¬ M b) (hfew : D.gs.length < 1000000) :
    Calls Try.prog 19 #[.pointer (some ⟨g, 0, none⟩), .agg #[.int .i64 o.kind, .int .i64 o.n, .slice A o.b.length c, .slice B o.l.length c']] w (RetR w g M R (doD D o) (doE D o)) := by
  have HD := Lib.hid hd
  have HO := Lib.hid ho
  have HA := Lib.hid hA
  have HB := Lib.hid hB
  have HBM := Lib.hid hBM
  have hk := ho.kind
  have hn := ho.n
  have hlb := ho.lb
  clear ho hA hB hBM
  have BA : ∀ cs : Array Value, Hid (Below w.heap.size w (w.alloc (.cells cs 31))) := fun cs => Lib.hid (bl_alloc _ _)
  have BA := Lib.hid BA
  by_cases h01 : o.kind = 0 ∨ o.kind = 1
  · have e1 : doD D o = writeD D o.n o.b := if_pos h01
    have e2 : doE D o = writeE D o.n o.b := if_pos h01
    rw [e1, e2]
    clear e1 e2
    clear hd
    have hcases : ((o.kind == 0) = true) ∨ ((o.kind == 0) = false ∧ (o.kind == 1) = true) := by
      rcases h01 with h | h
      · left; simp [h]
      · right; simp [h]
    clear h01
    rcases hcases with hq0 | ⟨hq0, hq1⟩
    all_goals
      go_enter Try.func19, Try.ntmps19
      go_wp2_with (first
        | (go_at_call 32; (with_reducible refine (rwrite_any A c o.b o.n (HD.out.below (BA.out _).out) (HA.out.below (BA.out _).out) HO.out.b hlb hfew hn).mono ?_); rintro e w1 hw1; have HW1 := Lib.hid hw1; obtain ⟨he1, hw1⟩ := hw1; subst he1; clear hw1))
      go_ret
      exact RetR.from_ (BA.out _).out HW1.out
  · have e1 : doD D o = if o.kind = 2 then flushD D else if o.kind = 3 then failD D else if o.kind = 4 then crashD D o.l else D := if_neg h01
    have e2 : doE D o = if o.kind = 2 then flushE D else 0 := if_neg h01
    rw [e1, e2]
    clear e1 e2
    have hq0 : (o.kind == 0) = false := by simp; omega
    have hq1 : (o.kind == 1) = false := by simp; omega
    by_cases h2 : o.kind = 2
    · rw [if_pos h2, if_pos h2]
      have hq2 : (o.kind == 2) = true := by simp [h2]
      clear h2 hd h01
      go_enter Try.func19, Try.ntmps19
      go_wp2_with (first
        | (go_at_call 33; (with_reducible refine (rflush_any (HD.out.below (BA.out _).out)).mono ?_); rintro e w1 hw1; have HW1 := Lib.hid hw1; obtain ⟨he1, hw1⟩ := hw1; subst he1; clear hw1))
      go_ret
      exact RetR.from_ (BA.out _).out HW1.out
    · rw [if_neg h2, if_neg h2]
      have hq2 : (o.kind == 2) = false := by simp; omega
      by_cases h3 : o.kind = 3
      · rw [if_pos h3]
        have hq3 : (o.kind == 3) = true := by simp [h3]
        obtain ⟨bs, cs, cells, Al, cl, lcells, h⟩ := hd
        have HH := Lib.hid (h.below (BA.out #[.int .i64 o.kind, .int .i64 o.n, .slice A o.b.length c, .slice B o.l.length c']).out)
        have c2 := HH.out.blk.cell 2
        have f2 := HH.out.blk.frozen 2
        simp at c2
        clear h3 h2 h h01
        go_enter Try.func19, Try.ntmps19
        go_wp2_with fail
        go_ret
        exact RetR.from_ (BA.out _).out (rfail_store HH.out 2 (.bool true) true D.dead 0 rfl)
      · rw [if_neg h3]
        have hq3 : (o.kind == 3) = false := by simp; omega
        by_cases h4 : o.kind = 4
        · rw [if_pos h4]
          have hq4 : (o.kind == 4) = true := by simp [h4]
          clear h4 h3 h2 hd h01
          go_enter Try.func19, Try.ntmps19
          go_wp2_with (first
            | (go_at_call 34; (with_reducible refine (rcrash_any B c' o.l (HD.out.below (BA.out _).out) (HB.out.below (BA.out _).out) HO.out.ll HBM.out).mono ?_); rintro e w1 hw1; have HW1 := Lib.hid hw1; obtain ⟨he1, hw1⟩ := hw1; subst he1; clear hw1))
          go_ret
          exact RetR.from_ (BA.out _).out (crash_agree _ HW1.out)
        · rw [if_neg h4]
          have hq4 : (o.kind == 4) = false := by simp; omega
          clear h4 h3 h2 hd h01
          go_enter Try.func19, Try.ntmps19
          go_wp2_with fail
          go_ret
          exact RetR.same HD.out (BA.out _).out
end
end Go.Proofs.Ytadoclcabkcmeaa
