/- Contracts of the reference's disk: Now, Read. -/
import Derived.Test.YtadoclcabkcmeaaRef1
namespace Go.Proofs.Ytadoclcabkcmeaa
set_option linter.unusedVariables false
open Go.RowKit

theorem own_capM {w : World} {base : Nat} {e : TypeId} {size n c : Nat} {A : Option Addr} {xs : List Value} (h : w.ownsRow base e size (.slice A n c) n xs) : c ≤ maxLen := by
  obtain ⟨A', c', hv, _, _, hm⟩ := ownsRow_slice h
  injection hv with _ _ hv
  omega
theorem over_length {D : DS} (ho : D.Ok) : ∀ i, i ≤ D.gs.length → (overD (D.gs.take i) D.safe).length = 256 * D.n
  | 0, _ => ho.len
  | i + 1, h => by
    rw [List.take_succ_eq_append_getElem (by omega), overD_snoc]
    obtain ⟨_, q, h1, h2, h3⟩ := ho.gs _ (List.getElem_mem (show i < D.gs.length by omega))
    rw [length_splice _ _ _ (by rw [over_length ho i (by omega)]; omega), over_length ho i (by omega)]
theorem over_isB {D : DS} (ho : D.Ok) : ∀ i, i ≤ D.gs.length → isB (overD (D.gs.take i) D.safe)
  | 0, _ => ho.bs
  | i + 1, h => by
    rw [List.take_succ_eq_append_getElem (by omega), overD_snoc]
    exact splice_isB (over_isB ho i (by omega)) (ho.gs _ (List.getElem_mem (show i < D.gs.length by omega))).1
/-- The first k sectors of a group are laid. -/
def partG (X : List Int) (a : Nat) (d : List Int) (k : Nat) : List Int := splice X (256 * a) (d.take (256 * k))
theorem partG_zero (X : List Int) (a : Nat) (d : List Int) : partG X a d 0 = X := by unfold partG splice; simp
theorem partG_all {X d : List Int} {a q : Nat} (h : d.length = 256 * q) : partG X a d q = splice X (256 * a) d := by unfold partG; rw [List.take_of_length_le (by omega)]
theorem partG_length {X d : List Int} {a q k n : Nat} (h : d.length = 256 * q) (hX : X.length = 256 * n) (hf : a + q ≤ n) (hk : k ≤ q) : (partG X a d k).length = 256 * n := by
  unfold partG
  rw [length_splice _ _ _ (by rw [List.length_take]; omega), hX]
theorem partG_set {X d : List Int} {a q k n : Nat} (h : d.length = 256 * q) (hX : X.length = 256 * n) (hf : a + q ≤ n) (hk : k < q) : (chunks n (partG X a d k)).set (a + k) (sect k d) = chunks n (partG X a d (k + 1)) := by
  rw [chunks_set (partG_length h hX hf (by omega)) (sect_length (by omega)) (by omega)]
  congr 1
  unfold partG sect
  have e := splice_step (s := X) (d := d) (o := 256 * a) (m := 256 * k) (k := 256) (t := 256 * (k + 1)) (by omega) (by omega) (by omega)
  rw [show 256 * (a + k) = 256 * a + 256 * k from by omega]
  exact e
structure NowIn (w W : World) (R : Nat → Prop) (n : Nat) (X : List Int) (b c : Nat) (cells : List Value) : Prop where
  bl : Below w.heap.size w W
  row : W.ownsRow w.heap.size 29 1 (.slice (some ⟨b, 0, none⟩) n c) n cells
  at_ : StsAt W R 256 (chunks n X) cells
theorem NowIn.store {w W : World} {R : Nat → Prop} {n : Nat} {X d : List Int} {b c a q k sb sc : Nat} {cells : List Value} (h : NowIn w W R n (partG X a d k) b c cells) (hR : ∀ b, R b → b < w.heap.size) (hd : d.length = 256 * q) (hX : X.length = 256 * n) (hf : a + q ≤ n) (hk : k < q) (hB : isB (sect k d)) (hc : 256 ≤ sc) (hm : sc ≤ maxLen) (hr : Rd W (some ⟨sb, 0, none⟩) (by8 (sect k d))) (hs : R sb) :
    NowIn w (W.setCell ⟨b, a + k, none⟩ (.slice (some ⟨sb, 0, none⟩) 256 sc)) R n (partG X a d (k + 1)) b c (cells.set (a + k) (.slice (some ⟨sb, 0, none⟩) 256 sc)) := by
  obtain ⟨s1, s2⟩ := own_stored h.row (a + k) (.slice (some ⟨sb, 0, none⟩) 256 sc)
  have hbg := own_ge h.row b rfl
  have hno : ∀ x, R x → ¬ Blo (some ⟨b, 0, none⟩) x := fun x hx hb => by
    have h1 := hR x hx
    have h2 := (Blo.some_iff _ _).1 hb
    simp at h2
    omega
  refine ⟨bl_tr h.bl s2 (fun x hx => by have hx2 := (Blo.some_iff _ _).1 hx; simp at hx2; omega), s1, ?_⟩
  rw [← partG_set hd hX hf hk]
  exact (h.at_.set (sect_length (by omega)) hB hc hm hr hs (a + k)).tr s2 hno (fun _ x => x)
theorem NowIn.drew {w W : World} {R : Nat → Prop} {n : Nat} {X : List Int} {b c : Nat} {cells : List Value} (h : NowIn w W R n X b c cells) : NowIn w W.drew R n X b c cells :=
  have hb : Below W.heap.size W W.drew := ⟨rfl, rfl, rfl, Nat.le_refl _, fun _ _ => rfl⟩
  ⟨bl_chain h.bl hb, own_below (B := 0) h.row hb, h.at_.below hb⟩

section
variable {g : Nat} {D : DS} {M R : Nat → Prop} {w : World}
set_option maxHeartbeats 1600000 in
set_option maxRecDepth 20000 in
theorem rnow_any (hd : IsRef w g D M R) : Calls Try.prog 37 #[.pointer (some ⟨g, 0, none⟩)] w (RetJ w D.now (256 * D.n)) := by
  obtain ⟨bs, cs, cells, Al, cl, lcells, h⟩ := hd
  have c0 := h.blk.cell 0
  simp at c0
  have HH := Lib.hid h
  have hmost := h.ok.most
  have hpos := h.ok.pos
  have hfew := h.few
  have HLC := Lib.hid h.sat.length
  clear h
  go_enter Try.func37, Try.ntmps37
  go_wp2_with (first
    | (at_builtin; refine wpL_append ESs rfl rfl (ownsRow_emp _ w.heap.size _ _) rfl (Rd.of_own HH.out.safe) rfl (by rw [HLC.out, chunks_length, Nat.mul_one]) HH.out.sat.one D.n cells (by simp) rfl (by simp only [maxLen]; omega) (by omega) (Nat.le_refl _) ?_; intro A1 c1 w1 hc1 ho1 ht1 hn1; have HO1 := Lib.hid ho1; have HT1 := Lib.hid ht1; clear ho1 ht1 hn1))
  have hb1 : Below w.heap.size w w1 := HT1.out.below (fun b _ => Blo.none b)
  obtain ⟨b1, rfl⟩ := ownsRow_addr HO1.out hpos
  have HN := Lib.hid (show NowIn w w1 R D.n (overD (D.gs.take 0) D.safe) b1 c1 cells from ⟨hb1, HO1.out, HH.out.sat.below hb1⟩)
  clear hb1 HO1 HT1 c0
  go_loopw [4] (fun v w2 => ∃ (i : Nat) (cells2 : List Value), i ≤ D.gs.length ∧ v = .int .i64 i ∧ NowIn w w2 R D.n (overD (D.gs.take i) D.safe) b1 c1 cells2) (fun v _ => D.gs.length - (intOf v).toNat)
  case atStart => exact ⟨0, cells, by omega, rfl, HN.out⟩
  case round =>
    obtain ⟨i, cells2, hi, rfl, hs⟩ := hrel
    have HS := Lib.hid hs
    clear hs HN
    have c1' := (HH.out.below HS.out.bl).blk.cell 1
    simp at c1'
    by_cases hlt : i < D.gs.length
    · obtain ⟨gb, q, qc, gcells, hg0, hg1, hgl, hgr, hgs, hgR⟩ := HH.out.gat.get i hlt
      obtain ⟨ab, hAl⟩ := ownsRow_addr HH.out.row (show 0 < D.gs.length by omega)
      have hll := HH.out.gat.length
      have x0 : wr.cell? ⟨ab, i * 2, none⟩ = some (.int .i64 D.gs[i].1) := by
        have hrow := (HH.out.below HS.out.bl).row
        rw [hAl] at hrow
        rw [hrow.cellAt (i * 2) (by omega), Nat.mul_comm]; exact hg0
      have x1 : wr.cell? ⟨ab, i * 2 + 1, none⟩ = some (.slice (some ⟨gb, 0, none⟩) q qc) := by
        have hrow := (HH.out.below HS.out.bl).row
        rw [hAl] at hrow
        rw [hrow.cellAt (i * 2 + 1) (by omega), Nat.mul_comm]; exact hg1
      rw [hAl] at c1'
      obtain ⟨hgB, q', hq1, hq2, hq3⟩ := HH.out.ok.gs _ (List.getElem_mem hlt)
      have hqq : q' = q := by omega
      subst hqq
      have HOX := Lib.hid (show overD (D.gs.take (i + 1)) D.safe = splice (overD (D.gs.take i) D.safe) (256 * D.gs[i].1) D.gs[i].2 by rw [List.take_succ_eq_append_getElem hlt, overD_snoc])
      have HXL := Lib.hid (over_length HH.out.ok i hi)
      generalize D.gs[i] = y at x0 x1 hgl hgs hgB hq2 hq3 HOX
      obtain ⟨a, d⟩ := y
      have x0' : wr.cell? ⟨ab, i * 2, none⟩ = some (.int .i64 (a : Nat)) := x0
      clear x0
      have HGR := Lib.hid hgr
      have HGS := Lib.hid hgs
      have HGB := Lib.hid hgB
      have HGL := Lib.hid hgl
      have hfit : a + q' ≤ D.n := hq3
      have hs2 := HS.out
      rw [← partG_zero (overD (D.gs.take i) D.safe) a d] at hs2
      have HS2 := Lib.hid hs2
      have HX1 := Lib.hid x1
      have HX0 := Lib.hid x0'
      have HC1 := Lib.hid c1'
      have hablt : ab < w.heap.size := by
        have := own_lt HH.out.row ab (by rw [hAl]; rfl)
        exact this
      have HGRL := Lib.hid (HH.out.rlt gb hgR)
      clear hg0 hg1 hgr hgs hgB hgl hq2 hq3 hs2 hAl hll x1 x0' hgR
      have x1 := HX1.out
      have x0 := HX0.out
      have c1x := HC1.out
      go_wp2_with fail
      obtain ⟨wo, rfl⟩ : ∃ wo : World, wo = wr := ⟨_, rfl⟩
      have KA : Hid (∀ W, Below w.heap.size w W → W.cell? ⟨g, 1, none⟩ = some (.slice (some ⟨ab, 0, none⟩) D.gs.length cl) ∧ W.cell? ⟨ab, i * 2, none⟩ = some (.int .i64 (a : Nat)) ∧ W.cell? ⟨ab, i * 2 + 1, none⟩ = some (.slice (some ⟨gb, 0, none⟩) q' qc)) := Lib.hid fun W hW => by
        have hglt : g < w.heap.size := HH.out.mlt g HH.out.mg
        refine ⟨?_, ?_, ?_⟩
        · rw [hW.cell (p := ⟨g, 1, none⟩) hglt, ← HS.out.bl.cell (p := ⟨g, 1, none⟩) hglt]; exact HC1.out
        · rw [hW.cell (p := ⟨ab, i * 2, none⟩) hablt, ← HS.out.bl.cell (p := ⟨ab, i * 2, none⟩) hablt]; exact HX0.out
        · rw [hW.cell (p := ⟨ab, i * 2 + 1, none⟩) hablt, ← HS.out.bl.cell (p := ⟨ab, i * 2 + 1, none⟩) hablt]; exact HX1.out
      clear x0 x1 c1x HX0 HX1 HC1 c1'
      go_loopw [5] (fun v w2 => ∃ (k : Nat) (cells3 : List Value), k ≤ q' ∧ v = .int .i64 k ∧ NowIn w w2 R D.n (partG (overD (D.gs.take i) D.safe) a d k) b1 c1 cells3) (fun v _ => q' - (intOf v).toNat)
      case atStart => exact ⟨0, cells2, by omega, rfl, HS2.out⟩
      case round =>
        obtain ⟨k, cells3, hk, rfl, hs3⟩ := hrel
        have HS3 := Lib.hid hs3
        clear hs3
        obtain ⟨c1x, x0, x1⟩ := KA.out wr HS3.out.bl
        by_cases hgo : k < q'
        · obtain ⟨sb, sc, hsc, hsl, hsB, hs1, hs2, hsr, hsR⟩ := (HGS.out.below HS3.out.bl).get k (by rw [chunks_length]; exact hgo)
          have hsec : (chunks q' d)[k]'(by rw [chunks_length]; exact hgo) = sect k d := (List.getElem?_eq_some_iff.1 (chunks_get hgo)).2
          rw [hsec] at hsB hsr
          have x2 : wr.cell? ⟨gb, k, none⟩ = some (.slice (some ⟨sb, 0, none⟩) 256 sc) := by
            obtain ⟨ad, e, hc⟩ := (HGR.out.below HS3.out.bl) k _ hsc
            injection e with e
            subst e
            rw [add_lit, Nat.zero_add] at hc
            exact hc
          obtain ⟨v0, hc⟩ : ∃ v0, wr.cell? ⟨b1, a + k, none⟩ = some v0 := ⟨_, by
            rw [HS3.out.row.cellAt (a + k) (by omega)]; exact List.getElem?_eq_getElem (by rw [HS3.out.at_.length, chunks_length]; omega)⟩
          have hf : wr.frozen? ⟨b1, a + k, none⟩ = false := HS3.out.row.frozenAt (a + k)
          have HN4 := Lib.hid (HS3.out.store HH.out.rlt HGL.out HXL.out hfit hgo hsB hs1 hs2 hsr hsR)
          have q1 : IntKind.i64.wrap ((a : Int) + (k : Int)) = (a : Int) + (k : Int) := IntWalk.i64_in _ (by omega)
          have q2 : ((a : Int) + (k : Int)).toNat = a + k := by omega
          clear hsc hsl hsB hsr hsR hsec
          go_wp2_with fail
          go_region
          go_wp2_with fail
          go_roundw
          case rel => exact ⟨k + 1, _, by omega, by go_num, HN4.out.drew⟩
          case measure => simp [intOf]; omega
        · have hkq : k = q' := by omega
          subst hkq
          have hs4 := HS3.out
          rw [partG_all HGL.out, ← HOX.out] at hs4
          have HS4 := Lib.hid hs4
          clear hs4 HS3
          go_wp2_with fail
          go_roundw
          case rel => exact ⟨i + 1, cells3, by omega, by go_num, HS4.out⟩
          case measure => simp [intOf]; omega
    · have hin : i = D.gs.length := by omega
      have hgd := HH.out.good
      have hs := HS.out
      rw [hin, List.take_length, ← hgd] at hs
      have HS5 := Lib.hid hs
      clear hs hin hgd
      go_wp2_with (first
        | (go_at_call 41; (with_reducible refine (joined_any (some ⟨b1, 0, none⟩) D.n c1 _ cells2 R wr (Rd.of_own (ownsRow_base HS5.out.row (Nat.zero_le _))) HS5.out.at_ (chunks_length _ _) hmost).mono ?_); rintro e w5 hw5; have HW5 := Lib.hid hw5; obtain ⟨A5, c5, he5, _⟩ := hw5; subst he5))
      go_ret
      obtain ⟨A2, c2, he, hc, ho, hb⟩ := HW5.out
      rw [chunks_all HH.out.ok.lnow] at ho
      exact ⟨A2, c2, he, hc, ownsRow_base ho HS5.out.bl.size, bl_chain HS5.out.bl hb⟩

/-- Bytes and an error. -/
def RetRd (w : World) (l : List Int) (err : Int) (e : Ending) (w' : World) : Prop := ∃ A c, e = .returned (.tuple #[.slice A l.length c, .int .i64 err]) ∧ Rd w' A (by8 l) ∧ Below w.heap.size w w'
set_option maxHeartbeats 1600000 in
theorem rread_any (at_ n : Int) (hd : IsRef w g D M R) (hbig : -9223372036854775808 ≤ at_ ∧ at_ ≤ 9223372036854775807 ∧ -9223372036854775808 ≤ n ∧ n ≤ 9223372036854775807) :
    Calls Try.prog 35 #[.pointer (some ⟨g, 0, none⟩), .int .i64 at_, .int .i64 n] w (RetRd w (readD D at_ n) (readE D at_ n)) := by
  have HD := Lib.hid hd
  clear hd
  by_cases hw : wrongD D.n at_ n = true
  · have h1 : readD D at_ n = [] := if_pos hw
    have h2 : readE D at_ n = 1 := if_pos hw
    rw [h1, h2]
    clear h1 h2
    go_enter Try.func35, Try.ntmps35
    go_wp2_with (first
      | (go_at_call 40; (with_reducible refine (there_any at_ n HD.out hbig).mono ?_); rintro e w1 ⟨rfl, rfl⟩))
    go_ret2
    exact ⟨none, 0, rfl, Rd.nil, Below.refl _ _⟩
  · have hw' : wrongD D.n at_ n = false := by simpa using hw
    obtain ⟨g1, g2, g3, g4⟩ := wrongD_no hw'
    have h1 : readD D at_ n = (D.now.drop (256 * at_.toNat)).take (256 * n.toNat) := if_neg hw
    have h2 : readE D at_ n = 0 := if_neg hw
    have hl := readD_length HD.out.ok hw'
    rw [h1, h2]
    have HL := Lib.hid hl
    have hmost := HD.out.ok.most
    obtain ⟨a, rfl⟩ := Int.eq_ofNat_of_zero_le g1
    obtain ⟨m, rfl⟩ := Int.eq_ofNat_of_zero_le (show 0 ≤ n by omega)
    clear h1 h2 hl hw
    simp only [Int.toNat_natCast] at HL ⊢
    go_enter Try.func35, Try.ntmps35
    go_wp2_with (first
      | (go_at_call 40; (with_reducible refine (there_any _ _ HD.out hbig).mono ?_); rintro e w1 ⟨rfl, rfl⟩)
      | (go_at_call 37; (with_reducible refine (rnow_any HD.out).mono ?_); rintro e w1 ⟨A1, c1, rfl, hc1, ho1, hb1⟩; have HR1 := Lib.hid (Rd.of_own (ownsRow_base ho1 (Nat.zero_le _))); have HB1 := Lib.hid hb1; obtain ⟨b1, rfl⟩ := ownsRow_addr ho1 (by omega); have hcm := own_capM ho1; clear ho1 hb1; simp only [maxLen] at hcm))
    go_ret2
    refine ⟨some ⟨b1, 256 * a, none⟩, c1 - a * 256, ?_, HR1.out.mid2 (256 * a), HB1.out⟩
    show Ending.returned (.tuple #[Value.slice (some ⟨b1, a * 256, none⟩) ((a + m) * 256 - a * 256) (c1 - a * 256), .int .i64 0]) = _
    rw [HL.out, show (a + m) * 256 - a * 256 = 256 * m from by omega, Nat.mul_comm a 256]
end
end Go.Proofs.Ytadoclcabkcmeaa
