/- The reference's image: Right, Change. -/
import Derived.Test.YtdddbpnllhnfdaaRefX3
namespace Go.Proofs.Ytdddbpnllhnfdaa
set_option linter.unusedVariables false
set_option linter.unusedSimpArgs false
set_option maxRecDepth 100000
open Go.RowKit Go.Shelf

section
variable {w w0 : World} {r q c : Nat} {L : List (List Int)} {M : Nat → Prop}
set_option maxHeartbeats 3200000 in
theorem rright_any (h : IsRef w r L q c M) (A : Option Addr) (k : Nat) (l : List ChS) (hl : l.length ≤ 140737488351232) (hA : ChsAt w0 A l) (hb0 : Below w0.heap.size w0 w) :
    Calls Try.prog 75 #[.pointer (some ⟨r, 0, none⟩), .slice A l.length k] w fun e w' => e = .returned (.bool (chRight L.length l)) ∧ Below w.heap.size w w' := by
  have HH := Lib.hid h
  have HA := Lib.hid (hA.below hb0)
  have h256 := h.ok.hi
  clear h hA
  go_enter Try.func75, Try.ntmps75
  go_wp2_with fail
  go_loopw [5] (fun v w2 => ∃ j : Nat, j ≤ l.length ∧ v = .int .i64 j ∧ chRight L.length (l.take j) = true ∧ Below w.heap.size w w2) (fun v _ => l.length - (RowKit.intOf v).toNat)
  case atStart => exact ⟨0, by omega, rfl, rfl, Below.refl _ _⟩
  case round =>
    obtain ⟨j, hj, rfl, hr, hb⟩ := hrel
    have HR := Lib.hid hr
    have HB := Lib.hid hb
    clear hr hb
    by_cases hlt : j < l.length
    · obtain ⟨hin, b, o, rfl, hc⟩ := HA.out j hlt
      have x0 := (HB.out.cell (cell_block_lt (hc 0 _ rfl))).trans (hc 0 _ rfl)
      have x1 := (HB.out.cell (cell_block_lt (hc 1 _ rfl))).trans (hc 1 _ rfl)
      have HNH := Lib.hid (show ∀ hk : chOk L.length l[j] = false, chRight L.length l = false from fun hk => chRight_no j hlt hk)
      have HYH := Lib.hid (show ∀ hk : chOk L.length l[j] = true, chRight L.length (l.take (j + 1)) = true from fun hk => chRight_take HR.out hlt hk)
      clear hc
      have hlb := hin.lb
      have hln := hin.len
      clear hin
      generalize l[j] = y at HNH HYH x0 x1 hlb hln
      have c0 : wr.cell? ⟨r, 0, none⟩ = some (.slice (some ⟨q, 0, none⟩) L.length c) := (HH.out.below HB.out).blk.cell 0
      simp only [Nat.add_zero] at x0
      rw [← Nat.add_assoc] at x1
      have HQ := Lib.hid (show ∀ a b : Int, ¬ a = b → (a != b) = true from fun a b h => by simpa using h)
      have HQT := Lib.hid (show ∀ a b : Int, a = b → (a != b) = false from fun a b h => by simpa using h)
      have hcs : y.lba < 0 ∨ (0 ≤ y.lba ∧ (L.length : Int) ≤ y.lba) ∨ (0 ≤ y.lba ∧ y.lba < L.length ∧ y.d.length = 0) ∨ (0 ≤ y.lba ∧ y.lba < L.length ∧ y.d.length ≠ 0 ∧ y.d.length = 64) ∨ (0 ≤ y.lba ∧ y.lba < L.length ∧ y.d.length ≠ 0 ∧ y.d.length ≠ 64) := by omega
      rcases hcs with h1 | ⟨h1, h2⟩ | ⟨h1, h2, h3⟩ | ⟨h1, h2, h3, h4⟩ | ⟨h1, h2, h3, h4⟩
      · have HE := Lib.hid (HNH.out (decide_eq_false (by omega)))
        go_wp2_with fail
        go_quiet (fail)
        go_wp2_with fail
        go_ret
        exact ⟨by rw [HE.out]; rfl, bl_chain HB.out (bl_drewN _ _)⟩
      · have HE := Lib.hid (HNH.out (decide_eq_false (by omega)))
        have t1 : decide (y.lba < 0) = false := decide_eq_false (by omega)
        have t2 : decide ((L.length : Int) ≤ y.lba) = true := decide_eq_true (by omega)
        clear h1 h2
        go_wp2_with fail
        go_quiet (fail)
        go_wp2_with fail
        go_ret
        exact ⟨by rw [HE.out]; rfl, bl_chain HB.out (bl_drewN _ _)⟩
      · have HE := Lib.hid (HYH.out (decide_eq_true (by omega)))
        have t1 : decide (y.lba < 0) = false := decide_eq_false (by omega)
        have t2 : decide ((L.length : Int) ≤ y.lba) = false := decide_eq_false (by omega)
        have t3 : ((y.d.length : Int) != 0) = false := HQT.out _ _ (by omega)
        clear h1 h2 h3
        go_wp2_with fail
        go_quiet (fail)
        go_wp2_with fail
        exact ⟨⟨j + 1, by omega, by go_num, HE.out, bl_chain HB.out (bl_drewN _ _)⟩, by simp [RowKit.intOf]; omega⟩
      · have HE := Lib.hid (HYH.out (decide_eq_true (by omega)))
        have t1 : decide (y.lba < 0) = false := decide_eq_false (by omega)
        have t2 : decide ((L.length : Int) ≤ y.lba) = false := decide_eq_false (by omega)
        have t3 : ((y.d.length : Int) != 0) = true := HQ.out _ _ (by omega)
        have t4 : ((y.d.length : Int) != 64) = false := HQT.out _ _ (by omega)
        clear h1 h2 h3 h4
        go_wp2_with fail
        go_quiet (fail)
        go_wp2_with fail
        exact ⟨⟨j + 1, by omega, by go_num, HE.out, bl_chain HB.out (bl_drewN _ _)⟩, by simp [RowKit.intOf]; omega⟩
      · have HE := Lib.hid (HNH.out (decide_eq_false (by omega)))
        have t1 : decide (y.lba < 0) = false := decide_eq_false (by omega)
        have t2 : decide ((L.length : Int) ≤ y.lba) = false := decide_eq_false (by omega)
        have t3 : ((y.d.length : Int) != 0) = true := HQ.out _ _ (by omega)
        have t4 : ((y.d.length : Int) != 64) = true := HQ.out _ _ (by omega)
        clear h1 h2 h3 h4
        go_wp2_with fail
        go_quiet (fail)
        go_wp2_with fail
        go_ret
        exact ⟨by rw [HE.out]; rfl, bl_chain HB.out (bl_drewN _ _)⟩
    · have hall : chRight L.length l = true := by
        have := HR.out
        rwa [List.take_of_length_le (by omega)] at this
      have HALL := Lib.hid hall
      clear hall
      go_wp2_with fail
      go_ret
      exact ⟨by rw [HALL.out]; rfl, HB.out⟩
theorem cell_far {W : World} {p a : Addr} {v : Value} (h : W.cell? p = some v) (hne : p.block ≠ a.block) (u : Value) : (W.setCell a u).cell? p = some v := (World.cell?_of_block (Below.heap_setCell W a u p.block hne)).trans h
set_option maxHeartbeats 3200000 in
theorem rchange_any (h : IsRef w r L q c M) (A : Option Addr) (k : Nat) (l : List ChS) (hl : l.length ≤ 140737488351232) (hA : ChsAt w0 A l) (hb0 : Below w0.heap.size w0 w) (hq0 : w0.heap.size ≤ q) :
    Calls Try.prog 62 #[.pointer (some ⟨r, 0, none⟩), .slice A l.length k] w (RetRS w r (changeL L l) q c M (changeE L.length l)) := by
  have hright := rright_any h A k l hl hA hb0
  have HH := Lib.hid h
  have HA := Lib.hid (show ∀ W, Tr (fun x => x = q) w W → ChsAt W A l from fun W hW => hA.below (hb0.trans (hW.to_below hb0.size (fun x e => by rw [e]; exact hq0))))
  have HA0 := Lib.hid (show ∀ i (h : i < l.length) b o, A = some ⟨b, o, none⟩ → b ≠ q from fun i h b o e => by
    obtain ⟨_, b', o', e', hc⟩ := hA i h
    have := cell_block_lt (hc 0 _ rfl)
    rw [e] at e'
    injection e' with e'
    injection e' with e1
    simp at this
    omega)
  have h256 := h.ok.hi
  clear h hA
  by_cases hr : chRight L.length l = true
  · have HE : Hid (changeL L l = chTo L l ∧ changeE L.length l = 0) := Lib.hid ⟨if_pos hr, if_pos hr⟩
    rw [HE.out.1, HE.out.2]
    rw [hr] at hright
    have HRT := Lib.hid hright
    have HALL := Lib.hid hr
    clear hright hr
    go_enter Try.func62, Try.ntmps62
    go_wp2_with (first
      | (go_at_call 75; (with_reducible refine (HRT.out).mono ?_); rintro e w1 ⟨rfl, hb⟩; have HB1 := Lib.hid hb; clear hb))
    go_loopw [5, 6] (fun v _ w2 => ∃ j : Nat, j ≤ l.length ∧ v = .int .i64 (j : Int) ∧ (∃ M', IsRef w2 r (chTo L (l.take j)) q c M' ∧ ∀ x, M' x → M x ∨ w.heap.size ≤ x) ∧ Tr (fun x => x = q) w w2) (fun v _ _ => l.length - (RowKit.intOf v).toNat)
    case atStart => exact ⟨0, by omega, rfl, ⟨M, HH.out.below HB1.out, fun x h => .inl h⟩, Tr.of_below HB1.out⟩
    case round =>
      obtain ⟨j, hj, rfl, ⟨M', ho, hM⟩, ht⟩ := hrel
      by_cases hlt : j < l.length
      · obtain ⟨hin, b, o, rfl, hc⟩ := HA.out wr ht j hlt
        have hbq := HA0.out j hlt b o rfl
        have x0 := hc 0 _ rfl
        have x1 := hc 1 _ rfl
        have hok := of_decide_eq_true (chRight_at HALL.out j hlt)
        have HS := Lib.hid (chTo_snoc L l j hlt)
        clear hc
        have hlb := hin.lb
        have HRD := Lib.hid hin.rd
        have HIB := Lib.hid hin.b
        clear hin
        generalize l[j] = y at HS x0 x1 hlb hok HRD HIB
        simp only [Nat.add_zero] at x0
        rw [← Nat.add_assoc] at x1
        obtain ⟨z, hz⟩ := Int.eq_ofNat_of_zero_le hok.1
        have c0 : wr.cell? ⟨r, 0, none⟩ = some (.slice (some ⟨q, 0, none⟩) L.length c) := by
          have := ho.blk.cell 0
          rw [chTo_length] at this
          exact this
        have hzl : z < L.length := by omega
        have hrq := ho.ne
        have HBD := Lib.hid (show y.d = [] ∨ isBl y.d from by
          rcases hok.2.2 with h0 | h64
          · exact .inl (List.eq_nil_of_length_eq_zero h0)
          · exact .inr ⟨h64, HIB.out⟩)
        have hdl : y.d.length ≤ 64 := by omega
        have HZ := Lib.hid (show y.lba.toNat = z by omega)
        rw [hz] at x0
        have b1 : (z : Int) < (L.length : Int) := by omega
        have HO := Lib.hid ho
        have HM := Lib.hid hM
        have HT := Lib.hid ht
        clear ho hM ht hz hok hlb
        obtain ⟨dn, hdn⟩ : ∃ dn, y.d.length = dn := ⟨_, rfl⟩
        rw [hdn] at x1 hdl
        have HDN := Lib.hid hdn
        clear hdn
        go_wp2_with fail
        go_region_held3 (fun w' => w'.cell? ⟨r, 0, none⟩ = some (.slice (some ⟨q, 0, none⟩) L.length c) ∧ w'.cell? ⟨b, o + j * 2, none⟩ = some (.int .i64 z) ∧ w'.cell? ⟨b, o + j * 2 + 1, none⟩ = some (.slice y.A dn y.c)) (first | (go_keep; done) | exact ⟨cell_far z0 hrq _, cell_far z1 hbq _, cell_far z2 hbq _⟩) ((refine stepR_append E8 rfl rfl (ownsRow_emp wr.drew wr.heap.size _ _) rfl HRD.out.drew rfl (by rw [by8_length, HDN.out]; simp) (by8_one _) dn (by8 y.d) (by simp) (by simp) (by simp only [maxLen]; omega) (by omega) (Nat.le_refl _) ?_; intro A3 c3 w3 hc3 ho3 ht3 _; have hb3 : Below wr.drew.heap.size wr.drew w3 := ht3.below (fun b _ h => Blo.none b h); have z0 := (hb3.cell (cell_block_lt c0)).trans c0; have z1 := (hb3.cell (cell_block_lt x0)).trans x0; have z2 := (hb3.cell (cell_block_lt x1)).trans x1; have xf := ((HO.out.below (bl_drew wr)).below hb3).frozen z; obtain ⟨A4, k4, xq, _⟩ := ((HO.out.below (bl_drew wr)).below hb3).cell z (by rw [chTo_length]; omega); have HO3 := Lib.hid ho3; have HB3 := Lib.hid hb3; clear ho3 ht3 hb3))
        go_wp2_with fail
        have hB3 : wr.heap.size ≤ w3.heap.size := HB3.out.size
        have hI := ((HO.out.below (bl_drew wr)).below HB3.out).mono (M' := fun x => M' x ∨ Blo A3 x) (fun x h => .inl h) (fun x h => by
          rcases h with h | h
          · exact Nat.lt_of_lt_of_le (HO.out.mlt x h) hB3
          · exact own_lt HO3.out x h)
        have hI2 := hI.set_ z (by rw [chTo_length]; omega) HBD.out (A := A3) (k := c3) (Rd.of_own HO3.out) (fun x hx => ⟨.inr hx, by have := own_ge HO3.out x hx; have := HO.out.mlt q HO.out.mq; omega, by have := own_ge HO3.out x hx; have := HO.out.mlt r HO.out.mr; omega⟩)
        rw [HDN.out] at hI2
        have hI3 : IsRef (w3.setCell ⟨q, z, none⟩ (.slice A3 dn c3)) r (chTo L (l.take (j + 1))) q c (fun x => M' x ∨ Blo A3 x) := by
          rw [HS.out, HZ.out]
          exact hI2
        refine ⟨⟨j + 1, by omega, by go_num, ⟨_, hI3, fun x hx => ?_⟩, ((HT.out.drew).then_below HB3.out).setCell (p := ⟨q, z, none⟩) (fun _ => rfl) _⟩, by simp [RowKit.intOf]; omega⟩
        rcases hx with hx | hx
        · exact HM.out x hx
        · exact .inr (Nat.le_trans HT.out.size (own_ge HO3.out x hx))
      · have HO := Lib.hid ho
        have HM := Lib.hid hM
        have HT := Lib.hid ht
        clear ho hM ht
        go_wp2_with fail
        go_ret
        have := HO.out
        rw [List.take_of_length_le (by omega)] at this
        exact ⟨M', rfl, this, HM.out, HT.out⟩
  · have HE : Hid (changeL L l = L ∧ changeE L.length l = 1) := Lib.hid ⟨if_neg hr, if_neg hr⟩
    rw [HE.out.1, HE.out.2]
    rw [Bool.eq_false_iff.2 hr] at hright
    have HRT := Lib.hid hright
    clear hright hr
    go_enter Try.func62, Try.ntmps62
    go_wp2_with (first
      | (go_at_call 75; (with_reducible refine (HRT.out).mono ?_); rintro e w1 ⟨rfl, hb⟩; have HB1 := Lib.hid hb; clear hb))
    go_ret
    exact ⟨M, rfl, HH.out.below HB1.out, fun b hb => .inl hb, Tr.of_below HB1.out⟩
end
end Go.Proofs.Ytdddbpnllhnfdaa
