/- The reference's image: Unmap, Write, Right, Change. -/
import Derived.Test.YtdddbpnllhnfdaaRefX2
namespace Go.Proofs.Ytdddbpnllhnfdaa
set_option linter.unusedVariables false
set_option linter.unusedSimpArgs false
set_option maxRecDepth 100000
open Go.RowKit Go.Shelf

section
variable {w : World} {r q c : Nat} {L : List (List Int)} {M : Nat → Prop}
set_option maxHeartbeats 1600000 in
theorem runmap_any (h : IsRef w r L q c M) (lba k : Int) (hb : -9223372036854775808 ≤ lba ∧ lba ≤ 9223372036854775807 ∧ -9223372036854775808 ≤ k ∧ k ≤ 9223372036854775807) :
    Calls Try.prog 60 #[.pointer (some ⟨r, 0, none⟩), .int .i64 lba, .int .i64 k] w (RetRS w r (unmapL L lba k) q c M (wrongE L.length lba k)) := by
  have hw := rin_any h lba k hb
  by_cases hin : inB L.length lba k = true
  · have HE : Hid (unmapL L lba k = clrTo L lba.toNat k.toNat ∧ wrongE L.length lba k = 0) := Lib.hid ⟨if_pos hin, if_pos hin⟩
    rw [hin] at hw
    have HW := Lib.hid hw
    have hr := of_decide_eq_true hin
    obtain ⟨a, rfl⟩ := Int.eq_ofNat_of_zero_le hr.1
    obtain ⟨m, rfl⟩ := Int.eq_ofNat_of_zero_le hr.2.1
    have h256 := h.ok.hi
    have ham : a + m ≤ L.length := by omega
    rw [HE.out.1, HE.out.2, Int.toNat_natCast, Int.toNat_natCast]
    have HH := Lib.hid h
    clear hw hin hr hb h
    have ew0 : IntKind.i64.wrap ((a : Int) + (m : Int)) = (a : Int) + (m : Int) := wrapE rfl (by omega)
    go_enter Try.func60, Try.ntmps60
    go_wp2_with (first
      | (go_at_call 68; (with_reducible refine (HW.out).mono ?_); rintro e w' ⟨rfl, rfl⟩))
    go_loopw [7] (fun v w2 => ∃ j : Nat, j ≤ m ∧ v = .int .i64 ((a + j : Nat) : Int) ∧ IsRef w2 r (clrTo L a j) q c M ∧ Tr (fun b => b = q) w w2) (fun v _ => a + m - (RowKit.intOf v).toNat)
    case atStart => exact ⟨0, by omega, by simp, HH.out, Tr.refl _ _⟩
    case round =>
      obtain ⟨j, hj, rfl, ho, ht⟩ := hrel
      have c0 : wr.cell? ⟨r, 0, none⟩ = some (.slice (some ⟨q, 0, none⟩) L.length c) := by
        have := ho.blk.cell 0
        rw [clrTo_length] at this
        exact this
      by_cases hlt : j < m
      · obtain ⟨A1, k1, hc, _⟩ := ho.cell (a + j) (by rw [clrTo_length]; omega)
        have hf := ho.frozen (a + j)
        have hsub : ((a + j : Nat) : Int) < (a : Int) + (m : Int) := by omega
        have t1 : decide (a + j < a + m) = true := decide_eq_true (by omega)
        have b1 : ((a + j : Nat) : Int) < (L.length : Int) := by omega
        have ho2 := ho.set_ (a + j) (by rw [clrTo_length]; omega) (x := []) (.inl rfl) (A := none) (k := 0) Rd.nil (fun b hb => absurd hb (Blo.none b))
        have HO2 := Lib.hid ho2
        have HT2 := Lib.hid (ht.setCell (p := ⟨q, a + j, none⟩) (fun _ => rfl) (.slice none 0 0))
        clear ho ht ho2
        obtain ⟨z, hz⟩ : ∃ z, a + j = z := ⟨_, rfl⟩
        rw [hz] at hc hf hsub b1 HO2 HT2 t1 ⊢
        have HZ := Lib.hid hz
        clear hz
        go_wp2_with fail
        refine ⟨⟨j + 1, by omega, by rw [← Nat.add_assoc, HZ.out]; go_num, ?_, HT2.out⟩, by simp [RowKit.intOf]; have := HZ.out; omega⟩
        have := HO2.out
        rw [← HZ.out] at this ⊢
        exact this
      · obtain rfl : j = m := by omega
        have t1 : decide (a + j < a + j) = false := decide_eq_false (by omega)
        have HO2 := Lib.hid ho
        have HT2 := Lib.hid ht
        clear ho ht
        go_wp2_with fail
        go_ret
        exact ⟨M, rfl, HO2.out, fun b hb => .inl hb, HT2.out⟩
  · have HE : Hid (unmapL L lba k = L ∧ wrongE L.length lba k = 1) := Lib.hid ⟨if_neg hin, if_neg hin⟩
    rw [Bool.eq_false_iff.2 hin] at hw
    have HW := Lib.hid hw
    rw [HE.out.1, HE.out.2]
    have HH := Lib.hid h
    clear hw hin h
    go_enter Try.func60, Try.ntmps60
    go_wp2_with (first
      | (go_at_call 68; (with_reducible refine (HW.out).mono ?_); rintro e w' ⟨rfl, rfl⟩))
    go_ret
    exact ⟨M, rfl, HH.out, fun b hb => .inl hb, Tr.refl _ _⟩
set_option maxHeartbeats 3200000 in
theorem rwrite_any (h : IsRef w r L q c M) (lba : Int) (hlb : -9223372036854775808 ≤ lba ∧ lba ≤ 9223372036854775807) (A : Option Addr) (cb : Nat) (b : List Int) {w0 : World} (hr : Rd w0 A (by8 b)) (hb0 : Below w0.heap.size w0 w) (hq0 : w0.heap.size ≤ q) (hB : isB b) (hc : b.length ≤ cb) (hl : b.length ≤ 140737488351232) :
    Calls Try.prog 47 #[.pointer (some ⟨r, 0, none⟩), .int .i64 lba, .slice A b.length cb] w (RetRS w r (writeL L lba b) q c M (writeE L.length lba b)) := by
  have hq : ((b.length : Int) / 64) = ((b.length / 64 : Nat) : Int) := by omega
  have hw : Calls Try.prog 68 #[.pointer (some ⟨r, 0, none⟩), .int .i64 lba, .int .i64 ((b.length : Int) / 64)] w fun e w' => e = .returned (.bool (inB L.length lba (b.length / 64 : Nat))) ∧ w = w' := by rw [hq]; exact rin_any h lba (b.length / 64 : Nat) (by omega)
  by_cases hm : b.length % 64 = 0
  · have t1 : (((b.length : Int) % 64) != 0) = false := by simpa using (by omega : (b.length : Int) % 64 = 0)
    by_cases hin : inB L.length lba (b.length / 64 : Nat) = true
    · have hok : wrOk L.length lba b = true := by unfold wrOk; rw [hin]; simp [hm]
      have HE : Hid (writeL L lba b = wrTo L lba.toNat b (b.length / 64) ∧ writeE L.length lba b = 0) := Lib.hid ⟨if_pos hok, if_pos hok⟩
      rw [HE.out.1, HE.out.2]
      rw [hin] at hw
      have hr4 := of_decide_eq_true hin
      obtain ⟨a, rfl⟩ := Int.eq_ofNat_of_zero_le hr4.1
      obtain ⟨N, hN⟩ : ∃ N, b.length / 64 = N := ⟨_, rfl⟩
      rw [hN] at hr4 hq
      rw [hq] at hw
      have HW := Lib.hid hw
      have hlN : Hid (b.length = 64 * N) := Lib.hid (by omega)
      have haN : a + N ≤ L.length := by omega
      have h256 := h.ok.hi
      have HBL := Lib.hid (show ∀ i, i < N → isBl (pc b i) from fun i hi => pc_bl hB hm (by omega))
      obtain ⟨bb, off, hA⟩ : ∃ bb off, 0 < b.length → A = some ⟨bb, off, none⟩ := by
        by_cases hb0 : 0 < b.length
        · obtain ⟨x, y, e⟩ := rd_spot hr hb0; exact ⟨x, y, fun _ => e⟩
        · exact ⟨0, 0, fun h => absurd h hb0⟩
      rw [Int.toNat_natCast, hN]
      have HA := Lib.hid hA
      have HH := Lib.hid h
      have HR := Lib.hid (show ∀ W, Tr (fun x => x = q) w W → Rd W A (by8 b) from fun W hW => hr.below (hb0.trans (hW.to_below hb0.size (fun x e => by rw [e]; exact hq0))))
      have hqn : 0 ≤ (b.length : Int) / 64 := by omega
      have HQ := Lib.hid hq
      clear hw hin hok h hr hr4 hm hA hN
      go_enter Try.func47, Try.ntmps47
      go_wp2_with (first
        | (go_at_call 68; (with_reducible refine (HW.out).mono ?_); rintro e w' ⟨rfl, rfl⟩))
      go_loopw [8, 9] (fun v _ w2 => ∃ j : Nat, j ≤ N ∧ v = .int .i64 (j : Int) ∧ (∃ M', IsRef w2 r (wrTo L a b j) q c M' ∧ ∀ x, M' x → M x ∨ w.heap.size ≤ x) ∧ Tr (fun x => x = q) w w2) (fun v _ _ => N - (RowKit.intOf v).toNat)
      case atStart => exact ⟨0, by omega, rfl, ⟨M, HH.out, fun x h => .inl h⟩, Tr.refl _ _⟩
      case round =>
        obtain ⟨j, hj, rfl, ⟨M', ho, hM⟩, ht⟩ := hrel
        by_cases hlt : j < N
        · have hbj := HBL.out j hlt
          have hAs := HA.out (by have := hlN.out; omega)
          have hRW := HR.out wr ht
          rw [hAs] at hRW
          have HRP := Lib.hid (rd_pc hRW j)
          have HBJ := Lib.hid hbj
          have hlj : (pc b j).length = 64 := hbj.1
          have c0 : wr.cell? ⟨r, 0, none⟩ = some (.slice (some ⟨q, 0, none⟩) L.length c) := by
            have := ho.blk.cell 0
            rw [wrTo_length] at this
            exact this
          obtain ⟨A1, k1, hc1, _⟩ := ho.cell (a + j) (by rw [wrTo_length]; omega)
          have hf1 := ho.frozen (a + j)
          have ha := HA.out
          have hb64 := hlN.out
          have i1 : (0 : Int) ≤ (j : Int) * 64 ∧ (j : Int) * 64 ≤ ((j : Int) + 1) * 64 := by omega
          have i2 : ((j : Int) + 1) * 64 ≤ (cb : Int) := by omega
          have ew1 : IntKind.i64.wrap ((j : Int) * 64) = (j : Int) * 64 := wrapE rfl (by omega)
          have ew2 : IntKind.i64.wrap ((j : Int) + 1) = (j : Int) + 1 := wrapE rfl (by omega)
          have ew3 : IntKind.i64.wrap (((j : Int) + 1) * 64) = ((j : Int) + 1) * 64 := wrapE rfl (by omega)
          have ew4 : IntKind.i64.wrap ((a : Int) + (j : Int)) = (a : Int) + (j : Int) := wrapE rfl (by omega)
          have n1 : ((j : Int) * 64).toNat = 64 * j := by omega
          have n2 : (((j : Int) + 1) * 64).toNat = 64 * j + 64 := by omega
          have n3 : ((a : Int) + (j : Int)).toNat = a + j := by omega
          have b1 : 0 ≤ (a : Int) + (j : Int) := by omega
          have b2 : (a : Int) + (j : Int) < (L.length : Int) := by omega
          have b3 : ¬ (cb = 64 * j) := by omega
          have HO := Lib.hid ho
          have HM := Lib.hid hM
          have HT := Lib.hid ht
          clear ho hM ht hRW hbj hb64 ha
          subst hAs
          go_wp2_with (first
            | (at_builtin; refine wpL_append E8 rfl rfl (ownsRow_emp wr wr.heap.size _ _) rfl HRP.out rfl (by rw [by8_length]; exact hlj) (by8_one _) 64 (by8 (pc b j)) rfl (by simp) (by simp only [maxLen]; omega) (by omega) (Nat.le_refl _) ?_; intro A3 c3 w3 hc3 ho3 ht3 _; have hb3 := ht3.below (fun b _ h => Blo.none b h); have x0 := (hb3.cell (cell_block_lt c0)).trans c0; have xf := (HO.out.below hb3).frozen (a + j); have HO3 := Lib.hid ho3; have HB3 := Lib.hid hb3; obtain ⟨A4, k4, x1, _⟩ := (HO.out.below hb3).cell (a + j) (by rw [wrTo_length]; omega); clear ho3 ht3 hb3)
            | go_in)
          have hB3 := HB3.out.size
          have hI := (HO.out.below HB3.out).mono (M' := fun x => M' x ∨ Blo A3 x) (fun x h => .inl h) (fun x h => by
            rcases h with h | h
            · exact Nat.lt_of_lt_of_le (HO.out.mlt x h) hB3
            · exact own_lt HO3.out x h)
          have hI2 := hI.set_ (a + j) (by rw [wrTo_length]; omega) (.inr HBJ.out) (A := A3) (k := c3) (Rd.of_own HO3.out) (fun x hx => ⟨.inr hx, by have := own_ge HO3.out x hx; have := HO.out.mlt q HO.out.mq; omega, by have := own_ge HO3.out x hx; have := HO.out.mlt r HO.out.mr; omega⟩)
          rw [hlj] at hI2
          refine ⟨⟨j + 1, by omega, by go_num, ⟨_, hI2, fun x hx => ?_⟩, (HT.out.then_below HB3.out).setCell (p := ⟨q, a + j, none⟩) (fun _ => rfl) _⟩, by simp [RowKit.intOf]; omega⟩
          rcases hx with hx | hx
          · exact HM.out x hx
          · exact .inr (Nat.le_trans HT.out.size (own_ge HO3.out x hx))
        · obtain rfl : j = N := by omega
          have HO := Lib.hid ho
          have HM := Lib.hid hM
          have HT := Lib.hid ht
          clear ho hM ht
          go_wp2_with fail
          go_ret
          exact ⟨M', rfl, HO.out, HM.out, HT.out⟩
    · have hok : ¬ wrOk L.length lba b = true := fun e => hin (by unfold wrOk at e; rw [Bool.and_eq_true] at e; exact e.1)
      have HE : Hid (writeL L lba b = L ∧ writeE L.length lba b = 1) := Lib.hid ⟨if_neg hok, if_neg hok⟩
      rw [HE.out.1, HE.out.2]
      rw [Bool.eq_false_iff.2 hin] at hw
      have HW := Lib.hid hw
      have HH := Lib.hid h
      clear hw hin hok h hq hm
      go_enter Try.func47, Try.ntmps47
      go_wp2_with (first
        | (go_at_call 68; (with_reducible refine (HW.out).mono ?_); rintro e w' ⟨rfl, rfl⟩))
      go_ret
      exact ⟨M, rfl, HH.out, fun b hb => .inl hb, Tr.refl _ _⟩
  · have t1 : (((b.length : Int) % 64) != 0) = true := by simpa using (by omega : ¬ (b.length : Int) % 64 = 0)
    have hok : ¬ wrOk L.length lba b = true := fun e => hm (by unfold wrOk at e; rw [Bool.and_eq_true] at e; exact of_decide_eq_true e.2)
    have HE : Hid (writeL L lba b = L ∧ writeE L.length lba b = 1) := Lib.hid ⟨if_neg hok, if_neg hok⟩
    rw [HE.out.1, HE.out.2]
    have HH := Lib.hid h
    clear hw hok h hq hm
    go_enter Try.func47, Try.ntmps47
    go_wp2_with fail
    go_ret
    exact ⟨M, rfl, HH.out, fun b hb => .inl hb, Tr.refl _ _⟩
end
end Go.Proofs.Ytdddbpnllhnfdaa
