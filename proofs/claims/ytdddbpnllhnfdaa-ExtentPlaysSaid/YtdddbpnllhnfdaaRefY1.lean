/- The reference's Image: Has, Used, Read. -/
import Derived.Test.YtdddbpnllhnfdaaLoadR
import Derived.Test.YtdddbpnllhnfdaaMk8
namespace Go.Proofs.Ytdddbpnllhnfdaa
set_option linter.unusedVariables false
set_option linter.unusedSimpArgs false
set_option maxRecDepth 100000
open Go.RowKit Go.Shelf

section
variable {w : World} {r q c : Nat} {L : List (List Int)} {M : Nat → Prop}
theorem rhas_any (h : IsRef w r L q c M) (z : Int) (hz : -9223372036854775808 ≤ z ∧ z ≤ 9223372036854775807) : Calls Try.prog 54 #[.pointer (some ⟨r, 0, none⟩), .int .i64 z] w fun e w' => e = .returned (.bool (hasB L z)) ∧ w = w' := by
  have hok := h.ok.hi
  have c0 : w.cell? ⟨r, 0, none⟩ = some (.slice (some ⟨q, 0, none⟩) L.length c) := h.blk.cell 0
  by_cases h1 : 0 ≤ z
  · obtain ⟨n, rfl⟩ := Int.eq_ofNat_of_zero_le h1
    by_cases h2 : n < L.length
    · obtain ⟨A1, k1, hc, _⟩ := h.cell n h2
      have f1 : decide ((n : Int) < (L.length : Int)) = true := decide_eq_true (by omega)
      have hn1 : (n : Int) < (L.length : Int) := by omega
      by_cases h3 : bk L n = []
      · rw [show hasB L (n : Int) = false from decide_eq_false (by simp [h3])]
        have h30 : (bk L n).length = 0 := by rw [h3]; rfl
        rw [h30] at hc
        clear h h3
        go_enter Try.func54, Try.ntmps54
        go_wp2_with fail
        go_ret
        exact ⟨rfl, rfl⟩
      · rw [show hasB L (n : Int) = true from decide_eq_true ⟨by omega, by simpa using h3⟩]
        have h30 : (bk L n).length = 64 := ((h.ok.at_ n).resolve_left h3).1
        rw [h30] at hc
        clear h h3
        go_enter Try.func54, Try.ntmps54
        go_wp2_with fail
        go_ret
        exact ⟨rfl, rfl⟩
    · rw [show hasB L (n : Int) = false from decide_eq_false (by simp; exact bk_out (by omega))]
      have f1 : decide ((n : Int) < (L.length : Int)) = false := decide_eq_false (by omega)
      clear h
      go_enter Try.func54, Try.ntmps54
      go_wp2_with fail
      go_ret
      exact ⟨rfl, rfl⟩
  · rw [show hasB L z = false from decide_eq_false (by omega)]
    have f1 : decide (0 ≤ z) = false := decide_eq_false h1
    clear h
    go_enter Try.func54, Try.ntmps54
    go_wp2_with fail
    go_ret
    exact ⟨rfl, rfl⟩
theorem usedTo_succ' (L : List (List Int)) (k : Nat) : usedTo L (k + 1) = usedTo L k + (if hasB L (k : Int) = true then 1 else 0) := by
  show usedTo L k + (if bk L k = [] then 0 else 1) = _
  congr 1
  unfold hasB
  by_cases h : bk L k = []
  · simp [h]
  · simp [h]
theorem rused_any (h : IsRef w r L q c M) : Calls Try.prog 53 #[.pointer (some ⟨r, 0, none⟩)] w fun e w' => e = .returned (.int .i64 (used L)) ∧ w = w' := by
  have hok := h.ok.hi
  have c0 : w.cell? ⟨r, 0, none⟩ = some (.slice (some ⟨q, 0, none⟩) L.length c) := h.blk.cell 0
  have HH := Lib.hid h
  clear h
  go_enter Try.func53, Try.ntmps53
  go_wp2_with fail
  go_loop [3, 4] (fun v3 v4 => ∃ k : Nat, k ≤ L.length ∧ v4 = .int .i64 (k : Int) ∧ v3 = .int .i64 ((usedTo L k : Nat) : Int)) (fun _ v => L.length - (RowKit.intOf v).toNat)
  case atStart => exact ⟨0, by omega, rfl, rfl⟩
  case round =>
    obtain ⟨k, hk, rfl, rfl⟩ := hrel
    have hle := usedTo_le L k
    by_cases hlt : k < L.length
    · have HU := Lib.hid (usedTo_succ' L k)
      have HS := Lib.hid (rhas_any HH.out (k : Int) (by omega))
      rcases hh : hasB L (k : Int) with _ | _
      all_goals
        rw [hh] at HS HU
        clear hh
        go_wp2_with (first
          | (go_at_call 54; (with_reducible refine HS.out.mono ?_); rintro e w' ⟨rfl, rfl⟩))
        exact ⟨⟨k + 1, by omega, by go_num, by rw [HU.out]; go_num⟩, by simp [RowKit.intOf]; omega⟩
    · obtain rfl : k = L.length := by omega
      go_wp2_with fail
      go_ret
      exact ⟨rfl, rfl⟩
set_option maxHeartbeats 1600000 in
theorem rread_any (h : IsRef w r L q c M) (lba k : Int) (hb : -9223372036854775808 ≤ lba ∧ lba ≤ 9223372036854775807 ∧ -9223372036854775808 ≤ k ∧ k ≤ 9223372036854775807) :
    Calls Try.prog 52 #[.pointer (some ⟨r, 0, none⟩), .int .i64 lba, .int .i64 k] w (Ret8 w (readL L lba k) (wrongE L.length lba k)) := by
  have hw := rin_any h lba k hb
  by_cases hin : inB L.length lba k = true
  · have HE : Hid (readL L lba k = rdTo L lba.toNat k.toNat ∧ wrongE L.length lba k = 0) := Lib.hid ⟨if_pos hin, if_pos hin⟩
    rw [hin] at hw
    have HW := Lib.hid hw
    have hr := of_decide_eq_true hin
    obtain ⟨a, rfl⟩ := Int.eq_ofNat_of_zero_le hr.1
    obtain ⟨m, rfl⟩ := Int.eq_ofNat_of_zero_le hr.2.1
    have h256 := h.ok.hi
    have ham : a + m ≤ L.length := by omega
    rw [HE.out.1, HE.out.2, Int.toNat_natCast, Int.toNat_natCast]
    have HH := Lib.hid h
    clear hw hin hr hb h
    have ew0 : IntKind.i64.wrap ((a : Int) + (m : Int)) = (a : Int) + (m : Int) := wrapE rfl (by omega)
    have hmk := run_make8 64 64 rfl (by omega)
    go_enter Try.func52, Try.ntmps52
    go_wp2_with (first
      | (go_at_call 68; (with_reducible refine (HW.out).mono ?_); rintro e w' ⟨rfl, rfl⟩))
    go_loopw [8, 9] (fun v8 v w2 => ∃ (j : Nat) (A1 : Option Addr) (c1 n1 : Nat), j ≤ m ∧ v = .int .i64 ((a + j : Nat) : Int) ∧ n1 = 64 * j ∧ v8 = .slice A1 n1 c1 ∧ n1 ≤ c1 ∧ w2.ownsRow w.heap.size 5 1 (.slice A1 n1 c1) n1 (by8 (rdTo L a j)) ∧ Below w.heap.size w w2) (fun _ v _ => a + m - (RowKit.intOf v).toNat)
    case atStart => exact ⟨0, none, 0, 0, by omega, by simp, rfl, rfl, Nat.le_refl _, ownsRow_emp _ _ _ _, Below.refl _ _⟩
    case round =>
      obtain ⟨j, A1, c1, n1, hj, rfl, hn1, rfl, hc1, ho, hbl⟩ := hrel
      have HO := Lib.hid ho
      have HBL := Lib.hid hbl
      have HI := Lib.hid (HH.out.below hbl)
      have hs := hbl.size
      clear ho hbl
      have c0 : wr.cell? ⟨r, 0, none⟩ = some (.slice (some ⟨q, 0, none⟩) L.length c) := HI.out.blk.cell 0
      by_cases hlt : j < m
      · obtain ⟨A2, k2, hc, hr2⟩ := HI.out.cell (a + j) (by omega)
        have HR2 := Lib.hid hr2
        have hsub : ((a + j : Nat) : Int) < (a : Int) + (m : Int) := by omega
        have b1 : ((a + j : Nat) : Int) < (L.length : Int) := by omega
        have t1 : decide (a + j < a + m) = true := decide_eq_true (by omega)
        have HBV : Hid (by8 (rdTo L a (j + 1)) = by8 (rdTo L a j) ++ by8 (bv L (a + j))) := Lib.hid (by rw [rdTo, by8_append])
        have hokz := HH.out.ok.at_ (a + j)
        obtain ⟨z, hz⟩ : ∃ z, a + j = z := ⟨_, rfl⟩
        rw [hz] at hc hsub b1 hokz HR2 HBV t1 ⊢
        have HZ := Lib.hid hz
        clear hz hr2
        have n64 : Hid (n1 + 64 = 64 * (j + 1)) := Lib.hid (by omega)
        have n63 : n1 + 64 ≤ 16448 := by omega
        rcases hokz with h0 | h64
        · have hbv : Hid (by8 (bv L z) = by8 (List.replicate 64 0)) := Lib.hid (by unfold bv; rw [if_pos h0])
          rw [h0] at hc
          simp only [List.length_nil] at hc
          clear h0 hn1
          go_wp2_with (first
            | (at_builtin; refine wpL_append E8 rfl rfl (HO.out.alloc _) rfl (Rd.zeros wr 64 _) rfl (by rw [by8_length]; rfl) (by8_one _) (n1 + 64) (by8 (rdTo L a (j + 1))) rfl (by rw [HBV.out, hbv.out]) (by simp only [maxLen]; omega) (by omega) (by simp; omega) ?_; intro A3 c3 w3 hc3 ho3 ht3 _; have HO3 := Lib.hid ho3; have HT3 := Lib.hid ht3; clear ho3 ht3))
          refine ⟨⟨j + 1, A3, c3, n1 + 64, by omega, by rw [← Nat.add_assoc, HZ.out]; go_num, n64.out, rfl, hc3, HO3.out, bl_tr (bl_chain HBL.out (bl_alloc wr _)) HT3.out (fun x hx => own_ge HO.out x hx)⟩, by simp [RowKit.intOf]; have := HZ.out; omega⟩
        · have hbv : Hid (by8 (bv L z) = by8 (bk L z)) := Lib.hid (by unfold bv; rw [if_neg (by intro e; have := h64.1; rw [e] at this; cases this)])
          have hl := h64.1
          rw [hl] at hc
          have HL := Lib.hid hl
          clear h64 hn1 hl
          go_wp2_with (first
            | (at_builtin; refine wpL_append E8 rfl rfl HO.out rfl HR2.out rfl (by rw [by8_length, HL.out]) (by8_one _) (n1 + 64) (by8 (rdTo L a (j + 1))) rfl (by rw [HBV.out, hbv.out]) (by simp only [maxLen]; omega) (by omega) hs ?_; intro A3 c3 w3 hc3 ho3 ht3 _; have HO3 := Lib.hid ho3; have HT3 := Lib.hid ht3; clear ho3 ht3))
          refine ⟨⟨j + 1, A3, c3, n1 + 64, by omega, by rw [← Nat.add_assoc, HZ.out]; go_num, n64.out, rfl, hc3, HO3.out, bl_tr HBL.out HT3.out (fun x hx => own_ge HO.out x hx)⟩, by simp [RowKit.intOf]; have := HZ.out; omega⟩
      · obtain rfl : j = m := by omega
        have t1 : decide (a + j < a + j) = false := decide_eq_false (by omega)
        have hl := rdTo_length HH.out.ok a j
        go_wp2_with fail
        go_ret2
        refine ⟨A1, c1, by rw [hl, hn1]; rfl, by rw [hl]; omega, ?_, HBL.out⟩
        rw [hl, ← hn1]
        exact HO.out
  · have HE : Hid (readL L lba k = [] ∧ wrongE L.length lba k = 1) := Lib.hid ⟨if_neg hin, if_neg hin⟩
    rw [Bool.not_eq_true] at hin
    rw [hin] at hw
    have HW := Lib.hid hw
    rw [HE.out.1, HE.out.2]
    clear hw hin h
    go_enter Try.func52, Try.ntmps52
    go_wp2_with (first
      | (go_at_call 68; (with_reducible refine (HW.out).mono ?_); rintro e w' ⟨rfl, rfl⟩))
    go_ret2
    exact ⟨none, 0, rfl, Nat.le_refl _, ownsRow_emp _ _ _ _, Below.refl _ _⟩
end
end Go.Proofs.Ytdddbpnllhnfdaa
