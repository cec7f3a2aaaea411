/- ExtentCounts: the plain law and the walk. -/
import Derived.Test.YtdddbpnllhnfdaaPlayed
namespace Go.Proofs.Ytdddbpnllhnfdaa
set_option linter.unusedVariables false
set_option linter.unusedSimpArgs false
set_option maxRecDepth 100000
open Go.RowKit Go.Shelf

theorem runsG_one : ∀ (l : List Int) (p : Int × Nat), p ∈ runsG l → 1 ≤ p.2
  | [], _, h => by cases h
  | z :: l, p, h => by
    have ih := runsG_one l
    rw [runsG_cons] at h
    split at h
    · simp at h; subst h; exact Nat.le_refl 1
    · rename_i a n r he
      rw [he] at ih
      split at h
      · rcases List.mem_cons.1 h with rfl | h
        · show 1 ≤ n + 1; omega
        · exact ih p (by simp [h])
      · rcases List.mem_cons.1 h with rfl | h
        · exact Nat.le_refl 1
        · exact ih p h
theorem runsG_mem {l : List Int} {p : Int × Nat} (h : p ∈ runsG l) (j : Nat) (hj : j < p.2) : p.1 + (j : Int) ∈ l := by
  rw [← runsG_all l]
  exact List.mem_flatMap.2 ⟨p, h, List.mem_map.2 ⟨j, List.mem_range.2 hj, rfl⟩⟩
theorem runsG_sep : ∀ (l : List Int), l.Pairwise (· < ·) → (runsG l).Pairwise (fun p q => p.1 + (p.2 : Int) < q.1)
  | [], _ => List.Pairwise.nil
  | z :: l, h => by
    obtain ⟨hz, hl⟩ := List.pairwise_cons.1 h
    have ih := runsG_sep l hl
    rw [runsG_cons]
    split
    · simp
    · rename_i a n r he
      rw [he] at ih
      obtain ⟨i1, i2⟩ := List.pairwise_cons.1 ih
      split
      · rename_i e
        refine List.pairwise_cons.2 ⟨fun q hq => ?_, i2⟩
        have := i1 q hq
        simp at this ⊢
        omega
      · rename_i e
        have ha : a ∈ l := by
          have := runsG_mem (l := l) (p := (a, n)) (by rw [he]; simp) 0 (by have := runsG_one l (a, n) (by rw [he]; simp); exact this)
          simpa using this
        have := hz a ha
        refine List.pairwise_cons.2 ⟨fun q hq => ?_, ih⟩
        rcases List.mem_cons.1 hq with rfl | hq
        · simp; omega
        · have := i1 q hq
          simp at this ⊢
          omega
theorem runsG_end {l : List Int} (h : l.Pairwise (· < ·)) {p : Int × Nat} (hp : p ∈ runsG l) : p.1 + (p.2 : Int) ∉ l := by
  intro hm
  have hs := runsG_sep l h
  rw [← runsG_all l] at hm
  obtain ⟨q, hq, hx⟩ := List.mem_flatMap.1 hm
  obtain ⟨k, hk, e⟩ := List.mem_map.1 hx
  have hk := List.mem_range.1 hk
  obtain ⟨i, hi, rfl⟩ := List.getElem_of_mem hp
  obtain ⟨j, hj, rfl⟩ := List.getElem_of_mem hq
  rw [List.pairwise_iff_getElem] at hs
  rcases Nat.lt_trichotomy i j with hij | hij | hij
  · have := hs i j hi hj hij; omega
  · subst hij; omega
  · have := hs j i hj hi hij; omega
def nsTo (rs : List (Int × Nat)) (i : Nat) : Nat := ((rs.take i).map (·.2)).sum
theorem nsTo_zero (rs : List (Int × Nat)) : nsTo rs 0 = 0 := rfl
theorem nsTo_succ {rs : List (Int × Nat)} {i : Nat} {p : Int × Nat} (h : rs[i]? = some p) : nsTo rs (i + 1) = nsTo rs i + p.2 := by
  unfold nsTo
  rw [List.take_add_one, h, List.map_append, List.sum_append]
  simp
theorem sum_len (l : List (Int × Nat)) : (l.flatMap run1).length = (l.map (·.2)).sum := by
  induction l with
  | nil => rfl
  | cons p l ih => rw [List.flatMap_cons, List.length_append, ih]; simp [run1]
theorem nsTo_all (L : List (List Int)) : nsTo (runsG (nums L)) (runsG (nums L)).length = used L := by
  unfold nsTo
  rw [List.take_length, ← sum_len, runsG_all, nums_length]
def endV (rs : List (Int × Nat)) (i : Nat) : Int := if i = 0 then -1 else match rs[i - 1]? with
  | some p => p.1 + (p.2 : Int)
  | none => 0
theorem endV_succ {rs : List (Int × Nat)} {i : Nat} {p : Int × Nat} (h : rs[i]? = some p) : endV rs (i + 1) = p.1 + (p.2 : Int) := by
  unfold endV
  rw [if_neg (by omega), Nat.add_sub_cancel, h]
theorem hasB_mem (L : List (List Int)) (z : Int) : hasB L z = decide (z ∈ nums L) := by
  unfold hasB
  rw [decide_eq_decide]
  unfold nums
  rw [numsTo_mem]
  constructor
  · rintro ⟨h0, h⟩
    refine ⟨z.toNat, by omega, ?_, h⟩
    apply Classical.byContradiction
    intro hn
    exact h (bk_out (by omega))
  · rintro ⟨i, rfl, hi, h⟩
    exact ⟨by omega, by simpa using h⟩
theorem run_law (L : List (List Int)) (hok : ImgOk L) (i : Nat) (p : Int × Nat) (h : (runsG (nums L))[i]? = some p) :
    1 ≤ p.2 ∧ 0 ≤ p.1 ∧ p.1 + (p.2 : Int) ≤ 256 ∧ endV (runsG (nums L)) i < p.1 ∧ (∀ j : Nat, j < p.2 → hasB L (p.1 + (j : Int)) = true) ∧ hasB L (p.1 + (p.2 : Int)) = false := by
  have hm := List.mem_of_getElem? h
  have hsort : (nums L).Pairwise (· < ·) := numsTo_sorted L _
  have h1 := runsG_one _ _ hm
  have hb : ∀ j : Nat, j < p.2 → 0 ≤ p.1 + (j : Int) ∧ p.1 + (j : Int) < 256 := fun j hj => (nums_isN hok).1 _ (runsG_mem hm j hj)
  have b0 := hb 0 (by omega)
  have b1 := hb (p.2 - 1) (by omega)
  refine ⟨h1, by simpa using b0.1, by omega, ?_, fun j hj => ?_, ?_⟩
  · rcases i with _ | i
    · simp [endV]; omega
    · obtain ⟨hi, e⟩ := List.getElem?_eq_some_iff.1 h
      have hi2 : i < (runsG (nums L)).length := by omega
      rw [endV_succ (List.getElem?_eq_getElem hi2)]
      have := List.pairwise_iff_getElem.1 (runsG_sep _ hsort) i (i + 1) hi2 hi (by omega)
      rw [e] at this
      exact this
  · rw [hasB_mem]; exact decide_eq_true (runsG_mem hm j hj)
  · rw [hasB_mem]; exact decide_eq_false (runsG_end hsort hm)
theorem usedTo_succ (L : List (List Int)) (k : Nat) : usedTo L (k + 1) = usedTo L k + (if hasB L (k : Int) = true then 1 else 0) := by
  show usedTo L k + (if bk L k = [] then 0 else 1) = _
  congr 1
  unfold hasB
  by_cases h : bk L k = []
  · simp [h]
  · simp [h]
set_option maxHeartbeats 8000000 in
theorem extentCounts_walk (n : Int) (A : Option Addr) (c : Nat) (l : List OpA) (w : World) (hn : -9223372036854775808 ≤ n ∧ n ≤ 9223372036854775807) (hl : l.length ≤ 140737488351232) (hA : OpsAt w A l) :
    Calls Try.prog 4 #[.int .i64 n, .slice A l.length c] w fun e w' => e = .returned (.bool true) ∧ Below w.heap.size w w' := by
  have HA := Lib.hid hA
  clear hA
  go_enter Try.func4, Try.ntmps4
  go_wp2_with (first
    | (go_at_call 11; (with_reducible refine (count256 n w hn).mono ?_); rintro e w1 ⟨⟨k, hk, rfl⟩, rfl⟩)
    | (go_at_call 10; (with_reducible refine (played_any _ (k + 1) (by omega) (by omega) (by omega) A c l w hl HA.out).mono ?_); rintro e w2 ⟨g, L, M, rfl, hL, ⟨B, D, hI⟩, hM, hb⟩; have I2 := Lib.hid hI; have HL := Lib.hid hL; have B2 := Lib.hid hb; have hok := Lib.hid hI.ok; clear hI hL hb hM)
    | (go_at_call 17; (with_reducible refine (lruns_any I2.out).mono ?_); rintro e w3 ⟨A3, c3, vs, rfl, hc3, ho, hp, hb⟩; have I3 := Lib.hid (I2.out.below hb); have O3 := Lib.hid ho; have P3 := Lib.hid hp; have B3 := Lib.hid (bl_chain B2.out hb); clear ho hp hb))
  obtain ⟨rs, hrs⟩ : ∃ rs, runsG (nums L) = rs := ⟨_, rfl⟩
  have hlaw := run_law L hok.out
  rw [hrs] at hlaw
  have HLAW := Lib.hid hlaw
  clear hlaw
  have HALL := Lib.hid (show nsTo rs rs.length = used L from hrs ▸ nsTo_all L)
  have h256 : rs.length ≤ 256 := by rw [← hrs]; have := runsG_length_le (nums L); rw [nums_length] at this; have := used_le L; have := hok.out.hi; omega
  have hns : ∀ i, nsTo rs i ≤ 256 := fun i => by
    have h1 : nsTo rs i ≤ (rs.map (·.2)).sum := by
      unfold nsTo
      conv => rhs; rw [← List.take_append_drop i rs, List.map_append, List.sum_append]
      omega
    have h2 : (rs.map (·.2)).sum = used L := by rw [← hrs, ← sum_len, runsG_all, nums_length]
    have := used_le L
    have := hok.out.hi
    omega
  rw [hrs] at O3 P3 hc3
  simp only [hrs]
  have HNS := Lib.hid hns
  clear hrs hns
  go_loopw [7, 8, 9] (fun v7 v8 v9 W => ∃ i : Nat, i ≤ rs.length ∧ v9 = .int .i64 (i : Int) ∧ v7 = .int .i64 ((nsTo rs i : Nat) : Int) ∧ v8 = .int .i64 (endV rs i) ∧ Below w3.heap.size w3 W) (fun _ _ v _ => rs.length - (RowKit.intOf v).toNat)
  case atStart => exact ⟨0, by omega, rfl, rfl, rfl, Below.refl _ _⟩
  case round =>
    obtain ⟨i, hi, rfl, rfl, rfl, hW⟩ := hrel
    have HW := Lib.hid hW
    clear hW
    by_cases hlt : i < rs.length
    · obtain ⟨⟨z, m⟩, hp⟩ : ∃ p, rs[i]? = some p := ⟨rs[i], List.getElem?_eq_getElem hlt⟩
      obtain ⟨q1, q2, q3, q4, q5, q6⟩ := HLAW.out i _ hp
      have HS1 := Lib.hid (nsTo_succ hp)
      have HE1 := Lib.hid (endV_succ hp)
      obtain ⟨b, e1, e2, e3⟩ := P3.out i _ hp
      obtain ⟨ga, rfl⟩ := ownsRow_addr O3.out (by omega)
      have y0 : wr.cell? ⟨ga, i, none⟩ = some (.slice (some ⟨b, 0, none⟩) 2 2) := by
        obtain ⟨ad, e4, hc⟩ := Rd.of_own O3.out i _ e1
        injection e4 with e4
        subst e4
        rw [add_lit, Nat.zero_add] at hc
        exact (HW.out.cell (cell_block_lt hc)).trans hc
      have Y0 : Hid (w3.cell? ⟨ga, i, none⟩ = some (.slice (some ⟨b, 0, none⟩) 2 2)) := Lib.hid (by
        obtain ⟨ad, e4, hc⟩ := Rd.of_own O3.out i _ e1
        injection e4 with e4
        subst e4
        rwa [add_lit, Nat.zero_add] at hc)
      have y1 : wr.cell? ⟨b, 0, none⟩ = some (.int .i64 z) := (HW.out.cell e3.lt).trans (e3.cell 0)
      have y2 : wr.cell? ⟨b, 1, none⟩ = some (.int .i64 (m : Int)) := (HW.out.cell e3.lt).trans (e3.cell 1)
      simp only at q1 q2 q3 q4 q5 q6
      have Q5 := Lib.hid q5
      have t6 := q6
      have hn0 := HNS.out i
      have hn1 := HNS.out (i + 1)
      rw [HS1.out] at hn1
      simp only at hn1
      clear hp e1 e2 q5 q6
      generalize hev : endV rs i = ev at q4 ⊢
      generalize hnv : nsTo rs i = nv at hn0 hn1 HS1 ⊢
      clear hev hnv
      have E3 := Lib.hid e3
      have f1 : decide ((m : Int) < 1) = false := decide_eq_false (by omega)
      have f2 : decide (z ≤ ev) = false := decide_eq_false (by omega)
      clear e3 q4
      go_wp2_with fail
      go_loopw [7, 10] (fun v7 v10 W => ∃ j : Nat, j ≤ m ∧ v10 = .int .i64 (z + (j : Int)) ∧ v7 = .int .i64 ((nv + j : Nat) : Int) ∧ Below w3.heap.size w3 W) (fun _ v _ => m - (RowKit.intOf v - z).toNat)
      case atStart => exact ⟨0, by omega, by simp, rfl, HW.out⟩
      case round =>
        obtain ⟨j, hj, rfl, rfl, hW2⟩ := hrel
        have HW2 := Lib.hid hW2
        have x0 : wr.cell? ⟨ga, i, none⟩ = some (.slice (some ⟨b, 0, none⟩) 2 2) := (HW2.out.cell (cell_block_lt Y0.out)).trans Y0.out
        have x1 : wr.cell? ⟨b, 0, none⟩ = some (.int .i64 z) := (HW2.out.cell E3.out.lt).trans (E3.out.cell 0)
        have x2 : wr.cell? ⟨b, 1, none⟩ = some (.int .i64 (m : Int)) := (HW2.out.cell E3.out.lt).trans (E3.out.cell 1)
        clear hW2 y0 y1 y2
        have ew : IntKind.i64.wrap (z + (m : Int)) = z + (m : Int) := wrapE rfl (by omega)
        by_cases hjm : j < m
        · have HHAS := Lib.hid (fun nq => by
            have h := has_any ⟨B, D, I3.out.below (bl_chain HW2.out (bl_drewN wr nq))⟩ (z + (j : Int)) (by omega)
            rw [Q5.out j hjm] at h
            exact h)
          go_wp2_with fail
          go_quiet (fail)
          go_wp2_with (first
            | (go_at_call 16; (with_reducible refine (HHAS.out _).mono ?_); rintro e w' ⟨rfl, rfl⟩))
          refine ⟨⟨j + 1, by omega, by go_num, by go_num, bl_chain HW2.out (bl_drewN _ _)⟩, by simp [RowKit.intOf]; omega⟩
        · have hjm : j = m := by omega
          subst hjm
          have f3 : decide (z + (j : Int) < z + (j : Int)) = false := decide_eq_false (by omega)
          have HHAS := Lib.hid (fun nq => by
            have h := has_any ⟨B, D, I3.out.below (bl_chain HW2.out (bl_drewN wr nq))⟩ (z + (j : Int)) (by omega)
            rw [t6] at h
            exact h)
          go_wp2_with fail
          go_quiet (fail)
          go_wp2_with fail
          go_quiet (fail)
          go_wp2_with (first
            | (go_at_call 16; (with_reducible refine (HHAS.out _).mono ?_); rintro e w' ⟨rfl, rfl⟩))
          refine ⟨⟨i + 1, by omega, by go_num, by rw [HS1.out]; rfl, by rw [HE1.out], bl_chain HW2.out (bl_drewN _ _)⟩, by simp [RowKit.intOf]; omega⟩
    · have hi : i = rs.length := by omega
      subst hi
      rw [HALL.out]
      have hsz := hok.out.hi
      go_wp2_with fail
      go_loopw [11, 12] (fun v11 v12 W => ∃ k2 : Nat, k2 ≤ L.length ∧ v12 = .int .i64 (k2 : Int) ∧ v11 = .int .i64 ((usedTo L k2 : Nat) : Int) ∧ Below w3.heap.size w3 W) (fun _ v _ => L.length - (RowKit.intOf v).toNat)
      case atStart => exact ⟨0, by omega, rfl, rfl, HW.out⟩
      case round =>
        obtain ⟨k2, hk2, rfl, rfl, hW2⟩ := hrel
        have HW2 := Lib.hid hW2
        have I4 := Lib.hid (I3.out.below hW2)
        have hle := usedTo_le L k2
        have HSZ := Lib.hid (size_any ⟨B, D, I4.out⟩)
        have HUS := Lib.hid (used_any ⟨B, D, I4.out⟩)
        clear hW2
        by_cases hlt : k2 < L.length
        · have HU := Lib.hid (usedTo_succ L k2)
          have HH := Lib.hid (has_any ⟨B, D, I4.out⟩ (k2 : Int) (by omega))
          rcases hh : hasB L (k2 : Int) with _ | _
          all_goals
            rw [hh] at HH HU
            clear hh
            go_wp2_with (first
              | (go_at_call 18; (with_reducible refine HSZ.out.mono ?_); rintro e w' ⟨rfl, rfl⟩)
              | (go_at_call 16; (with_reducible refine HH.out.mono ?_); rintro e w' ⟨rfl, rfl⟩))
            refine ⟨⟨k2 + 1, by omega, by go_num, by rw [HU.out]; go_num, HW2.out⟩, by simp [RowKit.intOf]; omega⟩
        · have hk : k2 = L.length := by omega
          subst hk
          have hU : usedTo L L.length = used L := rfl
          have t9 : ((used L : Int) == (used L : Int)) = true := by simp
          rw [hU]
          clear hU
          go_wp2_with (first
            | (go_at_call 18; (with_reducible refine HSZ.out.mono ?_); rintro e w' ⟨rfl, rfl⟩)
            | (go_at_call 19; (with_reducible refine HUS.out.mono ?_); rintro e w' ⟨rfl, rfl⟩)
            | (go_at_call 12; (with_reducible refine (known_any _).mono ?_); rintro e w9 ⟨rfl, hb9⟩; have B9 := Lib.hid (bl_chain (bl_chain B3.out HW2.out) hb9); clear hb9))
          go_ret
          exact ⟨rfl, B9.out⟩
end Go.Proofs.Ytdddbpnllhnfdaa
