/- The iterator of Runs: its contract. -/
import Derived.Test.YtdddbpnllhnfdaaExt5
import Derived.Test.YtdddbpnllhnfdaaRunsP
namespace Go.Proofs.Ytdddbpnllhnfdaa
set_option linter.unusedVariables false
set_option linter.unusedSimpArgs false
set_option maxRecDepth 100000
open Go.RowKit Go.Shelf

attribute [local go_sem] Oper.semAt_some

/-- The k-th run, as it is handed on. -/
def rnV (l : List Int) (k : Nat) : Array Value := #[.int .i64 (rnAt l (idx (runsG l).length k)).1, .int .i64 ((rnAt l (idx (runsG l).length k)).2 : Nat)]
def isN (l : List Int) : Prop := (∀ z ∈ l, 0 ≤ z ∧ z < 256) ∧ l.length ≤ 256
theorem at_row {w : World} {b : Nat} {l : List Int} (h : Rd w (some ⟨b, 0, none⟩) (l.map (Value.int .i64))) (i : Nat) (z : Int) (hz : l[i]? = some z) : w.cell? ⟨b, i, none⟩ = some (.int .i64 z) := by
  obtain ⟨ad, e, hc⟩ := h i (.int .i64 z) (by rw [List.getElem?_map, hz]; rfl)
  injection e with e
  subst e
  rw [add_lit, Nat.zero_add] at hc
  exact hc
theorem _root_.Go.Proofs.Ytdddbpnllhnfdaa.Rd.keepb {w w' : World} {b : Nat} {xs : List Value} (h : Rd w (some ⟨b, 0, none⟩) xs) (hb : w'.heap[b]? = w.heap[b]?) : Rd w' (some ⟨b, 0, none⟩) xs := fun j u hj => by
  obtain ⟨ad, e, hc⟩ := h j u hj
  refine ⟨ad, e, ?_⟩
  injection e with e
  subst e
  rw [add_lit] at hc ⊢
  exact (World.cell?_of_block hb).trans hc
set_option maxHeartbeats 4000000 in
theorem runs2_in (n ly G b c : Nat) (A : Option Addr) (l : List Int) (hN : isN l) (hA : 0 < l.length → A = some ⟨b, 0, none⟩) (hc : l.length ≤ c) (J Jx : List Nat → World → Prop) (hab : ∀ pre W n, J pre W → J pre (W.drewN n))
    (hY : ∀ pre x W, J pre W → pre.length < (runsG l).length → YieldAt Fence.wide (n - 1) Try.prog ly (rnV l x) W fun e W' =>
      (e = .returned (.bool true) ∧ J (pre ++ [x]) W' ∧ Two G b W W') ∨ (e = .returned (.bool false) ∧ Jx (pre ++ [x]) W'))
    (W : World) (hs : Blk W G 40 #[.slice A l.length c]) (hr : Rd W A (l.map (Value.int .i64))) (h0 : J [] W) :
    CallsIn Fence.wide n Try.prog 66 #[.func (.yield ly) #[] #[], .pointer (some ⟨G, 0, none⟩)] W fun e W' => (∃ v, e = .returned v) ∧
      ((∃ ys, ys = List.range (runsG l).length ∧ J ys W') ∨ (∃ pre, True ∧ Jx pre W')) := by
  refine callsIn_of_wp Try.func66 rfl trivial ?_ rfl
  simp only [Try.ntmps66, List.size_toArray, List.length_cons, List.length_nil, Nat.reduceAdd, Nat.reduceSub, Array.replicate_succ, Array.replicate_zero, List.push_toArray, List.append_toArray, List.nil_append, List.cons_append]
  gi_wp2
  gi_loopw [3, 4] (fun i _ wr => ∃ k j : Nat, j ≤ l.length ∧ i = .int .i64 (j : Int) ∧ k ≤ (runsG l).length ∧ (runsG l).drop k = runsG (l.drop j) ∧ J (List.range k) wr ∧ Blk wr G 40 #[.slice A l.length c] ∧ Rd wr A (l.map (Value.int .i64)))
    (fun i _ _ => l.length - (RowKit.intOf i).toNat)
  case atStart => exact ⟨0, 0, by omega, rfl, by omega, rfl, h0, hs, hr⟩
  case round =>
    obtain ⟨k, j, hj, rfl, hk, hd, hJ, h1, h2⟩ := hrel
    have cG := h1.cell 0
    simp at cG
    have H1 := Lib.hid h1
    have H2 := Lib.hid h2
    have HJ := Lib.hid hJ
    have HD := Lib.hid hd
    have h256 := hN.2
    clear h1 h2 hJ hd
    by_cases hlt : j < l.length
    · obtain rfl := hA (by omega)
      obtain ⟨z, hz⟩ : ∃ z, l[j]? = some z := ⟨l[j], by simp [hlt]⟩
      have hz1 : ∀ i, i < 1 → l[j + i]? = some (z + (i : Int)) := fun i hi => by
        obtain rfl : i = 0 := by omega
        simpa using hz
      have HZ1 := Lib.hid hz1
      clear hz1
      gi_wp2
      gi_loopw [4] (fun v wr2 => ∃ m : Nat, 1 ≤ m ∧ j + m ≤ l.length ∧ v = .int .i64 (m : Int) ∧ (∀ i, i < m → l[j + i]? = some (z + i)) ∧ J (List.range k) wr2 ∧ Blk wr2 G 40 #[.slice (some ⟨b, 0, none⟩) l.length c] ∧ Rd wr2 (some ⟨b, 0, none⟩) (l.map (Value.int .i64)))
        (fun v _ => l.length - (RowKit.intOf v).toNat)
      case atStart => exact ⟨1, by omega, by omega, rfl, HZ1.out, HJ.out, H1.out, H2.out⟩
      case round =>
        obtain ⟨m, hm1, hm2, rfl, hall, hJ, h1, h2⟩ := hrel
        have cG2 := h1.cell 0
        simp at cG2
        have ew1 : IntKind.i64.wrap ((j : Int) + (m : Int)) = (j : Int) + (m : Int) := wrapE rfl (by omega)
        have ew3 : ((j : Int) + (m : Int)).toNat = j + m := by omega
        have hzb := hN.1 z (List.mem_of_getElem? hz)
        have ew2 : IntKind.i64.wrap (z + (m : Int)) = z + (m : Int) := wrapE rfl (by omega)
        have rz := at_row h2 j z hz
        have HJ0 := Lib.hid hJ
        have HJ2 : Hid (J (List.range k) wr.drew) := Lib.hid (hab _ _ 1 hJ)
        have H12 := Lib.hid h1.drew
        have H22 := Lib.hid h2.drew
        have HALL := Lib.hid hall
        clear h1 h2 hJ hall
        by_cases hend : j + m < l.length
        · obtain ⟨y, hy⟩ : ∃ y, l[j + m]? = some y := ⟨l[j + m], by simp [hend]⟩
          have ry := at_row H22.out (j + m) y hy
          have b1 : decide (((j : Int) + (m : Int)) < (l.length : Int)) = true := decide_eq_true (by omega)
          have b2 : 0 ≤ ((j : Int) + (m : Int)) := by omega
          have b3 : ((j : Int) + (m : Int)) < (l.length : Int) := by omega
          by_cases hyz : y = z + (m : Int)
          · have t1 : (y == z + (m : Int)) = true := by simpa using hyz
            have HYZ := Lib.hid hyz
            clear hyz
            gi_wp2
            gi_region
            gi_wp2
            refine ⟨⟨m + 1, by omega, by omega, by go_num, fun i hi => ?_, HJ2.out, H12.out, H22.out⟩, by simp [RowKit.intOf]; omega⟩
            by_cases e : i = m
            · rw [e, hy, HYZ.out]
            · exact HALL.out i (by omega)
          · have t1 : (y == z + (m : Int)) = false := by simpa using hyz
            have HYZ := Lib.hid hyz
            clear hyz
            have hmax : m = (l.drop j).length ∨ (l.drop j)[m]? ≠ some (z + (m : Int)) := by
              rw [List.length_drop, List.getElem?_drop]
              right
              rw [hy]
              intro e
              injection e with e
              exact HYZ.out e
            have hrun : runsG (l.drop j) = (z, m) :: runsG (l.drop (j + m)) := by
              have := runsG_run m (l.drop j) z (by rw [List.getElem?_drop]; simpa using hz) hm1 (by rw [List.length_drop]; omega) (fun i hi => by rw [List.getElem?_drop]; exact HALL.out i hi) hmax
              rw [List.drop_drop] at this
              exact this
            have hdk := HD.out.trans hrun
            have hk2 : k < (runsG l).length := by
              apply Classical.byContradiction
              intro hn
              rw [List.drop_eq_nil_of_le (by omega)] at hdk
              cases hdk
            have hrk : rnAt l k = (z, m) := by
              have h5 : ((runsG l).drop k)[0]? = some (z, m) := by rw [hdk]; rfl
              rw [List.getElem?_drop] at h5
              unfold rnAt
              rw [show k = k + 0 from rfl, h5]
              rfl
            have hdk1 : (runsG l).drop (k + 1) = runsG (l.drop (j + m)) := by
              rw [← List.drop_drop, hdk]
              rfl
            have HD1 := Lib.hid hdk1
            obtain ⟨fn, tmps, assign, body, hfy, hR⟩ := hY (List.range k) k wr.drew HJ2.out (by simpa using hk2)
            unfold rnV at hfy
            rw [idx_of hk2, hrk] at hfy
            clear hmax hrun hdk hrk hdk1
            gi_wp2
            gi_region
            gi_wp2
            refine ⟨fun h => (by cases h), ?_⟩
            refine hR.mono ?_
            rintro e W3 (⟨rfl, hJ3, hk3⟩ | ⟨rfl, hJx3⟩)
            · have G1 := Lib.hid (hk3.blk1 H12.out)
              have G2 := Lib.hid (H22.out.keepb hk3.2)
              have HJ3 := Lib.hid hJ3
              clear hJ3 hk3
              gi_wp2
              refine ⟨⟨k + 1, j + m, hm2, by go_num, hk2, HD1.out, by rw [List.range_succ]; exact HJ3.out, G1.out, G2.out⟩, by simp [RowKit.intOf]; omega⟩
            · gi_wp2
              refine bodyPost_ret (results_none rfl _ _ _) rfl ?_
              exact ⟨⟨_, rfl⟩, .inr ⟨_, trivial, hJx3⟩⟩
        · have b1 : decide (((j : Int) + (m : Int)) < (l.length : Int)) = false := decide_eq_false (by omega)
          have hmax : m = (l.drop j).length ∨ (l.drop j)[m]? ≠ some (z + (m : Int)) := by
            rw [List.length_drop, List.getElem?_drop]
            left
            omega
          have hrun : runsG (l.drop j) = (z, m) :: runsG (l.drop (j + m)) := by
            have := runsG_run m (l.drop j) z (by rw [List.getElem?_drop]; simpa using hz) hm1 (by rw [List.length_drop]; omega) (fun i hi => by rw [List.getElem?_drop]; exact HALL.out i hi) hmax
            rw [List.drop_drop] at this
            exact this
          have hdk := HD.out.trans hrun
          have hk2 : k < (runsG l).length := by
            apply Classical.byContradiction
            intro hn
            rw [List.drop_eq_nil_of_le (by omega)] at hdk
            cases hdk
          have hrk : rnAt l k = (z, m) := by
            have h5 : ((runsG l).drop k)[0]? = some (z, m) := by rw [hdk]; rfl
            rw [List.getElem?_drop] at h5
            unfold rnAt
            rw [show k = k + 0 from rfl, h5]
            rfl
          have hdk1 : (runsG l).drop (k + 1) = runsG (l.drop (j + m)) := by
            rw [← List.drop_drop, hdk]
            rfl
          have HD1 := Lib.hid hdk1
          have HRK := Lib.hid hrk
          clear hmax hrun hdk hrk hdk1
          have b1n : decide (j + m < l.length) = false := decide_eq_false hend
          gi_wp2
          refine wpIn_wide.2 ?_
          go_quiet (fail)
          obtain ⟨fn, tmps, assign, body, hfy, hR⟩ := hY (List.range k) k (wr.drewN nq) (hab _ _ nq HJ0.out) (by simpa using hk2)
          unfold rnV at hfy
          rw [idx_of hk2, HRK.out] at hfy
          gi_wp2
          refine ⟨fun h => (by cases h), ?_⟩
          refine hR.mono ?_
          rintro e W3 (⟨rfl, hJ3, hk3⟩ | ⟨rfl, hJx3⟩)
          · have G1 := Lib.hid (hk3.blk1 (H12.out.drewN nq))
            have G2 := Lib.hid ((H22.out.drewN nq).keepb hk3.2)
            have HJ3 := Lib.hid hJ3
            clear hJ3 hk3
            gi_wp2
            refine ⟨⟨k + 1, j + m, hm2, by go_num, hk2, HD1.out, by rw [List.range_succ]; exact HJ3.out, G1.out, G2.out⟩, by simp [RowKit.intOf]; omega⟩
          · gi_wp2
            refine bodyPost_ret (results_none rfl _ _ _) rfl ?_
            exact ⟨⟨_, rfl⟩, .inr ⟨_, trivial, hJx3⟩⟩
    · gi_wp2
      go_end0
      have hkN : k = (runsG l).length := by
        have := HD.out
        rw [List.drop_eq_nil_of_le (by omega : l.length ≤ j)] at this
        have := List.drop_eq_nil_iff.1 this
        omega
      exact ⟨⟨_, rfl⟩, .inl ⟨_, rfl, hkN ▸ HJ.out⟩⟩

theorem runs2_stops (G b c : Nat) (A : Option Addr) (l : List Int) (hN : isN l) (hA : 0 < l.length → A = some ⟨b, 0, none⟩) (hc : l.length ≤ c) (w : World) (hs : Blk w G 40 #[.slice A l.length c]) (hr : Rd w A (l.map (Value.int .i64))) :
    SeqStopsK Fence.wide 9 Try.prog 66 #[.pointer (some ⟨G, 0, none⟩)] (rnV l) (Two G b) (fun ys => ys = List.range (runsG l).length) (fun _ => True) (runsG l).length w := fun ly J Jx W hW hab _ hY h0 =>
  runs2_in 9 ly G b c A l hN hA hc J Jx (fun pre W1 n h => hab pre W1 (W1.drewN n) none h ⟨rfl, rfl, rfl, Nat.le_refl _, fun _ _ _ => rfl⟩ (fun r e => by cases e)) hY W (hs.keep hW) (hr.below hW) h0
/-- The iterator of no image. -/
theorem runs1_stops (w : World) (Kp : World → World → Prop) : SeqStopsK Fence.wide 9 Try.prog 64 #[] (rnV []) Kp (fun ys => ys = ([] : List Nat)) (fun _ => True) 0 w := fun ly J Jx W hW hab _ hY h0 => by
  refine callsIn_of_wp Try.func64 rfl trivial ?_ rfl
  simp only [Try.ntmps64, List.size_toArray, List.length_cons, List.length_nil, Nat.reduceAdd, Nat.reduceSub, Array.replicate_succ, Array.replicate_zero, List.push_toArray, List.append_toArray, List.nil_append, List.cons_append]
  gi_wp2
  go_end0
  exact ⟨⟨_, rfl⟩, .inl ⟨_, rfl, h0⟩⟩
section
variable {w : World} {g B : Nat} {L : List (List Int)} {D : DataW Unit} {M : Nat → Prop}
theorem nums_isN (h : ImgOk L) : isN (nums L) := by
  refine ⟨fun z hz => ?_, ?_⟩
  · obtain ⟨i, rfl, hi, _⟩ := (numsTo_mem L z _).1 hz
    have := h.hi
    omega
  · rw [nums_length]
    exact Nat.le_trans (used_le L) h.hi
/-- What Runs hands back. -/
def RetRuns (w : World) (l : List Int) (e : Ending) (w' : World) : Prop := ∃ A c G b, e = .returned (.func (.func 66) #[] #[.pointer (some ⟨G, 0, none⟩)]) ∧ w.heap.size ≤ G ∧ (0 < l.length → A = some ⟨b, 0, none⟩) ∧ w.heap.size ≤ b ∧ b < w'.heap.size ∧ l.length ≤ c ∧ Blk w' G 40 #[.slice A l.length c] ∧ Rd w' A (l.map (Value.int .i64)) ∧ Below w.heap.size w w'
theorem runs_any (h : IsImg w g L B D M) : Calls Try.prog 40 #[.pointer (some ⟨g, 0, none⟩)] w (RetRuns w (nums L)) := by
  have HH := Lib.hid h
  clear h
  go_enter Try.func40, Try.ntmps40
  go_wp2_with (first
    | (go_at_call 65; (with_reducible refine (numbers_any HH.out).mono ?_); rintro e w1 ⟨A, c, rfl, ho, hb⟩; have HO := Lib.hid ho; have HB := Lib.hid hb; clear ho hb))
  go_ret
  have hr := (Rd.of_own HO.out).below (bl_alloc w1 (.cells #[.slice A (nums L).length c] 40))
  have hbl := HB.out.size
  rcases HO.out.2 with ⟨h1, hz⟩ | ⟨b, cap, cur, hv, hb, hh, hcap, _⟩
  · injection h1 with h1 h2 h3
    refine ⟨A, c, w1.heap.size, w1.heap.size, rfl, hbl, fun h => by omega, hbl, by simp, by omega, Blk.new _ _ _, hr, bl_chain HB.out (bl_alloc _ _)⟩
  · injection hv with h1 h2 h3
    have hlt := (Array.getElem?_eq_some_iff.1 hh).1
    exact ⟨A, c, w1.heap.size, b, rfl, hbl, fun h => h1, hb, by simp; omega, by omega, Blk.new _ _ _, hr, bl_chain HB.out (bl_alloc _ _)⟩
theorem runs_nil (w : World) : Calls Try.prog 40 #[.pointer none] w fun e w' => e = .returned (.func (.func 64) #[] #[]) ∧ w = w' := by
  go_enter Try.func40, Try.ntmps40
  go_wp2_with fail
  go_ret
  exact ⟨rfl, rfl⟩
end
end Go.Proofs.Ytdddbpnllhnfdaa
