/- Layer 4: a record more, in a new segment: the log is fresh. -/
import Derived.Test.YtceajiliahmkaaaWalM
namespace Go.Proofs.Ytceajiliahmkaaa
set_option linter.unusedVariables false
set_option linter.unusedSimpArgs false
set_option maxRecDepth 100000
open Go.RowKit

section
variable {w w' : World} {p d : Nat} {x : LG} {A Ab : Option Addr} {c cb : Nat} {D : DS} {M R F : Nat → Prop} {b : List Int}
theorem writeD_n (D : DS) (a : Int) (l : List Int) : (writeD D a l).n = D.n := by
  unfold writeD
  split
  · rfl
  · split <;> rfl
theorem writeD_gs (D : DS) (a : Int) (l : List Int) : (writeD D a l).gs.length ≤ D.gs.length + 1 := by
  unfold writeD
  split
  · omega
  · split
    · omega
    · show (D.gs ++ [_]).length ≤ _
      simp
def LG.appN (x : LG) (D : DS) (b : List Int) : AppR := if x.begE D = 0 then (x.begX D).app1 (x.begD D) b else ⟨x.begX D, x.begD D, 0, x.begE D⟩
theorem LG.beg_ok (h : x.begE D = 0) : x.begX D = { x with chain := x.chain ++ [x.newS], at_ := 1, fresh := false } ∧ x.begD D = writeD D x.begAt x.begL := by
  unfold LG.begE at h
  unfold LG.begX LG.begD
  split at h
  · cases h
  · rename_i hn
    rw [if_neg hn, if_neg hn, if_pos h]
    exact ⟨rfl, rfl⟩
theorem LG.begD_n : (x.begD D).n = D.n := by
  unfold LG.begD
  split
  · rfl
  · exact writeD_n _ _ _
theorem LG.begD_gs : (x.begD D).gs.length ≤ D.gs.length + 1 := by
  unfold LG.begD
  split
  · omega
  · exact writeD_gs _ _ _
theorem bl_drewN_size (w : World) (n : Nat) : (w.drewN n).heap.size = w.heap.size := by simp
set_option maxHeartbeats 12800000 in
theorem append_new (h : LgAt w p d x A c D M R) (hg : x.Geo D.n) (hs : x.Small) (hdd : x.dead = false) (hbig : ¬ x.big b) (hfr : x.fresh = true) (hrb : Rd w Ab (by8 b)) (hbB : isB b) (hbd : ∀ q, Blo Ab q → ¬ M q ∧ q ≠ p ∧ ¬ Blo A q) (hfew : D.gs.length < 999990) :
    Calls Try.prog 8 #[.pointer (some ⟨p, 0, none⟩), .slice Ab b.length cb] w (RetApp w p d M R A (x.appN D b)) := by
  have HH := Lib.hid h
  have hplt := h.lg.lt
  have HST := Lib.hid (state_any h.lg)
  rw [show stateE x = 0 from if_neg (by rw [hdd]; simp)] at HST
  have hp2 := hg.p2
  have hp64 := hg.p64
  obtain ⟨n, hn⟩ : ∃ n, b.length = n := ⟨_, rfl⟩
  obtain ⟨k, hk⟩ : ∃ k, takesN n = k := ⟨_, rfl⟩
  obtain ⟨P, hP⟩ : ∃ P, x.per = P := ⟨_, rfl⟩
  have hn4 : n ≤ 4096 := by rw [← hn]; exact Nat.le_of_not_lt (fun e => hbig (.inl e))
  have hkP : ¬ P - 1 < k := fun e => hbig (.inr (by rw [hn, hk, hP]; exact e))
  have HTK := Lib.hid (fun (W : World) => takes_any n (by omega) W)
  rw [hk] at HTK
  have c3 := h.lg.cell 3
  have c11 := h.lg.cell 11
  have c10 := h.lg.cell 10
  simp [lgCells] at c3 c11 c10
  rw [hfr] at c11
  rw [hP] at c3 hp2 hp64
  have b1 : decide (4096 < n) = false := decide_eq_false (by omega)
  have b2 : decide ((P : Int) - 1 < (k : Int)) = false := decide_eq_false (by omega)
  obtain ⟨at0, hat0⟩ : ∃ P, x.at_ = P := ⟨_, rfl⟩
  rw [hat0] at c10
  have HBG : Hid (∀ V, Below w.heap.size w V → Calls Try.prog 35 #[.pointer (some ⟨p, 0, none⟩)] V (RetLg V p d M R A (x.begX D) (x.begD D) (.int .i64 (x.begE D)))) := Lib.hid (fun V hV => begin_any (h.below hV) hg hs.last hs.next hs.epoch (by omega))
  have HRB := Lib.hid hrb
  have HBD := Lib.hid hbd
  have ha100 : at0 ≤ 100 := hat0 ▸ hs.at_
  by_cases hbe : x.begE D = 0
  · have HRN : Hid (x.appN D b = (x.begX D).app1 (x.begD D) b) := Lib.hid (if_pos hbe)
    obtain ⟨hbx, _⟩ := LG.beg_ok hbe
    obtain ⟨y, hy⟩ : ∃ y, x.begX D = y := ⟨_, rfl⟩
    obtain ⟨D1, hD1⟩ : ∃ y, x.begD D = y := ⟨_, rfl⟩
    have hyv := hy.symm.trans hbx
    have hD1n : D1.n = D.n := by rw [← hD1]; exact LG.begD_n
    have hD1g : D1.gs.length < 1000000 := by rw [← hD1]; have := LG.begD_gs (x := x) (D := D); omega
    rw [hbe, hy, hD1] at HBG
    rw [hy, hD1] at HRN
    obtain ⟨m, hm0⟩ : ∃ m, x.chain.length = m := ⟨_, rfl⟩
    have hm : y.chain.length = m + 1 := by rw [hyv]; simp [hm0]
    have hml : m < y.chain.length := by rw [hm]; omega
    have hym : y.chain[m] = x.newS := by
      subst hyv
      simp [hm0.symm]
    have hlast : y.chain.getLast? = some x.newS := by rw [hyv]; simp
    obtain ⟨sl, hsl⟩ : ∃ q, y.lastL = q := ⟨_, rfl⟩
    obtain ⟨se, hse⟩ : ∃ q, y.lastE = q := ⟨_, rfl⟩
    obtain ⟨sf, hsf⟩ : ∃ q, x.newS.first = q := ⟨_, rfl⟩
    have hsl2 : x.newS.life = sl := by rw [← hsl]; unfold LG.lastL; rw [hlast]
    have hse2 : x.newS.epoch = se := by rw [← hse]; unfold LG.lastE; rw [hlast]
    have hs1 : sl = x.lastL + 1 := by rw [← hsl2]; rfl
    have hs2 : se = x.epoch := by rw [← hse2]; rfl
    obtain ⟨s1, s2, s3, s4, s5, _, _⟩ := hs
    obtain ⟨nx, hnx⟩ : ∃ q, y.next = q := ⟨_, rfl⟩
    have hnx2 : nx = x.next := by rw [← hnx, hyv]
    rw [← hnx2] at s2
    rw [← hs2] at s3
    have h1 : 1 ≤ sl ∧ sl ≤ 2000000000000000001 := by omega
    obtain ⟨at_, hat⟩ : ∃ q, y.at_ = q := ⟨_, rfl⟩
    have hat1 : at_ = 1 := by rw [← hat, hyv]
    have hat5 : at_ ≤ 100 := by omega
    have hgy : y.Geo D1.n := by rw [hD1n, hyv]; exact ⟨hg.s2, hg.s64, hg.p2, hg.p64, hg.fit, hg.big⟩
    have HG := Lib.hid hgy
    have HHM := Lib.hid (And.intro hml hym)
    have HHS := Lib.hid (And.intro hsl2 (And.intro hsf hse2))
    have HMM := Lib.hid hm
    obtain ⟨a, ha⟩ : ∃ a, y.recAt = a := ⟨_, rfl⟩
    obtain ⟨l, hl⟩ : ∃ l, y.recN b = l := ⟨_, rfl⟩
    have HR1 : Hid (x.appN D b = if writeE D1 a l = 0 then ⟨{ y with at_ := at_ + k, next := nx + 1 }, writeD D1 a l, nx, 0⟩ else ⟨{ y with dead := true }, writeD D1 a l, 0, writeE D1 a l⟩) := Lib.hid (by
      rw [HRN.out]
      unfold LG.app1
      rw [ha, hl, hat, hnx, hn, hk])
    obtain ⟨pl, hpl⟩ : ∃ pl, y.place (sl - 1).toNat = pl := ⟨_, rfl⟩
    have HPP := Lib.hid hpl
    have HAA : Hid ((pl : Int) + (at_ : Int) = (a : Int)) := Lib.hid (by rw [← ha]; unfold LG.recAt; rw [hsl, hpl, hat]; simp)
    have hplb : pl ≤ 4096 := by have := hgy.place (sl - 1).toNat; have := hgy.big; omega
    have HWA : Hid (IntKind.i64.wrap (a : Int) = (a : Int)) := Lib.hid (by rw [IntKind.wrap_i64]; have := HAA.out; omega)
    have HNX := Lib.hid hnx
    have HAT := Lib.hid hat
    obtain ⟨bb, hbb⟩ : ∃ bb, be 4 (n : Int) ++ b = bb := ⟨_, rfl⟩
    have HBL : Hid ((by8 b).length = n * 1) := Lib.hid (by rw [by8_length, hn, Nat.mul_one])
    have HBBV : Hid (by8 (be 4 (n : Int)) ++ by8 b = by8 bb) := Lib.hid (by rw [← hbb, by8_append])
    have hbbl : bb.length = n + 4 := by rw [← hbb, List.length_append, be_length, hn]; omega
    have hlv : l = sealL (n8 [sl, nx, se] ++ bb) := by rw [← hl]; unfold LG.recN; rw [hsl, hnx, hse, hn, hbb]
    have hll : l.length = n + 32 := by rw [hlv, sealL_length, List.length_append, n8_length, hbbl]; simp; omega
    have HLL := Lib.hid hll
    have HSEA : Hid (∀ (W : World) (A : Option Addr) (c T : Nat), Rd W A (by8 bb) → Blk W T 2 #[.int .i64 sl, .int .i64 nx, .int .i64 se] → Calls Try.prog 41 #[.slice A (n + 4) c, .slice (some ⟨T, 0, none⟩) 3 3] W fun e w' => ∃ A' c', e = .returned (.slice A' (n + 32) c') ∧ n + 32 ≤ c' ∧ w'.ownsRow W.heap.size 5 1 (.slice A' (n + 32) c') (n + 32) (by8 l) ∧ Below W.heap.size W w') := Lib.hid (by
      intro W A c T hr hT
      have h := wsealed_any A c bb (some ⟨T, 0, none⟩) 3 [sl, nx, se] W hr (hbb ▸ (be_isB _ _).append hbB) (by omega) hT.rd (by simp) (by
        intro n hn
        simp only [List.mem_cons, List.mem_nil_iff, or_false] at hn
        rcases hn with rfl | rfl | rfl <;> omega)
      rw [← hlv, hll, hbbl] at h
      exact h)
    have HWRT : Hid (∀ (W : World) (A : Option Addr) (c : Nat) (M' R' : Nat → Prop), IsDisk W d D1 M' R' → Rd W A (by8 l) → Calls Try.prog 39 #[.pointer (some ⟨d, 0, none⟩), .int .i64 (a : Int), .slice A (n + 32) c] W (RetW W d M' R' (writeD D1 a l) (writeE D1 a l))) := Lib.hid (by
      intro W A c M' R' hd hr
      have h := write_any A c l (a : Int) hd hr (hlv ▸ sealL_isB ((n8_isB _).append (hbb ▸ (be_isB _ _).append hbB))) (by omega) hD1g (by have := HAA.out; omega)
      rw [hll] at h
      exact h)
    rw [hn]
    clear h hn hg hP hat hnx hfr hbig hlast hsl hse hsf hrb hbd hl hpl hbb hbbl hlv hll ha hbx hy hD1 hyv hD1n hm0 hm hym hgy HRN hs1 hs2 hnx2 hat1 hsl2 hse2
    go_enter Try.func8, Try.ntmps8
    go_wp2_with (first
      | (go_at_call 33; (with_reducible refine HST.out.mono ?_); rintro e w1 ⟨rfl, rfl⟩)
      | (go_at_call 34; (with_reducible refine (HTK.out _).mono ?_); rintro e w1 ⟨rfl, rfl⟩))
    go_quiet (fail)
    go_wp2_with (first
      | (go_at_call 35; (with_reducible refine (HBG.out _ (bl_drewN _ _)).mono ?_); rintro e V ⟨A1, c1, M1, R1, rfl, hl1, ha1, hm1, hr1, ht1⟩; rw [bl_drewN_size] at ha1 hm1 hr1; have HLV := Lib.hid hl1; have HTV := Lib.hid ((Tr.of_below (F := fun q => M q ∨ q = p ∨ Blo A q) (bl_drewN w _)).trans ht1 (fun q _ e => e)); have HMV := Lib.hid hm1; have HRV := Lib.hid hr1; have HAV := Lib.hid ha1; clear hl1 ha1 hm1 hr1 ht1))
    obtain ⟨g, off, hA, hgl, e0, e1, e2⟩ := HLV.out.row.at_ m HHM.out.1
    rw [HHM.out.2, HHS.out.1] at e0
    rw [HHM.out.2, HHS.out.2.1] at e1
    rw [HHM.out.2, HHS.out.2.2] at e2
    have hplv := HLV.out.lg.lt
    have c8 := HLV.out.lg.cell 8
    simp [lgCells] at c8
    rw [HMM.out] at c8
    have hmb : m + 1 ≤ 9223372036854775807 := by
      have h1 := HLV.out.row.le
      have h2 := HLV.out.row.cap
      rw [HMM.out] at h1
      simp only [maxLen] at h2
      omega
    have wm : IntKind.i64.wrap (m : Int) = (m : Int) := by rw [IntKind.wrap_i64]; omega
    subst hA
    have HRBV := Lib.hid (HRB.out.tr HTV.out (fun ad e => by
      have hq := HBD.out ad.block (by rw [e]; exact (Blo.some_iff _ _).2 rfl)
      exact fun h => h.elim hq.1 (fun h => h.elim hq.2.1 hq.2.2)))
    have HSM : Hid (¬ M1 V.heap.size) := Lib.hid (fun e => by have := HLV.out.dk.mlt _ e; omega)
    go_region
    go_wp2_with fail
    have hwb := bl_chain (bl_alloc V (.cells #[.int .i64 sl, .int .i64 sf, .int .i64 se] 71)) (bl_drew _)
    have hsg := (Blk.new V 71 #[.int .i64 sl, .int .i64 sf, .int .i64 se]).drew
    have HWB := Lib.hid hwb
    have HSG := Lib.hid hsg
    clear hwb hsg c8 e0 e1 e2
    generalize (V.alloc (.cells #[.int .i64 sl, .int .i64 sf, .int .i64 se] 71)).drew = W2 at HWB HSG ⊢
    go_wp2_with (first
      | (go_at_call 36; (with_reducible refine (newWriter_any _).mono ?_); rintro e w3 ⟨rfl, hw3, hb3⟩; have HW3 := Lib.hid hw3; have HB3 := Lib.hid hb3; have hz3 := hb3.size; clear hw3 hb3)
      | (go_at_call 37; (with_reducible refine (num4 W2.heap.size W2.heap.size [] (n : Int) _ hz3 HW3.out (by simp) (by omega) (by omega)).mono ?_); rintro e w4 ⟨rfl, hw4, hb4⟩; have HW4 := Lib.hid hw4; have HB4 := Lib.hid (HB3.out.trans hb4); clear hw4 hb4)
      | (go_at_call 38; (with_reducible refine (end_any W2.heap.size W2.heap.size ([] ++ be 4 (n : Int)) _ HW4.out (by simp [be_length])).mono ?_); rintro e w5 ⟨A5, c5, rfl, hc5, ho5, hb5⟩; have HB5 := Lib.hid (bl_chain HB4.out hb5); have HO5 : Hid (w5.ownsRow W2.heap.size 5 1 (.slice A5 4 c5) 4 (by8 (be 4 (n : Int)))) := Lib.hid (ownsRow_base ho5 HB4.out.size); clear ho5 hb5))
    have HL2 := Lib.hid (HLV.out.below HWB.out)
    have HS2 : Hid (W2.cell? ⟨p, 0, none⟩ = some (.pointer (some ⟨d, 0, none⟩)) ∧ W2.cell? ⟨p, 10, none⟩ = some (.int .i64 (at_ : Int)) ∧ W2.cell? ⟨p, 9, none⟩ = some (.int .i64 nx) ∧ W2.cell? ⟨V.heap.size, 0, none⟩ = some (.int .i64 sl) ∧ W2.cell? ⟨V.heap.size, 2, none⟩ = some (.int .i64 se)) := Lib.hid ⟨HL2.out.lg.cell 0, (HL2.out.lg.cell 10).trans (by rw [← HAT.out]; rfl), (HL2.out.lg.cell 9).trans (by rw [← HNX.out]; rfl), HSG.out.cell 0, HSG.out.cell 2⟩
    have HSS : Hid (w5.cell? ⟨p, 0, none⟩ = some (.pointer (some ⟨d, 0, none⟩)) ∧ w5.cell? ⟨p, 10, none⟩ = some (.int .i64 (at_ : Int)) ∧ w5.cell? ⟨p, 9, none⟩ = some (.int .i64 nx) ∧ w5.cell? ⟨V.heap.size, 0, none⟩ = some (.int .i64 sl) ∧ w5.cell? ⟨V.heap.size, 2, none⟩ = some (.int .i64 se)) := Lib.hid ⟨(HB5.out.cell (cell_block_lt HS2.out.1)).trans HS2.out.1, (HB5.out.cell (cell_block_lt HS2.out.2.1)).trans HS2.out.2.1, (HB5.out.cell (cell_block_lt HS2.out.2.2.1)).trans HS2.out.2.2.1, (HB5.out.cell (cell_block_lt HS2.out.2.2.2.1)).trans HS2.out.2.2.2.1, (HB5.out.cell (cell_block_lt HS2.out.2.2.2.2)).trans HS2.out.2.2.2.2⟩
    have HPL : Hid (∀ V', Below W2.heap.size W2 V' → Calls Try.prog 40 #[.pointer (some ⟨p, 0, none⟩), .int .i64 sl] V' fun e w' => e = .returned (.int .i64 (pl : Int)) ∧ Below V'.heap.size V' w') := Lib.hid (fun V' hV => by
      have h := place_any (HL2.out.below hV).lg HG.out (sl - 1).toNat sl (by omega) (by omega)
      rw [HPP.out] at h
      exact h)
    have HOAPP : Hid (∀ q, Blo A5 q → W2.heap.size ≤ q) := Lib.hid (own_ge HO5.out)
    have HOLT : Hid (∀ q, Blo A5 q → q < w5.heap.size) := Lib.hid (own_lt HO5.out)
    refine held_startB (S := fun W => W.cell? ⟨p, 0, none⟩ = some (.pointer (some ⟨d, 0, none⟩)) ∧ W.cell? ⟨p, 10, none⟩ = some (.int .i64 (at_ : Int)) ∧ W.cell? ⟨p, 9, none⟩ = some (.int .i64 nx) ∧ W.cell? ⟨V.heap.size, 0, none⟩ = some (.int .i64 sl) ∧ W.cell? ⟨V.heap.size, 2, none⟩ = some (.int .i64 se)) (by kernel_rfl) ?_
    refine held_take (HSS.out) (i := 0) (v := ?_) rfl (by kernel_rfl) (by kernel_rfl) (by kernel_rfl) (fun _ _ _ h => h) (Or.inl ⟨by rfl, ?_⟩) ?_
    rotate_left
    · (intro W hSw; obtain ⟨s1, s2, s3, s4, s5⟩ := hSw; go_simp; try with_reducible rfl)
    try simp only [Act.put, List.setIfInBounds_toArray, List.set_cons_zero, List.set_cons_succ]
    refine held_take (HSS.out) (i := 1) (v := ?_) rfl (by kernel_rfl) (by kernel_rfl) (by kernel_rfl) (fun _ _ _ h => h) (Or.inl ⟨by rfl, ?_⟩) ?_
    rotate_left
    · (intro W hSw; obtain ⟨s1, s2, s3, s4, s5⟩ := hSw; go_simp; try with_reducible rfl)
    try simp only [Act.put, List.setIfInBounds_toArray, List.set_cons_zero, List.set_cons_succ]
    refine held_take (HSS.out) (i := 2) (v := ?_) rfl (by kernel_rfl) (by kernel_rfl) (by kernel_rfl) (fun _ _ _ h => h) (Or.inl ⟨by rfl, ?_⟩) ?_
    rotate_left
    · (intro W hSw; obtain ⟨s1, s2, s3, s4, s5⟩ := hSw; go_simp; try with_reducible rfl)
    try simp only [Act.put, List.setIfInBounds_toArray, List.set_cons_zero, List.set_cons_succ]
    refine held_take (HSS.out) (i := 3) (v := ?_) rfl (by kernel_rfl) (by kernel_rfl) (by kernel_rfl) (fun _ _ _ h => h) (Or.inl ⟨by rfl, ?_⟩) ?_
    rotate_left
    · (intro W hSw; obtain ⟨s1, s2, s3, s4, s5⟩ := hSw; go_simp; try with_reducible rfl)
    try simp only [Act.put, List.setIfInBounds_toArray, List.set_cons_zero, List.set_cons_succ]
    refine held_take (HSS.out) (i := 4) (v := ?_) rfl (by kernel_rfl) (by kernel_rfl) (by kernel_rfl) (fun _ _ _ h => h) (Or.inl ⟨by rfl, ?_⟩) ?_
    rotate_left
    · (intro W hSw; obtain ⟨s1, s2, s3, s4, s5⟩ := hSw; go_simp; try with_reducible rfl)
    try simp only [Act.put, List.setIfInBounds_toArray, List.set_cons_zero, List.set_cons_succ]
    refine held_take (HSS.out) (i := 5) (v := ?_) rfl (by kernel_rfl) (by kernel_rfl) (by kernel_rfl) (fun _ _ _ h => h) (Or.inl ⟨by rfl, ?_⟩) ?_
    rotate_left
    · (intro W hSw; obtain ⟨s1, s2, s3, s4, s5⟩ := hSw; go_simp; try with_reducible rfl)
    try simp only [Act.put, List.setIfInBounds_toArray, List.set_cons_zero, List.set_cons_succ]
    refine held_take (HSS.out) (i := 6) (v := ?_) rfl (by kernel_rfl) (by kernel_rfl) (by kernel_rfl) (fun _ _ _ h => h) (Or.inl ⟨by rfl, ?_⟩) ?_
    rotate_left
    · (intro W hSw; obtain ⟨s1, s2, s3, s4, s5⟩ := hSw; go_simp; try with_reducible rfl)
    try simp only [Act.put, List.setIfInBounds_toArray, List.set_cons_zero, List.set_cons_succ]
    refine held_take (HSS.out) (i := 8) (v := ?_) rfl (by kernel_rfl) (by kernel_rfl) (by kernel_rfl) (fun _ _ _ h => h) (Or.inl ⟨by rfl, ?_⟩) ?_
    rotate_left
    · (intro W hSw; obtain ⟨s1, s2, s3, s4, s5⟩ := hSw; go_simp; try with_reducible rfl)
    try simp only [Act.put, List.setIfInBounds_toArray, List.set_cons_zero, List.set_cons_succ]
    refine held_take (HSS.out) (i := 9) (v := ?_) rfl (by kernel_rfl) (by kernel_rfl) (by kernel_rfl) (fun _ _ _ h => h) (Or.inl ⟨by rfl, ?_⟩) ?_
    rotate_left
    · (intro W hSw; obtain ⟨s1, s2, s3, s4, s5⟩ := hSw; go_simp; try with_reducible rfl)
    try simp only [Act.put, List.setIfInBounds_toArray, List.set_cons_zero, List.set_cons_succ]
    refine held_take (HSS.out) (i := 10) (v := ?_) rfl (by kernel_rfl) (by kernel_rfl) (by kernel_rfl) (fun _ _ _ h => h) (Or.inl ⟨by rfl, ?_⟩) ?_
    rotate_left
    · (intro W hSw; obtain ⟨s1, s2, s3, s4, s5⟩ := hSw; go_simp; try with_reducible rfl)
    try simp only [Act.put, List.setIfInBounds_toArray, List.set_cons_zero, List.set_cons_succ]
    refine held_take (HSS.out) (i := 11) (v := ?_) rfl (by kernel_rfl) (by kernel_rfl) (by kernel_rfl) (fun _ _ _ h => h) (Or.inl ⟨by rfl, ?_⟩) ?_
    rotate_left
    · (intro W hSw; obtain ⟨s1, s2, s3, s4, s5⟩ := hSw; go_simp; try with_reducible rfl)
    try simp only [Act.put, List.setIfInBounds_toArray, List.set_cons_zero, List.set_cons_succ]
    refine held_take (HSS.out) (i := 13) (v := ?_) rfl (by kernel_rfl) (by kernel_rfl) (by kernel_rfl) (fun _ _ _ h => h) (Or.inl ⟨by rfl, ?_⟩) ?_
    rotate_left
    · (intro W hSw; obtain ⟨s1, s2, s3, s4, s5⟩ := hSw; go_simp; try with_reducible rfl)
    try simp only [Act.put, List.setIfInBounds_toArray, List.set_cons_zero, List.set_cons_succ]
    refine held_take (HSS.out) (i := 14) (v := ?_) rfl (by kernel_rfl) (by kernel_rfl) (by kernel_rfl) (fun _ _ _ h => h) (Or.inl ⟨by rfl, ?_⟩) ?_
    rotate_left
    · (intro W hSw; obtain ⟨s1, s2, s3, s4, s5⟩ := hSw; go_simp; try with_reducible rfl)
    try simp only [Act.put, List.setIfInBounds_toArray, List.set_cons_zero, List.set_cons_succ]
    refine held_take (HSS.out) (i := 16) (v := ?_) rfl (by kernel_rfl) (by kernel_rfl) (by kernel_rfl) (fun _ _ _ h => h) (Or.inl ⟨by rfl, ?_⟩) ?_
    rotate_left
    · (intro W hSw; obtain ⟨s1, s2, s3, s4, s5⟩ := hSw; go_simp; try with_reducible rfl)
    try simp only [Act.put, List.setIfInBounds_toArray, List.set_cons_zero, List.set_cons_succ]
    refine held_take (HSS.out) (i := 17) (v := ?_) rfl (by kernel_rfl) (by kernel_rfl) (by kernel_rfl) (fun _ _ _ h => h) (Or.inl ⟨by rfl, ?_⟩) ?_
    rotate_left
    · (intro W hSw; obtain ⟨s1, s2, s3, s4, s5⟩ := hSw; go_simp; try with_reducible rfl)
    try simp only [Act.put, List.setIfInBounds_toArray, List.set_cons_zero, List.set_cons_succ]
    refine held_take (HSS.out) (i := 18) (v := ?_) rfl (by kernel_rfl) (by kernel_rfl) (by kernel_rfl) (fun _ _ _ h => h) (Or.inl ⟨by rfl, ?_⟩) ?_
    rotate_left
    · (intro W hSw; obtain ⟨s1, s2, s3, s4, s5⟩ := hSw; go_simp; try with_reducible rfl)
    try simp only [Act.put, List.setIfInBounds_toArray, List.set_cons_zero, List.set_cons_succ]
    refine held_take (HSS.out) (i := 19) (v := ?_) rfl (by kernel_rfl) (by kernel_rfl) (by kernel_rfl) (fun _ _ _ h => h) (Or.inl ⟨by rfl, ?_⟩) ?_
    rotate_left
    · (intro W hSw; obtain ⟨s1, s2, s3, s4, s5⟩ := hSw; go_simp; try with_reducible rfl)
    try simp only [Act.put, List.setIfInBounds_toArray, List.set_cons_zero, List.set_cons_succ]
    refine held_take (HSS.out) (i := 20) (v := ?_) rfl (by kernel_rfl) (by kernel_rfl) (by kernel_rfl) (fun _ _ _ h => h) (Or.inl ⟨by rfl, ?_⟩) ?_
    rotate_left
    · (intro W hSw; obtain ⟨s1, s2, s3, s4, s5⟩ := hSw; go_simp; try with_reducible rfl)
    try simp only [Act.put, List.setIfInBounds_toArray, List.set_cons_zero, List.set_cons_succ]
    refine held_take (HSS.out) (i := 21) (v := ?_) rfl (by kernel_rfl) (by kernel_rfl) (by kernel_rfl) (fun _ _ _ h => h) (Or.inl ⟨by rfl, ?_⟩) ?_
    rotate_left
    · (intro W hSw; obtain ⟨s1, s2, s3, s4, s5⟩ := hSw; go_simp; try with_reducible rfl)
    try simp only [Act.put, List.setIfInBounds_toArray, List.set_cons_zero, List.set_cons_succ]
    refine held_take (HSS.out) (i := 22) (v := ?_) rfl (by kernel_rfl) (by kernel_rfl) (by kernel_rfl) (fun _ _ _ h => h) (Or.inl ⟨by rfl, ?_⟩) ?_
    rotate_left
    · (intro W hSw; obtain ⟨s1, s2, s3, s4, s5⟩ := hSw; go_simp; try with_reducible rfl)
    try simp only [Act.put, List.setIfInBounds_toArray, List.set_cons_zero, List.set_cons_succ]
    refine held_take (HSS.out) (i := 23) (v := ?_) rfl (by kernel_rfl) (by kernel_rfl) (by kernel_rfl) (fun _ _ _ h => h) (Or.inl ⟨by rfl, ?_⟩) ?_
    rotate_left
    · (intro W hSw; obtain ⟨s1, s2, s3, s4, s5⟩ := hSw; go_simp; try with_reducible rfl)
    try simp only [Act.put, List.setIfInBounds_toArray, List.set_cons_zero, List.set_cons_succ]
    refine held_call2 (i := 7) (j := 24) (by kernel_rfl) rfl rfl (fun K hK => ?_) (fun K hK => ?_)
    ·
      go_simp
      (go_at_call 40; (with_reducible refine (HPL.out _ (bl_chain HB5.out (bl_drew w5))).mono ?_); rintro e w6 ⟨rfl, hb6⟩; have HB56 := Lib.hid (bl_chain (bl_drew w5) hb6); have HB6 := Lib.hid (bl_chain (bl_chain HB5.out (bl_drew w5)) hb6); have HS6 := Lib.hid (show w6.cell? ⟨p, 0, none⟩ = some (.pointer (some ⟨d, 0, none⟩)) ∧ w6.cell? ⟨p, 10, none⟩ = some (.int .i64 (at_ : Int)) ∧ w6.cell? ⟨p, 9, none⟩ = some (.int .i64 nx) ∧ w6.cell? ⟨V.heap.size, 0, none⟩ = some (.int .i64 sl) ∧ w6.cell? ⟨V.heap.size, 2, none⟩ = some (.int .i64 se) from ⟨(HB6.out.cell (cell_block_lt HS2.out.1)).trans HS2.out.1, (HB6.out.cell (cell_block_lt HS2.out.2.1)).trans HS2.out.2.1, (HB6.out.cell (cell_block_lt HS2.out.2.2.1)).trans HS2.out.2.2.1, (HB6.out.cell (cell_block_lt HS2.out.2.2.2.1)).trans HS2.out.2.2.2.1, (HB6.out.cell (cell_block_lt HS2.out.2.2.2.2)).trans HS2.out.2.2.2.2⟩); clear hb6)
      refine hK.out _ _ (HS6.out) ?_
      clear hK K
      try simp only [Act.put, List.setIfInBounds_toArray, List.set_cons_zero, List.set_cons_succ]
      refine held_take (HS6.out) (i := 12) (v := ?_) rfl (by kernel_rfl) (by kernel_rfl) (by kernel_rfl) (fun _ _ _ h => h) (Or.inl ⟨by rfl, ?_⟩) ?_
      rotate_left
      · (intro W hSw; obtain ⟨s1, s2, s3, s4, s5⟩ := hSw; go_simp; try with_reducible rfl)
      try simp only [Act.put, List.setIfInBounds_toArray, List.set_cons_zero, List.set_cons_succ]
      have HLT6 : Hid (∀ q, Blo A5 q → q < w6.heap.size) := Lib.hid (fun q hq => Nat.lt_of_lt_of_le (HOLT.out q hq) HB56.out.size)
      refine held_call2 (i := 15) (j := 24) (by kernel_rfl) rfl rfl (fun K hK => ?_) (fun K hK => ?_)
      ·
        refine stepR_append E8 rfl rfl (ownsRow_below HO5.out HB56.out) rfl (HRBV.out.below (bl_chain HWB.out HB6.out)) rfl HBL.out (by8_one _) (n + 4) (by8 bb) (Nat.add_comm _ _) HBBV.out (by simp only [maxLen]; omega) (by omega) HB6.out.size ?_
        intro A7 c7 w7 hc7 ho7 ht7 ha7
        have hb7 := bl_tr HB6.out ht7 HOAPP.out
        clear hc7 ha7
        have HT7 := Lib.hid ht7
        have HO7 := Lib.hid ho7
        have HB7 := Lib.hid hb7
        have HS7 := Lib.hid (show w7.cell? ⟨p, 0, none⟩ = some (.pointer (some ⟨d, 0, none⟩)) ∧ w7.cell? ⟨p, 10, none⟩ = some (.int .i64 (at_ : Int)) ∧ w7.cell? ⟨p, 9, none⟩ = some (.int .i64 nx) ∧ w7.cell? ⟨V.heap.size, 0, none⟩ = some (.int .i64 sl) ∧ w7.cell? ⟨V.heap.size, 2, none⟩ = some (.int .i64 se) from ⟨(HB7.out.cell (cell_block_lt HS2.out.1)).trans HS2.out.1, (HB7.out.cell (cell_block_lt HS2.out.2.1)).trans HS2.out.2.1, (HB7.out.cell (cell_block_lt HS2.out.2.2.1)).trans HS2.out.2.2.1, (HB7.out.cell (cell_block_lt HS2.out.2.2.2.1)).trans HS2.out.2.2.2.1, (HB7.out.cell (cell_block_lt HS2.out.2.2.2.2)).trans HS2.out.2.2.2.2⟩)
        clear ho7 hb7 ht7
        refine hK.out _ _ (HS7.out) ?_
        clear hK K
        try simp only [Act.put, List.setIfInBounds_toArray, List.set_cons_zero, List.set_cons_succ]
        have HZ8 := Lib.hid (bl_chain HB7.out (bl_alloc w7 (.cells #[.int .i64 sl, .int .i64 nx, .int .i64 se] 2)))
        have HS8 := Lib.hid (show (w7.alloc (.cells #[.int .i64 sl, .int .i64 nx, .int .i64 se] 2)).cell? ⟨p, 0, none⟩ = some (.pointer (some ⟨d, 0, none⟩)) ∧ (w7.alloc (.cells #[.int .i64 sl, .int .i64 nx, .int .i64 se] 2)).cell? ⟨p, 10, none⟩ = some (.int .i64 (at_ : Int)) ∧ (w7.alloc (.cells #[.int .i64 sl, .int .i64 nx, .int .i64 se] 2)).cell? ⟨p, 9, none⟩ = some (.int .i64 nx) ∧ (w7.alloc (.cells #[.int .i64 sl, .int .i64 nx, .int .i64 se] 2)).cell? ⟨V.heap.size, 0, none⟩ = some (.int .i64 sl) ∧ (w7.alloc (.cells #[.int .i64 sl, .int .i64 nx, .int .i64 se] 2)).cell? ⟨V.heap.size, 2, none⟩ = some (.int .i64 se) from ⟨(HZ8.out.cell (cell_block_lt HS2.out.1)).trans HS2.out.1, (HZ8.out.cell (cell_block_lt HS2.out.2.1)).trans HS2.out.2.1, (HZ8.out.cell (cell_block_lt HS2.out.2.2.1)).trans HS2.out.2.2.1, (HZ8.out.cell (cell_block_lt HS2.out.2.2.2.1)).trans HS2.out.2.2.2.1, (HZ8.out.cell (cell_block_lt HS2.out.2.2.2.2)).trans HS2.out.2.2.2.2⟩)
        refine held_call (i := 24) (by kernel_rfl) rfl (fun K hK => ?_)
        go_simp
        refine hK.out _ _ (HS8.out) ?_
        clear hK K
        try simp only [Act.put, List.setIfInBounds_toArray, List.set_cons_zero, List.set_cons_succ]
        have HAR := Lib.hid (Blk.new w7 2 #[.int .i64 sl, .int .i64 nx, .int .i64 se])
        have HO9 := Lib.hid (ownsRow_below HO7.out (bl_alloc w7 (.cells #[.int .i64 sl, .int .i64 nx, .int .i64 se] 2)))
        have HBW := HZ8
        clear HS8 HZ8
        generalize w7.alloc (.cells #[.int .i64 sl, .int .i64 nx, .int .i64 se] 2) = W9 at HAR HO9 HBW ⊢
        have HL9 := Lib.hid (HL2.out.below HBW.out)
        clear HS7
        refine held_call (i := 25) (by kernel_rfl) rfl (fun K hK => ?_)
        go_simp
        (go_at_call 41; (with_reducible refine (HSEA.out _ _ c7 _ (Rd.of_own HO9.out) HAR.out).mono ?_); rintro e w10 ⟨A10, c10, rfl, hc10, ho10, hb10⟩; have HO10 := Lib.hid ho10; have HB10 := Lib.hid (bl_chain HBW.out hb10); have HL10 := Lib.hid (HL9.out.below hb10); have HS10 := Lib.hid (show w10.cell? ⟨p, 0, none⟩ = some (.pointer (some ⟨d, 0, none⟩)) ∧ w10.cell? ⟨p, 10, none⟩ = some (.int .i64 (at_ : Int)) ∧ w10.cell? ⟨p, 9, none⟩ = some (.int .i64 nx) ∧ w10.cell? ⟨V.heap.size, 0, none⟩ = some (.int .i64 sl) ∧ w10.cell? ⟨V.heap.size, 2, none⟩ = some (.int .i64 se) from ⟨(HB10.out.cell (cell_block_lt HS2.out.1)).trans HS2.out.1, (HB10.out.cell (cell_block_lt HS2.out.2.1)).trans HS2.out.2.1, (HB10.out.cell (cell_block_lt HS2.out.2.2.1)).trans HS2.out.2.2.1, (HB10.out.cell (cell_block_lt HS2.out.2.2.2.1)).trans HS2.out.2.2.2.1, (HB10.out.cell (cell_block_lt HS2.out.2.2.2.2)).trans HS2.out.2.2.2.2⟩); clear ho10 hb10)
        refine hK.out _ _ (HS10.out) ?_
        clear hK K
        try simp only [Act.put, List.setIfInBounds_toArray, List.set_cons_zero, List.set_cons_succ]
        refine held_call (i := 26) (by kernel_rfl) rfl (fun K hK => ?_)
        go_simp
        (rw [HAA.out, HWA.out]; go_at_call 39; (with_reducible refine (HWRT.out _ _ c10 _ _ HL10.out.dk (Rd.of_own HO10.out)).mono ?_); rintro e w11 ⟨rfl, M11, R11, hd11, hm11, hr11, ht11⟩; have hl11 := HL10.out.disk hd11 hm11 hr11 ht11; have HT11 := Lib.hid ht11; have HM11 := Lib.hid hm11; have HR11 := Lib.hid hr11; have HL11 := Lib.hid hl11; have HS11 := Lib.hid (show w11.cell? ⟨p, 0, none⟩ = some (.pointer (some ⟨d, 0, none⟩)) ∧ w11.cell? ⟨p, 10, none⟩ = some (.int .i64 (at_ : Int)) ∧ w11.cell? ⟨p, 9, none⟩ = some (.int .i64 nx) ∧ w11.cell? ⟨V.heap.size, 0, none⟩ = some (.int .i64 sl) ∧ w11.cell? ⟨V.heap.size, 2, none⟩ = some (.int .i64 se) from ⟨(ht11.cell (cell_block_lt HS10.out.1) HL2.out.pm).trans HS10.out.1, (ht11.cell (cell_block_lt HS10.out.2.1) HL2.out.pm).trans HS10.out.2.1, (ht11.cell (cell_block_lt HS10.out.2.2.1) HL2.out.pm).trans HS10.out.2.2.1, (ht11.cell (cell_block_lt HS10.out.2.2.2.1) HSM.out).trans HS10.out.2.2.2.1, (ht11.cell (cell_block_lt HS10.out.2.2.2.2) HSM.out).trans HS10.out.2.2.2.2⟩); clear hd11 hm11 hr11 ht11 hl11)
        refine hK.out _ _ (HS11.out) ?_
        clear hK K
        try simp only [Act.put, List.setIfInBounds_toArray, List.set_cons_zero, List.set_cons_succ]
        refine held_take (HS11.out) (i := 27) (v := ?_) rfl (by kernel_rfl) (by kernel_rfl) (by kernel_rfl) (fun _ _ _ h => h) (Or.inl ⟨by rfl, ?_⟩) ?_
        rotate_left
        · (intro W hSw; obtain ⟨s1, s2, s3, s4, s5⟩ := hSw; go_simp; try with_reducible rfl)
        try simp only [Act.put, List.setIfInBounds_toArray, List.set_cons_zero, List.set_cons_succ]
        refine wpAnyH_done (by kernel_rfl) ?_ _
        generalize writeE D1 a l = e1 at HR1 ⊢
        generalize writeD D1 a l = D1 at HR1 HL11 ⊢
        have hz10 := HB10.out.size
        have hzw := HWB.out.size
        have HMX := Lib.hid (show ∀ q, M11 q → M q ∨ w.heap.size ≤ q from fun q hq => (HM11.out q hq).elim (HMV.out q) (fun h => .inr (by have := HTV.out.size; omega)))
        have HRX := Lib.hid (show ∀ q, R11 q → R q ∨ w.heap.size ≤ q from fun q hq => (HR11.out q hq).elim (HRV.out q) (fun h => .inr (by have := HTV.out.size; omega)))
        have HTX := Lib.hid (show Tr (fun q => M q ∨ q = p ∨ Blo A q) w w11 from (HTV.out.trans ((Tr.of_below (F := M1) (bl_chain HWB.out HB10.out)).trans HT11.out (fun b _ e => e)) (fun q hq e => .inl ((HMV.out q e).resolve_right (by omega)))))
        have f12 := HL11.out.lg.frozen 12
        have c12 := HL11.out.lg.cell 12
        have c9 := HL11.out.lg.cell 9
        have f9 := HL11.out.lg.frozen 9
        have c10 := HL11.out.lg.cell 10
        have f10 := HL11.out.lg.frozen 10
        simp [lgCells] at c12 c9 c10
        rw [HNX.out] at c9
        rw [HAT.out] at c10
        clear hz10 hzw
        by_cases h1 : e1 = 0
        · subst h1
          have HX1 := Lib.hid (HR1.out.trans (if_pos rfl))
          clear HR1
          go_wp2_with fail
          obtain ⟨hl12, t12⟩ := HL11.out.moved (at_ + k) (nx + 1)
          refine bodyPost_ret (v := .tuple #[.int .i64 nx, .int .i64 0]) (by simp [results, Try.results8, go_sem]) rfl ?_
          rw [HX1.out]
          exact ⟨(some ⟨g, off, none⟩), c1, M11, R11, rfl, by simpa using hl12, HAV.out, HMX.out, HRX.out, HTX.out.trans (by simpa using t12) (fun b _ e => .inr (.inl e))⟩
        · have HX1 := Lib.hid (HR1.out.trans (if_neg h1))
          have k1 : (e1 == 0) = false := by simp [h1]
          clear HR1
          go_wp2_with fail
          refine bodyPost_ret (v := .tuple #[.int .i64 0, .int .i64 e1]) (by simp [results, Try.results8, go_sem]) rfl ?_
          obtain ⟨hl12, t12⟩ := HL11.out.set12 true
          rw [HX1.out]
          exact ⟨(some ⟨g, off, none⟩), c1, M11, R11, rfl, hl12, HAV.out, HMX.out, HRX.out, HTX.out.trans t12 (fun b _ e => .inr (.inl e))⟩
      ·
        have HZ8 := Lib.hid (bl_chain HB6.out (bl_alloc w6 (.cells #[.int .i64 sl, .int .i64 nx, .int .i64 se] 2)))
        have HS8 := Lib.hid (show (w6.alloc (.cells #[.int .i64 sl, .int .i64 nx, .int .i64 se] 2)).cell? ⟨p, 0, none⟩ = some (.pointer (some ⟨d, 0, none⟩)) ∧ (w6.alloc (.cells #[.int .i64 sl, .int .i64 nx, .int .i64 se] 2)).cell? ⟨p, 10, none⟩ = some (.int .i64 (at_ : Int)) ∧ (w6.alloc (.cells #[.int .i64 sl, .int .i64 nx, .int .i64 se] 2)).cell? ⟨p, 9, none⟩ = some (.int .i64 nx) ∧ (w6.alloc (.cells #[.int .i64 sl, .int .i64 nx, .int .i64 se] 2)).cell? ⟨V.heap.size, 0, none⟩ = some (.int .i64 sl) ∧ (w6.alloc (.cells #[.int .i64 sl, .int .i64 nx, .int .i64 se] 2)).cell? ⟨V.heap.size, 2, none⟩ = some (.int .i64 se) from ⟨(HZ8.out.cell (cell_block_lt HS2.out.1)).trans HS2.out.1, (HZ8.out.cell (cell_block_lt HS2.out.2.1)).trans HS2.out.2.1, (HZ8.out.cell (cell_block_lt HS2.out.2.2.1)).trans HS2.out.2.2.1, (HZ8.out.cell (cell_block_lt HS2.out.2.2.2.1)).trans HS2.out.2.2.2.1, (HZ8.out.cell (cell_block_lt HS2.out.2.2.2.2)).trans HS2.out.2.2.2.2⟩)
        go_simp
        refine hK.out _ _ (HS8.out) ?_
        clear hK K
        try simp only [Act.put, List.setIfInBounds_toArray, List.set_cons_zero, List.set_cons_succ]
        refine held_call (i := 15) (by kernel_rfl) rfl (fun K hK => ?_)
        refine stepR_append E8 rfl rfl (ownsRow_below HO5.out (bl_chain HB56.out (bl_alloc w6 _))) rfl (HRBV.out.below (bl_chain HWB.out HZ8.out)) rfl HBL.out (by8_one _) (n + 4) (by8 bb) (Nat.add_comm _ _) HBBV.out (by simp only [maxLen]; omega) (by omega) HZ8.out.size ?_
        intro A7 c7 w7 hc7 ho7 ht7 ha7
        have hb7 := bl_tr HZ8.out ht7 HOAPP.out
        have har := ht7.blk (Blk.new w6 2 #[.int .i64 sl, .int .i64 nx, .int .i64 se]) (fun e => by have := HLT6.out _ e; omega)
        have HAR := Lib.hid har
        clear har
        clear hc7 ha7
        have HT7 := Lib.hid ht7
        have HO7 := Lib.hid ho7
        have HB7 := Lib.hid hb7
        have HS7 := Lib.hid (show w7.cell? ⟨p, 0, none⟩ = some (.pointer (some ⟨d, 0, none⟩)) ∧ w7.cell? ⟨p, 10, none⟩ = some (.int .i64 (at_ : Int)) ∧ w7.cell? ⟨p, 9, none⟩ = some (.int .i64 nx) ∧ w7.cell? ⟨V.heap.size, 0, none⟩ = some (.int .i64 sl) ∧ w7.cell? ⟨V.heap.size, 2, none⟩ = some (.int .i64 se) from ⟨(HB7.out.cell (cell_block_lt HS2.out.1)).trans HS2.out.1, (HB7.out.cell (cell_block_lt HS2.out.2.1)).trans HS2.out.2.1, (HB7.out.cell (cell_block_lt HS2.out.2.2.1)).trans HS2.out.2.2.1, (HB7.out.cell (cell_block_lt HS2.out.2.2.2.1)).trans HS2.out.2.2.2.1, (HB7.out.cell (cell_block_lt HS2.out.2.2.2.2)).trans HS2.out.2.2.2.2⟩)
        clear ho7 hb7 ht7
        refine hK.out _ _ (HS7.out) ?_
        clear hK K
        try simp only [Act.put, List.setIfInBounds_toArray, List.set_cons_zero, List.set_cons_succ]
        have HO9 := HO7
        have HBW := HB7
        clear HS8 HZ8
        have HL9 := Lib.hid (HL2.out.below HBW.out)
        clear HS7
        refine held_call (i := 25) (by kernel_rfl) rfl (fun K hK => ?_)
        go_simp
        (go_at_call 41; (with_reducible refine (HSEA.out _ _ c7 _ (Rd.of_own HO9.out) HAR.out).mono ?_); rintro e w10 ⟨A10, c10, rfl, hc10, ho10, hb10⟩; have HO10 := Lib.hid ho10; have HB10 := Lib.hid (bl_chain HBW.out hb10); have HL10 := Lib.hid (HL9.out.below hb10); have HS10 := Lib.hid (show w10.cell? ⟨p, 0, none⟩ = some (.pointer (some ⟨d, 0, none⟩)) ∧ w10.cell? ⟨p, 10, none⟩ = some (.int .i64 (at_ : Int)) ∧ w10.cell? ⟨p, 9, none⟩ = some (.int .i64 nx) ∧ w10.cell? ⟨V.heap.size, 0, none⟩ = some (.int .i64 sl) ∧ w10.cell? ⟨V.heap.size, 2, none⟩ = some (.int .i64 se) from ⟨(HB10.out.cell (cell_block_lt HS2.out.1)).trans HS2.out.1, (HB10.out.cell (cell_block_lt HS2.out.2.1)).trans HS2.out.2.1, (HB10.out.cell (cell_block_lt HS2.out.2.2.1)).trans HS2.out.2.2.1, (HB10.out.cell (cell_block_lt HS2.out.2.2.2.1)).trans HS2.out.2.2.2.1, (HB10.out.cell (cell_block_lt HS2.out.2.2.2.2)).trans HS2.out.2.2.2.2⟩); clear ho10 hb10)
        refine hK.out _ _ (HS10.out) ?_
        clear hK K
        try simp only [Act.put, List.setIfInBounds_toArray, List.set_cons_zero, List.set_cons_succ]
        refine held_call (i := 26) (by kernel_rfl) rfl (fun K hK => ?_)
        go_simp
        (rw [HAA.out, HWA.out]; go_at_call 39; (with_reducible refine (HWRT.out _ _ c10 _ _ HL10.out.dk (Rd.of_own HO10.out)).mono ?_); rintro e w11 ⟨rfl, M11, R11, hd11, hm11, hr11, ht11⟩; have hl11 := HL10.out.disk hd11 hm11 hr11 ht11; have HT11 := Lib.hid ht11; have HM11 := Lib.hid hm11; have HR11 := Lib.hid hr11; have HL11 := Lib.hid hl11; have HS11 := Lib.hid (show w11.cell? ⟨p, 0, none⟩ = some (.pointer (some ⟨d, 0, none⟩)) ∧ w11.cell? ⟨p, 10, none⟩ = some (.int .i64 (at_ : Int)) ∧ w11.cell? ⟨p, 9, none⟩ = some (.int .i64 nx) ∧ w11.cell? ⟨V.heap.size, 0, none⟩ = some (.int .i64 sl) ∧ w11.cell? ⟨V.heap.size, 2, none⟩ = some (.int .i64 se) from ⟨(ht11.cell (cell_block_lt HS10.out.1) HL2.out.pm).trans HS10.out.1, (ht11.cell (cell_block_lt HS10.out.2.1) HL2.out.pm).trans HS10.out.2.1, (ht11.cell (cell_block_lt HS10.out.2.2.1) HL2.out.pm).trans HS10.out.2.2.1, (ht11.cell (cell_block_lt HS10.out.2.2.2.1) HSM.out).trans HS10.out.2.2.2.1, (ht11.cell (cell_block_lt HS10.out.2.2.2.2) HSM.out).trans HS10.out.2.2.2.2⟩); clear hd11 hm11 hr11 ht11 hl11)
        refine hK.out _ _ (HS11.out) ?_
        clear hK K
        try simp only [Act.put, List.setIfInBounds_toArray, List.set_cons_zero, List.set_cons_succ]
        refine held_take (HS11.out) (i := 27) (v := ?_) rfl (by kernel_rfl) (by kernel_rfl) (by kernel_rfl) (fun _ _ _ h => h) (Or.inl ⟨by rfl, ?_⟩) ?_
        rotate_left
        · (intro W hSw; obtain ⟨s1, s2, s3, s4, s5⟩ := hSw; go_simp; try with_reducible rfl)
        try simp only [Act.put, List.setIfInBounds_toArray, List.set_cons_zero, List.set_cons_succ]
        refine wpAnyH_done (by kernel_rfl) ?_ _
        generalize writeE D1 a l = e1 at HR1 ⊢
        generalize writeD D1 a l = D1 at HR1 HL11 ⊢
        have hz10 := HB10.out.size
        have hzw := HWB.out.size
        have HMX := Lib.hid (show ∀ q, M11 q → M q ∨ w.heap.size ≤ q from fun q hq => (HM11.out q hq).elim (HMV.out q) (fun h => .inr (by have := HTV.out.size; omega)))
        have HRX := Lib.hid (show ∀ q, R11 q → R q ∨ w.heap.size ≤ q from fun q hq => (HR11.out q hq).elim (HRV.out q) (fun h => .inr (by have := HTV.out.size; omega)))
        have HTX := Lib.hid (show Tr (fun q => M q ∨ q = p ∨ Blo A q) w w11 from (HTV.out.trans ((Tr.of_below (F := M1) (bl_chain HWB.out HB10.out)).trans HT11.out (fun b _ e => e)) (fun q hq e => .inl ((HMV.out q e).resolve_right (by omega)))))
        have f12 := HL11.out.lg.frozen 12
        have c12 := HL11.out.lg.cell 12
        have c9 := HL11.out.lg.cell 9
        have f9 := HL11.out.lg.frozen 9
        have c10 := HL11.out.lg.cell 10
        have f10 := HL11.out.lg.frozen 10
        simp [lgCells] at c12 c9 c10
        rw [HNX.out] at c9
        rw [HAT.out] at c10
        clear hz10 hzw
        by_cases h1 : e1 = 0
        · subst h1
          have HX1 := Lib.hid (HR1.out.trans (if_pos rfl))
          clear HR1
          go_wp2_with fail
          obtain ⟨hl12, t12⟩ := HL11.out.moved (at_ + k) (nx + 1)
          refine bodyPost_ret (v := .tuple #[.int .i64 nx, .int .i64 0]) (by simp [results, Try.results8, go_sem]) rfl ?_
          rw [HX1.out]
          exact ⟨(some ⟨g, off, none⟩), c1, M11, R11, rfl, by simpa using hl12, HAV.out, HMX.out, HRX.out, HTX.out.trans (by simpa using t12) (fun b _ e => .inr (.inl e))⟩
        · have HX1 := Lib.hid (HR1.out.trans (if_neg h1))
          have k1 : (e1 == 0) = false := by simp [h1]
          clear HR1
          go_wp2_with fail
          refine bodyPost_ret (v := .tuple #[.int .i64 0, .int .i64 e1]) (by simp [results, Try.results8, go_sem]) rfl ?_
          obtain ⟨hl12, t12⟩ := HL11.out.set12 true
          rw [HX1.out]
          exact ⟨(some ⟨g, off, none⟩), c1, M11, R11, rfl, hl12, HAV.out, HMX.out, HRX.out, HTX.out.trans t12 (fun b _ e => .inr (.inl e))⟩
    ·
      have HZ8 := Lib.hid (bl_chain HB5.out (bl_chain (bl_alloc w5 (.cells #[.int .i64 sl, .int .i64 nx, .int .i64 se] 2)) (bl_drew _)))
      have HZ58 := Lib.hid (bl_chain (bl_alloc w5 (.cells #[.int .i64 sl, .int .i64 nx, .int .i64 se] 2)) (bl_drew _))
      have HS8 := Lib.hid (show (w5.alloc (.cells #[.int .i64 sl, .int .i64 nx, .int .i64 se] 2)).drew.cell? ⟨p, 0, none⟩ = some (.pointer (some ⟨d, 0, none⟩)) ∧ (w5.alloc (.cells #[.int .i64 sl, .int .i64 nx, .int .i64 se] 2)).drew.cell? ⟨p, 10, none⟩ = some (.int .i64 (at_ : Int)) ∧ (w5.alloc (.cells #[.int .i64 sl, .int .i64 nx, .int .i64 se] 2)).drew.cell? ⟨p, 9, none⟩ = some (.int .i64 nx) ∧ (w5.alloc (.cells #[.int .i64 sl, .int .i64 nx, .int .i64 se] 2)).drew.cell? ⟨V.heap.size, 0, none⟩ = some (.int .i64 sl) ∧ (w5.alloc (.cells #[.int .i64 sl, .int .i64 nx, .int .i64 se] 2)).drew.cell? ⟨V.heap.size, 2, none⟩ = some (.int .i64 se) from ⟨(HZ8.out.cell (cell_block_lt HS2.out.1)).trans HS2.out.1, (HZ8.out.cell (cell_block_lt HS2.out.2.1)).trans HS2.out.2.1, (HZ8.out.cell (cell_block_lt HS2.out.2.2.1)).trans HS2.out.2.2.1, (HZ8.out.cell (cell_block_lt HS2.out.2.2.2.1)).trans HS2.out.2.2.2.1, (HZ8.out.cell (cell_block_lt HS2.out.2.2.2.2)).trans HS2.out.2.2.2.2⟩)
      go_simp
      refine hK.out _ _ (HS8.out) ?_
      clear hK K
      try simp only [Act.put, List.setIfInBounds_toArray, List.set_cons_zero, List.set_cons_succ]
      refine held_call (i := 7) (by kernel_rfl) rfl (fun K hK => ?_)
      go_simp
      (go_at_call 40; (with_reducible refine (HPL.out _ HZ8.out).mono ?_); rintro e w6 ⟨rfl, hb6⟩; have har6 := ((Blk.new w5 2 #[.int .i64 sl, .int .i64 nx, .int .i64 se]).drew).keep hb6; have HAR6 := Lib.hid har6; have HB56 := Lib.hid (bl_chain HZ58.out hb6); have HB6 := Lib.hid (bl_chain HZ8.out hb6); have HS6 := Lib.hid (show w6.cell? ⟨p, 0, none⟩ = some (.pointer (some ⟨d, 0, none⟩)) ∧ w6.cell? ⟨p, 10, none⟩ = some (.int .i64 (at_ : Int)) ∧ w6.cell? ⟨p, 9, none⟩ = some (.int .i64 nx) ∧ w6.cell? ⟨V.heap.size, 0, none⟩ = some (.int .i64 sl) ∧ w6.cell? ⟨V.heap.size, 2, none⟩ = some (.int .i64 se) from ⟨(HB6.out.cell (cell_block_lt HS2.out.1)).trans HS2.out.1, (HB6.out.cell (cell_block_lt HS2.out.2.1)).trans HS2.out.2.1, (HB6.out.cell (cell_block_lt HS2.out.2.2.1)).trans HS2.out.2.2.1, (HB6.out.cell (cell_block_lt HS2.out.2.2.2.1)).trans HS2.out.2.2.2.1, (HB6.out.cell (cell_block_lt HS2.out.2.2.2.2)).trans HS2.out.2.2.2.2⟩); clear hb6 har6)
      refine hK.out _ _ (HS6.out) ?_
      clear hK K
      try simp only [Act.put, List.setIfInBounds_toArray, List.set_cons_zero, List.set_cons_succ]
      refine held_take (HS6.out) (i := 12) (v := ?_) rfl (by kernel_rfl) (by kernel_rfl) (by kernel_rfl) (fun _ _ _ h => h) (Or.inl ⟨by rfl, ?_⟩) ?_
      rotate_left
      · (intro W hSw; obtain ⟨s1, s2, s3, s4, s5⟩ := hSw; go_simp; try with_reducible rfl)
      try simp only [Act.put, List.setIfInBounds_toArray, List.set_cons_zero, List.set_cons_succ]
      refine held_call (i := 15) (by kernel_rfl) rfl (fun K hK => ?_)
      refine stepR_append E8 rfl rfl (ownsRow_below HO5.out HB56.out) rfl (HRBV.out.below (bl_chain HWB.out HB6.out)) rfl HBL.out (by8_one _) (n + 4) (by8 bb) (Nat.add_comm _ _) HBBV.out (by simp only [maxLen]; omega) (by omega) HB6.out.size ?_
      intro A7 c7 w7 hc7 ho7 ht7 ha7
      have hb7 := bl_tr HB6.out ht7 HOAPP.out
      have har := ht7.blk HAR6.out (fun e => by have := HOLT.out _ e; omega)
      have HAR := Lib.hid har
      clear har
      clear hc7 ha7
      have HT7 := Lib.hid ht7
      have HO7 := Lib.hid ho7
      have HB7 := Lib.hid hb7
      have HS7 := Lib.hid (show w7.cell? ⟨p, 0, none⟩ = some (.pointer (some ⟨d, 0, none⟩)) ∧ w7.cell? ⟨p, 10, none⟩ = some (.int .i64 (at_ : Int)) ∧ w7.cell? ⟨p, 9, none⟩ = some (.int .i64 nx) ∧ w7.cell? ⟨V.heap.size, 0, none⟩ = some (.int .i64 sl) ∧ w7.cell? ⟨V.heap.size, 2, none⟩ = some (.int .i64 se) from ⟨(HB7.out.cell (cell_block_lt HS2.out.1)).trans HS2.out.1, (HB7.out.cell (cell_block_lt HS2.out.2.1)).trans HS2.out.2.1, (HB7.out.cell (cell_block_lt HS2.out.2.2.1)).trans HS2.out.2.2.1, (HB7.out.cell (cell_block_lt HS2.out.2.2.2.1)).trans HS2.out.2.2.2.1, (HB7.out.cell (cell_block_lt HS2.out.2.2.2.2)).trans HS2.out.2.2.2.2⟩)
      clear ho7 hb7 ht7
      refine hK.out _ _ (HS7.out) ?_
      clear hK K
      try simp only [Act.put, List.setIfInBounds_toArray, List.set_cons_zero, List.set_cons_succ]
      have HO9 := HO7
      have HBW := HB7
      clear HS8 HZ8
      have HL9 := Lib.hid (HL2.out.below HBW.out)
      clear HS7
      refine held_call (i := 25) (by kernel_rfl) rfl (fun K hK => ?_)
      go_simp
      (go_at_call 41; (with_reducible refine (HSEA.out _ _ c7 _ (Rd.of_own HO9.out) HAR.out).mono ?_); rintro e w10 ⟨A10, c10, rfl, hc10, ho10, hb10⟩; have HO10 := Lib.hid ho10; have HB10 := Lib.hid (bl_chain HBW.out hb10); have HL10 := Lib.hid (HL9.out.below hb10); have HS10 := Lib.hid (show w10.cell? ⟨p, 0, none⟩ = some (.pointer (some ⟨d, 0, none⟩)) ∧ w10.cell? ⟨p, 10, none⟩ = some (.int .i64 (at_ : Int)) ∧ w10.cell? ⟨p, 9, none⟩ = some (.int .i64 nx) ∧ w10.cell? ⟨V.heap.size, 0, none⟩ = some (.int .i64 sl) ∧ w10.cell? ⟨V.heap.size, 2, none⟩ = some (.int .i64 se) from ⟨(HB10.out.cell (cell_block_lt HS2.out.1)).trans HS2.out.1, (HB10.out.cell (cell_block_lt HS2.out.2.1)).trans HS2.out.2.1, (HB10.out.cell (cell_block_lt HS2.out.2.2.1)).trans HS2.out.2.2.1, (HB10.out.cell (cell_block_lt HS2.out.2.2.2.1)).trans HS2.out.2.2.2.1, (HB10.out.cell (cell_block_lt HS2.out.2.2.2.2)).trans HS2.out.2.2.2.2⟩); clear ho10 hb10)
      refine hK.out _ _ (HS10.out) ?_
      clear hK K
      try simp only [Act.put, List.setIfInBounds_toArray, List.set_cons_zero, List.set_cons_succ]
      refine held_call (i := 26) (by kernel_rfl) rfl (fun K hK => ?_)
      go_simp
      (rw [HAA.out, HWA.out]; go_at_call 39; (with_reducible refine (HWRT.out _ _ c10 _ _ HL10.out.dk (Rd.of_own HO10.out)).mono ?_); rintro e w11 ⟨rfl, M11, R11, hd11, hm11, hr11, ht11⟩; have hl11 := HL10.out.disk hd11 hm11 hr11 ht11; have HT11 := Lib.hid ht11; have HM11 := Lib.hid hm11; have HR11 := Lib.hid hr11; have HL11 := Lib.hid hl11; have HS11 := Lib.hid (show w11.cell? ⟨p, 0, none⟩ = some (.pointer (some ⟨d, 0, none⟩)) ∧ w11.cell? ⟨p, 10, none⟩ = some (.int .i64 (at_ : Int)) ∧ w11.cell? ⟨p, 9, none⟩ = some (.int .i64 nx) ∧ w11.cell? ⟨V.heap.size, 0, none⟩ = some (.int .i64 sl) ∧ w11.cell? ⟨V.heap.size, 2, none⟩ = some (.int .i64 se) from ⟨(ht11.cell (cell_block_lt HS10.out.1) HL2.out.pm).trans HS10.out.1, (ht11.cell (cell_block_lt HS10.out.2.1) HL2.out.pm).trans HS10.out.2.1, (ht11.cell (cell_block_lt HS10.out.2.2.1) HL2.out.pm).trans HS10.out.2.2.1, (ht11.cell (cell_block_lt HS10.out.2.2.2.1) HSM.out).trans HS10.out.2.2.2.1, (ht11.cell (cell_block_lt HS10.out.2.2.2.2) HSM.out).trans HS10.out.2.2.2.2⟩); clear hd11 hm11 hr11 ht11 hl11)
      refine hK.out _ _ (HS11.out) ?_
      clear hK K
      try simp only [Act.put, List.setIfInBounds_toArray, List.set_cons_zero, List.set_cons_succ]
      refine held_take (HS11.out) (i := 27) (v := ?_) rfl (by kernel_rfl) (by kernel_rfl) (by kernel_rfl) (fun _ _ _ h => h) (Or.inl ⟨by rfl, ?_⟩) ?_
      rotate_left
      · (intro W hSw; obtain ⟨s1, s2, s3, s4, s5⟩ := hSw; go_simp; try with_reducible rfl)
      try simp only [Act.put, List.setIfInBounds_toArray, List.set_cons_zero, List.set_cons_succ]
      refine wpAnyH_done (by kernel_rfl) ?_ _
      generalize writeE D1 a l = e1 at HR1 ⊢
      generalize writeD D1 a l = D1 at HR1 HL11 ⊢
      have hz10 := HB10.out.size
      have hzw := HWB.out.size
      have HMX := Lib.hid (show ∀ q, M11 q → M q ∨ w.heap.size ≤ q from fun q hq => (HM11.out q hq).elim (HMV.out q) (fun h => .inr (by have := HTV.out.size; omega)))
      have HRX := Lib.hid (show ∀ q, R11 q → R q ∨ w.heap.size ≤ q from fun q hq => (HR11.out q hq).elim (HRV.out q) (fun h => .inr (by have := HTV.out.size; omega)))
      have HTX := Lib.hid (show Tr (fun q => M q ∨ q = p ∨ Blo A q) w w11 from (HTV.out.trans ((Tr.of_below (F := M1) (bl_chain HWB.out HB10.out)).trans HT11.out (fun b _ e => e)) (fun q hq e => .inl ((HMV.out q e).resolve_right (by omega)))))
      have f12 := HL11.out.lg.frozen 12
      have c12 := HL11.out.lg.cell 12
      have c9 := HL11.out.lg.cell 9
      have f9 := HL11.out.lg.frozen 9
      have c10 := HL11.out.lg.cell 10
      have f10 := HL11.out.lg.frozen 10
      simp [lgCells] at c12 c9 c10
      rw [HNX.out] at c9
      rw [HAT.out] at c10
      clear hz10 hzw
      by_cases h1 : e1 = 0
      · subst h1
        have HX1 := Lib.hid (HR1.out.trans (if_pos rfl))
        clear HR1
        go_wp2_with fail
        obtain ⟨hl12, t12⟩ := HL11.out.moved (at_ + k) (nx + 1)
        refine bodyPost_ret (v := .tuple #[.int .i64 nx, .int .i64 0]) (by simp [results, Try.results8, go_sem]) rfl ?_
        rw [HX1.out]
        exact ⟨(some ⟨g, off, none⟩), c1, M11, R11, rfl, by simpa using hl12, HAV.out, HMX.out, HRX.out, HTX.out.trans (by simpa using t12) (fun b _ e => .inr (.inl e))⟩
      · have HX1 := Lib.hid (HR1.out.trans (if_neg h1))
        have k1 : (e1 == 0) = false := by simp [h1]
        clear HR1
        go_wp2_with fail
        refine bodyPost_ret (v := .tuple #[.int .i64 0, .int .i64 e1]) (by simp [results, Try.results8, go_sem]) rfl ?_
        obtain ⟨hl12, t12⟩ := HL11.out.set12 true
        rw [HX1.out]
        exact ⟨(some ⟨g, off, none⟩), c1, M11, R11, rfl, hl12, HAV.out, HMX.out, HRX.out, HTX.out.trans t12 (fun b _ e => .inr (.inl e))⟩
  · have HRN : Hid (x.appN D b = ⟨x.begX D, x.begD D, 0, x.begE D⟩) := Lib.hid (if_neg hbe)
    obtain ⟨eb, heb⟩ : ∃ e, x.begE D = e := ⟨_, rfl⟩
    rw [heb] at hbe HRN HBG
    have k1 : (eb == 0) = false := by simp [hbe]
    rw [hn]
    clear h hn hg hP hfr hbig hrb hbd heb hs
    go_enter Try.func8, Try.ntmps8
    go_wp2_with (first
      | (go_at_call 33; (with_reducible refine HST.out.mono ?_); rintro e w1 ⟨rfl, rfl⟩)
      | (go_at_call 34; (with_reducible refine (HTK.out _).mono ?_); rintro e w1 ⟨rfl, rfl⟩))
    go_quiet (fail)
    go_wp2_with (first
      | (go_at_call 35; (with_reducible refine (HBG.out _ (bl_drewN _ _)).mono ?_); rintro e V ⟨A1, c1, M1, R1, rfl, hl1, ha1, hm1, hr1, ht1⟩; rw [bl_drewN_size] at ha1 hm1 hr1; have HLV := Lib.hid hl1; have HTV := Lib.hid ((Tr.of_below (F := fun q => M q ∨ q = p ∨ Blo A q) (bl_drewN w _)).trans ht1 (fun q _ e => e)); have HMV := Lib.hid hm1; have HRV := Lib.hid hr1; have HAV := Lib.hid ha1; clear hl1 ha1 hm1 hr1 ht1))
    refine bodyPost_ret (v := .tuple #[.int .i64 0, .int .i64 eb]) (by simp [results, Try.results8, go_sem]) rfl ?_
    rw [HRN.out]
    exact ⟨A1, c1, M1, R1, rfl, HLV.out, HAV.out, HMV.out, HRV.out, HTV.out⟩
end
end Go.Proofs.Ytceajiliahmkaaa
