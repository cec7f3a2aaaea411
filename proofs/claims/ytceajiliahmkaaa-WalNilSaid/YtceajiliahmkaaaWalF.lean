/- Layer 4: a record read. -/
import Derived.Test.YtceajiliahmkaaaWalE
import Derived.Test.YtceajiliahmkaaaGetG
import Derived.BigRegion
namespace Go.Proofs.Ytceajiliahmkaaa
set_option linter.unusedVariables false
set_option linter.unusedSimpArgs false
set_option maxRecDepth 100000
open Go.RowKit

theorem bl_drewN (w : World) (n : Nat) : Below w.heap.size w (w.drewN n) := ⟨rfl, rfl, rfl, Nat.le_refl _, fun _ _ => rfl⟩
theorem Rd.off {w : World} {g n : Nat} {xs : List Value} (h : Rd w (some ⟨g, 0, none⟩) xs) : Rd w (some ⟨g, n, none⟩) (xs.drop n) := fun j u hj => by
  rw [List.getElem?_drop] at hj
  obtain ⟨ad, e, hc⟩ := h (n + j) u hj
  injection e with e
  subst e
  refine ⟨_, rfl, ?_⟩
  rw [add_lit] at hc ⊢
  rw [← hc]
  congr 2
  omega
theorem takes_q (n : Nat) (hn : n ≤ 140737488351232) (w : World) : Calls Try.prog 34 #[.int .i64 (n : Int)] w fun e w' => e = .returned (.int .i64 (takesN n : Nat)) ∧ w' = w := (takes_any n hn w).mono (fun _ _ ⟨a, b⟩ => ⟨a, b.symm⟩)
/-- The size that a record's first sector tells. -/
def recS (D : DS) (a : Nat) : Nat := (unb (((secL D a).drop 28).take 4)).toNat
def recB (D : DS) (a : Nat) : List Int := ((D.now.drop (256 * a)).take (256 * takesN (recS D a))).take (32 + recS D a)
def LG.recL (x : LG) (D : DS) (s : SG) (at_ : Nat) (i : Int) : Option (List Int × Nat) :=
  if x.per ≤ at_ then none else
  if 4096 < recS D (x.place (s.life - 1).toNat + at_) ∨ x.per < at_ + takesN (recS D (x.place (s.life - 1).toNat + at_)) then none else
  if okL (recB D (x.place (s.life - 1).toNat + at_)) = true ∧ numAt (recB D (x.place (s.life - 1).toNat + at_)) 0 = s.life ∧ numAt (recB D (x.place (s.life - 1).toNat + at_)) 1 = i ∧ numAt (recB D (x.place (s.life - 1).toNat + at_)) 2 = s.epoch then
    some ((recB D (x.place (s.life - 1).toNat + at_)).drop 32, takesN (recS D (x.place (s.life - 1).toNat + at_))) else none
def RetRec (w : World) (o : Option (List Int × Nat)) (e : Ending) (w' : World) : Prop := match o with
  | none => e = .returned (.tuple #[.slice none 0 0, .int .i64 0]) ∧ Below w.heap.size w w'
  | some (b, k) => ∃ A' c', e = .returned (.tuple #[.slice A' b.length c', .int .i64 (k : Nat)]) ∧ w'.ownsRow w.heap.size 5 1 (.slice A' b.length c') b.length (by8 b) ∧ Below w.heap.size w w'
section
variable {w : World} {p d : Nat} {x : LG} {A : Option Addr} {c : Nat} {D : DS} {M R : Nat → Prop}
theorem secK (h : IsLg w p d x A c) (hd : IsDisk w d D M R) (a k : Nat) (hk : 1 ≤ k) (ha : a + k ≤ D.n) :
    Calls Try.prog 51 #[.pointer (some ⟨p, 0, none⟩), .int .i64 (a : Int), .int .i64 (k : Int)] w fun e w' => ∃ g c', e = .returned (.slice (some ⟨g, 0, none⟩) (256 * k) c') ∧ 256 * k ≤ c' ∧ c' ≤ maxLen ∧ w'.ownsRow w.heap.size 5 1 (.slice (some ⟨g, 0, none⟩) (256 * k) c') (256 * k) (by8 ((D.now.drop (256 * a)).take (256 * k))) ∧ Below w.heap.size w w' := by
  have ho := IsDisk.ok hd
  have hm := ho.most
  have h1 := sectors_any h hd a k (by omega) (by omega)
  rw [readD_one hk ha, secs_length ho ha] at h1
  refine h1.mono ?_
  rintro e w' ⟨A', c', rfl, q1, q2, q3, q4⟩
  obtain ⟨g, rfl⟩ := ownsRow_addr q3 (by omega)
  exact ⟨g, c', rfl, q1, q2, q3, q4⟩
theorem recS_lt (ho : D.Ok) (a : Nat) (ha : a + 1 ≤ D.n) : 0 ≤ unb (((secL D a).drop 28).take 4) ∧ unb (((secL D a).drop 28).take 4) < 4294967296 := by
  have h1 := secL_length ho ha
  have := unb_range ((secL_isB ho a).drop 28) 4 (by rw [List.length_drop]; omega)
  simpa using this
theorem getSize (A1 : Option Addr) (c1 : Nat) (ho : D.Ok) (a : Nat) (ha : a + 1 ≤ D.n) (W : World) (hr : Rd W A1 (by8 (secL D a))) (hc : 256 ≤ c1) :
    Calls Try.prog 82 #[.slice A1 256 c1, .int .i64 28, .int .i64 4] W fun e w' => e = .returned (.tuple #[.int .u64 (recS D a : Int), .int .i64 0]) ∧ W = w' := by
  have hl := secL_length ho ha
  have hr2 := recS_lt ho a ha
  have h := getG A1 c1 (secL D a) 28 4 W (by omega) (by omega) hr (secL_isB ho a) (by omega) (by omega) (by omega)
  have e1 : gv 28 4 (secL D a) = (recS D a : Int) := by
    unfold gv recS
    rw [if_pos (by omega)]
    omega
  have e2 : ge 28 4 (secL D a) = 0 := by
    unfold ge
    rw [if_pos (by omega)]
  rw [hl, e1, e2] at h
  exact h
theorem RetRec.none_ {e : Ending} {w' : World} (h : e = .returned (.tuple #[.slice none 0 0, .int .i64 0])) (hb : Below w.heap.size w w') : RetRec w none e w' := ⟨h, hb⟩
set_option maxHeartbeats 12800000 in
theorem record_any (h : IsLg w p d x A c) (hg : x.Geo D.n) (hd : IsDisk w d D M R) (s : SG) (hs : 1 ≤ s.life ∧ s.life ≤ 1152921504606846976) (at_ : Nat) (hat : at_ ≤ 100) (i : Int) :
    Calls Try.prog 67 #[.pointer (some ⟨p, 0, none⟩), s.agg, .int .i64 (at_ : Int), .int .i64 i] w (RetRec w (x.recL D s at_ i)) := by
  have HO := Lib.hid (IsDisk.ok hd)
  have hp64 := hg.p64
  have hbig := hg.big
  have HLK := Lib.hid h
  have HPG := Lib.hid (hg.place (s.life - 1).toNat)
  obtain ⟨sl, sf, se⟩ := s
  simp only at hs
  obtain ⟨kn, hkn'⟩ : ∃ kn : Nat, sl - 1 = (kn : Int) := Int.eq_ofNat_of_zero_le (by omega)
  have hkn : sl = (kn : Int) + 1 := by omega
  have hkt : (sl - 1).toNat = kn := by omega
  obtain ⟨pl, hpl⟩ : ∃ pl, x.place kn = pl := ⟨_, rfl⟩
  have HPL : Hid (∀ (W : World), Below w.heap.size w W → Calls Try.prog 40 #[.pointer (some ⟨p, 0, none⟩), .int .i64 sl] W fun e w' => e = .returned (.int .i64 (pl : Int)) ∧ Below W.heap.size W w') := Lib.hid (fun W hW => by
    have := place_any (x := x) (h.keep hW) hg kn sl hkn (by omega)
    rw [hpl] at this
    exact this)
  have HSEC := Lib.hid (fun (W : World) (hW : Below w.heap.size w W) (a : Nat) (ha : a + 1 ≤ D.n) => sec1 (h.keep hW) (hd.below hW) a ha)
  have HSEK := Lib.hid (fun (W : World) (hW : Below w.heap.size w W) (a k : Nat) (hk : 1 ≤ k) (ha : a + k ≤ D.n) => secK (h.keep hW) (hd.below hW) a k hk ha)
  have HRC : Hid (x.recL D ⟨sl, sf, se⟩ at_ i = if x.per ≤ at_ then none else
      if 4096 < recS D (pl + at_) ∨ x.per < at_ + takesN (recS D (pl + at_)) then none else
      if okL (recB D (pl + at_)) = true ∧ numAt (recB D (pl + at_)) 0 = sl ∧ numAt (recB D (pl + at_)) 1 = i ∧ numAt (recB D (pl + at_)) 2 = se then some ((recB D (pl + at_)).drop 32, takesN (recS D (pl + at_))) else none) := Lib.hid (by
    unfold LG.recL
    simp only [hkt, hpl])
  have hpg := hg.place kn
  rw [hpl] at hpg
  have c3 := h.cell 3
  have hlt := h.lt
  simp [lgCells] at c3
  obtain ⟨P, hP⟩ : ∃ P, x.per = P := ⟨_, rfl⟩
  rw [hP] at c3 hp64 hpg HRC
  clear h hg hd HPG hkt hpl hkn hkn' hs hP
  have agg : (SG.mk sl sf se).agg = .agg #[.int .i64 sl, .int .i64 sf, .int .i64 se] := rfl
  rw [agg]
  clear agg
  have HX := Lib.hid (bl_alloc w (.cells #[.int .i64 sl, .int .i64 sf, .int .i64 se] 71))
  have hxb : Blk (w.alloc (.cells #[.int .i64 sl, .int .i64 sf, .int .i64 se] 71)) w.heap.size 71 #[.int .i64 sl, .int .i64 sf, .int .i64 se] := Blk.new _ _ _
  have HXB := Lib.hid hxb
  have z0 := hxb.cell 0
  have z1 := hxb.cell 1
  have z2 := hxb.cell 2
  simp at z0 z1 z2
  clear hxb
  by_cases h1 : P ≤ at_
  · have HH := Lib.hid (HRC.out.trans (if_pos h1))
    have b1 : decide ((P : Int) ≤ (at_ : Int)) = true := decide_eq_true (by omega)
    have b1n : decide (P ≤ at_) = true := decide_eq_true (by omega)
    clear HRC
    go_enter Try.func67, Try.ntmps67
    go_wp2_with fail
    go_ret2
    rw [HH.out]
    exact ⟨rfl, HX.out⟩
  · have b1 : decide ((P : Int) ≤ (at_ : Int)) = false := decide_eq_false (by omega)
    have HRC2 := Lib.hid (HRC.out.trans (if_neg h1))
    obtain ⟨a, hpa⟩ : ∃ a, pl + at_ = a := ⟨_, rfl⟩
    have hsum : (pl : Int) + (at_ : Int) = (a : Int) := by omega
    rw [hpa] at HRC2
    have ha1 : a + 1 ≤ D.n := by omega
    have hsz := recS_lt HO.out a ha1
    have HGS := Lib.hid (fun (A1 : Option Addr) (c1 : Nat) (W : World) (hr : Rd W A1 (by8 (secL D a))) (hc : 256 ≤ c1) => getSize A1 c1 HO.out a ha1 W hr hc)
    obtain ⟨S, hS⟩ : ∃ S, recS D a = S := ⟨_, rfl⟩
    have hS32 : S < 4294967296 := by rw [← hS]; unfold recS; omega
    have HS := Lib.hid hS
    rw [hS] at HRC2
    have HGS : Hid (∀ (A1 : Option Addr) (c1 : Nat) (W : World), Rd W A1 (by8 (secL D a)) → 256 ≤ c1 → Calls Try.prog 82 #[.slice A1 256 c1, .int .i64 28, .int .i64 4] W fun e w' => e = .returned (.tuple #[.int .u64 (S : Int), .int .i64 0]) ∧ W = w') := Lib.hid (fun A1 c1 W hr hc => by
      have := HGS.out A1 c1 W hr hc
      rw [hS] at this
      exact this)
    clear HRC hsz hS
    by_cases h2 : 4096 < S
    · have HH := Lib.hid (HRC2.out.trans (if_pos (.inl h2)))
      have b2 : decide ((4096 : Int) < (S : Int)) = true := decide_eq_true (by omega)
      have b2n : decide (4096 < S) = true := decide_eq_true (by omega)
      clear HRC2
      go_enter Try.func67, Try.ntmps67
      go_wp2_with (first
        | (go_at_call 40; (with_reducible refine (HPL.out _ HX.out).mono ?_); rintro e w1 ⟨rfl, hw1⟩; have HB1 := Lib.hid (bl_chain HX.out hw1); have hk1 := HXB.out.keep hw1; have y0 := hk1.cell 0; have y1 := hk1.cell 1; have y2 := hk1.cell 2; simp at y0 y1 y2; have HK1 := Lib.hid hk1; clear hk1 hw1)
        | (go_at_call 51; (with_reducible refine (HSEC.out _ HB1.out a ha1).mono ?_); rintro e w2 ⟨A2, c2, rfl, hc2, hm2, ho2, hb2⟩; have HO2 := Lib.hid ho2; have HB2 := Lib.hid (bl_chain HB1.out hb2); have hk2 := HK1.out.keep hb2; have y0 := hk2.cell 0; have y1 := hk2.cell 1; have y2 := hk2.cell 2; simp at y0 y1 y2; have HK2 := Lib.hid hk2; have d3 := (HB2.out.cell hlt).trans c3; clear hk2 ho2 hb2)
        | (go_at_call 82; (with_reducible refine (HGS.out _ _ _ (Rd.of_own HO2.out) hc2).mono ?_); rintro e w3 ⟨rfl, rfl⟩; have HB3 := HB2))
      go_region
      go_wp2_with fail
      go_ret2
      rw [HH.out]
      exact ⟨rfl, HB3.out.drew⟩
    · have hS4 : S ≤ 4096 := by omega
      have b2 : decide ((4096 : Int) < (S : Int)) = false := decide_eq_false (by omega)
      have b2n : decide (4096 < S) = false := decide_eq_false (by omega)
      obtain ⟨k, hk⟩ : ∃ k, takesN S = k := ⟨_, rfl⟩
      rw [hk] at HRC2
      have hk1 : 1 ≤ k ∧ 32 + S ≤ 256 * k ∧ k ≤ 18 := by rw [← hk]; unfold takesN; omega
      have hTQ : ∀ W : World, Calls Try.prog 34 #[.int .i64 (S : Int)] W fun e w' => e = .returned (.int .i64 (k : Int)) ∧ w' = W := fun W => by
        have := takes_q S (by omega) W
        rw [hk] at this
        exact this
      have HTQ := Lib.hid hTQ
      have HK := Lib.hid hk
      clear hTQ hk
      by_cases h3 : P < at_ + k
      · have HH := Lib.hid (HRC2.out.trans (if_pos (.inr h3)))
        have b3 : decide ((P : Int) < (at_ : Int) + (k : Int)) = true := decide_eq_true (by omega)
        have b3n : decide (P < at_ + k) = true := decide_eq_true (by omega)
        clear HRC2
        go_enter Try.func67, Try.ntmps67
        go_wp2_with (first
          | (go_at_call 40; (with_reducible refine (HPL.out _ HX.out).mono ?_); rintro e w1 ⟨rfl, hw1⟩; have HB1 := Lib.hid (bl_chain HX.out hw1); have hk1 := HXB.out.keep hw1; have y0 := hk1.cell 0; have y1 := hk1.cell 1; have y2 := hk1.cell 2; simp at y0 y1 y2; have HK1 := Lib.hid hk1; clear hk1 hw1)
          | (go_at_call 51; (with_reducible refine (HSEC.out _ HB1.out a ha1).mono ?_); rintro e w2 ⟨A2, c2, rfl, hc2, hm2, ho2, hb2⟩; have HO2 := Lib.hid ho2; have HB2 := Lib.hid (bl_chain HB1.out hb2); have hk2 := HK1.out.keep hb2; have y0 := hk2.cell 0; have y1 := hk2.cell 1; have y2 := hk2.cell 2; simp at y0 y1 y2; have HK2 := Lib.hid hk2; have d3 := (HB2.out.cell hlt).trans c3; clear hk2 ho2 hb2)
          | (go_at_call 82; (with_reducible refine (HGS.out _ _ _ (Rd.of_own HO2.out) hc2).mono ?_); rintro e w3 ⟨rfl, rfl⟩; have HB3 := HB2))
        go_quiet (first | (go_at_call 34; exact Calls.quiet_of_same (HTQ.out _)))
        go_wp2_with fail
        go_ret2
        rw [HH.out]
        exact ⟨rfl, bl_chain HB3.out (bl_drewN _ _)⟩
      · have HH := Lib.hid (HRC2.out.trans (if_neg (fun h => h.elim (fun h => by omega) h3)))
        have b3 : decide ((P : Int) < (at_ : Int) + (k : Int)) = false := decide_eq_false (by omega)
        have b3n : decide (P < at_ + k) = false := decide_eq_false (by omega)
        have hak : a + k ≤ D.n := by omega
        obtain ⟨b, hb⟩ : ∃ b, recB D a = b := ⟨_, rfl⟩
        have hbe : b = ((D.now.drop (256 * a)).take (256 * k)).take (32 + S) := by rw [← hb, ← HK.out, ← HS.out]; rfl
        have hbl : b.length = 32 + S := by rw [hbe, List.length_take, secs_length HO.out hak]; omega
        have HBL := Lib.hid hbl
        have HBB : Hid (isB b) := Lib.hid (by rw [hbe]; exact (secs_isB HO.out a k).take _)
        have HRB : Hid (∀ (W : World) (B g c4 : Nat), W.ownsRow B 5 1 (.slice (some ⟨g, 0, none⟩) (256 * k) c4) (256 * k) (by8 ((D.now.drop (256 * a)).take (256 * k))) → Rd W (some ⟨g, 0, none⟩) (by8 b)) := Lib.hid (fun W B g c4 h j u hj => by
          refine (Rd.of_own (ownsRow_base h (Nat.zero_le _))) j u ?_
          rw [hbe] at hj
          unfold by8 at hj ⊢
          rw [List.getElem?_map] at hj ⊢
          rw [List.getElem?_take] at hj
          split at hj
          · exact hj
          · cases hj)
        rw [hb] at HH
        have HOK := Lib.hid (show okL b = okL b from rfl)
        obtain ⟨ok, hok⟩ : ∃ ok, okL b = ok := ⟨_, rfl⟩
        obtain ⟨n0, hn0⟩ : ∃ n, numAt b 0 = n := ⟨_, rfl⟩
        obtain ⟨n1, hn1⟩ : ∃ n, numAt b 1 = n := ⟨_, rfl⟩
        obtain ⟨n2, hn2⟩ : ∃ n, numAt b 2 = n := ⟨_, rfl⟩
        rw [hok, hn0, hn1, hn2] at HH
        clear HRC2 hb hbe hbl HOK
        by_cases hgo : ok = true ∧ n0 = sl ∧ n1 = i ∧ n2 = se
        · have HH2 := Lib.hid (HH.out.trans (if_pos hgo))
          obtain ⟨rfl, rfl, rfl, rfl⟩ := hgo
          clear HH
          go_enter Try.func67, Try.ntmps67
          go_wp2_with (first
            | (go_at_call 40; (with_reducible refine (HPL.out _ HX.out).mono ?_); rintro e w1 ⟨rfl, hw1⟩; have HB1 := Lib.hid (bl_chain HX.out hw1); have hk1 := HXB.out.keep hw1; have y0 := hk1.cell 0; have y1 := hk1.cell 1; have y2 := hk1.cell 2; simp at y0 y1 y2; have HK1 := Lib.hid hk1; clear hk1 hw1)
            | (go_at_call 51; (with_reducible refine (HSEC.out _ HB1.out a ha1).mono ?_); rintro e w2 ⟨A2, c2, rfl, hc2, hm2, ho2, hb2⟩; have HO2 := Lib.hid ho2; have HB2 := Lib.hid (bl_chain HB1.out hb2); have hk2 := HK1.out.keep hb2; have y0 := hk2.cell 0; have y1 := hk2.cell 1; have y2 := hk2.cell 2; simp at y0 y1 y2; have HK2 := Lib.hid hk2; have d3 := (HB2.out.cell hlt).trans c3; clear hk2 ho2 hb2)
            | (go_at_call 82; (with_reducible refine (HGS.out _ _ _ (Rd.of_own HO2.out) hc2).mono ?_); rintro e w3 ⟨rfl, rfl⟩; have HB3 := HB2))
          go_quiet (first | (go_at_call 34; exact Calls.quiet_of_same (HTQ.out _)))
          go_wp2_with (first
            | (go_at_call 34; (with_reducible refine (HTQ.out _).mono ?_); rintro e w' ⟨rfl, rfl⟩)
            | (go_at_call 51; (with_reducible refine (HSEK.out _ (bl_chain HB3.out (bl_drewN _ _)) a k hk1.1 hak).mono ?_); rintro e w4 ⟨g, c4, rfl, hc4, hm4, ho4, hb4⟩; have HO4 := Lib.hid ho4; have hkk := bl_chain (bl_drewN w2 _) hb4; have HB4 := Lib.hid (bl_chain HB3.out hkk); have hk4 := HK2.out.keep hkk; have x0 := hk4.cell 0; have x1 := hk4.cell 1; have x2 := hk4.cell 2; simp at x0 x1 x2; have HK4 := Lib.hid hk4; clear hk4 ho4 hb4 hkk)
            | (go_at_call 50; (with_reducible refine (unseal3 (some ⟨g, 0, none⟩) (32 + S) (32 + S) b _ HBL.out (HRB.out _ _ _ _ HO4.out) HBB.out (by omega) (by omega) (Nat.le_refl _) (by simp only [maxLen]; omega)).mono ?_); rintro e w5 ⟨U, rfl, hb5, hs5, hw5⟩; rw [hn0, hn1, hn2] at hb5; have u0 := hb5.cell 0; have u1 := hb5.cell 1; have u2 := hb5.cell 2; simp at u0 u1 u2; have HB5 := Lib.hid (bl_chain HB4.out hw5); have hk5 := HK4.out.keep hw5; have v0 := hk5.cell 0; have v1 := hk5.cell 1; have v2 := hk5.cell 2; simp at v0 v1 v2; have HO5 := Lib.hid (own_below (B := 0) HO4.out hw5); clear hb5 hw5 hk5))
          go_region
          have HBD : Hid ((b.drop 32).length = S) := Lib.hid (by rw [List.length_drop, HBL.out]; omega)
          have HCL : Hid (Rd w5.drew (some ⟨g, 32, none⟩) (by8 (b.drop 32))) := Lib.hid (by
            have h1 := (HRB.out _ _ _ _ HO5.out).below (bl_drew w5)
            have h2 := Rd.off (n := 32) h1
            rw [by8_drop] at h2
            exact h2)
          have HB6 := Lib.hid (bl_chain HB5.out (bl_drew w5))
          have HCL0 : Hid (S = 0 → Rd w5.drew (some ⟨g, 0, none⟩) (by8 (b.drop 32))) := Lib.hid (fun h0 => by
            rw [List.eq_nil_of_length_eq_zero (HBD.out.trans h0)]
            exact Rd.nil)
          go_wp2_with (first
            | (go_at_call 46; (with_reducible refine (clone_n (some ⟨g, 32, none⟩) S S (b.drop 32) _ HCL.out HBD.out (by omega)).mono ?_); rintro e w7 ⟨A7, c7, rfl, hc7, ho7, hb7⟩; have HO7 := Lib.hid ho7; have HB7 := Lib.hid (bl_chain HB6.out hb7); have HZ7 := Lib.hid hb7.size; clear ho7 hb7)
            | (go_at_call 46; (with_reducible refine (clone_n (some ⟨g, 0, none⟩) 0 0 (b.drop 32) _ (HCL0.out (by omega)) (by have := HBD.out; omega) (by omega)).mono ?_); rintro e w7 ⟨A7, c7, rfl, hc7, ho7, hb7⟩; have HO7 := Lib.hid ho7; have HB7 := Lib.hid (bl_chain HB6.out hb7); have HZ7 := Lib.hid hb7.size; clear ho7 hb7))
          all_goals
            go_ret2
            rw [HH2.out]
            have hz6 := HB6.out.size
            refine ⟨A7, c7, ?_, ?_, HB7.out⟩
            · first
                | (rw [HBD.out]; rfl)
                | (rw [show (b.drop 32).length = 0 by have := HBD.out; omega]; rfl)
            · first
                | (rw [HBD.out]; exact ownsRow_base HO7.out hz6)
                | (rw [show (b.drop 32).length = 0 by have := HBD.out; omega]; exact ownsRow_base HO7.out hz6)
        · have HH2 := Lib.hid (HH.out.trans (if_neg hgo))
          have hcs : ok = false ∨ (ok = true ∧ n0 ≠ sl) ∨ (ok = true ∧ n0 = sl ∧ n1 ≠ i) ∨ (ok = true ∧ n0 = sl ∧ n1 = i ∧ n2 ≠ se) := by
            cases ok
            · exact .inl rfl
            · by_cases e0 : n0 = sl
              · by_cases e1 : n1 = i
                · exact .inr (.inr (.inr ⟨rfl, e0, e1, fun e2 => hgo ⟨rfl, e0, e1, e2⟩⟩))
                · exact .inr (.inr (.inl ⟨rfl, e0, e1⟩))
              · exact .inr (.inl ⟨rfl, e0⟩)
          clear HH hgo
          rcases hcs with q0 | ⟨q0, q1⟩ | ⟨q0, q1, q2⟩ | ⟨q0, q1, q2, q3⟩
          all_goals
            (try have e1 : (n0 == sl) = false := by simpa using q1)
            (try have e1' : (n0 != sl) = true := by simpa using q1)
            (try have e2 : (n1 == i) = false := by simpa using q2)
            (try have e2' : (n1 != i) = true := by simpa using q2)
            (try have e3 : (n2 == se) = false := by simpa using q3)
            (try have e3' : (n2 != se) = true := by simpa using q3)
            (try have e4 : (n0 != sl) = false := by simpa using q1)
            (try have e5 : (n1 != i) = false := by simpa using q2)
            go_enter Try.func67, Try.ntmps67
            go_wp2_with (first
              | (go_at_call 40; (with_reducible refine (HPL.out _ HX.out).mono ?_); rintro e w1 ⟨rfl, hw1⟩; have HB1 := Lib.hid (bl_chain HX.out hw1); have hk1 := HXB.out.keep hw1; have y0 := hk1.cell 0; have y1 := hk1.cell 1; have y2 := hk1.cell 2; simp at y0 y1 y2; have HK1 := Lib.hid hk1; clear hk1 hw1)
              | (go_at_call 51; (with_reducible refine (HSEC.out _ HB1.out a ha1).mono ?_); rintro e w2 ⟨A2, c2, rfl, hc2, hm2, ho2, hb2⟩; have HO2 := Lib.hid ho2; have HB2 := Lib.hid (bl_chain HB1.out hb2); have hk2 := HK1.out.keep hb2; have y0 := hk2.cell 0; have y1 := hk2.cell 1; have y2 := hk2.cell 2; simp at y0 y1 y2; have HK2 := Lib.hid hk2; have d3 := (HB2.out.cell hlt).trans c3; clear hk2 ho2 hb2)
              | (go_at_call 82; (with_reducible refine (HGS.out _ _ _ (Rd.of_own HO2.out) hc2).mono ?_); rintro e w3 ⟨rfl, rfl⟩; have HB3 := HB2))
            go_quiet (first | (go_at_call 34; exact Calls.quiet_of_same (HTQ.out _)))
            go_wp2_with (first
              | (go_at_call 34; (with_reducible refine (HTQ.out _).mono ?_); rintro e w' ⟨rfl, rfl⟩)
              | (go_at_call 51; (with_reducible refine (HSEK.out _ (bl_chain HB3.out (bl_drewN _ _)) a k hk1.1 hak).mono ?_); rintro e w4 ⟨g, c4, rfl, hc4, hm4, ho4, hb4⟩; have HO4 := Lib.hid ho4; have hkk := bl_chain (bl_drewN w2 _) hb4; have HB4 := Lib.hid (bl_chain HB3.out hkk); have hk4 := HK2.out.keep hkk; have x0 := hk4.cell 0; have x1 := hk4.cell 1; have x2 := hk4.cell 2; simp at x0 x1 x2; have HK4 := Lib.hid hk4; clear hk4 ho4 hb4 hkk)
              | (go_at_call 50; (with_reducible refine (unseal3 (some ⟨g, 0, none⟩) (32 + S) (32 + S) b _ HBL.out (HRB.out _ _ _ _ HO4.out) HBB.out (by omega) (by omega) (Nat.le_refl _) (by simp only [maxLen]; omega)).mono ?_); rintro e w5 ⟨U, rfl, hb5, hs5, hw5⟩; rw [hn0, hn1, hn2] at hb5; have u0 := hb5.cell 0; have u1 := hb5.cell 1; have u2 := hb5.cell 2; simp at u0 u1 u2; have HB5 := Lib.hid (bl_chain HB4.out hw5); have hk5 := HK4.out.keep hw5; have v0 := hk5.cell 0; have v1 := hk5.cell 1; have v2 := hk5.cell 2; simp at v0 v1 v2; have HO5 := Lib.hid (own_below (B := 0) HO4.out hw5); clear hb5 hw5 hk5))
            go_region
            go_wp2_with fail
            go_ret2
            rw [HH2.out]
            exact ⟨rfl, HB5.out.drew⟩
end
end Go.Proofs.Ytceajiliahmkaaa
