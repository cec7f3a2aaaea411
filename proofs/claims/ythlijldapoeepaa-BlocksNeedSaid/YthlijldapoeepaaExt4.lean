/- Contracts of the package extent: Write. -/
import Derived.Test.YthlijldapoeepaaExt3
import Derived.Test.YthlijldapoeepaaRangeG
namespace Go.Proofs.Ythlijldapoeepaa
set_option linter.unusedVariables false
set_option linter.unusedSimpArgs false
set_option maxRecDepth 100000
open Go.RowKit Go.Shelf

attribute [local go_sem] Oper.semAt_some

/-- A piece of 64 bytes. -/
def pc (b : List Int) (i : Nat) : List Int := (b.drop (64 * i)).take 64
def wrF (b : List Int) (s : List (List Int) × Nat) (x : Nat) : List (List Int) × Nat := (s.1.set s.2 (pc b (idx (many64 b.length) x)), s.2 + 1)
def wrP (L : List (List Int)) (a : Nat) (b : List Int) (pre : List Nat) : List (List Int) × Nat := pre.foldl (wrF b) (L, a)
theorem wrP_snoc (L : List (List Int)) (a : Nat) (b : List Int) (pre : List Nat) (x : Nat) : wrP L a b (pre ++ [x]) = wrF b (wrP L a b pre) x := by
  unfold wrP; rw [List.foldl_append]; rfl
theorem wrP_at (L : List (List Int)) (a : Nat) (b : List Int) (pre : List Nat) : (wrP L a b pre).2 = a + pre.length ∧ (wrP L a b pre).1.length = L.length := by
  unfold wrP
  induction pre generalizing L a with
  | nil => exact ⟨rfl, rfl⟩
  | cons x pre ih =>
    have h := ih (L.set a (pc b (idx (many64 b.length) x))) (a + 1)
    refine ⟨?_, ?_⟩
    · refine h.1.trans ?_; simp; omega
    · refine h.2.trans ?_; simp
/-- k blocks set from number a on. -/
def wrTo (L : List (List Int)) (a : Nat) (b : List Int) : Nat → List (List Int)
  | 0 => L
  | k + 1 => (wrTo L a b k).set (a + k) (pc b k)
theorem wrP_range (L : List (List Int)) (a : Nat) (b : List Int) : ∀ k, k ≤ many64 b.length → (wrP L a b (List.range k)).1 = wrTo L a b k
  | 0, _ => rfl
  | k + 1, h => by
    rw [List.range_succ, wrP_snoc]
    unfold wrF
    show (wrP L a b (List.range k)).1.set _ _ = _
    rw [wrP_range L a b k (by omega), (wrP_at L a b _).1, List.length_range, idx_of (by omega)]
    rfl
theorem wrTo_length (L : List (List Int)) (a : Nat) (b : List Int) : ∀ k, (wrTo L a b k).length = L.length
  | 0 => rfl
  | k + 1 => by rw [wrTo, List.length_set, wrTo_length L a b k]
def wrOk (n : Nat) (lba : Int) (b : List Int) : Bool := inB n lba (b.length / 64 : Nat) && decide (b.length % 64 = 0)
def writeL (L : List (List Int)) (lba : Int) (b : List Int) : List (List Int) := if wrOk L.length lba b = true then wrTo L lba.toNat b (b.length / 64) else L
def writeE (n : Nat) (lba : Int) (b : List Int) : Int := if wrOk n lba b = true then 0 else 1
theorem pc_bl {b : List Int} (hB : isB b) (h0 : b.length % 64 = 0) {i : Nat} (hi : i < b.length / 64) : isBl (pc b i) := by
  refine ⟨?_, fun x hx => hB x (List.mem_of_mem_drop (List.mem_of_mem_take hx))⟩
  unfold pc
  rw [List.length_take, List.length_drop]
  omega
theorem rd_spot {w : World} {A : Option Addr} {l : List Int} (h : Rd w A (by8 l)) (hl : 0 < l.length) : ∃ b o, A = some ⟨b, o, none⟩ := by
  obtain ⟨ad, rfl, hb, hc⟩ := h.at_ (k := 0) (by rw [by8_length]; exact hl)
  have hs := World.cell?_spot hc
  obtain ⟨b, o, sp⟩ := ad
  simp [Addr.add] at hs
  subst hs
  exact ⟨b, o, rfl⟩
theorem rd_pc {w : World} {b o : Nat} {l : List Int} (h : Rd w (some ⟨b, o, none⟩) (by8 l)) (i : Nat) : Rd w (some ⟨b, o + 64 * i, none⟩) (by8 (pc l i)) := fun j u hj => by
  unfold pc at hj
  rw [← by8_take, ← by8_drop] at hj
  rw [List.getElem?_take] at hj
  split at hj
  · rw [List.getElem?_drop] at hj
    obtain ⟨ad, e, hc⟩ := h _ u hj
    injection e with e
    subst e
    refine ⟨_, rfl, ?_⟩
    rw [add_lit] at hc ⊢
    rw [← hc, Nat.add_assoc]
  · cases hj

section
variable {w : World} {g B : Nat} {L : List (List Int)} {D : DataW Unit} {M : Nat → Prop}
theorem IsImg.trc (h : IsImg w g L B D M) {w' : World} {row : Option Nat} {n : Nat} (hn : B < n) (hg : w.grownBy w' row) (hr : ∀ r, row = some r → n ≤ r ∧ ∃ o : Obj, w.heap[r]? = some o ∧ o.isCells = false) : IsImg w' g L B D M :=
  ⟨h.ok, h.blk.turn (turn_of hg hr), owns_tr h.own (Tr.of_grown (F := fun b => n ≤ b) hg (fun b e _ => (hr b e).1)) (by omega), h.has, fun i hi => by
    obtain ⟨b, h1, h2, h3⟩ := h.at_ i hi
    exact ⟨b, h1, h2, h3.trc (F := fun b => ∃ o : Obj, w.heap[b]? = some o ∧ o.isCells = false) (turn_of hg hr) (fun b hb => hb)⟩, h.sz, h.mg, h.mB, fun b hb => Nat.lt_of_lt_of_le (h.mlt b hb) hg.size⟩
theorem write_nil (lba : Int) (A : Option Addr) (n c : Nat) (hn : n ≤ 140737488351232) (w : World) : Calls Try.prog 44 #[.pointer none, .int .i64 lba, .slice A n c] w fun e w' => e = .returned (.int .i64 2) ∧ Below w.heap.size w w' := by
  go_enter Try.func44, Try.ntmps44
  go_wp2_with (first
    | (go_at_call 58; (with_reducible refine (wrong_nil lba _ _).mono ?_); rintro e w' ⟨rfl, rfl⟩))
  go_ret
  exact ⟨rfl, bl_chain (bl_alloc w _) (bl_alloc _ _)⟩
set_option maxHeartbeats 3200000 in
theorem write_any (h : IsImg w g L B D M) (lba : Int) (hlb : -9223372036854775808 ≤ lba ∧ lba ≤ 9223372036854775807) (A : Option Addr) (c : Nat) (b : List Int) (hr : Rd w A (by8 b)) (hB : isB b) (hc : b.length ≤ c) (hl : b.length ≤ 140737488351232) :
    Calls Try.prog 44 #[.pointer (some ⟨g, 0, none⟩), .int .i64 lba, .slice A b.length c] w (RetS w g (writeL L lba b) B M (writeE L.length lba b)) := by
  have hq : ((b.length : Int) / 64) = ((b.length / 64 : Nat) : Int) := by omega
  have hw : ∀ W, Below w.heap.size w W → Calls Try.prog 58 #[.pointer (some ⟨g, 0, none⟩), .int .i64 lba, .int .i64 ((b.length : Int) / 64)] W fun e w' => e = .returned (.int .i64 (wrongE L.length lba ((b.length / 64 : Nat) : Int))) ∧ W = w' := fun W hW => by rw [hq]; exact wrong_any ⟨B, D, h.below hW⟩ lba (b.length / 64 : Nat) (by omega)
  by_cases hok : wrOk L.length lba b = true
  · have HE : Hid (writeL L lba b = wrTo L lba.toNat b (b.length / 64) ∧ writeE L.length lba b = 0) := Lib.hid ⟨if_pos hok, if_pos hok⟩
    rw [HE.out.1, HE.out.2]
    have hok2 := hok
    unfold wrOk at hok2
    simp only [Bool.and_eq_true, decide_eq_true_eq] at hok2
    obtain ⟨hin, h0⟩ := hok2
    have hr4 := of_decide_eq_true hin
    rw [show wrongE L.length lba (b.length / 64 : Nat) = 0 from if_pos hin] at hw
    have HW := Lib.hid hw
    obtain ⟨a, rfl⟩ := Int.eq_ofNat_of_zero_le hr4.1
    have HN : many64 b.length = b.length / 64 := by unfold many64; omega
    have haN : a + many64 b.length ≤ L.length := by rw [HN]; omega
    have h256 := h.ok.hi
    have HBL : ∀ i, i < many64 b.length → isBl (pc b i) := fun i hi => pc_bl hB h0 (by omega)
    obtain ⟨bb, off, hA⟩ : ∃ bb off, 0 < b.length → A = some ⟨bb, off, none⟩ := by
      by_cases hb0 : 0 < b.length
      · obtain ⟨x, y, e⟩ := rd_spot hr hb0; exact ⟨x, y, fun _ => e⟩
      · exact ⟨0, 0, fun h => absurd h hb0⟩
    have t1 : (((b.length : Int) % 64) != 0) = false := by simpa using (by omega : (b.length : Int) % 64 = 0)
    have HH := Lib.hid h
    have HR := Lib.hid hr
    have HA := Lib.hid hA
    have HBLH := Lib.hid HBL
    have H0 := Lib.hid h0
    have HNH := Lib.hid HN
    rw [Int.toNat_natCast, ← HN]
    have hlenN := Lib.hid (show b.length = 64 * many64 b.length by rw [HN]; omega)
    clear hw hq hin hok h hA HBL h0 hr hr4 HN
    refine (callsIn_wide (n := 10)).1 (callsIn_of_wp_marks Try.func44 rfl trivial ?_ rfl)
    refine wpIn_wide.2 ?_
    simp only [Try.ntmps44, List.size_toArray, List.length_cons, List.length_nil, Nat.reduceAdd, Nat.reduceSub, Array.replicate_succ, Array.replicate_zero, List.push_toArray, List.append_toArray, List.nil_append, List.cons_append]
    go_wp2_with (first
      | (go_at_call 58; (with_reducible refine (HW.out _ (bl_chain (bl_alloc w _) (bl_alloc _ _))).mono ?_); rintro e w' ⟨rfl, rfl⟩)
      | (go_at_call 46; (with_reducible refine (chunk64_any _ _ _ _).mono ?_); rintro e w2 ⟨rfl, hb1, hb2, hbl⟩; have K1 := Lib.hid hb1; have K2 := Lib.hid hb2; have BX := Lib.hid (((Blk.new w 39 #[.pointer (some ⟨g, 0, none⟩)]).alloc (.cells #[.int .i64 (a : Int)] 3)).keep hbl); have BY := Lib.hid ((Blk.new (w.alloc (.cells #[.pointer (some ⟨g, 0, none⟩)] 39)) 3 #[.int .i64 (a : Int)]).keep hbl); have B2 := Lib.hid (bl_chain (bl_chain (bl_alloc w _) (bl_alloc _ _)) hbl); clear hb1 hb2 hbl))
    simp only [World.size_alloc] at K1 K2 BY ⊢
    have hz2 : w.heap.size + 4 ≤ w2.heap.size := by have := K2.out.lt; omega
    refine range_ownG1 (Kp := Two (w.heap.size + 1 + 1) (w.heap.size + 1 + 1 + 1)) (v := fun x => piece64 bb off b.length (idx (many64 b.length) x)) (gf := 60) (lb := #[.pointer (some ⟨w.heap.size + 1 + 1, 0, none⟩), .pointer (some ⟨w.heap.size + 1 + 1 + 1, 0, none⟩)]) rfl (enters_of Try.func60 (by kernel_rfl) rfl)
      (chunk64_stops _ _ bb off b.length c A HA.out hc (by omega) w2 K1.out K2.out) two_t (two_b (by omega) (by omega))
      (fun pre W => (∃ D' M', IsImg W g (wrP L a b pre).1 B D' M' ∧ ∀ q, M' q → M q ∨ w2.heap.size ≤ q) ∧ Blk W w.heap.size 39 #[.pointer (some ⟨g, 0, none⟩)] ∧ Blk W (w.heap.size + 1) 3 #[.int .i64 ((a + pre.length : Nat) : Int)] ∧ Tr (fun q => q = B) w W ∧ w2.heap.size ≤ W.heap.size)
      (fun pre X Y row ⟨⟨D', M', h1, h1'⟩, h2, h3, h4, h5⟩ hg hr => ⟨⟨D', M', h1.trc (n := w2.heap.size) (by have := HH.out.own.lt; omega) hg hr, h1'⟩, h2.turn (turn_of hg hr), h3.turn (turn_of hg hr), h4.trans (Tr.of_grown (F := fun q => w2.heap.size ≤ q) hg (fun q e _ => (hr q e).1)) (fun q hq hq2 => absurd hq (by omega)), Nat.le_trans h5 hg.size⟩)
      ⟨⟨D, M, HH.out.below B2.out, fun q h => .inl h⟩, BX.out, BY.out, Tr.of_below B2.out, Nat.le_refl _⟩
      (fun T x => (T.setIfInBounds 24 (piece64 bb off b.length (idx (many64 b.length) x))).setIfInBounds 8 (piece64 bb off b.length (idx (many64 b.length) x))) ?assign ?body ?done
    case assign =>
      intro l x W K hK
      simp only [List.setIfInBounds_toArray, List.set_cons_zero, List.set_cons_succ] at hK ⊢
      gi_wp2
      exact hK
    case body =>
      rintro lr pre x W ⟨⟨D', M', h1, h1'⟩, h2, h3, h4, h5⟩ hN
      have hi := idx_lt (x := x) (show 0 < many64 b.length by omega)
      obtain ⟨i, hix⟩ : ∃ i, idx (many64 b.length) x = i := ⟨_, rfl⟩
      rw [hix] at hi ⊢
      have hpc : piece64 bb off b.length i = .slice (some ⟨bb, off + 64 * i, none⟩) 64 64 := by
        unfold piece64
        rw [show min 64 (b.length - 64 * i) = 64 by have := hlenN.out; omega]
      rw [hpc]
      have hAs := HA.out (by have := hlenN.out; omega)
      have HRP := Lib.hid (rd_pc (by have := HR.out.trc h4 (NoCells.mapB HH.out); rw [hAs] at this; exact this) i)
      have hbl := HBLH.out i hi
      have HBI := Lib.hid hbl
      have HBI1 := Lib.hid hbl.1
      have hlt3 := h3.lt
      have c1 := h1.c1
      have c2 := h2.cell 0
      have c3 : W.cell? ⟨w.heap.size + 1, 0, none⟩ = some (.int .i64 ((a + pre.length : Nat) : Int)) := h3.cell 0
      simp at c2
      have H1 := Lib.hid h1
      have H1' := Lib.hid h1'
      have H2 := Lib.hid h2
      have H3 := Lib.hid h3
      have H4 := Lib.hid h4
      have HIX := Lib.hid hix
      have hap : a + pre.length < L.length := by omega
      have HK : Hid (keyOf Try.prog 3 (.int .i64 ((a + pre.length : Nat) : Int)) = some (lk ((a + pre.length : Nat) : Int))) := Lib.hid (keyOfI (by omega))
      have HPL := Lib.hid (wrP_at L a b pre)
      clear h1 h1' h2 h3 h4 hix hbl hpc hAs
      obtain ⟨q, hq⟩ : ∃ q, a + pre.length = q := ⟨_, rfl⟩
      have HQ := Lib.hid hq
      rw [hq] at c3 HK H3 hap
      clear hq
      simp only [List.setIfInBounds_toArray, List.set_cons_zero, List.set_cons_succ]
      gi_wp2
      have HSS : Hid (W.drew.cell? ⟨g, 1, none⟩ = some (.map (some B)) ∧ W.drew.cell? ⟨w.heap.size, 0, none⟩ = some (.pointer (some ⟨g, 0, none⟩)) ∧ W.drew.cell? ⟨w.heap.size + 1, 0, none⟩ = some (.int .i64 (q : Int))) := Lib.hid ⟨c1, c2, c3⟩
      refine in_ext_start (S := fun W => W.cell? ⟨g, 1, none⟩ = some (.map (some B)) ∧ W.cell? ⟨w.heap.size, 0, none⟩ = some (.pointer (some ⟨g, 0, none⟩)) ∧ W.cell? ⟨w.heap.size + 1, 0, none⟩ = some (.int .i64 (q : Int))) (by kernel_rfl) (by decide) (by rintro ⟨a, w, h⟩; exact h) ?_
      refine held_take HSS.out (i := 0) (v := ?_) rfl (by kernel_rfl) (by kernel_rfl) (by kernel_rfl) (fun _ _ _ h => h) (Or.inl ⟨by rfl, ?_⟩) ?_
      rotate_left
      · (intro W3 hSw; obtain ⟨s1, s2, s3⟩ := hSw; go_simp; try with_reducible rfl)
      try simp only [Act.put, List.setIfInBounds_toArray, List.set_cons_zero, List.set_cons_succ]
      refine held_take HSS.out (i := 1) (v := ?_) rfl (by kernel_rfl) (by kernel_rfl) (by kernel_rfl) (fun _ _ _ h => h) (Or.inl ⟨by rfl, ?_⟩) ?_
      rotate_left
      · (intro W3 hSw; obtain ⟨s1, s2, s3⟩ := hSw; go_simp; try with_reducible rfl)
      try simp only [Act.put, List.setIfInBounds_toArray, List.set_cons_zero, List.set_cons_succ]
      refine held_take HSS.out (i := 2) (v := ?_) rfl (by kernel_rfl) (by kernel_rfl) (by kernel_rfl) (fun _ _ _ h => h) (Or.inl ⟨by rfl, ?_⟩) ?_
      rotate_left
      · (intro W3 hSw; obtain ⟨s1, s2, s3⟩ := hSw; go_simp; try with_reducible rfl)
      try simp only [Act.put, List.setIfInBounds_toArray, List.set_cons_zero, List.set_cons_succ]
      refine held_take HSS.out (i := 3) (v := ?_) rfl (by kernel_rfl) (by kernel_rfl) (by kernel_rfl) (fun _ _ _ h => h) (Or.inl ⟨by rfl, ?_⟩) ?_
      rotate_left
      · (intro W3 hSw; obtain ⟨s1, s2, s3⟩ := hSw; go_simp; try with_reducible rfl)
      try simp only [Act.put, List.setIfInBounds_toArray, List.set_cons_zero, List.set_cons_succ]
      refine held_take HSS.out (i := 4) (v := ?_) rfl (by kernel_rfl) (by kernel_rfl) (by kernel_rfl) (fun _ _ _ h => h) (Or.inl ⟨by rfl, ?_⟩) ?_
      rotate_left
      · (intro W3 hSw; obtain ⟨s1, s2, s3⟩ := hSw; go_simp; try with_reducible rfl)
      try simp only [Act.put, List.setIfInBounds_toArray, List.set_cons_zero, List.set_cons_succ]
      refine held_take HSS.out (i := 5) (v := ?_) rfl (by kernel_rfl) (by kernel_rfl) (by kernel_rfl) (fun _ _ _ h => h) (Or.inl ⟨by rfl, ?_⟩) ?_
      rotate_left
      · (intro W3 hSw; obtain ⟨s1, s2, s3⟩ := hSw; go_simp; try with_reducible rfl)
      try simp only [Act.put, List.setIfInBounds_toArray, List.set_cons_zero, List.set_cons_succ]
      refine held_call (i := 6) (by kernel_rfl) rfl (fun K hK => ?_)
      go_simp
      (go_at_call 38; (with_reducible refine (clone_n _ _ 64 _ _ HRP.out.drew HBI1.out (by omega)).mono ?_); rintro e w4 ⟨A4, c4, rfl, hc4, ho4, hb4⟩; have HO4 := Lib.hid ho4; have HB4 := Lib.hid hb4; have HI4 := Lib.hid ((H1.out.below (bl_drew W)).below hb4); obtain ⟨b4, rfl, hb40, hb41, hc40, hc41⟩ := own64 ho4; have z1 := (hb4.cell (cell_block_lt c1)).trans c1; have z2 := (hb4.cell (cell_block_lt c2)).trans c2; have z3 := (hb4.cell (cell_block_lt c3)).trans c3; clear ho4 hb4)
      refine hK.out _ _ ⟨z1, z2, z3⟩ ?_
      clear hK K
      try simp only [Act.put, List.setIfInBounds_toArray, List.set_cons_zero, List.set_cons_succ]
      refine held_call (i := 7) (by kernel_rfl) rfl (fun K hK => ?_)
      obtain ⟨w5, hrun5, ho5, hg5⟩ := HI4.out.own.update keyI Try.underlying76 (by simp only [maxLen]; omega) HK.out (rSl_mk (b := b4) hc40 hc41)
      have HO5 := Lib.hid ho5
      have HG5 := Lib.hid hg5
      have u1 := cell_trc z1 (tr_map hg5) (NoCells.mapB HI4.out)
      have u2 := cell_trc z2 (tr_map hg5) (NoCells.mapB HI4.out)
      have u3 := cell_trc z3 (tr_map hg5) (NoCells.mapB HI4.out)
      have HBK5 := Lib.hid (((H3.out.drew).keep HB4.out).trc (tr_map hg5) (NoCells.mapB HI4.out))
      have f5 := HBK5.out.frozen 0
      clear ho5 hg5
      go_simp
      refine hK.out _ _ ⟨u1, u2, u3⟩ ?_
      clear hK K
      refine wpAnyH_done (by kernel_rfl) ?_ _
      try simp only [Act.put, List.setIfInBounds_toArray, List.set_cons_zero, List.set_cons_succ]
      gi_wp2
      have hlB := HH.out.own.lt
      have hsz := HB4.out.size
      have hneB : w.heap.size + 1 ≠ B := by omega
      have t5 : Tr (fun b => b = B) W w5 := ((Tr.of_below (bl_drew W)).then_below HB4.out).trans (tr_map HG5.out) (fun b _ hb => hb)
      have hMlt := HH.out.mlt
      have hI5 := (HI4.out.mono (M' := fun b => M' b ∨ b = b4) (fun b h => .inl h) (fun b h => by
        rcases h with h | rfl
        · exact HI4.out.mlt b h
        · exact hb41)).put q (by rw [HPL.out.2]; exact hap) HBI.out (Rd.of_own HO4.out) (.inr rfl) HG5.out HO5.out
      have hMM : ∀ r, (M' r ∨ r = b4) → M r ∨ w2.heap.size ≤ r := fun r h => by
        rcases h with h | rfl
        · exact H1'.out r h
        · exact .inr (Nat.le_trans h5 hb40)
      have t6 : Tr (fun b => b = w.heap.size + 1) w5 (w5.setCell ⟨w.heap.size + 1, 0, none⟩ (.int .i64 ((q : Int) + 1))) := (Tr.refl (fun b => b = w.heap.size + 1) w5).setCell (p := ⟨w.heap.size + 1, 0, none⟩) (fun _ => rfl) _
      have hI6 := hI5.tr t6 (fun r h e => by
        rcases hMM r h with h | h
        · have := hMlt r h; omega
        · omega)
      have hkf : KeepsFrom w2.heap.size W (w5.setCell ⟨w.heap.size + 1, 0, none⟩ (.int .i64 ((q : Int) + 1))) :=
        ((keepsFrom_below (n := 0) (bl_chain (bl_drew W) HB4.out)).trans (KeepsFrom.of_grownBy HG5.out (fun j e => by injection e with e; omega))).trans ((KeepsOthers.setCell _ _ _).from _)
      have hk : ∀ r, r < W.heap.size → r ≠ B → r ≠ w.heap.size + 1 → (w5.setCell ⟨w.heap.size + 1, 0, none⟩ (.int .i64 ((q : Int) + 1))).heap[r]? = W.heap[r]? := fun r h1 h2 h3 =>
        (Below.heap_setCell _ _ _ _ h3).trans (t5.block r h1 h2)
      have e5 : wrP L a b (pre ++ [x]) = ((wrP L a b pre).1.set q (pc b i), q + 1) := by
        rw [wrP_snoc]
        unfold wrF
        rw [HPL.out.1, HQ.out, HIX.out]
      refine ⟨hkf, ⟨hk _ (by omega) (by omega) (by omega), hk _ (by omega) (by omega) (by omega)⟩, ⟨_, _, by rw [e5]; exact hI6, hMM⟩, (hk _ (by omega) (by omega) (by omega)).trans H2.out, ?_, (H4.out.trans t5 (fun b _ hb => hb)).setCell (fun h => absurd h (by simp)) _, ?_⟩
      · have h6 := HBK5.out.set_ 0 (.int .i64 ((q : Int) + 1))
        have e6 : ((a + (pre ++ [x]).length : Nat) : Int) = (q : Int) + 1 := by rw [List.length_append, ← HQ.out]; simp; omega
        rw [e6]
        exact h6
      · have := t5.size
        simp [World.setCell]
        omega
    case done =>
      rintro D7 xs W7 hD rfl ⟨⟨D', M', h1, h1'⟩, h2, h3, h4, h5⟩ hK
      rw [wrP_range L a b _ (Nat.le_refl _)] at h1
      have HD7 := Lib.hid hK
      go_wp2_with fail
      refine ⟨by simp, .inl ⟨D7, _, rfl, run_takeDeferred HD7.out, ?_⟩⟩
      refine ⟨_, results_tmp rfl _ _ _, ?_⟩
      have hg7 := grownBy_putObj' W7 D7 (.deferred none)
      have hlB := HH.out.own.lt
      exact ⟨D', M', rfl, h1.trc (n := w2.heap.size) (by omega) hg7 (fun r e => by cases e; exact ⟨hD, _, HD7.out, rfl⟩), fun q h => (h1' q h).imp id (fun h => by omega), h4.trans (Tr.of_grown (F := fun q => w2.heap.size ≤ q) hg7 (fun q e _ => by cases e; exact hD)) (fun q hq hq2 => absurd hq (by omega))⟩
  · have HE : Hid (writeL L lba b = L ∧ writeE L.length lba b = 1) := Lib.hid ⟨if_neg hok, if_neg hok⟩
    rw [HE.out.1, HE.out.2]
    have HH := Lib.hid h
    by_cases hin : inB L.length lba (b.length / 64 : Nat) = true
    · have hm : ¬ (b.length % 64 = 0) := fun e => hok (by unfold wrOk; rw [hin]; simp [e])
      have t1 : (((b.length : Int) % 64) != 0) = true := by simpa using (by omega : ¬ (b.length : Int) % 64 = 0)
      rw [show wrongE L.length lba (b.length / 64 : Nat) = 0 from if_pos hin] at hw
      have HW := Lib.hid hw
      clear hw hq hin hok hm h
      go_enter Try.func44, Try.ntmps44
      go_wp2_with (first
        | (go_at_call 58; (with_reducible refine (HW.out _ (bl_chain (bl_alloc w _) (bl_alloc _ _))).mono ?_); rintro e w' ⟨rfl, rfl⟩))
      go_ret
      exact ⟨D, M, rfl, HH.out.below (bl_chain (bl_alloc w _) (bl_alloc _ _)), fun b hb => .inl hb, Tr.of_below (bl_chain (bl_alloc w _) (bl_alloc _ _))⟩
    · rw [show wrongE L.length lba (b.length / 64 : Nat) = 1 from if_neg hin] at hw
      have HW := Lib.hid hw
      clear hw hq hin hok h
      go_enter Try.func44, Try.ntmps44
      go_wp2_with (first
        | (go_at_call 58; (with_reducible refine (HW.out _ (bl_chain (bl_alloc w _) (bl_alloc _ _))).mono ?_); rintro e w' ⟨rfl, rfl⟩))
      go_ret
      exact ⟨D, M, rfl, HH.out.below (bl_chain (bl_alloc w _) (bl_alloc _ _)), fun b hb => .inl hb, Tr.of_below (bl_chain (bl_alloc w _) (bl_alloc _ _))⟩
end
end Go.Proofs.Ythlijldapoeepaa
