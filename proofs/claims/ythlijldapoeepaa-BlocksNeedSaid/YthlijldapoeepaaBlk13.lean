/- Layer 6: a fresh disk; a call on a calm disk; open and known of the laws. -/
import Derived.Test.YthlijldapoeepaaBlk12
namespace Go.Proofs.Ythlijldapoeepaa
set_option linter.unusedVariables false
set_option linter.unusedSimpArgs false
set_option maxRecDepth 100000
open Go.RowKit Go.Shelf

/-! ### a fresh disk -/
def freshD (N : Nat) : Dk.DS := Dk.newD (List.replicate (N * 256) 0)
theorem freshD_n (N : Nat) : (freshD N).n = N := by unfold freshD Dk.DS.n Dk.newD; simp
theorem fresh_read (N z : Nat) (hz : z < N) : Dk.readD (freshD N) (z : Nat) 1 = List.replicate 256 0 := by
  unfold Dk.readD
  have hw : Dk.wrongD (freshD N).n (z : Nat) 1 = false := by rw [freshD_n]; unfold Dk.wrongD; rw [decide_eq_false_iff_not]; omega
  rw [hw]
  simp only [freshD, Dk.newD, Bool.false_eq_true, if_false, List.drop_replicate, List.take_replicate, Int.toNat_natCast]
  congr 1
  show min (256 * (1 : Int).toNat) _ = 256
  have : (1 : Int).toNat = 1 := rfl
  rw [this]
  omega
theorem foldl_zeros : ∀ n, (List.replicate n (0 : Int)).foldl (fun n x => n * 256 + x) 0 = 0
  | 0 => rfl
  | n + 1 => by rw [List.replicate_succ, List.foldl_cons]; exact foldl_zeros n
theorem unb_zeros (n : Nat) : unb (List.replicate n 0) = 0 := foldl_zeros n
theorem readST_zeros : readST (List.replicate 256 0) = ST.zero := by
  unfold readST
  apply if_neg
  rintro ⟨_, h⟩
  apply h.1
  show wrap64 (unb (((List.replicate 256 0).drop 4).take 8)) < 1
  rw [List.drop_replicate, List.take_replicate, unb_zeros]
  unfold wrap64
  omega
theorem topTo_fresh {N F : Nat} : ∀ i, F + i ≤ N → topTo (freshD N) F i = ST.zero
  | 0, _ => rfl
  | i + 1, h => by
    rw [topTo, topTo_fresh i (by omega), fresh_read N (F + i) (by omega), readST_zeros]
    exact if_neg (by simp)
theorem fresh_top {N F : Nat} (h : F + 2 ≤ N) : top (freshD N) F = ST.zero := topTo_fresh 2 h
theorem rowL_empty (n k : Nat) : rowL (emptyL n) k = List.replicate 195 0 := by
  have hc : ∀ i, cellL (emptyL n) i = List.replicate 65 0 := fun i => by
    unfold cellL bv
    rw [bk_empty, if_pos rfl, if_pos rfl]
    rfl
  unfold rowL
  simp only [rowTo, hc, List.nil_append]
  rfl
theorem fresh_load {N F n : Nat} (h1 : 1 ≤ n) (h2 : n ≤ 256) (h : F + 19 + 2 * rowsN n ≤ N) : LoadOk (freshD N) F 0 (emptyL n) := by
  have hl : (emptyL n).length = n := by simp [emptyL]
  refine ⟨emptyL_ok h1 h2, fun k hk => ⟨List.replicate 61 0, ?_⟩, by rw [hl, freshD_n]; exact h⟩
  rw [hl] at hk ⊢
  rw [fresh_read N _ (by unfold rowAt; omega), rowL_empty, List.replicate_append_replicate]

/-! ### a call on a calm disk -/
structure Calm (D : Dk.DS) : Prop where
  ok : D.Ok
  dead : D.dead = false
  fail : D.failing = false
theorem Calm.flushE {D : Dk.DS} (h : Calm D) : Dk.flushE D = 0 := by unfold Dk.flushE; rw [h.dead, h.fail]; rfl
theorem Calm.flushD {D : Dk.DS} (h : Calm D) : Calm (Dk.flushD D) := by
  refine ⟨flushD_ok h.ok, ?_, ?_⟩
  · simp [Dk.flushD, h.dead, h.fail]
  · simp [Dk.flushD, h.dead, h.fail]
theorem Calm.writeD {D : Dk.DS} (h : Calm D) {a : Int} {l : List Int} (hB : isB l) : Calm (Dk.writeD D a l) := ⟨writeD_ok h.ok hB, (writeD_dead _ _ _).trans h.dead, (writeD_failing _ _ _).trans h.fail⟩
theorem Calm.writeE {D : Dk.DS} (h : Calm D) {a : Nat} {l : List Int} (h1 : 1 ≤ Dk.secs l) (h2 : a + Dk.secs l ≤ D.n) : Dk.writeE D (a : Nat) l = 0 := by
  unfold Dk.writeE
  rw [h.dead, if_neg (by simp), if_neg]
  unfold Dk.wrongD
  rw [decide_eq_true_iff]
  omega
theorem Calm.mark {D : Dk.DS} (h : Calm D) {F : Nat} {x : ST} (hx : 0 ≤ x.gen) (hF : F + 2 ≤ D.n) : markE D F x = 0 ∧ Calm (markD D F x) := by
  have hs : Dk.secs x.sector = 1 := by unfold Dk.secs; rw [x.sector_length]
  have h1 : Dk.writeE D (markAt F x : Nat) x.sector = 0 := h.writeE (by omega) (by unfold markAt; omega)
  have h2 := h.writeD (a := (markAt F x : Nat)) x.sector_isB
  unfold markE markD
  rw [if_pos h1, if_pos h1]
  exact ⟨h2.flushE, h2.flushD⟩
theorem Calm.rowsD {D : Dk.DS} (h : Calm D) {F a : Nat} {L : List (List Int)} (hL : ImgOk L) (ks : List Nat) : Calm (rowsD D F a L ks) := by
  induction ks using snocInd with
  | h0 => exact h
  | hs ks k ih =>
    rw [rowsD_snoc]
    exact ih.writeD (rowL_isB hL k)
theorem Calm.rows {D : Dk.DS} (h : Calm D) {F : Nat} {x : ST} {L : List (List Int)} (hL : ImgOk L) (ks : List Nat) (hx : 0 ≤ x.gen) (hF : F + 2 ≤ D.n) : rowsE D F x L ks = 0 ∧ Calm (rowsF D F x L ks) := by
  have h1 := h.rowsD (F := F) (a := x.area.toNat) hL ks
  have hn := (rowsD_keeps D F x.area.toNat L ks).1
  have h2 := h1.flushD.mark (F := F) (x := x.next x.n x.area 0) (by simp only [ST.next]; omega) (by rw [flushD_n h1.ok, hn]; exact hF)
  unfold rowsE rowsF
  rw [h1.flushE, if_pos rfl, if_pos rfl]
  exact h2
theorem chTo_ok {L : List (List Int)} (h : ImgOk L) : ∀ {l : List ChS}, (∀ y ∈ l.map ChS.two, lineOk y) → ImgOk (chTo L l) := by
  intro l
  induction l generalizing L with
  | nil => exact fun _ => h
  | cons y l ih =>
    intro hl
    have hy := hl y.two (by simp)
    exact ih (h.set_ _ hy.2) (fun z hz => hl z (by simp only [List.map_cons, List.mem_cons]; exact .inr hz))
theorem applyR_ok {D : Dk.DS} (h : Calm D) {F : Nat} {x : ST} {L : List (List Int)} {n : Int} {l : List ChS} (hR : Ready D F x L.length) (hL : ImgOk L) (hl : ∀ y ∈ l.map ChS.two, lineOk y) :
    (applyR D F x L n l).e = 0 ∧ (applyR D F x L n l).x = ⟨x.gen + 2, n, x.area, 0⟩ ∧ Calm (applyR D F x L n l).D ∧ (applyR D F x L n l).L = chTo L l := by
  obtain ⟨G, hG, _⟩ := hR.gen
  have hf := hR.fit
  have hj : Calm (jourD D F x n l) := h.writeD (sealL_isB (entryB_isB hl))
  have hjn : (jourD D F x n l).n = D.n := writeD_n _ _ _
  have hm := hj.flushD.mark (F := F) (x := x.next n x.area 1) (by simp only [ST.next]; omega) (by rw [flushD_n hj.ok, hjn]; omega)
  have hr := hm.2.rows (F := F) (x := x.next n x.area 1) (chTo_ok hL hl) (rowsT l) (by simp only [ST.next]; omega) (by rw [markD_n hj.flushD.ok, flushD_n hj.ok, hjn]; omega)
  unfold applyR
  rw [if_neg (by rw [hj.flushE]; simp), if_neg (by rw [hm.1]; simp)]
  refine ⟨hr.1, ?_, hr.2, rfl⟩
  show (if _ = 0 then _ else _) = _
  rw [if_pos hr.1]
  simp only [ST.next, Int.add_assoc]
  rfl

/-! ### the laws' open and known -/
theorem open_okz {w : World} {d F : Nat} {L : List (List Int)} {Md Rr : Nat → Prop} {D : Dk.DS} (z m : Int) (hz : z = (F : Int)) (hm : m = (L.length : Int)) (x : ST) (hx : top D F = x) (hd : Dk.IsDisk w d D Md Rr) (hF : F ≤ 100000) (a : Nat) (ha : x.area = (a : Int)) (ha1 : a ≤ 1) (hL : LoadOk D F a L) (hop : x.op = 0) :
    Calls Try.prog 9 #[.pointer (some ⟨d, 0, none⟩), .int .i64 z, .int .i64 m] w (RetOpen w d F x D Md Rr L) := by
  subst hz
  subst hm
  subst hx
  exact open_ok hd hF a ha ha1 hL hop
def RetLOpen (w : World) (n : Nat) (e : Ending) (w' : World) : Prop :=
  ∃ s d g Md Mi, e = .returned (.tuple #[.pointer (some ⟨s, 0, none⟩), .pointer (some ⟨d, 0, none⟩)]) ∧ StAt w' s d g 0 ST.zero false (freshD (19 + 2 * rowsN n)) Md NoB (emptyL n) Mi ∧ w.heap.size ≤ s ∧ (∀ b, Md b → w.heap.size ≤ b) ∧ (∀ b, Mi b → w.heap.size ≤ b) ∧ Below w.heap.size w w'
set_option maxHeartbeats 1600000 in
theorem lopen_any (n : Nat) (h1 : 1 ≤ n) (h2 : n ≤ 256) (w : World) : Calls Try.prog 17 #[.int .i64 (n : Int)] w (RetLOpen w n) := by
  have hr : rowsN n ≤ 86 := by unfold rowsN; omega
  have hN := need_ok n h1 h2 w
  obtain ⟨k, hk⟩ : ∃ k, 19 + 2 * rowsN n = k := ⟨_, rfl⟩
  rw [hk] at hN
  have HN := Lib.hid hN
  have HD := Lib.hid (Dk.new_ok k w (by omega) (by omega))
  have hl : (emptyL n).length = n := by simp [emptyL]
  have HO := Lib.hid (fun (W : World) (d : Nat) (Md Rr : Nat → Prop) (hd : Dk.IsDisk W d (freshD k) Md Rr) => open_okz (F := 0) 0 (n : Int) rfl (by rw [hl]) ST.zero (fresh_top (by omega)) hd (by omega) 0 rfl (by omega) (fresh_load h1 h2 (by omega)) rfl)
  have HK := Lib.hid hk
  clear hN hk hr hl
  go_enter Try.func17, Try.ntmps17
  go_wp2_with (first
    | (go_at_call 5; (with_reducible refine HN.out.mono ?_); rintro e w' ⟨rfl, rfl⟩)
    | (go_at_call 7; (with_reducible refine HD.out.mono ?_); rintro e w1 ⟨d, Md, rfl, hd1, hm1, hb1⟩; have HD1 := Lib.hid hd1; have HM1 := Lib.hid hm1; have HB1 := Lib.hid hb1; clear hd1 hm1 hb1)
    | (go_at_call 9; (with_reducible refine (HO.out _ _ _ _ HD1.out).mono ?_); rintro e w2 ⟨s, g, Mi, rfl, hs2, hs, hm2, hb2⟩; have HS2 := Lib.hid hs2; have HSS := Lib.hid hs; have HM2 := Lib.hid hm2; have HB2 := Lib.hid hb2; clear hs2 hs hm2 hb2))
  go_ret2
  have hz := HB1.out.size
  refine ⟨s, d, g, Md, Mi, rfl, ?_, Nat.le_trans hz HSS.out, HM1.out, fun b hb => Nat.le_trans hz (HM2.out b hb), bl_chain HB1.out HB2.out⟩
  rw [HK.out]
  exact HS2.out

/-- The two changes of known. -/
def kl (Z : Nat) : List ChS := [⟨some ⟨Z, 0, none⟩, 64, 1, List.replicate 64 0⟩, ⟨none, 0, 2, []⟩]
theorem kl_at {w : World} {Z K : Nat} (h0 : Rd w (some ⟨Z, 0, none⟩) (by8 (List.replicate 64 0))) {t : TypeId} (h1 : Blk w K t #[.int .i64 1, .slice (some ⟨Z, 0, none⟩) 64 64, .int .i64 2, .slice none 0 0]) : ChsAt w (some ⟨K, 0, none⟩) (kl Z) := by
  intro i hi
  have hi2 : i < 2 := hi
  rcases (by omega : i = 0 ∨ i = 1) with rfl | rfl
  · refine ⟨⟨by show (-9223372036854775808 : Int) ≤ 1 ∧ (1 : Int) ≤ 9223372036854775807; omega, h0, by show isB (List.replicate 64 0); exact rep0_isB 64, by show (List.replicate 64 (0 : Int)).length ≤ _; simp⟩, K, 0, rfl, ?_⟩
    intro j u hj
    have hj2 : j < 2 := (List.getElem?_eq_some_iff.1 hj).1
    rcases (by omega : j = 0 ∨ j = 1) with rfl | rfl
    · exact (h1.cell 0).trans hj
    · exact (h1.cell 1).trans hj
  · refine ⟨⟨by show (-9223372036854775808 : Int) ≤ 2 ∧ (2 : Int) ≤ 9223372036854775807; omega, Rd.nil, isB.nil, by show (0 : Nat) ≤ _; omega⟩, K, 0, rfl, ?_⟩
    intro j u hj
    have hj2 : j < 2 := (List.getElem?_eq_some_iff.1 hj).1
    rcases (by omega : j = 0 ∨ j = 1) with rfl | rfl
    · exact (h1.cell 2).trans hj
    · exact (h1.cell 3).trans hj
def kL : List (List Int) := [[], List.replicate 64 0, [], []]
theorem kl_right (Z : Nat) : chRight (emptyL 4).length (kl Z) = true := rfl
theorem kl_to (Z : Nat) : chTo (emptyL 4) (kl Z) = kL := rfl
theorem kL_used : used kL = 1 := rfl
theorem kL_has : hasB kL 1 = true := rfl
theorem fresh_calm {N : Nat} (h1 : 1 ≤ N) (h2 : N ≤ 4096) : Calm (freshD N) := ⟨Dk.newD_ok ⟨by simp, by simp; omega, by simp; omega⟩ (Dk.zeros_isB _), rfl, rfl⟩
theorem fresh_ready {N F n : Nat} (h : F + 19 + 2 * rowsN n ≤ N) (hF : F ≤ 100000) : Ready (freshD N) F ST.zero n :=
  ⟨rfl, by rw [freshD_n]; exact h, by show ([] : List (Nat × List Int)).length < _; simp, ⟨0, rfl, by omega⟩, ⟨by decide, by decide, by decide, by decide⟩, ⟨0, rfl, by omega⟩, hF⟩
theorem kapply {w : World} {s d g : Nat} {Md Mi : Nat → Prop} (h : StAt w s d g 0 ST.zero false (freshD (19 + 2 * rowsN 4)) Md NoB (emptyL 4) Mi) :
    Calls Try.prog 10 #[.pointer (some ⟨s, 0, none⟩), .int .i64 5, .slice (some ⟨w.heap.size + 1, 0, none⟩) 2 2] ((w.alloc (.cells (Array.replicate 64 (.int .u8 0)) 5)).alloc (.cells #[.int .i64 1, .slice (some ⟨w.heap.size, 0, none⟩) 64 64, .int .i64 2, .slice none 0 0] 48)) fun e w' =>
      ∃ D' Md' Rr' Mi', e = .returned (.int .i64 0) ∧ StAt w' s d g 0 ⟨2, 5, 0, 0⟩ false D' Md' Rr' kL Mi' ∧ Aft s w w' Md NoB Mi Md' Rr' Mi' := by
  have hb := bl_chain (bl_alloc w (.cells (Array.replicate 64 (.int .u8 0)) 5)) (bl_alloc _ (.cells #[.int .i64 1, .slice (some ⟨w.heap.size, 0, none⟩) 64 64, .int .i64 2, .slice none 0 0] 48))
  have h0 := (Rd.zeros w 64 5).below (bl_alloc _ (.cells #[.int .i64 1, .slice (some ⟨w.heap.size, 0, none⟩) 64 64, .int .i64 2, .slice none 0 0] 48))
  have h1 := Blk.new (w.alloc (.cells (Array.replicate 64 (.int .u8 0)) 5)) 48 #[.int .i64 1, .slice (some ⟨w.heap.size, 0, none⟩) 64 64, .int .i64 2, .slice none 0 0]
  rw [World.size_alloc] at h1
  generalize (w.alloc (.cells (Array.replicate 64 (.int .u8 0)) 5)).alloc (.cells #[.int .i64 1, .slice (some ⟨w.heap.size, 0, none⟩) 64 64, .int .i64 2, .slice none 0 0] 48) = W at hb h0 h1 ⊢
  have hs := h.blk.lt
  have hst := h.below hb
  have hR : Ready (freshD (19 + 2 * rowsN 4)) 0 ST.zero (emptyL 4).length := fresh_ready (by show 0 + 19 + 2 * rowsN 4 ≤ _; omega) (by omega)
  have hap := apply_go hst 5 (some ⟨w.heap.size + 1, 0, none⟩) 2 (kl w.heap.size) rfl (kl_at h0 h1) (by show 2 ≤ 64; omega) (kl_right _) hR (fun w' ht => by
    have hn : ∀ b, b = w.heap.size ∨ b = w.heap.size + 1 → ¬ (Md b ∨ Mi b ∨ b = s) := fun b hb hm => by
      rcases hm with hm | hm | hm
      · have := h.dsk.mlt b hm; omega
      · have := h.img.mlt b hm; omega
      · omega
    exact kl_at (h0.tr ht (fun ad e => by injection e with e; subst e; exact hn _ (.inl rfl))) (ht.blk h1 (hn _ (.inr rfl))))
  obtain ⟨q1, q2, q3, q4⟩ := applyR_ok (n := 5) (l := kl w.heap.size) (fresh_calm (N := 19 + 2 * rowsN 4) (by decide) (by decide)) hR (emptyL_ok (by omega) (by omega)) (lines_ok (by show 4 ≤ 256; omega) (kl_right _) (kl_at h0 h1))
  refine hap.mono ?_
  rintro e w' ⟨Md', Rr', Mi', rfl, hst', haf⟩
  rw [q1, q2, q4, kl_to] at hst'
  rw [q1]
  have hz := hb.size
  exact ⟨_, Md', Rr', Mi', rfl, hst', ⟨fun b hb => (haf.d b hb).imp id (fun h => by omega), fun b hb => (haf.r b hb).imp id (fun h => by omega), fun b hb => (haf.i b hb).imp id (fun h => by omega), (Tr.of_below hb).trans haf.t (fun b _ h => h)⟩⟩
set_option maxHeartbeats 1600000 in
theorem known_any (w : World) : Calls Try.prog 8 #[] w fun e w' => e = .returned (.bool true) ∧ Below w.heap.size w w' := by
  have HO : Hid (Calls Try.prog 17 #[.int .i64 4] w (RetLOpen w 4)) := Lib.hid (lopen_any 4 (by omega) (by omega) w)
  have hmk := fun w => run_make8 64 64 rfl (by omega) w
  go_enter Try.func8, Try.ntmps8
  go_wp2_with (first
    | (go_at_call 17; (with_reducible refine HO.out.mono ?_); rintro e w1 ⟨s, d, g, Md, Mi, rfl, h1, h2, h3, h4, h5⟩; have H1 := Lib.hid h1; have H3 := Lib.hid h3; have H4 := Lib.hid h4; have H5 := Lib.hid h5; clear h1 h3 h4 h5)
    | (go_at_call 10; (with_reducible refine (kapply H1.out).mono ?_); rintro e w2 ⟨D', Md', Rr', Mi', rfl, h1, h2⟩; have HS := Lib.hid h1; have HA := Lib.hid h2; clear h1 h2)
    | (go_at_call 12; (with_reducible refine (image_any HS.out.blk HS.out.img).mono ?_); rintro e w3 ⟨g', B', D'', rfl, h1, h2, h3, h4⟩; have H6 := Lib.hid h3; have H7 := Lib.hid h4; have HS3 := Lib.hid (HS.out.below h4); clear h1 h2 h3 h4)
    | (go_at_call 13; (with_reducible refine (applied_any HS3.out.blk).mono ?_); rintro e w4 ⟨rfl, rfl⟩)
    | (go_at_call 10; (with_reducible refine (apply_no HS3.out.blk 5 none 0 0 (by decide)).mono ?_); rintro e w4 ⟨rfl, rfl⟩)
    | (go_at_call 18; (with_reducible refine (has_any H6.out.toImg 1 (by omega)).mono ?_); rintro e w4 ⟨rfl, rfl⟩; rw [kL_has])
    | (go_at_call 19; (with_reducible refine (used_any H6.out.toImg).mono ?_); rintro e w4 ⟨rfl, rfl⟩; rw [kL_used]))
  go_ret
  exact ⟨rfl, bl_chain (bl_tr H5.out HA.out.t (fun b hb => by
    rcases hb with hb | hb | rfl
    · exact H3.out b hb
    · exact H4.out b hb
    · exact h2)) H7.out⟩
end Go.Proofs.Ythlijldapoeepaa
