/- Layer 6: load: the blocks of the area that counts. -/
import Derived.Test.YthlijldapoeepaaBlk8
namespace Go.Proofs.Ythlijldapoeepaa
set_option linter.unusedVariables false
set_option linter.unusedSimpArgs false
set_option maxRecDepth 100000
open Go.RowKit Go.Shelf

/-- What stands in an area is the image L. -/
structure LoadOk (D : Dk.DS) (F a : Nat) (L : List (List Int)) : Prop where
  ok : ImgOk L
  row : ∀ k, k < rowsN L.length → ∃ t, Dk.readD D (rowAt F L.length a k : Nat) 1 = rowL L k ++ t
  fit : F + 19 + 2 * rowsN L.length ≤ D.n
def partL (L : List (List Int)) (m : Nat) : List (List Int) := (List.range L.length).map (fun j => if j < m then bk L j else [])
theorem partL_length (L : List (List Int)) (m : Nat) : (partL L m).length = L.length := by simp [partL]
theorem bk_partL (L : List (List Int)) (m j : Nat) : bk (partL L m) j = if j < m then bk L j else [] := by
  by_cases h : j < L.length
  · unfold partL bk
    rw [List.getElem?_map, List.getElem?_range h]
    rfl
  · rw [bk_out (by rw [partL_length]; omega), bk_out (L := L) (by omega)]
    simp
theorem img_ext {L M : List (List Int)} (h : L.length = M.length) (hb : ∀ j, j < L.length → bk L j = bk M j) : L = M := by
  apply List.ext_getElem h
  intro i h1 h2
  have := hb i h1
  unfold bk at this
  rw [List.getElem?_eq_getElem h1, List.getElem?_eq_getElem h2] at this
  exact this
theorem partL_zero (L : List (List Int)) : partL L 0 = emptyL L.length := img_ext (by simp [partL, emptyL]) (fun j _ => by rw [bk_partL, bk_empty]; simp)
theorem partL_all (L : List (List Int)) {m : Nat} (h : L.length ≤ m) : partL L m = L := img_ext (partL_length _ _) (fun j hj => by
  rw [partL_length] at hj
  rw [bk_partL, if_pos (by omega)])
theorem partL_skip (L : List (List Int)) (m : Nat) (h : bk L m = []) : partL L (m + 1) = partL L m := img_ext (by simp [partL]) (fun j _ => by
  rw [bk_partL, bk_partL]
  by_cases e : j = m
  · subst e; simp [h]
  · have : j < m + 1 ↔ j < m := by omega
    simp [this])
theorem partL_set (L : List (List Int)) (m : Nat) (h : m < L.length) : partL L (m + 1) = (partL L m).set m (bk L m) := img_ext (by simp [partL]) (fun j _ => by
  rw [bk_partL, bk_set _ _ (by rw [partL_length]; exact h), bk_partL]
  by_cases e : j = m
  · subst e; simp
  · have : j < m + 1 ↔ j < m := by omega
    simp [this, e])
theorem partL_ok {L : List (List Int)} (h : ImgOk L) (m : Nat) : ImgOk (partL L m) := ⟨by rw [partL_length]; exact h.lo, by rw [partL_length]; exact h.hi, fun b hb => by
  obtain ⟨j, hj, rfl⟩ := List.getElem_of_mem hb
  have e : (partL L m)[j] = bk (partL L m) j := by unfold bk; rw [List.getElem?_eq_getElem hj]; rfl
  rw [e, bk_partL]
  split
  · exact h.at_ j
  · exact .inl rfl⟩
theorem row_parts {L : List (List Int)} (h : ImgOk L) (k i : Nat) (hi : i < 3) (t : List Int) : (rowL L k ++ t).drop (65 * i) = cellL L (3 * k + i) ++ ((rowL L k ++ t).drop (65 * (i + 1))) := by
  have h0 := cellL_length h (3 * k + 0)
  have h1 := cellL_length h (3 * k + 1)
  have h2 := cellL_length h (3 * k + 2)
  have e : rowL L k ++ t = cellL L (3 * k + 0) ++ (cellL L (3 * k + 1) ++ (cellL L (3 * k + 2) ++ t)) := by simp [rowL, rowTo]
  have d1 : (rowL L k ++ t).drop 65 = cellL L (3 * k + 1) ++ (cellL L (3 * k + 2) ++ t) := by rw [e, ← h0, List.drop_left]
  have d2 : (rowL L k ++ t).drop 130 = cellL L (3 * k + 2) ++ t := by rw [show 130 = 65 + 65 from rfl, ← List.drop_drop, d1, ← h1, List.drop_left]
  have d3 : (rowL L k ++ t).drop 195 = t := by rw [show 195 = 130 + 65 from rfl, ← List.drop_drop, d2, ← h2, List.drop_left]
  rcases (by omega : i = 0 ∨ i = 1 ∨ i = 2) with rfl | rfl | rfl
  · show (rowL L k ++ t).drop 0 = _ ++ (rowL L k ++ t).drop 65
    rw [d1, List.drop_zero, e]
  · show (rowL L k ++ t).drop 65 = _ ++ (rowL L k ++ t).drop 130
    rw [d1, d2]
  · show (rowL L k ++ t).drop 130 = _ ++ (rowL L k ++ t).drop 195
    rw [d2, d3]
theorem row_read {w : World} {d : Nat} {D : Dk.DS} {M R : Nat → Prop} (hd : Dk.IsDisk w d D M R) (z : Nat) (hz : z < D.n) :
    Calls Try.prog 22 #[.pointer (some ⟨d, 0, none⟩), .int .i64 (z : Int), .int .i64 1] w fun e w' => ∃ b c, e = .returned (.tuple #[.slice (some ⟨b, 0, none⟩) 256 c, .int .i64 0]) ∧ 256 ≤ c ∧ c ≤ maxLen ∧ (Dk.readD D z 1).length = 256 ∧ isB (Dk.readD D z 1) ∧
      Rd w' (some ⟨b, 0, none⟩) (by8 (Dk.readD D z 1)) ∧ w.heap.size ≤ b ∧ Below w.heap.size w w' := by
  have ho := hd.ok
  have hw : Dk.wrongD D.n z 1 = false := by unfold Dk.wrongD; rw [decide_eq_false_iff_not]; omega
  have hl := Dk.readD_length (at_ := z) (n := 1) ho hw
  have hm := ho.most
  have e : Dk.readD D z 1 = (D.now.drop (256 * z)).take 256 := by unfold Dk.readD; rw [hw]; simp
  have hl2 : (Dk.readD D z 1).length = 256 := by rw [e]; simpa using hl
  refine (Dk.read_any z 1 hd (by omega)).mono ?_
  rintro e2 w2 ⟨A, c, rfl, hc, hown, hb⟩
  rw [show Dk.readE D z 1 = 0 from by unfold Dk.readE; rw [hw]; rfl]
  obtain ⟨A', c', e3, _, h0, hcm⟩ := ownsRow_slice hown
  injection e3 with e3 _ e5
  subst e3
  subst e5
  rw [hl2] at h0
  rcases h0 with h0 | ⟨g, rfl⟩
  · omega
  have hrd := Rd.of_own hown
  rw [hl2] at hc hown ⊢
  exact ⟨g, c, rfl, hc, hcm, rfl, by rw [e]; exact (ho.bn.drop _).take _, hrd, own_ge hown g rfl, hb⟩

theorem IsImg.toImg {w : World} {g B : Nat} {L : List (List Int)} {D : DataW Unit} {M : Nat → Prop} (h : IsImg w g L B D M) : Img w g L M := ⟨B, D, h⟩
theorem Img.drewW {w : World} {g : Nat} {L : List (List Int)} {M : Nat → Prop} (h : Img w g L M) : Img w.drew g L M := h.below (bl_drew w)
/-- A row as it is read: cell i. -/
theorem cell_at {w : World} {b : Nat} {L : List (List Int)} (h : ImgOk L) {r : List Int} {k i : Nat} (hi : i < 3) {t : List Int} (hr : r = rowL L k ++ t) (hrd : Rd w (some ⟨b, 0, none⟩) (by8 r)) :
    w.cell? ⟨b, 65 * i, none⟩ = some (.int .u8 (if bk L (3 * k + i) = [] then 0 else 1)) ∧ Rd w (some ⟨b, 65 * i + 1, none⟩) (by8 (bv L (3 * k + i))) := by
  subst hr
  have hp := row_parts h k i hi t
  have hd : ∀ j u, (by8 (cellL L (3 * k + i) ++ ((rowL L k ++ t).drop (65 * (i + 1)))))[j]? = some u → w.cell? ⟨b, 65 * i + j, none⟩ = some u := fun j u hj => by
    rw [← hp, ← by8_drop, List.getElem?_drop] at hj
    obtain ⟨ad, e, hc⟩ := hrd _ _ hj
    injection e with e
    subst e
    rw [add_lit, Nat.zero_add] at hc
    exact hc
  refine ⟨hd 0 _ (by simp [cellL, by8]), fun j u hj => ⟨_, rfl, ?_⟩⟩
  rw [add_lit]
  have hj2 : j < (bv L (3 * k + i)).length := by rw [← by8_length]; exact (List.getElem?_eq_some_iff.1 hj).1
  have := hd (j + 1) u (by
    rw [by8_append, List.getElem?_append_left (by rw [by8_length, cellL_length h]; rw [bv_length h] at hj2; omega)]
    simpa [cellL, by8] using hj)
  rw [show 65 * i + 1 + j = 65 * i + (j + 1) from by omega]
  exact this
section
variable {w : World} {s d g F : Nat} {x : ST} {dead : Bool} {L : List (List Int)} {Mi Md Rr : Nat → Prop} {D : Dk.DS}
theorem write1 {w : World} {g B : Nat} {L : List (List Int)} {E : DataW Unit} {M : Nat → Prop} (h : IsImg w g L B E M) (m : Nat) (hm : m < L.length) (A : Option Addr) (c : Nat) (b : List Int) (hr : Rd w A (by8 b)) (hb : isBl b) (hc : 64 ≤ c) :
    Calls Try.prog 44 #[.pointer (some ⟨g, 0, none⟩), .int .i64 (m : Int), .slice A 64 c] w (RetS w g (L.set m b) B M 0) := by
  have h256 := h.ok.hi
  have hk : wrOk L.length (m : Int) b = true := by
    have e1 : b.length / 64 = 1 := by rw [hb.1]
    have e2 : b.length % 64 = 0 := by rw [hb.1]
    unfold wrOk inB
    rw [e1, e2]
    simp
    omega
  have h1 : writeL L (m : Int) b = L.set m b := by
    unfold writeL
    rw [if_pos hk, hb.1]
    show (L.set (m + 0) (pc b 0)) = _
    unfold pc
    rw [Nat.add_zero, Nat.mul_zero, List.drop_zero, List.take_of_length_le (by rw [hb.1]; omega)]
  have h2 : writeE L.length (m : Int) b = 0 := if_pos hk
  have h3 := write_any h (m : Int) (by omega) A c b hr hb.2 (by rw [hb.1]; exact hc) (by rw [hb.1]; omega)
  rw [h1, h2, hb.1] at h3
  exact h3
def RetLoad (w : World) (s d g F : Nat) (x : ST) (dead : Bool) (D : Dk.DS) (Md Rr : Nat → Prop) (L : List (List Int)) (Mi : Nat → Prop) (e : Ending) (w' : World) : Prop :=
  ∃ Mi', e = .returned (.bool true) ∧ StAt w' s d g F x dead D Md Rr L Mi' ∧ (∀ b, Mi' b → Mi b ∨ w.heap.size ≤ b) ∧ Tr Mi w w'
set_option maxHeartbeats 6400000 in
theorem load_any (h : StAt w s d g F x dead D Md Rr (emptyL L.length) Mi) (a : Nat) (ha : x.area = (a : Int)) (ha1 : a ≤ 1) (hL : LoadOk D F a L) (hF : F ≤ 100000) :
    Calls Try.prog 24 #[.pointer (some ⟨s, 0, none⟩)] w (RetLoad w s d g F x dead D Md Rr L Mi) := by
  have hel : (emptyL L.length).length = L.length := by simp [emptyL]
  obtain ⟨B, E0, hI0⟩ := h.img
  have HI0 := Lib.hid hI0
  have hB := hI0.mB
  have HH := Lib.hid h
  have HL := Lib.hid hL
  have h256 := hL.ok.hi
  have h1 := hL.ok.lo
  have HOK := Lib.hid hL.ok
  have HSZ := Lib.hid (size_any h.img)
  rw [hel] at HSZ
  have HRW := Lib.hid (fun W => rows_any L.length h256 W)
  have HR86 : rowsN L.length ≤ 86 := by unfold rowsN; omega
  have HRL : L.length ≤ 3 * rowsN L.length := by unfold rowsN; omega
  obtain ⟨n, hn⟩ : ∃ n, rowsN L.length = n := ⟨_, rfl⟩
  rw [hn] at HRW HR86 HRL
  have HNN := Lib.hid hn
  have HAE := Lib.hid ha
  have c0 := h.blk.cell 0
  have c2 := h.blk.cell 2
  have c5 := h.blk.cell 5
  simp [stCells] at c0 c2 c5
  rw [ha] at c5
  have hs := h.blk.lt
  have hneB : s ≠ B := fun e => h.si (e ▸ hB)
  clear h hL hel hn ha hI0
  go_enter Try.func24, Try.ntmps24
  go_wp2_with (first
    | (go_at_call 35; (with_reducible refine HSZ.out.mono ?_); rintro e w' ⟨rfl, rfl⟩)
    | (go_at_call 15; (with_reducible refine (HRW.out _).mono ?_); rintro e w' ⟨rfl, rfl⟩))
  go_loopw [3, 4, 5, 6, 7, 8, 15] (fun _ _ _ _ _ _ v W => ∃ k : Nat, k ≤ n ∧ v = .int .i64 (k : Int) ∧ (∃ E M, IsImg W g (partL L (3 * k)) B E M ∧ ∀ b, M b → Mi b ∨ w.heap.size ≤ b) ∧ Tr (fun b => b = B) w W) (fun _ _ _ _ _ _ v _ => n - (intOf v).toNat)
  case atStart => exact ⟨0, by omega, rfl, ⟨E0, Mi, by rw [show 3 * 0 = 0 from rfl, partL_zero]; exact HI0.out, fun b hb => .inl hb⟩, Tr.refl _ _⟩
  case round =>
    obtain ⟨k, hk, rfl, ⟨E, M, hI, hM⟩, ht⟩ := hrel
    have HI := Lib.hid hI
    have HM := Lib.hid hM
    have HT := Lib.hid ht
    clear hI hM ht
    by_cases hlt : k < n
    · have hst : IsSt wr s d g F x dead := HT.out.blk HH.out.blk hneB
      have hdk : Dk.IsDisk wr d D Md Rr := HH.out.dsk.tr HT.out (fun b hb e => (HH.out.di B hB).1 (e ▸ hb)) (fun b hb e => (HH.out.di B hB).2 (e ▸ hb))
      have HST := Lib.hid hst
      have HDK := Lib.hid hdk
      have x0 := hst.cell 0
      have x5 := hst.cell 5
      simp [stCells] at x0 x5
      rw [HAE.out] at x5
      obtain ⟨z, hz⟩ : ∃ z, rowAt F L.length a k = z := ⟨_, rfl⟩
      obtain ⟨t, ht⟩ := HL.out.row k (by rw [HNN.out]; exact hlt)
      rw [hz] at ht
      have hzn : z < D.n := by
        have hf := HL.out.fit
        rw [HNN.out] at hf
        rw [← hz]
        unfold rowAt
        rw [HNN.out]
        rcases (by omega : a = 0 ∨ a = 1) with rfl | rfl <;> omega
      have HZ := Lib.hid hz
      have HZN := Lib.hid hzn
      have HTT := Lib.hid ht
      have HSS : Hid (wr.drew.cell? ⟨s, 0, none⟩ = some (.pointer (some ⟨d, 0, none⟩)) ∧ wr.drew.cell? ⟨s, 5, none⟩ = some (.int .i64 (a : Int))) := Lib.hid ⟨x0, x5⟩
      clear hst hdk x0 x5 hz ht hzn
      go_wp2_with fail
      refine held_startB (S := fun W => W.cell? ⟨s, 0, none⟩ = some (.pointer (some ⟨d, 0, none⟩)) ∧ W.cell? ⟨s, 5, none⟩ = some (.int .i64 (a : Int))) (by kernel_rfl) ?_
      refine held_take (HSS.out) (i := 0) (v := ?_) rfl (by kernel_rfl) (by kernel_rfl) (by kernel_rfl) (fun _ _ _ h => h) (Or.inl ⟨by rfl, ?_⟩) ?_
      rotate_left
      · (intro W hSw; obtain ⟨s1, s2⟩ := hSw; go_simp; try with_reducible rfl)
      try simp only [Act.put, List.setIfInBounds_toArray, List.set_cons_zero, List.set_cons_succ]
      refine held_take (HSS.out) (i := 1) (v := ?_) rfl (by kernel_rfl) (by kernel_rfl) (by kernel_rfl) (fun _ _ _ h => h) (Or.inl ⟨by rfl, ?_⟩) ?_
      rotate_left
      · (intro W hSw; obtain ⟨s1, s2⟩ := hSw; go_simp; try with_reducible rfl)
      try simp only [Act.put, List.setIfInBounds_toArray, List.set_cons_zero, List.set_cons_succ]
      refine held_take (HSS.out) (i := 2) (v := ?_) rfl (by kernel_rfl) (by kernel_rfl) (by kernel_rfl) (fun _ _ _ h => h) (Or.inl ⟨by rfl, ?_⟩) ?_
      rotate_left
      · (intro W hSw; obtain ⟨s1, s2⟩ := hSw; go_simp; try with_reducible rfl)
      try simp only [Act.put, List.setIfInBounds_toArray, List.set_cons_zero, List.set_cons_succ]
      refine held_take (HSS.out) (i := 3) (v := ?_) rfl (by kernel_rfl) (by kernel_rfl) (by kernel_rfl) (fun _ _ _ h => h) (Or.inl ⟨by rfl, ?_⟩) ?_
      rotate_left
      · (intro W hSw; obtain ⟨s1, s2⟩ := hSw; go_simp; try with_reducible rfl)
      try simp only [Act.put, List.setIfInBounds_toArray, List.set_cons_zero, List.set_cons_succ]
      refine held_take (HSS.out) (i := 4) (v := ?_) rfl (by kernel_rfl) (by kernel_rfl) (by kernel_rfl) (fun _ _ _ h => h) (Or.inl ⟨by rfl, ?_⟩) ?_
      rotate_left
      · (intro W hSw; obtain ⟨s1, s2⟩ := hSw; go_simp; try with_reducible rfl)
      try simp only [Act.put, List.setIfInBounds_toArray, List.set_cons_zero, List.set_cons_succ]
      refine held_take (HSS.out) (i := 5) (v := ?_) rfl (by kernel_rfl) (by kernel_rfl) (by kernel_rfl) (fun _ _ _ h => h) (Or.inl ⟨by rfl, ?_⟩) ?_
      rotate_left
      · (intro W hSw; obtain ⟨s1, s2⟩ := hSw; go_simp; try with_reducible rfl)
      try simp only [Act.put, List.setIfInBounds_toArray, List.set_cons_zero, List.set_cons_succ]
      refine held_take (HSS.out) (i := 6) (v := ?_) rfl (by kernel_rfl) (by kernel_rfl) (by kernel_rfl) (fun _ _ _ h => h) (Or.inl ⟨by rfl, ?_⟩) ?_
      rotate_left
      · (intro W hSw; obtain ⟨s1, s2⟩ := hSw; go_simp; try with_reducible rfl)
      try simp only [Act.put, List.setIfInBounds_toArray, List.set_cons_zero, List.set_cons_succ]
      refine held_take (HSS.out) (i := 7) (v := ?_) rfl (by kernel_rfl) (by kernel_rfl) (by kernel_rfl) (fun _ _ _ h => h) (Or.inl ⟨by rfl, ?_⟩) ?_
      rotate_left
      · (intro W hSw; obtain ⟨s1, s2⟩ := hSw; go_simp; try with_reducible rfl)
      try simp only [Act.put, List.setIfInBounds_toArray, List.set_cons_zero, List.set_cons_succ]
      refine held_take (HSS.out) (i := 8) (v := ?_) rfl (by kernel_rfl) (by kernel_rfl) (by kernel_rfl) (fun _ _ _ h => h) (Or.inl ⟨by rfl, ?_⟩) ?_
      rotate_left
      · (intro W hSw; obtain ⟨s1, s2⟩ := hSw; go_simp; try with_reducible rfl)
      try simp only [Act.put, List.setIfInBounds_toArray, List.set_cons_zero, List.set_cons_succ]
      refine held_take (HSS.out) (i := 9) (v := ?_) rfl (by kernel_rfl) (by kernel_rfl) (by kernel_rfl) (fun _ _ _ h => h) (Or.inl ⟨by rfl, ?_⟩) ?_
      rotate_left
      · (intro W hSw; obtain ⟨s1, s2⟩ := hSw; go_simp; try with_reducible rfl)
      try simp only [Act.put, List.setIfInBounds_toArray, List.set_cons_zero, List.set_cons_succ]
      refine held_take (HSS.out) (i := 10) (v := ?_) rfl (by kernel_rfl) (by kernel_rfl) (by kernel_rfl) (fun _ _ _ h => h) (Or.inl ⟨by rfl, ?_⟩) ?_
      rotate_left
      · (intro W hSw; obtain ⟨s1, s2⟩ := hSw; go_simp; try with_reducible rfl)
      try simp only [Act.put, List.setIfInBounds_toArray, List.set_cons_zero, List.set_cons_succ]
      refine held_call (i := 11) (by kernel_rfl) rfl (fun K hK => ?_)
      go_simp
      (go_at_call 36; (with_reducible refine (place_at (w := wr.drew) (HST.out.keep (bl_drew wr)) (Img.drewW HI.out.toImg) a ha1 k (by omega) hF z (by rw [partL_length]; exact HZ.out)).mono ?_); rintro e w3 ⟨rfl, hb3⟩; have B3 := Lib.hid (bl_chain (bl_drew wr) hb3); have HS3 := Lib.hid (show w3.cell? ⟨s, 0, none⟩ = some (.pointer (some ⟨d, 0, none⟩)) ∧ w3.cell? ⟨s, 5, none⟩ = some (.int .i64 (a : Int)) from ⟨(hb3.cell (cell_block_lt HSS.out.1)).trans HSS.out.1, (hb3.cell (cell_block_lt HSS.out.2)).trans HSS.out.2⟩); clear hb3)
      refine hK.out _ _ (HS3.out) ?_
      clear hK K
      try simp only [Act.put, List.setIfInBounds_toArray, List.set_cons_zero, List.set_cons_succ]
      refine held_call (i := 12) (by kernel_rfl) rfl (fun K hK => ?_)
      go_simp
      (go_at_call 22; (with_reducible refine (row_read (HDK.out.below B3.out) z HZN.out).mono ?_); rintro e w4 ⟨bb, cc, rfl, hcc, hcm, hl2, hB2, hrd, hbb, hb4⟩; have HRD := Lib.hid hrd; have HBB := Lib.hid hbb; have B4 := Lib.hid (bl_chain B3.out hb4); have HS4 := Lib.hid (show w4.cell? ⟨s, 0, none⟩ = some (.pointer (some ⟨d, 0, none⟩)) ∧ w4.cell? ⟨s, 5, none⟩ = some (.int .i64 (a : Int)) from ⟨(hb4.cell (cell_block_lt HS3.out.1)).trans HS3.out.1, (hb4.cell (cell_block_lt HS3.out.2)).trans HS3.out.2⟩); have HL2 := Lib.hid hl2; have HB2 := Lib.hid hB2; clear hb4 hrd hbb hl2 hB2)
      refine hK.out _ _ (HS4.out) ?_
      clear hK K
      try simp only [Act.put, List.setIfInBounds_toArray, List.set_cons_zero, List.set_cons_succ]
      refine held_take (HS4.out) (i := 13) (v := ?_) rfl (by kernel_rfl) (by kernel_rfl) (by kernel_rfl) (fun _ _ _ h => h) (Or.inl ⟨by rfl, ?_⟩) ?_
      rotate_left
      · (intro W hSw; obtain ⟨s1, s2⟩ := hSw; go_simp; try with_reducible rfl)
      try simp only [Act.put, List.setIfInBounds_toArray, List.set_cons_zero, List.set_cons_succ]
      refine held_take (HS4.out) (i := 14) (v := ?_) rfl (by kernel_rfl) (by kernel_rfl) (by kernel_rfl) (fun _ _ _ h => h) (Or.inl ⟨by rfl, ?_⟩) ?_
      rotate_left
      · (intro W hSw; obtain ⟨s1, s2⟩ := hSw; go_simp; try with_reducible rfl)
      try simp only [Act.put, List.setIfInBounds_toArray, List.set_cons_zero, List.set_cons_succ]
      refine held_take (HS4.out) (i := 16) (v := ?_) rfl (by kernel_rfl) (by kernel_rfl) (by kernel_rfl) (fun _ _ _ h => h) (Or.inl ⟨by rfl, ?_⟩) ?_
      rotate_left
      · (intro W hSw; obtain ⟨s1, s2⟩ := hSw; go_simp; try with_reducible rfl)
      try simp only [Act.put, List.setIfInBounds_toArray, List.set_cons_zero, List.set_cons_succ]
      refine held_take (HS4.out) (i := 15) (v := ?_) rfl (by kernel_rfl) (by kernel_rfl) (by kernel_rfl) (fun _ _ _ h => h) (Or.inl ⟨by rfl, ?_⟩) ?_
      rotate_left
      · (intro W hSw; obtain ⟨s1, s2⟩ := hSw; go_simp; try with_reducible rfl)
      try simp only [Act.put, List.setIfInBounds_toArray, List.set_cons_zero, List.set_cons_succ]
      refine held_take (HS4.out) (i := 17) (v := ?_) rfl (by kernel_rfl) (by kernel_rfl) (by kernel_rfl) (fun _ _ _ h => h) (Or.inl ⟨by rfl, ?_⟩) ?_
      rotate_left
      · (intro W hSw; obtain ⟨s1, s2⟩ := hSw; go_simp; try with_reducible rfl)
      try simp only [Act.put, List.setIfInBounds_toArray, List.set_cons_zero, List.set_cons_succ]
      refine wpAnyH_done (by kernel_rfl) ?_ _
      go_wp2_with fail
      have HI4 := Lib.hid (HI.out.below B4.out)
      have hzw := HT.out.size
      have hz4 := B4.out.size
      have HBBB : Hid (bb ≠ B) := Lib.hid (by have := HI.out.own.lt; have := HBB.out; have := B3.out.size; omega)
      have HT4 : Hid (Tr (fun b => b = B) w w4) := Lib.hid (HT.out.then_below B4.out)
      clear HS3 HS4 B3 HSS
      go_loopw [6, 7, 8, 34] (fun _ _ _ v W => ∃ i : Nat, i ≤ 3 ∧ v = .int .i64 (i : Int) ∧ (∃ E M, IsImg W g (partL L (3 * k + i)) B E M ∧ ∀ b, M b → Mi b ∨ w.heap.size ≤ b) ∧ Tr (fun b => b = B) w4 W) (fun _ _ _ v _ => 3 - (intOf v).toNat)
      case atStart => exact ⟨0, by omega, rfl, ⟨E, M, HI4.out, HM.out⟩, Tr.refl _ _⟩
      case round =>
        obtain ⟨i, hi, rfl, ⟨E5, M5, hI5, hM5⟩, ht5⟩ := hrel
        have HI5 := Lib.hid hI5
        have HM5 := Lib.hid hM5
        have HT5 := Lib.hid ht5
        clear hI5 hM5 ht5
        by_cases hi3 : i < 3
        · have hrd5 := HRD.out.tr HT5.out (fun ad e h => by injection e with e; subst e; exact HBBB.out h)
          obtain ⟨hfl, hbv⟩ := cell_at HOK.out hi3 HTT.out hrd5
          have c2 : wr.cell? ⟨s, 2, none⟩ = some (.pointer (some ⟨g, 0, none⟩)) := ((HT4.out.trans HT5.out (fun _ _ h => h)).blk HH.out.blk hneB).cell 2
          have HBV := Lib.hid hbv
          have hln : 65 ≤ 256 - i * 65 := by omega
          have hcp : 65 ≤ cc - i * 65 := by omega
          have hlc : 256 - i * 65 ≤ cc - i * 65 := by omega
          have hoo : 65 * i = i * 65 := Nat.mul_comm _ _
          rw [hoo] at hfl HBV
          clear hrd5 hbv hoo
          obtain ⟨m, hm⟩ : ∃ m, 3 * k + i = m := ⟨_, rfl⟩
          have HM3 := Lib.hid hm
          rw [hm] at hfl HBV HI5
          have hmz : (k : Int) * 3 + (i : Int) = (m : Int) := by omega
          by_cases hb : bk L m = []
          · rw [if_pos hb] at hfl
            have HSK := Lib.hid (partL_skip L m hb)
            clear hb hm
            go_wp2_with fail
            generalize 256 - i * 65 = ln at hln hlc ⊢
            generalize cc - i * 65 = cp at hcp hlc ⊢
            generalize i * 65 = oo at hfl HBV ⊢
            go_quiet (fail)
            go_wp2_with fail
            go_roundw
            case measure => simp [intOf]; omega
            case rel => exact ⟨i + 1, by omega, by go_num, ⟨E5, M5, by rw [← Nat.add_assoc, HM3.out, HSK.out]; exact HI5.out.below (bl_drewN _ _), HM5.out⟩, HT5.out.drewN _⟩
          · rw [if_neg hb] at hfl
            have hml : m < L.length := by
              apply Classical.byContradiction
              intro hn
              exact hb (bk_out (by omega))
            have hbl := (HOK.out.at_ m).resolve_left hb
            have hbvv : bv L m = bk L m := if_neg hb
            rw [hbvv] at HBV
            have HSK := Lib.hid (partL_set L m hml)
            have HBL := Lib.hid hbl
            clear hbl hbvv hb hm
            go_wp2_with fail
            generalize 256 - i * 65 = ln at hln hlc ⊢
            generalize cc - i * 65 = cp at hcp hlc ⊢
            generalize i * 65 = oo at hfl HBV ⊢
            have hcp1 : 64 ≤ cp - 1 := by omega
            have q1 : (65 : Int) ≤ (cp : Int) := by omega
            have q2 : ¬ cp = 1 := by omega
            have q3 : 0 < ln := by omega
            have HSS : Hid (wr.drew.cell? ⟨bb, oo, none⟩ = some (.int .u8 1) ∧ wr.drew.cell? ⟨s, 2, none⟩ = some (.pointer (some ⟨g, 0, none⟩))) := Lib.hid ⟨hfl, c2⟩
            have HNE : Hid (wr.cell? ⟨bb, oo, none⟩ = some (.int .u8 1) ∧ bb ≠ B) := Lib.hid ⟨hfl, HBBB.out⟩
            clear hfl c2
            refine held_startB (S := fun W => W.cell? ⟨bb, oo, none⟩ = some (.int .u8 1) ∧ W.cell? ⟨s, 2, none⟩ = some (.pointer (some ⟨g, 0, none⟩))) (by kernel_rfl) ?_
            refine held_take (HSS.out) (i := 0) (v := ?_) rfl (by kernel_rfl) (by kernel_rfl) (by kernel_rfl) (fun _ _ _ h => h) (Or.inl ⟨by rfl, ?_⟩) ?_
            rotate_left
            · (intro W hSw; obtain ⟨s1, s2⟩ := hSw; go_simp; try with_reducible rfl)
            try simp only [Act.put, List.setIfInBounds_toArray, List.set_cons_zero, List.set_cons_succ]
            refine held_take (HSS.out) (i := 1) (v := ?_) rfl (by kernel_rfl) (by kernel_rfl) (by kernel_rfl) (fun _ _ _ h => h) (Or.inl ⟨by rfl, ?_⟩) ?_
            rotate_left
            · (intro W hSw; obtain ⟨s1, s2⟩ := hSw; go_simp; try with_reducible rfl)
            try simp only [Act.put, List.setIfInBounds_toArray, List.set_cons_zero, List.set_cons_succ]
            refine held_take (HSS.out) (i := 2) (v := ?_) rfl (by kernel_rfl) (by kernel_rfl) (by kernel_rfl) (fun _ _ _ h => h) (Or.inl ⟨by rfl, ?_⟩) ?_
            rotate_left
            · (intro W hSw; obtain ⟨s1, s2⟩ := hSw; go_simp; try with_reducible rfl)
            try simp only [Act.put, List.setIfInBounds_toArray, List.set_cons_zero, List.set_cons_succ]
            refine held_take (HSS.out) (i := 3) (v := ?_) rfl (by kernel_rfl) (by kernel_rfl) (by kernel_rfl) (fun _ _ _ h => h) (Or.inl ⟨by rfl, ?_⟩) ?_
            rotate_left
            · (intro W hSw; obtain ⟨s1, s2⟩ := hSw; go_simp; try with_reducible rfl)
            try simp only [Act.put, List.setIfInBounds_toArray, List.set_cons_zero, List.set_cons_succ]
            refine held_take (HSS.out) (i := 4) (v := ?_) rfl (by kernel_rfl) (by kernel_rfl) (by kernel_rfl) (fun _ _ _ h => h) (Or.inl ⟨by rfl, ?_⟩) ?_
            rotate_left
            · (intro W hSw; obtain ⟨s1, s2⟩ := hSw; go_simp; try with_reducible rfl)
            try simp only [Act.put, List.setIfInBounds_toArray, List.set_cons_zero, List.set_cons_succ]
            refine held_take (HSS.out) (i := 5) (v := ?_) rfl (by kernel_rfl) (by kernel_rfl) (by kernel_rfl) (fun _ _ _ h => h) (Or.inl ⟨by rfl, ?_⟩) ?_
            rotate_left
            · (intro W hSw; obtain ⟨s1, s2⟩ := hSw; go_simp; try with_reducible rfl)
            try simp only [Act.put, List.setIfInBounds_toArray, List.set_cons_zero, List.set_cons_succ]
            refine held_take (HSS.out) (i := 6) (v := ?_) rfl (by kernel_rfl) (by kernel_rfl) (by kernel_rfl) (fun _ _ _ h => h) (Or.inl ⟨by rfl, ?_⟩) ?_
            rotate_left
            · (intro W hSw; obtain ⟨s1, s2⟩ := hSw; go_simp; try with_reducible rfl)
            try simp only [Act.put, List.setIfInBounds_toArray, List.set_cons_zero, List.set_cons_succ]
            refine held_take (HSS.out) (i := 7) (v := ?_) rfl (by kernel_rfl) (by kernel_rfl) (by kernel_rfl) (fun _ _ _ h => h) (Or.inl ⟨by rfl, ?_⟩) ?_
            rotate_left
            · (intro W hSw; obtain ⟨s1, s2⟩ := hSw; go_simp; try with_reducible rfl)
            try simp only [Act.put, List.setIfInBounds_toArray, List.set_cons_zero, List.set_cons_succ]
            refine held_take (HSS.out) (i := 8) (v := ?_) rfl (by kernel_rfl) (by kernel_rfl) (by kernel_rfl) (fun _ _ _ h => h) (Or.inl ⟨by rfl, ?_⟩) ?_
            rotate_left
            · (intro W hSw; obtain ⟨s1, s2⟩ := hSw; go_simp; try with_reducible rfl)
            try simp only [Act.put, List.setIfInBounds_toArray, List.set_cons_zero, List.set_cons_succ]
            refine held_take (HSS.out) (i := 9) (v := ?_) rfl (by kernel_rfl) (by kernel_rfl) (by kernel_rfl) (fun _ _ _ h => h) (Or.inl ⟨by rfl, ?_⟩) ?_
            rotate_left
            · (intro W hSw; obtain ⟨s1, s2⟩ := hSw; go_simp; try with_reducible rfl)
            try simp only [Act.put, List.setIfInBounds_toArray, List.set_cons_zero, List.set_cons_succ]
            refine held_take (HSS.out) (i := 10) (v := ?_) rfl (by kernel_rfl) (by kernel_rfl) (by kernel_rfl) (fun _ _ _ h => h) (Or.inl ⟨by rfl, ?_⟩) ?_
            rotate_left
            · (intro W hSw; obtain ⟨s1, s2⟩ := hSw; go_simp; try with_reducible rfl)
            try simp only [Act.put, List.setIfInBounds_toArray, List.set_cons_zero, List.set_cons_succ]
            refine held_take (HSS.out) (i := 11) (v := ?_) rfl (by kernel_rfl) (by kernel_rfl) (by kernel_rfl) (fun _ _ _ h => h) (Or.inl ⟨by rfl, ?_⟩) ?_
            rotate_left
            · (intro W hSw; obtain ⟨s1, s2⟩ := hSw; go_simp; try with_reducible rfl)
            try simp only [Act.put, List.setIfInBounds_toArray, List.set_cons_zero, List.set_cons_succ]
            refine held_take (HSS.out) (i := 12) (v := ?_) rfl (by kernel_rfl) (by kernel_rfl) (by kernel_rfl) (fun _ _ _ h => h) (Or.inl ⟨by rfl, ?_⟩) ?_
            rotate_left
            · (intro W hSw; obtain ⟨s1, s2⟩ := hSw; go_simp; try with_reducible rfl)
            try simp only [Act.put, List.setIfInBounds_toArray, List.set_cons_zero, List.set_cons_succ]
            refine held_take (HSS.out) (i := 13) (v := ?_) rfl (by kernel_rfl) (by kernel_rfl) (by kernel_rfl) (fun _ _ _ h => h) (Or.inl ⟨by rfl, ?_⟩) ?_
            rotate_left
            · (intro W hSw; obtain ⟨s1, s2⟩ := hSw; go_simp; try with_reducible rfl)
            try simp only [Act.put, List.setIfInBounds_toArray, List.set_cons_zero, List.set_cons_succ]
            refine held_take (HSS.out) (i := 14) (v := ?_) rfl (by kernel_rfl) (by kernel_rfl) (by kernel_rfl) (fun _ _ _ h => h) (Or.inl ⟨by rfl, ?_⟩) ?_
            rotate_left
            · (intro W hSw; obtain ⟨s1, s2⟩ := hSw; go_simp; try with_reducible rfl)
            try simp only [Act.put, List.setIfInBounds_toArray, List.set_cons_zero, List.set_cons_succ]
            refine held_take (HSS.out) (i := 15) (v := ?_) rfl (by kernel_rfl) (by kernel_rfl) (by kernel_rfl) (fun _ _ _ h => h) (Or.inl ⟨by rfl, ?_⟩) ?_
            rotate_left
            · (intro W hSw; obtain ⟨s1, s2⟩ := hSw; go_simp; try with_reducible rfl)
            try simp only [Act.put, List.setIfInBounds_toArray, List.set_cons_zero, List.set_cons_succ]
            refine held_take (HSS.out) (i := 16) (v := ?_) rfl (by kernel_rfl) (by kernel_rfl) (by kernel_rfl) (fun _ _ _ h => h) (Or.inl ⟨by rfl, ?_⟩) ?_
            rotate_left
            · (intro W hSw; obtain ⟨s1, s2⟩ := hSw; go_simp; try with_reducible rfl)
            try simp only [Act.put, List.setIfInBounds_toArray, List.set_cons_zero, List.set_cons_succ]
            refine held_call (i := 17) (by kernel_rfl) rfl (fun K hK => ?_)
            go_simp
            (go_at_call 44; (with_reducible refine (write1 (HI5.out.below (bl_drew wr)) m (by rw [partL_length]; exact hml) _ _ (bk L m) HBV.out.drew HBL.out hcp1).mono ?_); rintro e w6 ⟨E6, M6, rfl, hi6, hm6, ht6⟩; have HI6 := Lib.hid hi6; have HM6 := Lib.hid hm6; have HT6 := Lib.hid (Tr.trans (tr_drew0 wr) ht6 (fun b _ h => h)); have HS6 := Lib.hid (show w6.cell? ⟨bb, oo, none⟩ = some (.int .u8 1) ∧ w6.cell? ⟨s, 2, none⟩ = some (.pointer (some ⟨g, 0, none⟩)) from ⟨(HT6.out.cell (cell_block_lt HSS.out.1) HBBB.out).trans HSS.out.1, (HT6.out.cell (cell_block_lt HSS.out.2) hneB).trans HSS.out.2⟩); clear hi6 hm6 ht6)
            refine hK.out _ _ (HS6.out) ?_
            clear hK K
            try simp only [Act.put, List.setIfInBounds_toArray, List.set_cons_zero, List.set_cons_succ]
            refine held_take (HS6.out) (i := 18) (v := ?_) rfl (by kernel_rfl) (by kernel_rfl) (by kernel_rfl) (fun _ _ _ h => h) (Or.inl ⟨by rfl, ?_⟩) ?_
            rotate_left
            · (intro W hSw; obtain ⟨s1, s2⟩ := hSw; go_simp; try with_reducible rfl)
            try simp only [Act.put, List.setIfInBounds_toArray, List.set_cons_zero, List.set_cons_succ]
            refine held_take (HS6.out) (i := 19) (v := ?_) rfl (by kernel_rfl) (by kernel_rfl) (by kernel_rfl) (fun _ _ _ h => h) (Or.inl ⟨by rfl, ?_⟩) ?_
            rotate_left
            · (intro W hSw; obtain ⟨s1, s2⟩ := hSw; go_simp; try with_reducible rfl)
            try simp only [Act.put, List.setIfInBounds_toArray, List.set_cons_zero, List.set_cons_succ]
            refine held_take (HS6.out) (i := 20) (v := ?_) rfl (by kernel_rfl) (by kernel_rfl) (by kernel_rfl) (fun _ _ _ h => h) (Or.inl ⟨by rfl, ?_⟩) ?_
            rotate_left
            · (intro W hSw; obtain ⟨s1, s2⟩ := hSw; go_simp; try with_reducible rfl)
            try simp only [Act.put, List.setIfInBounds_toArray, List.set_cons_zero, List.set_cons_succ]
            refine wpAnyH_done (by kernel_rfl) ?_ _
            go_wp2_with fail
            have hz5 := HT5.out.size
            exact ⟨⟨i + 1, by omega, by go_num, ⟨E6, M6, by rw [← Nat.add_assoc, HM3.out, HSK.out]; exact HI6.out, fun b hb => (HM6.out b hb).elim (HM5.out b) (fun h => .inr (by have h : wr.heap.size ≤ b := h; omega))⟩, HT5.out.trans HT6.out (fun _ _ h => h)⟩, by simp [intOf]; omega⟩
        · obtain rfl : i = 3 := by omega
          go_wp2_with fail
          go_roundw
          case measure => simp [intOf]; omega
          case rel => exact ⟨k + 1, by omega, by go_num, ⟨E5, M5, HI5.out, HM5.out⟩, HT4.out.trans HT5.out (fun _ _ h => h)⟩
    · obtain rfl : k = n := by omega
      go_wp2_with fail
      go_ret
      have hi := HI.out
      rw [partL_all L HRL] at hi
      have hMn : ∀ b, M b → ¬ Md b ∧ ¬ Rr b := fun b hb => (HM.out b hb).elim (HH.out.di b) (fun h => ⟨fun hm => by have := HH.out.dsk.mlt b hm; omega, fun hm => by have := HH.out.dsk.rlt b hm; omega⟩)
      exact ⟨M, rfl, ⟨HT.out.blk HH.out.blk hneB, HH.out.dsk.tr HT.out (fun b hb e => (HH.out.di B hB).1 (e ▸ hb)) (fun b hb e => (HH.out.di B hB).2 (e ▸ hb)), hi.toImg, HH.out.sd, HH.out.sr, fun h => (HM.out s h).elim HH.out.si (fun h => by omega), hMn⟩, HM.out, HT.out.mono (fun b _ e => e ▸ hB)⟩
end
end Go.Proofs.Ythlijldapoeepaa
