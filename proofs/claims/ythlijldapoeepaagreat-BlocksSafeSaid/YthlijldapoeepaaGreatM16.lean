/- Layer 6: load: the blocks of the area that counts. -/
import Derived.Test.YthlijldapoeepaaGreatM15
namespace Go.Proofs.YthlijldapoeepaaGreat
set_option linter.unusedVariables false
set_option linter.unusedSimpArgs false
set_option maxRecDepth 100000
open Go.RowKit Go.Shelf

/-- What stands in an area is the image L. -/
structure LoadOk (D : Dk.DS) (F a : Nat) (L : List (List Int)) : Prop where
  ok : ImgOk L
  row : ∀ k, k < rowsN L.length → ∃ t, Dk.readD D (rowAt F L.length a k : Nat) 1 = rowL L k ++ t
  fit : F + 19 + 2 * rowsN L.length ≤ D.n
def partL (L : List (List Int)) (m : Nat) : List (List Int) := (List.range L.length).map (fun j => if j < m then bk L j else [])
theorem partL_length (L : List (List Int)) (m : Nat) : (partL L m).length = L.length := by simp [partL]
theorem bk_partL (L : List (List Int)) (m j : Nat) : bk (partL L m) j = if j < m then bk L j else [] := by
  by_cases h : j < L.length
  · unfold partL bk
    rw [List.getElem?_map, List.getElem?_range h]
    rfl
  · rw [bk_out (by rw [partL_length]; omega), bk_out (L := L) (by omega)]
    simp
theorem img_ext {L M : List (List Int)} (h : L.length = M.length) (hb : ∀ j, j < L.length → bk L j = bk M j) : L = M := by
  apply List.ext_getElem h
  intro i h1 h2
  have := hb i h1
  unfold bk at this
  rw [List.getElem?_eq_getElem h1, List.getElem?_eq_getElem h2] at this
  exact this
theorem partL_zero (L : List (List Int)) : partL L 0 = emptyL L.length := img_ext (by simp [partL, emptyL]) (fun j _ => by rw [bk_partL, bk_empty]; simp)
theorem partL_all (L : List (List Int)) {m : Nat} (h : L.length ≤ m) : partL L m = L := img_ext (partL_length _ _) (fun j hj => by
  rw [partL_length] at hj
  rw [bk_partL, if_pos (by omega)])
theorem partL_skip (L : List (List Int)) (m : Nat) (h : bk L m = []) : partL L (m + 1) = partL L m := img_ext (by simp [partL]) (fun j _ => by
  rw [bk_partL, bk_partL]
  by_cases e : j = m
  · subst e; simp [h]
  · have : j < m + 1 ↔ j < m := by omega
    simp [this])
theorem partL_set (L : List (List Int)) (m : Nat) (h : m < L.length) : partL L (m + 1) = (partL L m).set m (bk L m) := img_ext (by simp [partL]) (fun j _ => by
  rw [bk_partL, bk_set _ _ (by rw [partL_length]; exact h), bk_partL]
  by_cases e : j = m
  · subst e; simp
  · have : j < m + 1 ↔ j < m := by omega
    simp [this, e])
theorem partL_ok {L : List (List Int)} (h : ImgOk L) (m : Nat) : ImgOk (partL L m) := ⟨by rw [partL_length]; exact h.lo, by rw [partL_length]; exact h.hi, fun b hb => by
  obtain ⟨j, hj, rfl⟩ := List.getElem_of_mem hb
  have e : (partL L m)[j] = bk (partL L m) j := by unfold bk; rw [List.getElem?_eq_getElem hj]; rfl
  rw [e, bk_partL]
  split
  · exact h.at_ j
  · exact .inl rfl⟩
theorem row_parts {L : List (List Int)} (h : ImgOk L) (k i : Nat) (hi : i < 3) (t : List Int) : (rowL L k ++ t).drop (65 * i) = cellL L (3 * k + i) ++ ((rowL L k ++ t).drop (65 * (i + 1))) := by
  have h0 := cellL_length h (3 * k + 0)
  have h1 := cellL_length h (3 * k + 1)
  have h2 := cellL_length h (3 * k + 2)
  have e : rowL L k ++ t = cellL L (3 * k + 0) ++ (cellL L (3 * k + 1) ++ (cellL L (3 * k + 2) ++ t)) := by simp [rowL, rowTo]
  have d1 : (rowL L k ++ t).drop 65 = cellL L (3 * k + 1) ++ (cellL L (3 * k + 2) ++ t) := by rw [e, ← h0, List.drop_left]
  have d2 : (rowL L k ++ t).drop 130 = cellL L (3 * k + 2) ++ t := by rw [show 130 = 65 + 65 from rfl, ← List.drop_drop, d1, ← h1, List.drop_left]
  have d3 : (rowL L k ++ t).drop 195 = t := by rw [show 195 = 130 + 65 from rfl, ← List.drop_drop, d2, ← h2, List.drop_left]
  rcases (by omega : i = 0 ∨ i = 1 ∨ i = 2) with rfl | rfl | rfl
  · show (rowL L k ++ t).drop 0 = _ ++ (rowL L k ++ t).drop 65
    rw [d1, List.drop_zero, e]
  · show (rowL L k ++ t).drop 65 = _ ++ (rowL L k ++ t).drop 130
    rw [d1, d2]
  · show (rowL L k ++ t).drop 130 = _ ++ (rowL L k ++ t).drop 195
    rw [d2, d3]
theorem row_read {w : World} {d : Nat} {D : Dk.DS} {M R : Nat → Prop} (hd : Dk.IsDisk w d D M R) (z : Nat) (hz : z < D.n) :
    Calls Tryz.prog 28 #[.pointer (some ⟨d, 0, none⟩), .int .i64 (z : Int), .int .i64 1] w fun e w' => ∃ b c, e = .returned (.tuple #[.slice (some ⟨b, 0, none⟩) 256 c, .int .i64 0]) ∧ 256 ≤ c ∧ c ≤ maxLen ∧ (Dk.readD D z 1).length = 256 ∧ isB (Dk.readD D z 1) ∧
      Rd w' (some ⟨b, 0, none⟩) (by8 (Dk.readD D z 1)) ∧ w.heap.size ≤ b ∧ Below w.heap.size w w' := by
  have ho := hd.ok
  have hw : Dk.wrongD D.n z 1 = false := by unfold Dk.wrongD; rw [decide_eq_false_iff_not]; omega
  have hl := Dk.readD_length (at_ := z) (n := 1) ho hw
  have hm := ho.most
  have e : Dk.readD D z 1 = (D.now.drop (256 * z)).take 256 := by unfold Dk.readD; rw [hw]; simp
  have hl2 : (Dk.readD D z 1).length = 256 := by rw [e]; simpa using hl
  refine (Dk.read_any z 1 hd (by omega)).mono ?_
  rintro e2 w2 ⟨A, c, rfl, hc, hown, hb⟩
  rw [show Dk.readE D z 1 = 0 from by unfold Dk.readE; rw [hw]; rfl]
  obtain ⟨A', c', e3, _, h0, hcm⟩ := ownsRow_slice hown
  injection e3 with e3 _ e5
  subst e3
  subst e5
  rw [hl2] at h0
  rcases h0 with h0 | ⟨g, rfl⟩
  · omega
  have hrd := Rd.of_own hown
  rw [hl2] at hc hown ⊢
  exact ⟨g, c, rfl, hc, hcm, rfl, by rw [e]; exact (ho.bn.drop _).take _, hrd, own_ge hown g rfl, hb⟩

theorem IsImg.toImg {w : World} {g B : Nat} {L : List (List Int)} {D : DataW Unit} {M : Nat → Prop} (h : IsImg w g L B D M) : Img w g L M := ⟨B, D, h⟩
theorem Img.drewW {w : World} {g : Nat} {L : List (List Int)} {M : Nat → Prop} (h : Img w g L M) : Img w.drew g L M := h.below (bl_drew w)
/-- A row as it is read: cell i. -/
theorem cell_at {w : World} {b : Nat} {L : List (List Int)} (h : ImgOk L) {r : List Int} {k i : Nat} (hi : i < 3) {t : List Int} (hr : r = rowL L k ++ t) (hrd : Rd w (some ⟨b, 0, none⟩) (by8 r)) :
    w.cell? ⟨b, 65 * i, none⟩ = some (.int .u8 (if bk L (3 * k + i) = [] then 0 else 1)) ∧ Rd w (some ⟨b, 65 * i + 1, none⟩) (by8 (bv L (3 * k + i))) := by
  subst hr
  have hp := row_parts h k i hi t
  have hd : ∀ j u, (by8 (cellL L (3 * k + i) ++ ((rowL L k ++ t).drop (65 * (i + 1)))))[j]? = some u → w.cell? ⟨b, 65 * i + j, none⟩ = some u := fun j u hj => by
    rw [← hp, ← by8_drop, List.getElem?_drop] at hj
    obtain ⟨ad, e, hc⟩ := hrd _ _ hj
    injection e with e
    subst e
    rw [add_lit, Nat.zero_add] at hc
    exact hc
  refine ⟨hd 0 _ (by simp [cellL, by8]), fun j u hj => ⟨_, rfl, ?_⟩⟩
  rw [add_lit]
  have hj2 : j < (bv L (3 * k + i)).length := by rw [← by8_length]; exact (List.getElem?_eq_some_iff.1 hj).1
  have := hd (j + 1) u (by
    rw [by8_append, List.getElem?_append_left (by rw [by8_length, cellL_length h]; rw [bv_length h] at hj2; omega)]
    simpa [cellL, by8] using hj)
  rw [show 65 * i + 1 + j = 65 * i + (j + 1) from by omega]
  exact this
section
variable {w : World} {s d g F : Nat} {x : ST} {dead : Bool} {L : List (List Int)} {Mi Md Rr : Nat → Prop} {D : Dk.DS}
theorem write1 {w : World} {g B : Nat} {L : List (List Int)} {E : DataW Unit} {M : Nat → Prop} (h : IsImg w g L B E M) (m : Nat) (hm : m < L.length) (A : Option Addr) (c : Nat) (b : List Int) (hr : Rd w A (by8 b)) (hb : isBl b) (hc : 64 ≤ c) :
    Calls Tryz.prog 61 #[.pointer (some ⟨g, 0, none⟩), .int .i64 (m : Int), .slice A 64 c] w (RetS w g (L.set m b) B M 0) := by
  have h256 := h.ok.hi
  have hk : wrOk L.length (m : Int) b = true := by
    have e1 : b.length / 64 = 1 := by rw [hb.1]
    have e2 : b.length % 64 = 0 := by rw [hb.1]
    unfold wrOk inB
    rw [e1, e2]
    simp
    omega
  have h1 : writeL L (m : Int) b = L.set m b := by
    unfold writeL
    rw [if_pos hk, hb.1]
    show (L.set (m + 0) (pc b 0)) = _
    unfold pc
    rw [Nat.add_zero, Nat.mul_zero, List.drop_zero, List.take_of_length_le (by rw [hb.1]; omega)]
  have h2 : writeE L.length (m : Int) b = 0 := if_pos hk
  have h3 := write_any h (m : Int) (by omega) A c b hr hb.2 (by rw [hb.1]; exact hc) (by rw [hb.1]; omega)
  rw [h1, h2, hb.1] at h3
  exact h3
def RetLoad (w : World) (s d g F : Nat) (x : ST) (dead : Bool) (D : Dk.DS) (Md Rr : Nat → Prop) (L : List (List Int)) (Mi : Nat → Prop) (e : Ending) (w' : World) : Prop :=
  ∃ Mi', e = .returned (.bool true) ∧ StAt w' s d g F x dead D Md Rr L Mi' ∧ (∀ b, Mi' b → Mi b ∨ w.heap.size ≤ b) ∧ Tr Mi w w'
set_option maxHeartbeats 6400000 in
theorem load_any (h : StAt w s d g F x dead D Md Rr (emptyL L.length) Mi) (a : Nat) (ha : x.area = (a : Int)) (ha1 : a ≤ 1) (hL : LoadOk D F a L) (hF : F ≤ 100000) :
    Calls Tryz.prog 30 #[.pointer (some ⟨s, 0, none⟩)] w (RetLoad w s d g F x dead D Md Rr L Mi) := by
  have hel : (emptyL L.length).length = L.length := by simp [emptyL]
  obtain ⟨B, E0, hI0⟩ := h.img
  have HI0 := Lib.hid hI0
  have hB := hI0.mB
  have HH := Lib.hid h
  have HL := Lib.hid hL
  have h256 := hL.ok.hi
  have h1 := hL.ok.lo
  have HOK := Lib.hid hL.ok
  have HSZ := Lib.hid (size_any h.img)
  rw [hel] at HSZ
  have HRW := Lib.hid (fun W => rows_any L.length h256 W)
  have HR86 : rowsN L.length ≤ 86 := by unfold rowsN; omega
  have HRL : L.length ≤ 3 * rowsN L.length := by unfold rowsN; omega
  obtain ⟨n, hn⟩ : ∃ n, rowsN L.length = n := ⟨_, rfl⟩
  rw [hn] at HRW HR86 HRL
  have HNN := Lib.hid hn
  have HAE := Lib.hid ha
  have c0 := h.blk.cell 0
  have c2 := h.blk.cell 2
  have c5 := h.blk.cell 5
  simp [stCells] at c0 c2 c5
  rw [ha] at c5
  have hs := h.blk.lt
  have hneB : s ≠ B := fun e => h.si (e ▸ hB)
  clear h hL hel hn ha hI0
  go_enter Tryz.func30, Tryz.ntmps30
  go_wp2_with (first
    | (go_at_call 59; (with_reducible refine HSZ.out.mono ?_); rintro e w' ⟨rfl, rfl⟩)
    | (go_at_call 19; (with_reducible refine (HRW.out _).mono ?_); rintro e w' ⟨rfl, rfl⟩))
  go_loopw [3, 4, 5, 6, 7, 8, 15] (fun _ _ _ _ _ _ v W => ∃ k : Nat, k ≤ n ∧ v = .int .i64 (k : Int) ∧ (∃ E M, IsImg W g (partL L (3 * k)) B E M ∧ ∀ b, M b → Mi b ∨ w.heap.size ≤ b) ∧ Tr (fun b => b = B) w W) (fun _ _ _ _ _ _ v _ => n - (intOf v).toNat)
  case atStart => exact ⟨0, by omega, rfl, ⟨E0, Mi, by rw [show 3 * 0 = 0 from rfl, partL_zero]; exact HI0.out, fun b hb => .inl hb⟩, Tr.refl _ _⟩
  case round =>
    obtain ⟨k, hk, rfl, ⟨E, M, hI, hM⟩, ht⟩ := hrel
    have HI := Lib.hid hI
    have HM := Lib.hid hM
    have HT := Lib.hid ht
    clear hI hM ht
    by_cases hlt : k < n
    · have hst : IsSt wr s d g F x dead := HT.out.blk HH.out.blk hneB
      have hdk : Dk.IsDisk wr d D Md Rr := HH.out.dsk.tr HT.out (fun b hb e => (HH.out.di B hB).1 (e ▸ hb)) (fun b hb e => (HH.out.di B hB).2 (e ▸ hb))
      have HST := Lib.hid hst
      have HDK := Lib.hid hdk
      have x0 := hst.cell 0
      have x5 := hst.cell 5
      simp [stCells] at x0 x5
      rw [HAE.out] at x5
      obtain ⟨z, hz⟩ : ∃ z, rowAt F L.length a k = z := ⟨_, rfl⟩
      obtain ⟨t, ht⟩ := HL.out.row k (by rw [HNN.out]; exact hlt)
      rw [hz] at ht
      have hzn : z < D.n := by
        have hf := HL.out.fit
        rw [HNN.out] at hf
        rw [← hz]
        unfold rowAt
        rw [HNN.out]
        rcases (by omega : a = 0 ∨ a = 1) with rfl | rfl <;> omega
      have HZ := Lib.hid hz
      have HZN := Lib.hid hzn
      have HTT := Lib.hid ht
      have HSS : Hid (wr.drew.cell? ⟨s, 0, none⟩ = some (.pointer (some ⟨d, 0, none⟩)) ∧ wr.drew.cell? ⟨s, 5, none⟩ = some (.int .i64 (a : Int))) := Lib.hid ⟨x0, x5⟩
      clear hst hdk x0 x5 hz ht hzn
      go_wp2_with fail
      refine held_startB (S := fun W => W.cell? ⟨s, 0, none⟩ = some (.pointer (some ⟨d, 0, none⟩)) ∧ W.cell? ⟨s, 5, none⟩ = some (.int .i64 (a : Int))) (by kernel_rfl) ?_
      refine held_take (HSS.out) (i := 0) (v := ?_) rfl (by kernel_rfl) (by kernel_rfl) (by kernel_rfl) (fun _ _ _ h => h) (Or.inl ⟨by rfl, ?_⟩) ?_
      rotate_left
      · (intro W hSw; obtain ⟨s1, s2⟩ := hSw; go_simp; try with_reducible rfl)
      try simp only [Act.put, List.setIfInBounds_toArray, List.set_cons_zero, List.set_cons_succ]
      refine held_take (HSS.out) (i := 1) (v := ?_) rfl (by kernel_rfl) (by kernel_rfl) (by kernel_rfl) (fun _ _ _ h => h) (Or.inl ⟨by rfl, ?_⟩) ?_
      rotate_left
      · (intro W hSw; obtain ⟨s1, s2⟩ := hSw; go_simp; try with_reducible rfl)
      try simp only [Act.put, List.setIfInBounds_toArray, List.set_cons_zero, List.set_cons_succ]
      refine held_take (HSS.out) (i := 2) (v := ?_) rfl (by kernel_rfl) (by kernel_rfl) (by kernel_rfl) (fun _ _ _ h => h) (Or.inl ⟨by rfl, ?_⟩) ?_
      rotate_left
      · (intro W hSw; obtain ⟨s1, s2⟩ := hSw; go_simp; try with_reducible rfl)
      try simp only [Act.put, List.setIfInBounds_toArray, List.set_cons_zero, List.set_cons_succ]
      refine held_take (HSS.out) (i := 3) (v := ?_) rfl (by kernel_rfl) (by kernel_rfl) (by kernel_rfl) (fun _ _ _ h => h) (Or.inl ⟨by rfl, ?_⟩) ?_
      rotate_left
      · (intro W hSw; obtain ⟨s1, s2⟩ := hSw; go_simp; try with_reducible rfl)
      try simp only [Act.put, List.setIfInBounds_toArray, List.set_cons_zero, List.set_cons_succ]
      refine held_take (HSS.out) (i := 4) (v := ?_) rfl (by kernel_rfl) (by kernel_rfl) (by kernel_rfl) (fun _ _ _ h => h) (Or.inl ⟨by rfl, ?_⟩) ?_
      rotate_left
      · (intro W hSw; obtain ⟨s1, s2⟩ := hSw; go_simp; try with_reducible rfl)
      try simp only [Act.put, List.setIfInBounds_toArray, List.set_cons_zero, List.set_cons_succ]
      refine held_take (HSS.out) (i := 5) (v := ?_) rfl (by kernel_rfl) (by kernel_rfl) (by kernel_rfl) (fun _ _ _ h => h) (Or.inl ⟨by rfl, ?_⟩) ?_
      rotate_left
      · (intro W hSw; obtain ⟨s1, s2⟩ := hSw; go_simp; try with_reducible rfl)
      try simp only [Act.put, List.setIfInBounds_toArray, List.set_cons_zero, List.set_cons_succ]
      refine held_take (HSS.out) (i := 6) (v := ?_) rfl (by kernel_rfl) (by kernel_rfl) (by kernel_rfl) (fun _ _ _ h => h) (Or.inl ⟨by rfl, ?_⟩) ?_
      rotate_left
      · (intro W hSw; obtain ⟨s1, s2⟩ := hSw; go_simp; try with_reducible rfl)
      try simp only [Act.put, List.setIfInBounds_toArray, List.set_cons_zero, List.set_cons_succ]
      refine held_take (HSS.out) (i := 7) (v := ?_) rfl (by kernel_rfl) (by kernel_rfl) (by kernel_rfl) (fun _ _ _ h => h) (Or.inl ⟨by rfl, ?_⟩) ?_
      rotate_left
      · (intro W hSw; obtain ⟨s1, s2⟩ := hSw; go_simp; try with_reducible rfl)
      try simp only [Act.put, List.setIfInBounds_toArray, List.set_cons_zero, List.set_cons_succ]
      refine held_take (HSS.out) (i := 8) (v := ?_) rfl (by kernel_rfl) (by kernel_rfl) (by kernel_rfl) (fun _ _ _ h => h) (Or.inl ⟨by rfl, ?_⟩) ?_
      rotate_left
      · (intro W hSw; obtain ⟨s1, s2⟩ := hSw; go_simp; try with_reducible rfl)
      try simp only [Act.put, List.setIfInBounds_toArray, List.set_cons_zero, List.set_cons_succ]
      refine held_take (HSS.out) (i := 9) (v := ?_) rfl (by kernel_rfl) (by kernel_rfl) (by kernel_rfl) (fun _ _ _ h => h) (Or.inl ⟨by rfl, ?_⟩) ?_
      rotate_left
      · (intro W hSw; obtain ⟨s1, s2⟩ := hSw; go_simp; try with_reducible rfl)
      try simp only [Act.put, List.setIfInBounds_toArray, List.set_cons_zero, List.set_cons_succ]
      refine held_take (HSS.out) (i := 10) (v := ?_) rfl (by kernel_rfl) (by kernel_rfl) (by kernel_rfl) (fun _ _ _ h => h) (Or.inl ⟨by rfl, ?_⟩) ?_
      rotate_left
      · (intro W hSw; obtain ⟨s1, s2⟩ := hSw; go_simp; try with_reducible rfl)
      try simp only [Act.put, List.setIfInBounds_toArray, List.set_cons_zero, List.set_cons_succ]
      refine held_call (i := 11) (by kernel_rfl) rfl (fun K hK => ?_)
      go_simp
      (go_at_call 60; (with_reducible refine (place_at (w := wr.drew) (HST.out.keep (bl_drew wr)) (Img.drewW HI.out.toImg) a ha1 k (by omega) hF z (by rw [partL_length]; exact HZ.out)).mono ?_); rintro e w3 ⟨rfl, hb3⟩; have B3 := Lib.hid (bl_chain (bl_drew wr) hb3); have HS3 := Lib.hid (show w3.cell? ⟨s, 0, none⟩ = some (.pointer (some ⟨d, 0, none⟩)) ∧ w3.cell? ⟨s, 5, none⟩ = some (.int .i64 (a : Int)) from ⟨(hb3.cell (cell_block_lt HSS.out.1)).trans HSS.out.1, (hb3.cell (cell_block_lt HSS.out.2)).trans HSS.out.2⟩); clear hb3)
      refine hK.out _ _ (HS3.out) ?_
      clear hK K
      try simp only [Act.put, List.setIfInBounds_toArray, List.set_cons_zero, List.set_cons_succ]
      refine held_call (i := 12) (by kernel_rfl) rfl (fun K hK => ?_)
      go_simp
      (go_at_call 28; (with_reducible refine (row_read (HDK.out.below B3.out) z HZN.out).mono ?_); rintro e w4 ⟨bb, cc, rfl, hcc, hcm, hl2, hB2, hrd, hbb, hb4⟩; have HRD := Lib.hid hrd; have HBB := Lib.hid hbb; have B4 := Lib.hid (bl_chain B3.out hb4); have HS4 := Lib.hid (show w4.cell? ⟨s, 0, none⟩ = some (.pointer (some ⟨d, 0, none⟩)) ∧ w4.cell? ⟨s, 5, none⟩ = some (.int .i64 (a : Int)) from ⟨(hb4.cell (cell_block_lt HS3.out.1)).trans HS3.out.1, (hb4.cell (cell_block_lt HS3.out.2)).trans HS3.out.2⟩); have HL2 := Lib.hid hl2; have HB2 := Lib.hid hB2; clear hb4 hrd hbb hl2 hB2)
      refine hK.out _ _ (HS4.out) ?_
      clear hK K
      try simp only [Act.put, List.setIfInBounds_toArray, List.set_cons_zero, List.set_cons_succ]
      refine held_take (HS4.out) (i := 13) (v := ?_) rfl (by kernel_rfl) (by kernel_rfl) (by kernel_rfl) (fun _ _ _ h => h) (Or.inl ⟨by rfl, ?_⟩) ?_
      rotate_left
      · (intro W hSw; obtain ⟨s1, s2⟩ := hSw; go_simp; try with_reducible rfl)
      try simp only [Act.put, List.setIfInBounds_toArray, List.set_cons_zero, List.set_cons_succ]
      refine held_take (HS4.out) (i := 14) (v := ?_) rfl (by kernel_rfl) (by kernel_rfl) (by kernel_rfl) (fun _ _ _ h => h) (Or.inl ⟨by rfl, ?_⟩) ?_
      rotate_left
      · (intro W hSw; obtain ⟨s1, s2⟩ := hSw; go_simp; try with_reducible rfl)
      try simp only [Act.put, List.setIfInBounds_toArray, List.set_cons_zero, List.set_cons_succ]
      refine held_take (HS4.out) (i := 16) (v := ?_) rfl (by kernel_rfl) (by kernel_rfl) (by kernel_rfl) (fun _ _ _ h => h) (Or.inl ⟨by rfl, ?_⟩) ?_
      rotate_left
      · (intro W hSw; obtain ⟨s1, s2⟩ := hSw; go_simp; try with_reducible rfl)
      try simp only [Act.put, List.setIfInBounds_toArray, List.set_cons_zero, List.set_cons_succ]
      refine held_take (HS4.out) (i := 15) (v := ?_) rfl (by kernel_rfl) (by kernel_rfl) (by kernel_rfl) (fun _ _ _ h => h) (Or.inl ⟨by rfl, ?_⟩) ?_
      rotate_left
      · (intro W hSw; obtain ⟨s1, s2⟩ := hSw; go_simp; try with_reducible rfl)
      try simp only [Act.put, List.setIfInBounds_toArray, List.set_cons_zero, List.set_cons_succ]
      refine held_take (HS4.out) (i := 17) (v := ?_) rfl (by kernel_rfl) (by kernel_rfl) (by kernel_rfl) (fun _ _ _ h => h) (Or.inl ⟨by rfl, ?_⟩) ?_
      rotate_left
      · (intro W hSw; obtain ⟨s1, s2⟩ := hSw; go_simp; try with_reducible rfl)
      try simp only [Act.put, List.setIfInBounds_toArray, List.set_cons_zero, List.set_cons_succ]
      refine wpAnyH_done (by kernel_rfl) ?_ _
      go_wp2_with fail
      have HI4 := Lib.hid (HI.out.below B4.out)
      have hzw := HT.out.size
      have hz4 := B4.out.size
      have HBBB : Hid (bb ≠ B) := Lib.hid (by have := HI.out.own.lt; have := HBB.out; have := B3.out.size; omega)
      have HT4 : Hid (Tr (fun b => b = B) w w4) := Lib.hid (HT.out.then_below B4.out)
      clear HS3 HS4 B3 HSS
      go_loopw [6, 7, 8, 34] (fun _ _ _ v W => ∃ i : Nat, i ≤ 3 ∧ v = .int .i64 (i : Int) ∧ (∃ E M, IsImg W g (partL L (3 * k + i)) B E M ∧ ∀ b, M b → Mi b ∨ w.heap.size ≤ b) ∧ Tr (fun b => b = B) w4 W) (fun _ _ _ v _ => 3 - (intOf v).toNat)
      case atStart => exact ⟨0, by omega, rfl, ⟨E, M, HI4.out, HM.out⟩, Tr.refl _ _⟩
      case round =>
        obtain ⟨i, hi, rfl, ⟨E5, M5, hI5, hM5⟩, ht5⟩ := hrel
        have HI5 := Lib.hid hI5
        have HM5 := Lib.hid hM5
        have HT5 := Lib.hid ht5
        clear hI5 hM5 ht5
        by_cases hi3 : i < 3
        · have hrd5 := HRD.out.tr HT5.out (fun ad e h => by injection e with e; subst e; exact HBBB.out h)
          obtain ⟨hfl, hbv⟩ := cell_at HOK.out hi3 HTT.out hrd5
          have c2 : wr.cell? ⟨s, 2, none⟩ = some (.pointer (some ⟨g, 0, none⟩)) := ((HT4.out.trans HT5.out (fun _ _ h => h)).blk HH.out.blk hneB).cell 2
          have HBV := Lib.hid hbv
          have hln : 65 ≤ 256 - i * 65 := by omega
          have hcp : 65 ≤ cc - i * 65 := by omega
          have hlc : 256 - i * 65 ≤ cc - i * 65 := by omega
          have hoo : 65 * i = i * 65 := Nat.mul_comm _ _
          rw [hoo] at hfl HBV
          clear hrd5 hbv hoo
          obtain ⟨m, hm⟩ : ∃ m, 3 * k + i = m := ⟨_, rfl⟩
          have HM3 := Lib.hid hm
          rw [hm] at hfl HBV HI5
          have hmz : (k : Int) * 3 + (i : Int) = (m : Int) := by omega
          by_cases hb : bk L m = []
          · rw [if_pos hb] at hfl
            have HSK := Lib.hid (partL_skip L m hb)
            clear hb hm
            go_wp2_with fail
            generalize 256 - i * 65 = ln at hln hlc ⊢
            generalize cc - i * 65 = cp at hcp hlc ⊢
            generalize i * 65 = oo at hfl HBV ⊢
            go_quiet (fail)
            go_wp2_with fail
            go_roundw
            case measure => simp [intOf]; omega
            case rel => exact ⟨i + 1, by omega, by go_num, ⟨E5, M5, by rw [← Nat.add_assoc, HM3.out, HSK.out]; exact HI5.out.below (bl_drewN _ _), HM5.out⟩, HT5.out.drewN _⟩
          · rw [if_neg hb] at hfl
            have hml : m < L.length := by
              apply Classical.byContradiction
              intro hn
              exact hb (bk_out (by omega))
            have hbl := (HOK.out.at_ m).resolve_left hb
            have hbvv : bv L m = bk L m := if_neg hb
            rw [hbvv] at HBV
            have HSK := Lib.hid (partL_set L m hml)
            have HBL := Lib.hid hbl
            clear hbl hbvv hb hm
            go_wp2_with fail
            generalize 256 - i * 65 = ln at hln hlc ⊢
            generalize cc - i * 65 = cp at hcp hlc ⊢
            generalize i * 65 = oo at hfl HBV ⊢
            have hcp1 : 64 ≤ cp - 1 := by omega
            have q1 : (65 : Int) ≤ (cp : Int) := by omega
            have q2 : ¬ cp = 1 := by omega
            have q3 : 0 < ln := by omega
            have HSS : Hid (wr.drew.cell? ⟨bb, oo, none⟩ = some (.int .u8 1) ∧ wr.drew.cell? ⟨s, 2, none⟩ = some (.pointer (some ⟨g, 0, none⟩))) := Lib.hid ⟨hfl, c2⟩
            have HNE : Hid (wr.cell? ⟨bb, oo, none⟩ = some (.int .u8 1) ∧ bb ≠ B) := Lib.hid ⟨hfl, HBBB.out⟩
            clear hfl c2
            refine held_startB (S := fun W => W.cell? ⟨bb, oo, none⟩ = some (.int .u8 1) ∧ W.cell? ⟨s, 2, none⟩ = some (.pointer (some ⟨g, 0, none⟩))) (by kernel_rfl) ?_
            refine held_take (HSS.out) (i := 0) (v := ?_) rfl (by kernel_rfl) (by kernel_rfl) (by kernel_rfl) (fun _ _ _ h => h) (Or.inl ⟨by rfl, ?_⟩) ?_
            rotate_left
            · (intro W hSw; obtain ⟨s1, s2⟩ := hSw; go_simp; try with_reducible rfl)
            try simp only [Act.put, List.setIfInBounds_toArray, List.set_cons_zero, List.set_cons_succ]
            refine held_take (HSS.out) (i := 1) (v := ?_) rfl (by kernel_rfl) (by kernel_rfl) (by kernel_rfl) (fun _ _ _ h => h) (Or.inl ⟨by rfl, ?_⟩) ?_
            rotate_left
            · (intro W hSw; obtain ⟨s1, s2⟩ := hSw; go_simp; try with_reducible rfl)
            try simp only [Act.put, List.setIfInBounds_toArray, List.set_cons_zero, List.set_cons_succ]
            refine held_take (HSS.out) (i := 2) (v := ?_) rfl (by kernel_rfl) (by kernel_rfl) (by kernel_rfl) (fun _ _ _ h => h) (Or.inl ⟨by rfl, ?_⟩) ?_
            rotate_left
            · (intro W hSw; obtain ⟨s1, s2⟩ := hSw; go_simp; try with_reducible rfl)
            try simp only [Act.put, List.setIfInBounds_toArray, List.set_cons_zero, List.set_cons_succ]
            refine held_take (HSS.out) (i := 3) (v := ?_) rfl (by kernel_rfl) (by kernel_rfl) (by kernel_rfl) (fun _ _ _ h => h) (Or.inl ⟨by rfl, ?_⟩) ?_
            rotate_left
            · (intro W hSw; obtain ⟨s1, s2⟩ := hSw; go_simp; try with_reducible rfl)
            try simp only [Act.put, List.setIfInBounds_toArray, List.set_cons_zero, List.set_cons_succ]
            refine held_take (HSS.out) (i := 4) (v := ?_) rfl (by kernel_rfl) (by kernel_rfl) (by kernel_rfl) (fun _ _ _ h => h) (Or.inl ⟨by rfl, ?_⟩) ?_
            rotate_left
            · (intro W hSw; obtain ⟨s1, s2⟩ := hSw; go_simp; try with_reducible rfl)
            try simp only [Act.put, List.setIfInBounds_toArray, List.set_cons_zero, List.set_cons_succ]
            refine held_take (HSS.out) (i := 5) (v := ?_) rfl (by kernel_rfl) (by kernel_rfl) (by kernel_rfl) (fun _ _ _ h => h) (Or.inl ⟨by rfl, ?_⟩) ?_
            rotate_left
            · (intro W hSw; obtain ⟨s1, s2⟩ := hSw; go_simp; try with_reducible rfl)
            try simp only [Act.put, List.setIfInBounds_toArray, List.set_cons_zero, List.set_cons_succ]
            refine held_take (HSS.out) (i := 6) (v := ?_) rfl (by kernel_rfl) (by kernel_rfl) (by kernel_rfl) (fun _ _ _ h => h) (Or.inl ⟨by rfl, ?_⟩) ?_
            rotate_left
            · (intro W hSw; obtain ⟨s1, s2⟩ := hSw; go_simp; try with_reducible rfl)
            try simp only [Act.put, List.setIfInBounds_toArray, List.set_cons_zero, List.set_cons_succ]
            refine held_take (HSS.out) (i := 7) (v := ?_) rfl (by kernel_rfl) (by kernel_rfl) (by kernel_rfl) (fun _ _ _ h => h) (Or.inl ⟨by rfl, ?_⟩) ?_
            rotate_left
            · (intro W hSw; obtain ⟨s1, s2⟩ := hSw; go_simp; try with_reducible rfl)
            try simp only [Act.put, List.setIfInBounds_toArray, List.set_cons_zero, List.set_cons_succ]
            refine held_take (HSS.out) (i := 8) (v := ?_) rfl (by kernel_rfl) (by kernel_rfl) (by kernel_rfl) (fun _ _ _ h => h) (Or.inl ⟨by rfl, ?_⟩) ?_
            rotate_left
            · (intro W hSw; obtain ⟨s1, s2⟩ := hSw; go_simp; try with_reducible rfl)
            try simp only [Act.put, List.setIfInBounds_toArray, List.set_cons_zero, List.set_cons_succ]
            refine held_take (HSS.out) (i := 9) (v := ?_) rfl (by kernel_rfl) (by kernel_rfl) (by kernel_rfl) (fun _ _ _ h => h) (Or.inl ⟨by rfl, ?_⟩) ?_
            rotate_left
            · (intro W hSw; obtain ⟨s1, s2⟩ := hSw; go_simp; try with_reducible rfl)
            try simp only [Act.put, List.setIfInBounds_toArray, List.set_cons_zero, List.set_cons_succ]
            refine held_take (HSS.out) (i := 10) (v := ?_) rfl (by kernel_rfl) (by kernel_rfl) (by kernel_rfl) (fun _ _ _ h => h) (Or.inl ⟨by rfl, ?_⟩) ?_
            rotate_left
            · (intro W hSw; obtain ⟨s1, s2⟩ := hSw; go_simp; try with_reducible rfl)
            try simp only [Act.put, List.setIfInBounds_toArray, List.set_cons_zero, List.set_cons_succ]
            refine held_take (HSS.out) (i := 11) (v := ?_) rfl (by kernel_rfl) (by kernel_rfl) (by kernel_rfl) (fun _ _ _ h => h) (Or.inl ⟨by rfl, ?_⟩) ?_
            rotate_left
            · (intro W hSw; obtain ⟨s1, s2⟩ := hSw; go_simp; try with_reducible rfl)
            try simp only [Act.put, List.setIfInBounds_toArray, List.set_cons_zero, List.set_cons_succ]
            refine held_take (HSS.out) (i := 12) (v := ?_) rfl (by kernel_rfl) (by kernel_rfl) (by kernel_rfl) (fun _ _ _ h => h) (Or.inl ⟨by rfl, ?_⟩) ?_
            rotate_left
            · (intro W hSw; obtain ⟨s1, s2⟩ := hSw; go_simp; try with_reducible rfl)
            try simp only [Act.put, List.setIfInBounds_toArray, List.set_cons_zero, List.set_cons_succ]
            refine held_take (HSS.out) (i := 13) (v := ?_) rfl (by kernel_rfl) (by kernel_rfl) (by kernel_rfl) (fun _ _ _ h => h) (Or.inl ⟨by rfl, ?_⟩) ?_
            rotate_left
            · (intro W hSw; obtain ⟨s1, s2⟩ := hSw; go_simp; try with_reducible rfl)
            try simp only [Act.put, List.setIfInBounds_toArray, List.set_cons_zero, List.set_cons_succ]
            refine held_take (HSS.out) (i := 14) (v := ?_) rfl (by kernel_rfl) (by kernel_rfl) (by kernel_rfl) (fun _ _ _ h => h) (Or.inl ⟨by rfl, ?_⟩) ?_
            rotate_left
            · (intro W hSw; obtain ⟨s1, s2⟩ := hSw; go_simp; try with_reducible rfl)
            try simp only [Act.put, List.setIfInBounds_toArray, List.set_cons_zero, List.set_cons_succ]
            refine held_take (HSS.out) (i := 15) (v := ?_) rfl (by kernel_rfl) (by kernel_rfl) (by kernel_rfl) (fun _ _ _ h => h) (Or.inl ⟨by rfl, ?_⟩) ?_
            rotate_left
            · (intro W hSw; obtain ⟨s1, s2⟩ := hSw; go_simp; try with_reducible rfl)
            try simp only [Act.put, List.setIfInBounds_toArray, List.set_cons_zero, List.set_cons_succ]
            refine held_take (HSS.out) (i := 16) (v := ?_) rfl (by kernel_rfl) (by kernel_rfl) (by kernel_rfl) (fun _ _ _ h => h) (Or.inl ⟨by rfl, ?_⟩) ?_
            rotate_left
            · (intro W hSw; obtain ⟨s1, s2⟩ := hSw; go_simp; try with_reducible rfl)
            try simp only [Act.put, List.setIfInBounds_toArray, List.set_cons_zero, List.set_cons_succ]
            refine held_call (i := 17) (by kernel_rfl) rfl (fun K hK => ?_)
            go_simp
            (go_at_call 61; (with_reducible refine (write1 (HI5.out.below (bl_drew wr)) m (by rw [partL_length]; exact hml) _ _ (bk L m) HBV.out.drew HBL.out hcp1).mono ?_); rintro e w6 ⟨E6, M6, rfl, hi6, hm6, ht6⟩; have HI6 := Lib.hid hi6; have HM6 := Lib.hid hm6; have HT6 := Lib.hid (Tr.trans (tr_drew0 wr) ht6 (fun b _ h => h)); have HS6 := Lib.hid (show w6.cell? ⟨bb, oo, none⟩ = some (.int .u8 1) ∧ w6.cell? ⟨s, 2, none⟩ = some (.pointer (some ⟨g, 0, none⟩)) from ⟨(HT6.out.cell (cell_block_lt HSS.out.1) HBBB.out).trans HSS.out.1, (HT6.out.cell (cell_block_lt HSS.out.2) hneB).trans HSS.out.2⟩); clear hi6 hm6 ht6)
            refine hK.out _ _ (HS6.out) ?_
            clear hK K
            try simp only [Act.put, List.setIfInBounds_toArray, List.set_cons_zero, List.set_cons_succ]
            refine held_take (HS6.out) (i := 18) (v := ?_) rfl (by kernel_rfl) (by kernel_rfl) (by kernel_rfl) (fun _ _ _ h => h) (Or.inl ⟨by rfl, ?_⟩) ?_
            rotate_left
            · (intro W hSw; obtain ⟨s1, s2⟩ := hSw; go_simp; try with_reducible rfl)
            try simp only [Act.put, List.setIfInBounds_toArray, List.set_cons_zero, List.set_cons_succ]
            refine held_take (HS6.out) (i := 19) (v := ?_) rfl (by kernel_rfl) (by kernel_rfl) (by kernel_rfl) (fun _ _ _ h => h) (Or.inl ⟨by rfl, ?_⟩) ?_
            rotate_left
            · (intro W hSw; obtain ⟨s1, s2⟩ := hSw; go_simp; try with_reducible rfl)
            try simp only [Act.put, List.setIfInBounds_toArray, List.set_cons_zero, List.set_cons_succ]
            refine held_take (HS6.out) (i := 20) (v := ?_) rfl (by kernel_rfl) (by kernel_rfl) (by kernel_rfl) (fun _ _ _ h => h) (Or.inl ⟨by rfl, ?_⟩) ?_
            rotate_left
            · (intro W hSw; obtain ⟨s1, s2⟩ := hSw; go_simp; try with_reducible rfl)
            try simp only [Act.put, List.setIfInBounds_toArray, List.set_cons_zero, List.set_cons_succ]
            refine wpAnyH_done (by kernel_rfl) ?_ _
            go_wp2_with fail
            have hz5 := HT5.out.size
            exact ⟨⟨i + 1, by omega, by go_num, ⟨E6, M6, by rw [← Nat.add_assoc, HM3.out, HSK.out]; exact HI6.out, fun b hb => (HM6.out b hb).elim (HM5.out b) (fun h => .inr (by have h : wr.heap.size ≤ b := h; omega))⟩, HT5.out.trans HT6.out (fun _ _ h => h)⟩, by simp [intOf]; omega⟩
        · obtain rfl : i = 3 := by omega
          go_wp2_with fail
          go_roundw
          case measure => simp [intOf]; omega
          case rel => exact ⟨k + 1, by omega, by go_num, ⟨E5, M5, HI5.out, HM5.out⟩, HT4.out.trans HT5.out (fun _ _ h => h)⟩
    · obtain rfl : k = n := by omega
      go_wp2_with fail
      go_ret
      have hi := HI.out
      rw [partL_all L HRL] at hi
      have hMn : ∀ b, M b → ¬ Md b ∧ ¬ Rr b := fun b hb => (HM.out b hb).elim (HH.out.di b) (fun h => ⟨fun hm => by have := HH.out.dsk.mlt b hm; omega, fun hm => by have := HH.out.dsk.rlt b hm; omega⟩)
      exact ⟨M, rfl, ⟨HT.out.blk HH.out.blk hneB, HH.out.dsk.tr HT.out (fun b hb e => (HH.out.di B hB).1 (e ▸ hb)) (fun b hb e => (HH.out.di B hB).2 (e ▸ hb)), hi.toImg, HH.out.sd, HH.out.sr, fun h => (HM.out s h).elim HH.out.si (fun h => by omega), hMn⟩, HM.out, HT.out.mono (fun b _ e => e ▸ hB)⟩
end
end Go.Proofs.YthlijldapoeepaaGreat

/- Layer 6: Open, where no journal is still to be done. -/

namespace Go.Proofs.YthlijldapoeepaaGreat
set_option linter.unusedVariables false
set_option linter.unusedSimpArgs false
set_option maxRecDepth 100000
open Go.RowKit Go.Shelf

/-- The state of the sectors looked at so far. -/
def topTo (D : Dk.DS) (F : Nat) : Nat → ST
  | 0 => ST.zero
  | i + 1 => if (readST (Dk.readD D (F + i : Nat) 1)).gen > (topTo D F i).gen then readST (Dk.readD D (F + i : Nat) 1) else topTo D F i
def top (D : Dk.DS) (F : Nat) : ST := topTo D F 2
def RetOpen (w : World) (d F : Nat) (x : ST) (D : Dk.DS) (Md Rr : Nat → Prop) (L : List (List Int)) (e : Ending) (w' : World) : Prop :=
  ∃ s g Mi, e = .returned (.tuple #[.pointer (some ⟨s, 0, none⟩), .int .i64 0]) ∧ StAt w' s d g F x false D Md Rr L Mi ∧ w.heap.size ≤ s ∧ (∀ b, Mi b → w.heap.size ≤ b) ∧ Below w.heap.size w w'
section
variable {w : World} {d F : Nat} {L : List (List Int)} {Md Rr : Nat → Prop} {D : Dk.DS}
theorem open_nil (w : World) (F n : Int) : Calls Tryz.prog 8 #[.pointer none, .int .i64 F, .int .i64 n] w fun e w' => e = .returned (.tuple #[.pointer none, .int .i64 2]) ∧ w = w' := by
  go_enter Tryz.func8, Tryz.ntmps8
  go_wp2_with fail
  go_ret2
  exact ⟨rfl, rfl⟩
theorem need_any (n : Int) (w : World) : Calls Tryz.prog 5 #[.int .i64 n] w fun e w' => e = .returned (.int .i64 (needI n)) ∧ w = w' := by
  by_cases h : n < 1 ∨ n > 256
  · have := need_no n h w
    unfold needI
    rw [if_pos h]
    exact this
  · obtain ⟨m, rfl⟩ := Int.eq_ofNat_of_zero_le (show 0 ≤ n by omega)
    have := need_ok m (by omega) (by omega) w
    unfold needI
    rw [if_neg h]
    exact this
def openBad (N : Nat) (F n : Int) : Prop := needI n = 0 ∨ F < 0 ∨ (N : Int) < F ∨ (N : Int) - F < needI n
set_option maxHeartbeats 1600000 in
theorem open_bad (hd : Dk.IsDisk w d D Md Rr) (F n : Int) (hF : -9223372036854775808 ≤ F ∧ F ≤ 9223372036854775807) (h : openBad D.n F n) : Calls Tryz.prog 8 #[.pointer (some ⟨d, 0, none⟩), .int .i64 F, .int .i64 n] w fun e w' => e = .returned (.tuple #[.pointer none, .int .i64 1]) ∧ w = w' := by
  have hm := hd.ok.most
  have HN := Lib.hid (need_any n w)
  have hb : 0 ≤ needI n ∧ needI n ≤ 1000 := by unfold needI rowsN; split <;> omega
  have HSZ := Lib.hid (Dk.size_any hd)
  obtain ⟨q, hq⟩ : ∃ q, needI n = q := ⟨_, rfl⟩
  unfold openBad at h
  rw [hq] at HN hb h
  clear hq hd
  rcases (by omega : q = 0 ∨ (¬ q = 0 ∧ F < 0) ∨ (¬ q = 0 ∧ ¬ F < 0 ∧ (D.n : Int) < F) ∨ (¬ q = 0 ∧ ¬ F < 0 ∧ ¬ (D.n : Int) < F ∧ (D.n : Int) - F < q)) with h1 | ⟨h1, h2⟩ | ⟨h1, h2, h3⟩ | ⟨h1, h2, h3, h4⟩
  all_goals
    clear h
    have k1 : ¬ q = 0 → (q == 0) = false := fun h => by simpa using h
    have k2 : (D.n : Int) < F → decide ((D.n : Int) < F) = true := fun h => decide_eq_true h
    go_enter Tryz.func8, Tryz.ntmps8
    go_wp2_with (first
      | (go_at_call 5; (with_reducible refine HN.out.mono ?_); rintro e w' ⟨rfl, rfl⟩)
      | (go_at_call 26; (with_reducible refine HSZ.out.mono ?_); rintro e w' ⟨rfl, rfl⟩))
    go_ret2
    exact ⟨rfl, rfl⟩
theorem readState_y (A : Option Addr) (c : Nat) (l : List Int) (y : ST) (hy : readST l = y) (w : World) (hr : Rd w A (by8 l)) (hB : isB l) (hl : l.length = 256) (hc : 256 ≤ c) (hm : c ≤ maxLen) :
    Calls Tryz.prog 29 #[.slice A 256 c] w fun e w' => e = .returned (.agg #[.int .i64 y.gen, .int .i64 y.n, .int .i64 y.area, .int .i64 y.op]) ∧ Below w.heap.size w w' := by
  subst hy
  exact readState_any A c l w hr hB hl hc hm
theorem readST_bounds (l : List Int) : 0 ≤ (readST l).gen ∧ (readST l).gen ≤ 1152921504606846976 := by
  unfold readST
  split
  · rename_i h
    have := h.2
    unfold ST.good at this
    omega
  · simp [ST.zero]
set_option maxHeartbeats 6400000 in
theorem open_ok (hd : Dk.IsDisk w d D Md Rr) (hF : F ≤ 100000) (a : Nat) (ha : (top D F).area = (a : Int)) (ha1 : a ≤ 1) (hL : LoadOk D F a L) (hop : (top D F).op = 0) :
    Calls Tryz.prog 8 #[.pointer (some ⟨d, 0, none⟩), .int .i64 (F : Int), .int .i64 (L.length : Int)] w (RetOpen w d F (top D F) D Md Rr L) := by
  have h256 := hL.ok.hi
  have h1 := hL.ok.lo
  have hfit := hL.fit
  have hm := hd.ok.most
  obtain ⟨r, hr⟩ : ∃ r, rowsN L.length = r := ⟨_, rfl⟩
  have HN := Lib.hid (need_ok L.length h1 h256 w)
  have HSZ := Lib.hid (Dk.size_any hd)
  have HNEW := Lib.hid (new_ok L.length w h1 h256)
  have HL := Lib.hid hL
  have HD := Lib.hid hd
  rw [hr] at hfit HN
  obtain ⟨q, hq⟩ : ∃ q, 19 + 2 * r = q := ⟨_, rfl⟩
  rw [hq] at HN
  have hq0 : 19 ≤ q := by omega
  have hfit2 : F + q ≤ D.n := by omega
  have HAE := Lib.hid ha
  have HOP := Lib.hid hop
  clear hL hd hq hr hfit ha hop
  have k1 : ((q : Int) == 0) = false := by simp; omega
  have k2 : decide ((F : Int) < 0) = false := decide_eq_false (by omega)
  have k3 : decide ((D.n : Int) < (F : Int)) = false := decide_eq_false (by omega)
  have k4 : decide ((D.n : Int) - (F : Int) < (q : Int)) = false := decide_eq_false (by omega)
  go_enter Tryz.func8, Tryz.ntmps8
  go_wp2_with (first
    | (go_at_call 5; (with_reducible refine HN.out.mono ?_); rintro e w' ⟨rfl, rfl⟩)
    | (go_at_call 26; (with_reducible refine HSZ.out.mono ?_); rintro e w' ⟨rfl, rfl⟩)
    | (go_at_call 27; (with_reducible refine HNEW.out.mono ?_); rintro e w2 ⟨g, Mi, rfl, hi2, hm2, hb2⟩; have HI2 := Lib.hid hi2; have HM2 := Lib.hid hm2; have B2 := Lib.hid hb2; clear hi2 hm2 hb2))
  have hb0 : IsSt (w2.alloc (.cells #[.pointer (some ⟨d, 0, none⟩), .int .i64 F, .pointer (some ⟨g, 0, none⟩), .int .i64 0, .int .i64 0, .int .i64 0, .int .i64 0, .bool false] 66)) w2.heap.size d g F ST.zero false := Blk.new w2 _ _
  have HS0 := Lib.hid hb0
  have B3 := Lib.hid (bl_chain B2.out (bl_alloc w2 (.cells #[.pointer (some ⟨d, 0, none⟩), .int .i64 F, .pointer (some ⟨g, 0, none⟩), .int .i64 0, .int .i64 0, .int .i64 0, .int .i64 0, .bool false] 66)))
  have HI3 := Lib.hid (HI2.out.below (bl_alloc w2 (.cells #[.pointer (some ⟨d, 0, none⟩), .int .i64 F, .pointer (some ⟨g, 0, none⟩), .int .i64 0, .int .i64 0, .int .i64 0, .int .i64 0, .bool false] 66)))
  have hz2 := B2.out.size
  have hMi : ∀ b, Mi b → b < w2.heap.size := HI2.out.mlt
  have HMI := Lib.hid hMi
  have hz3 : w2.heap.size + 1 = (w2.alloc (.cells #[.pointer (some ⟨d, 0, none⟩), .int .i64 F, .pointer (some ⟨g, 0, none⟩), .int .i64 0, .int .i64 0, .int .i64 0, .int .i64 0, .bool false] 66)).heap.size := by simp
  clear hb0 hMi
  generalize w2.alloc (.cells #[.pointer (some ⟨d, 0, none⟩), .int .i64 F, .pointer (some ⟨g, 0, none⟩), .int .i64 0, .int .i64 0, .int .i64 0, .int .i64 0, .bool false] 66) = W3 at HS0 B3 HI3 hz3 ⊢
  obtain ⟨s, hs⟩ : ∃ s, w2.heap.size = s := ⟨_, rfl⟩
  rw [hs] at HS0 hz3 hz2 HMI ⊢
  clear hs
  go_loopw [13, 14, 15, 16, 57] (fun _ _ _ _ v W => ∃ i : Nat, i ≤ 2 ∧ v = .int .i64 (i : Int) ∧ IsSt W s d g F (topTo D F i) false ∧ Tr (fun b => b = s) W3 W) (fun _ _ _ _ v _ => 2 - (intOf v).toNat)
  case atStart => exact ⟨0, by omega, rfl, HS0.out, Tr.refl _ _⟩
  case round =>
    obtain ⟨i, hi, rfl, hst, ht⟩ := hrel
    have HST := Lib.hid hst
    have HT := Lib.hid ht
    clear hst ht
    have hs3 : s < W3.heap.size := by omega
    have hdk : Dk.IsDisk wr d D Md Rr := (HD.out.below B3.out).tr HT.out (fun b hb e => by have := HD.out.mlt b hb; omega) (fun b hb e => by have := HD.out.rlt b hb; omega)
    have HDK := Lib.hid hdk
    clear hdk
    by_cases hlt : i < 2
    · obtain ⟨z, hz⟩ : ∃ z, F + i = z := ⟨_, rfl⟩
      have hz1 : (F : Int) + (i : Int) = (z : Int) := by omega
      have HRR := Lib.hid (row_read HDK.out z (by omega))
      have HTO : Hid (topTo D F (i + 1) = if (readST (Dk.readD D (z : Nat) 1)).gen > (topTo D F i).gen then readST (Dk.readD D (z : Nat) 1) else topTo D F i) := Lib.hid (by rw [← hz]; rfl)
      clear hz
      generalize Dk.readD D (z : Nat) 1 = l at HRR HTO
      obtain ⟨y, hy⟩ : ∃ y, readST l = y := ⟨_, rfl⟩
      obtain ⟨x, hx⟩ : ∃ x, topTo D F i = x := ⟨_, rfl⟩
      rw [hy, hx] at HTO
      rw [hx] at HST
      have HY := Lib.hid hy
      clear hy hx
      have c3 := HST.out.cell 3
      simp [stCells] at c3
      go_wp2_with (first
        | (go_at_call 28; (with_reducible refine HRR.out.mono ?_); rintro e w5 ⟨b5, c5, rfl, h56, hcm, hl, hB, hrd, hbb, hb5⟩; have HRD := Lib.hid hrd; have HBB := Lib.hid hB; have HLL := Lib.hid hl; have B5 := Lib.hid hb5; clear hl hB hrd hbb hb5)
        | (go_at_call 29; (with_reducible refine (readState_y _ _ l y HY.out _ HRD.out HBB.out HLL.out h56 hcm).mono ?_); rintro e w6 ⟨rfl, hb6⟩; have B6 := Lib.hid (bl_chain B5.out hb6); clear hb6))
      have hb7 := Blk.new w6 64 #[.int .i64 y.gen, .int .i64 y.n, .int .i64 y.area, .int .i64 y.op]
      have B7 := Lib.hid (bl_chain B6.out (bl_alloc w6 (.cells #[.int .i64 y.gen, .int .i64 y.n, .int .i64 y.area, .int .i64 y.op] 64)))
      have HS7 := Lib.hid (HST.out.keep B7.out)
      have HB7 := Lib.hid hb7
      clear hb7 c3
      generalize w6.alloc (.cells #[.int .i64 y.gen, .int .i64 y.n, .int .i64 y.area, .int .i64 y.op] 64) = W7 at B7 HS7 HB7 ⊢
      have y0 := HB7.out.cell 0
      have y1 := HB7.out.cell 1
      have y2 := HB7.out.cell 2
      have y3 := HB7.out.cell 3
      have c3 := HS7.out.cell 3
      have c4 := HS7.out.cell 4
      have c5 := HS7.out.cell 5
      have c6 := HS7.out.cell 6
      have f3 := HS7.out.frozen 3
      have f4 := HS7.out.frozen 4
      have f5 := HS7.out.frozen 5
      have f6 := HS7.out.frozen 6
      simp at y0 y1 y2 y3
      simp [stCells] at c3 c4 c5 c6
      by_cases hgt : y.gen > x.gen
      · have HT1 := Lib.hid (HTO.out.trans (if_pos hgt))
        have k5 : decide (x.gen < y.gen) = true := decide_eq_true hgt
        clear HTO
        go_quiet (fail)
        go_wp2_with fail
        go_roundw
        case measure => simp [intOf]; omega
        case rel =>
          refine ⟨i + 1, by omega, by go_num, ?_, ?_⟩
          · rw [HT1.out]
            exact Blk.set_ (Blk.set_ (Blk.set_ (Blk.set_ (HS7.out.keep (bl_drewN W7 _)) 3 (.int .i64 y.gen)) 4 (.int .i64 y.n)) 5 (.int .i64 y.area)) 6 (.int .i64 y.op)
          · exact ((((HT.out.then_below (bl_chain B7.out (bl_drewN W7 _))).setCell (p := ⟨s, 3, none⟩) (fun _ => rfl) _).setCell (p := ⟨s, 4, none⟩) (fun _ => rfl) _).setCell (p := ⟨s, 5, none⟩) (fun _ => rfl) _).setCell (p := ⟨s, 6, none⟩) (fun _ => rfl) _
      · have HT1 := Lib.hid (HTO.out.trans (if_neg hgt))
        have k5 : decide (x.gen < y.gen) = false := decide_eq_false hgt
        clear HTO
        go_quiet (fail)
        go_wp2_with fail
        go_roundw
        case measure => simp [intOf]; omega
        case rel =>
          exact ⟨i + 1, by omega, by go_num, by rw [HT1.out]; exact HS7.out.keep (bl_drewN W7 _), HT.out.then_below (bl_chain B7.out (bl_drewN W7 _))⟩
    · obtain rfl : i = 2 := by omega
      have HST2 : Hid (StAt wr s d g F (top D F) false D Md Rr (emptyL L.length) Mi) := Lib.hid
        ⟨HST.out, HDK.out, HI3.out.tr HT.out (fun b hb e => by have := HMI.out b hb; omega), fun h => by have := HD.out.mlt s h; omega, fun h => by have := HD.out.rlt s h; omega, fun h => by have := HMI.out s h; omega,
          fun b hb => ⟨fun h => by have := HD.out.mlt b h; have := HM2.out b hb; omega, fun h => by have := HD.out.rlt b h; have := HM2.out b hb; omega⟩⟩
      have HLD := Lib.hid (load_any HST2.out a HAE.out ha1 HL.out hF)
      have HTT := Lib.hid HT.out
      clear HT
      go_wp2_with (first
        | (go_at_call 30; (with_reducible refine HLD.out.mono ?_); rintro e w8 ⟨Mi8, rfl, hst8, hm8, ht8⟩; have c6 := hst8.blk.cell 6; simp [stCells] at c6; rw [HOP.out] at c6; have HST8 := Lib.hid hst8; have HM8 := Lib.hid hm8; have HT8 := Lib.hid ht8; clear hst8 hm8 ht8))
      go_ret2
      have hz := HTT.out.size
      have t8 : Below w.heap.size w w8 := bl_tr (bl_tr B3.out HTT.out (fun b e => by omega)) HT8.out (fun b hb => HM2.out b hb)
      exact ⟨s, g, Mi8, rfl, HST8.out, hz2, fun b hb => (HM8.out b hb).elim (HM2.out b) (fun h => by have := B3.out.size; omega), t8⟩
end
end Go.Proofs.YthlijldapoeepaaGreat
