/- Layer 4: the meta record written. -/
import Derived.Test.YtceajiliahmkaaaWalG
namespace Go.Proofs.Ytceajiliahmkaaa
set_option linter.unusedVariables false
set_option linter.unusedSimpArgs false
set_option maxRecDepth 100000
open Go.RowKit

def LG.putL (x : LG) : List Int := numSec [x.epoch + 1, x.term, x.vote + 1, x.base]
def LG.putAt (x : LG) : Nat := x.from_ + (x.epoch + 1).toNat % 2
def LG.putE (x : LG) (D : DS) : Int := if writeE D x.putAt x.putL = 0 then flushE (writeD D x.putAt x.putL) else writeE D x.putAt x.putL
def LG.putD (x : LG) (D : DS) : DS := if writeE D x.putAt x.putL = 0 then flushD (writeD D x.putAt x.putL) else writeD D x.putAt x.putL
def LG.putX (x : LG) (D : DS) : LG := if x.putE D = 0 then { x with epoch := x.epoch + 1 } else { x with dead := true }
/-- The numbers of its meta record. -/
structure LG.Nums (x : LG) : Prop where
  epoch : 0 ≤ x.epoch ∧ x.epoch ≤ 2000000000000000000
  term : 0 ≤ x.term ∧ x.term ≤ 1152921504606846976
  vote : -1 ≤ x.vote ∧ x.vote ≤ 100
  base : 0 ≤ x.base ∧ x.base ≤ 1152921504606846976
section
variable {w w' : World} {p d : Nat} {x x' : LG} {A A' : Option Addr} {c c' : Nat} {D D' : DS} {M R M' R' F : Nat → Prop}
def RetPut (w : World) (p d : Nat) (x : LG) (A : Option Addr) (c : Nat) (D : DS) (M R : Nat → Prop) (err : Int) (x' : LG) (D' : DS) (e : Ending) (w' : World) : Prop :=
  ∃ M' R', e = .returned (.int .i64 err) ∧ LgAt w' p d x' A c D' M' R' ∧ (∀ b, M' b → M b ∨ w.heap.size ≤ b) ∧ (∀ b, R' b → R b ∨ w.heap.size ≤ b) ∧ Tr (fun b => M b ∨ b = p) w w'
/-- The disk turned. -/
theorem LgAt.disk (h : LgAt w p d x A c D M R) (hd : IsDisk w' d D' M' R') (hm : ∀ b, M' b → M b ∨ w.heap.size ≤ b) (hr : ∀ b, R' b → R b ∨ w.heap.size ≤ b) (ht : Tr M w w') : LgAt w' p d x A c D' M' R' := by
  have hp := h.lg.lt
  have ha := h.row.lt
  refine ⟨ht.blk h.lg h.pm, h.row.tr ht (fun b hb => (h.am b hb).1), hd, h.pa, fun e => (hm p e).elim h.pm (fun e => by omega), fun e => (hr p e).elim h.pr (fun e => by omega), fun b hb => ⟨fun e => (hm b e).elim (h.am b hb).1 (fun e => by have := ha b hb; omega), fun e => (hr b e).elim (h.am b hb).2 (fun e => by have := ha b hb; omega)⟩⟩
theorem LgAt.set4 (h : LgAt w p d x A c D M R) (n : Int) : LgAt (w.setCell ⟨p, 4, none⟩ (.int .i64 n)) p d { x with epoch := n } A c D M R ∧ Tr (fun b => b = p) w (w.setCell ⟨p, 4, none⟩ (.int .i64 n)) := by
  have ts : Tr (fun b => b = p) w (w.setCell ⟨p, 4, none⟩ (.int .i64 n)) := (Tr.refl (fun b => b = p) w).setCell (p := ⟨p, 4, none⟩) (fun _ => rfl) _
  have hb := h.lg.set_ 4 (.int .i64 n)
  refine ⟨⟨?_, h.row.tr ts (fun b hb e => h.pa (e ▸ hb)), h.dk.tr ts (fun b hb e => h.pm (e ▸ hb)) (fun b hb e => h.pr (e ▸ hb)), h.pa, h.pm, h.pr, h.am⟩, ts⟩
  simpa [lgCells, IsLg] using hb
theorem LgAt.set12 (h : LgAt w p d x A c D M R) (n : Bool) : LgAt (w.setCell ⟨p, 12, none⟩ (.bool n)) p d { x with dead := n } A c D M R ∧ Tr (fun b => b = p) w (w.setCell ⟨p, 12, none⟩ (.bool n)) := by
  have ts : Tr (fun b => b = p) w (w.setCell ⟨p, 12, none⟩ (.bool n)) := (Tr.refl (fun b => b = p) w).setCell (p := ⟨p, 12, none⟩) (fun _ => rfl) _
  have hb := h.lg.set_ 12 (.bool n)
  refine ⟨⟨?_, h.row.tr ts (fun b hb e => h.pa (e ▸ hb)), h.dk.tr ts (fun b hb e => h.pm (e ▸ hb)) (fun b hb e => h.pr (e ▸ hb)), h.pa, h.pm, h.pr, h.am⟩, ts⟩
  simpa [lgCells, IsLg] using hb
theorem write_256 (hd : IsDisk w d D M R) {A : Option Addr} {c : Nat} {l : List Int} (hr : Rd w A (by8 l)) (hl : l.length = 256) (hB : isB l) (hfew : D.gs.length < 1000000) (a : Nat) (ha : a ≤ 1000000) :
    Calls Try.prog 39 #[.pointer (some ⟨d, 0, none⟩), .int .i64 (a : Int), .slice A 256 c] w (RetW w d M R (writeD D a l) (writeE D a l)) := by
  have h := write_any A c l a hd hr hB (by omega) hfew (by omega)
  rw [hl] at h
  exact h
set_option maxHeartbeats 6400000 in
theorem put_any (h : LgAt w p d x A c D M R) (hn : x.Nums) (hF : x.from_ ≤ 100000) (hfew : D.gs.length < 1000000) :
    Calls Try.prog 32 #[.pointer (some ⟨p, 0, none⟩)] w (RetPut w p d x A c D M R (x.putE D) (x.putX D) (x.putD D)) := by
  have HH := Lib.hid h
  have hplt := h.lg.lt
  obtain ⟨⟨n1, n2⟩, ⟨n3, n4⟩, ⟨n5, n6⟩, ⟨n7, n8⟩⟩ := hn
  obtain ⟨G, hG⟩ := Int.eq_ofNat_of_zero_le n1
  obtain ⟨F, hFF⟩ : ∃ F, x.from_ = F := ⟨_, rfl⟩
  obtain ⟨tm, htm⟩ : ∃ t, x.term = t := ⟨_, rfl⟩
  obtain ⟨vt, hvt⟩ : ∃ t, x.vote = t := ⟨_, rfl⟩
  obtain ⟨bs, hbs⟩ : ∃ t, x.base = t := ⟨_, rfl⟩
  have c4 := h.lg.cell 4
  have c0 := h.lg.cell 0
  have c1 := h.lg.cell 1
  have c5 := h.lg.cell 5
  have c6 := h.lg.cell 6
  have c7 := h.lg.cell 7
  simp [lgCells] at c0 c1 c4 c5 c6 c7
  rw [hG] at c4 n2
  rw [hFF] at c1 hF
  rw [htm] at c5 n3 n4
  rw [hvt] at c6 n5 n6
  rw [hbs] at c7 n7 n8
  obtain ⟨a, ha⟩ : ∃ a, x.putAt = a := ⟨_, rfl⟩
  have haF : a = F + (G + 1) % 2 := by rw [← ha]; unfold LG.putAt; rw [hFF, hG]; congr 1
  obtain ⟨l, hl⟩ : ∃ l, x.putL = l := ⟨_, rfl⟩
  have HPE : Hid (x.putE D = if writeE D a l = 0 then flushE (writeD D a l) else writeE D a l) := Lib.hid (by unfold LG.putE; rw [ha, hl])
  have HPD : Hid (x.putD D = if writeE D a l = 0 then flushD (writeD D a l) else writeD D a l) := Lib.hid (by unfold LG.putD; rw [ha, hl])
  have HPX : Hid (x.putX D = if x.putE D = 0 then { x with epoch := (G : Int) + 1 } else { x with dead := true }) := Lib.hid (by unfold LG.putX; rw [hG])
  have hlv : l = numSec [(G : Int) + 1, tm, vt + 1, bs] := by rw [← hl]; unfold LG.putL; rw [hG, htm, hvt, hbs]
  have HL : Hid (l.length = 256) := Lib.hid (by rw [hlv]; exact numSec_length (by simp))
  have HB : Hid (isB l) := Lib.hid (by rw [hlv]; exact numSec_isB _)
  have HSEC : Hid (Calls Try.prog 54 #[.slice (some ⟨w.heap.size, 0, none⟩) 4 4] (w.alloc (.cells #[.int .i64 ((G : Int) + 1), .int .i64 tm, .int .i64 (vt + 1), .int .i64 bs] 2)).drew fun e w' => ∃ A' c', e = .returned (.slice A' 256 c') ∧ 256 ≤ c' ∧ w'.ownsRow (w.alloc (.cells #[.int .i64 ((G : Int) + 1), .int .i64 tm, .int .i64 (vt + 1), .int .i64 bs] 2)).drew.heap.size 5 1 (.slice A' 256 c') 256 (by8 l) ∧ Below (w.alloc (.cells #[.int .i64 ((G : Int) + 1), .int .i64 tm, .int .i64 (vt + 1), .int .i64 bs] 2)).drew.heap.size (w.alloc (.cells #[.int .i64 ((G : Int) + 1), .int .i64 tm, .int .i64 (vt + 1), .int .i64 bs] 2)).drew w') := Lib.hid (by
    rw [hlv]
    exact wsector_any (some ⟨w.heap.size, 0, none⟩) 4 [(G : Int) + 1, tm, vt + 1, bs] (w.alloc (.cells #[.int .i64 ((G : Int) + 1), .int .i64 tm, .int .i64 (vt + 1), .int .i64 bs] 2)).drew (Rd.newAt w w.heap.size _ [.int .i64 ((G : Int) + 1), .int .i64 tm, .int .i64 (vt + 1), .int .i64 bs] _ 0 rfl rfl).drew (by simp) (by
      intro n hn
      simp only [List.mem_cons, List.mem_nil_iff, or_false] at hn
      rcases hn with rfl | rfl | rfl | rfl <;> omega))
  have hrem : Int.tmod ((G : Int) + 1) 2 = ((G : Int) + 1) % 2 := by rw [Int.tmod_eq_emod_of_nonneg (by omega)]
  have hsw : (F : Int) + ((G : Int) + 1) % 2 = (a : Int) := by omega
  have ha2 : a ≤ 1000000 := by omega
  have haw : IntKind.i64.wrap (a : Int) = (a : Int) := by rw [IntKind.wrap_i64]; omega
  have hvw : IntKind.i64.wrap (vt + 1) = vt + 1 := by rw [IntKind.wrap_i64]; omega
  have HS0 : Hid (w.drew.cell? ⟨p, 0, none⟩ = some (.pointer (some ⟨d, 0, none⟩)) ∧ w.drew.cell? ⟨p, 1, none⟩ = some (.int .i64 (F : Int)) ∧ w.drew.cell? ⟨p, 5, none⟩ = some (.int .i64 tm) ∧ w.drew.cell? ⟨p, 6, none⟩ = some (.int .i64 vt) ∧ w.drew.cell? ⟨p, 7, none⟩ = some (.int .i64 bs)) := Lib.hid ⟨c0, c1, c5, c6, c7⟩
  have HS1 : Hid ((w.alloc (.cells #[.int .i64 ((G : Int) + 1), .int .i64 tm, .int .i64 (vt + 1), .int .i64 bs] 2)).drew.cell? ⟨p, 0, none⟩ = some (.pointer (some ⟨d, 0, none⟩)) ∧ (w.alloc (.cells #[.int .i64 ((G : Int) + 1), .int .i64 tm, .int .i64 (vt + 1), .int .i64 bs] 2)).drew.cell? ⟨p, 1, none⟩ = some (.int .i64 (F : Int)) ∧ (w.alloc (.cells #[.int .i64 ((G : Int) + 1), .int .i64 tm, .int .i64 (vt + 1), .int .i64 bs] 2)).drew.cell? ⟨p, 5, none⟩ = some (.int .i64 tm) ∧ (w.alloc (.cells #[.int .i64 ((G : Int) + 1), .int .i64 tm, .int .i64 (vt + 1), .int .i64 bs] 2)).drew.cell? ⟨p, 6, none⟩ = some (.int .i64 vt) ∧ (w.alloc (.cells #[.int .i64 ((G : Int) + 1), .int .i64 tm, .int .i64 (vt + 1), .int .i64 bs] 2)).drew.cell? ⟨p, 7, none⟩ = some (.int .i64 bs)) := Lib.hid ⟨((bl_alloc w _).cell (cell_block_lt HS0.out.1)).trans HS0.out.1, ((bl_alloc w _).cell (cell_block_lt HS0.out.2.1)).trans HS0.out.2.1, ((bl_alloc w _).cell (cell_block_lt HS0.out.2.2.1)).trans HS0.out.2.2.1, ((bl_alloc w _).cell (cell_block_lt HS0.out.2.2.2.1)).trans HS0.out.2.2.2.1, ((bl_alloc w _).cell (cell_block_lt HS0.out.2.2.2.2)).trans HS0.out.2.2.2.2⟩
  have HAL := Lib.hid (bl_chain (bl_alloc w (.cells #[.int .i64 ((G : Int) + 1), .int .i64 tm, .int .i64 (vt + 1), .int .i64 bs] 2)) (bl_drew _))
  clear h hG hFF htm hvt hbs ha hl hlv c0 c1 c5 c6 c7 haF
  go_enter Try.func32, Try.ntmps32
  go_wp2_with fail
  refine held_startB (S := fun W => W.cell? ⟨p, 0, none⟩ = some (.pointer (some ⟨d, 0, none⟩)) ∧ W.cell? ⟨p, 1, none⟩ = some (.int .i64 (F : Int)) ∧ W.cell? ⟨p, 5, none⟩ = some (.int .i64 tm) ∧ W.cell? ⟨p, 6, none⟩ = some (.int .i64 vt) ∧ W.cell? ⟨p, 7, none⟩ = some (.int .i64 bs)) (by kernel_rfl) ?_
  refine held_take (HS0.out) (i := 0) (v := ?_) rfl (by kernel_rfl) (by kernel_rfl) (by kernel_rfl) (fun _ _ _ h => h) (Or.inl ⟨by rfl, ?_⟩) ?_
  rotate_left
  · (intro W hSw; obtain ⟨s1, s2, s3, s4, s5⟩ := hSw; go_simp; try with_reducible rfl)
  try simp only [Act.put, List.setIfInBounds_toArray, List.set_cons_zero, List.set_cons_succ]
  refine held_take (HS0.out) (i := 1) (v := ?_) rfl (by kernel_rfl) (by kernel_rfl) (by kernel_rfl) (fun _ _ _ h => h) (Or.inl ⟨by rfl, ?_⟩) ?_
  rotate_left
  · (intro W hSw; obtain ⟨s1, s2, s3, s4, s5⟩ := hSw; go_simp; try with_reducible rfl)
  try simp only [Act.put, List.setIfInBounds_toArray, List.set_cons_zero, List.set_cons_succ]
  refine held_take (HS0.out) (i := 2) (v := ?_) rfl (by kernel_rfl) (by kernel_rfl) (by kernel_rfl) (fun _ _ _ h => h) (Or.inl ⟨by rfl, ?_⟩) ?_
  rotate_left
  · (intro W hSw; obtain ⟨s1, s2, s3, s4, s5⟩ := hSw; go_simp; try with_reducible rfl)
  try simp only [Act.put, List.setIfInBounds_toArray, List.set_cons_zero, List.set_cons_succ]
  refine held_take (HS0.out) (i := 3) (v := ?_) rfl (by kernel_rfl) (by kernel_rfl) (by kernel_rfl) (fun _ _ _ h => h) (Or.inl ⟨by rfl, ?_⟩) ?_
  rotate_left
  · (intro W hSw; obtain ⟨s1, s2, s3, s4, s5⟩ := hSw; go_simp; try with_reducible rfl)
  try simp only [Act.put, List.setIfInBounds_toArray, List.set_cons_zero, List.set_cons_succ]
  refine held_take (HS0.out) (i := 4) (v := ?_) rfl (by kernel_rfl) (by kernel_rfl) (by kernel_rfl) (fun _ _ _ h => h) (Or.inl ⟨by rfl, ?_⟩) ?_
  rotate_left
  · (intro W hSw; obtain ⟨s1, s2, s3, s4, s5⟩ := hSw; go_simp; try with_reducible rfl)
  try simp only [Act.put, List.setIfInBounds_toArray, List.set_cons_zero, List.set_cons_succ]
  refine held_take (HS0.out) (i := 5) (v := ?_) rfl (by kernel_rfl) (by kernel_rfl) (by kernel_rfl) (fun _ _ _ h => h) (Or.inl ⟨by rfl, ?_⟩) ?_
  rotate_left
  · (intro W hSw; obtain ⟨s1, s2, s3, s4, s5⟩ := hSw; go_simp; try with_reducible rfl)
  try simp only [Act.put, List.setIfInBounds_toArray, List.set_cons_zero, List.set_cons_succ]
  refine held_take (HS0.out) (i := 6) (v := ?_) rfl (by kernel_rfl) (by kernel_rfl) (by kernel_rfl) (fun _ _ _ h => h) (Or.inl ⟨by rfl, ?_⟩) ?_
  rotate_left
  · (intro W hSw; obtain ⟨s1, s2, s3, s4, s5⟩ := hSw; go_simp; try with_reducible rfl)
  try simp only [Act.put, List.setIfInBounds_toArray, List.set_cons_zero, List.set_cons_succ]
  refine held_take (HS0.out) (i := 7) (v := ?_) rfl (by kernel_rfl) (by kernel_rfl) (by kernel_rfl) (fun _ _ _ h => h) (Or.inl ⟨by rfl, ?_⟩) ?_
  rotate_left
  · (intro W hSw; obtain ⟨s1, s2, s3, s4, s5⟩ := hSw; go_simp; try with_reducible rfl)
  try simp only [Act.put, List.setIfInBounds_toArray, List.set_cons_zero, List.set_cons_succ]
  refine held_take (HS0.out) (i := 8) (v := ?_) rfl (by kernel_rfl) (by kernel_rfl) (by kernel_rfl) (fun _ _ _ h => h) (Or.inl ⟨by rfl, ?_⟩) ?_
  rotate_left
  · (intro W hSw; obtain ⟨s1, s2, s3, s4, s5⟩ := hSw; go_simp; try with_reducible rfl)
  try simp only [Act.put, List.setIfInBounds_toArray, List.set_cons_zero, List.set_cons_succ]
  refine held_take (HS0.out) (i := 9) (v := ?_) rfl (by kernel_rfl) (by kernel_rfl) (by kernel_rfl) (fun _ _ _ h => h) (Or.inl ⟨by rfl, ?_⟩) ?_
  rotate_left
  · (intro W hSw; obtain ⟨s1, s2, s3, s4, s5⟩ := hSw; go_simp; try with_reducible rfl)
  try simp only [Act.put, List.setIfInBounds_toArray, List.set_cons_zero, List.set_cons_succ]
  refine held_take (HS0.out) (i := 10) (v := ?_) rfl (by kernel_rfl) (by kernel_rfl) (by kernel_rfl) (fun _ _ _ h => h) (Or.inl ⟨by rfl, ?_⟩) ?_
  rotate_left
  · (intro W hSw; obtain ⟨s1, s2, s3, s4, s5⟩ := hSw; go_simp; try with_reducible rfl)
  try simp only [Act.put, List.setIfInBounds_toArray, List.set_cons_zero, List.set_cons_succ]
  refine held_take (HS0.out) (i := 11) (v := ?_) rfl (by kernel_rfl) (by kernel_rfl) (by kernel_rfl) (fun _ _ _ h => h) (Or.inl ⟨by rfl, ?_⟩) ?_
  rotate_left
  · (intro W hSw; obtain ⟨s1, s2, s3, s4, s5⟩ := hSw; go_simp; try with_reducible rfl)
  try simp only [Act.put, List.setIfInBounds_toArray, List.set_cons_zero, List.set_cons_succ]
  refine held_take (HS0.out) (i := 12) (v := ?_) rfl (by kernel_rfl) (by kernel_rfl) (by kernel_rfl) (fun _ _ _ h => h) (Or.inl ⟨by rfl, ?_⟩) ?_
  rotate_left
  · (intro W hSw; obtain ⟨s1, s2, s3, s4, s5⟩ := hSw; go_simp; try with_reducible rfl)
  try simp only [Act.put, List.setIfInBounds_toArray, List.set_cons_zero, List.set_cons_succ]
  refine held_take (HS0.out) (i := 13) (v := ?_) rfl (by kernel_rfl) (by kernel_rfl) (by kernel_rfl) (fun _ _ _ h => h) (Or.inl ⟨by rfl, ?_⟩) ?_
  rotate_left
  · (intro W hSw; obtain ⟨s1, s2, s3, s4, s5⟩ := hSw; go_simp; try with_reducible rfl)
  try simp only [Act.put, List.setIfInBounds_toArray, List.set_cons_zero, List.set_cons_succ]
  refine held_take (HS0.out) (i := 14) (v := ?_) rfl (by kernel_rfl) (by kernel_rfl) (by kernel_rfl) (fun _ _ _ h => h) (Or.inl ⟨by rfl, ?_⟩) ?_
  rotate_left
  · (intro W hSw; obtain ⟨s1, s2, s3, s4, s5⟩ := hSw; go_simp; try with_reducible rfl)
  try simp only [Act.put, List.setIfInBounds_toArray, List.set_cons_zero, List.set_cons_succ]
  refine held_take (HS0.out) (i := 15) (v := ?_) rfl (by kernel_rfl) (by kernel_rfl) (by kernel_rfl) (fun _ _ _ h => h) (Or.inl ⟨by rfl, ?_⟩) ?_
  rotate_left
  · (intro W hSw; obtain ⟨s1, s2, s3, s4, s5⟩ := hSw; go_simp; try with_reducible rfl)
  try simp only [Act.put, List.setIfInBounds_toArray, List.set_cons_zero, List.set_cons_succ]
  refine held_take (HS0.out) (i := 16) (v := ?_) rfl (by kernel_rfl) (by kernel_rfl) (by kernel_rfl) (fun _ _ _ h => h) (Or.inl ⟨by rfl, ?_⟩) ?_
  rotate_left
  · (intro W hSw; obtain ⟨s1, s2, s3, s4, s5⟩ := hSw; go_simp; try with_reducible rfl)
  try simp only [Act.put, List.setIfInBounds_toArray, List.set_cons_zero, List.set_cons_succ]
  refine held_take (HS0.out) (i := 17) (v := ?_) rfl (by kernel_rfl) (by kernel_rfl) (by kernel_rfl) (fun _ _ _ h => h) (Or.inl ⟨by rfl, ?_⟩) ?_
  rotate_left
  · (intro W hSw; obtain ⟨s1, s2, s3, s4, s5⟩ := hSw; go_simp; try with_reducible rfl)
  try simp only [Act.put, List.setIfInBounds_toArray, List.set_cons_zero, List.set_cons_succ]
  refine held_take (HS0.out) (i := 18) (v := ?_) rfl (by kernel_rfl) (by kernel_rfl) (by kernel_rfl) (fun _ _ _ h => h) (Or.inl ⟨by rfl, ?_⟩) ?_
  rotate_left
  · (intro W hSw; obtain ⟨s1, s2, s3, s4, s5⟩ := hSw; go_simp; try with_reducible rfl)
  try simp only [Act.put, List.setIfInBounds_toArray, List.set_cons_zero, List.set_cons_succ]
  refine held_take (HS0.out) (i := 19) (v := ?_) rfl (by kernel_rfl) (by kernel_rfl) (by kernel_rfl) (fun _ _ _ h => h) (Or.inl ⟨by rfl, ?_⟩) ?_
  rotate_left
  · (intro W hSw; obtain ⟨s1, s2, s3, s4, s5⟩ := hSw; go_simp; try with_reducible rfl)
  try simp only [Act.put, List.setIfInBounds_toArray, List.set_cons_zero, List.set_cons_succ]
  refine held_take (HS0.out) (i := 20) (v := ?_) rfl (by kernel_rfl) (by kernel_rfl) (by kernel_rfl) (fun _ _ _ h => h) (Or.inl ⟨by rfl, ?_⟩) ?_
  rotate_left
  · (intro W hSw; obtain ⟨s1, s2, s3, s4, s5⟩ := hSw; go_simp; try with_reducible rfl)
  try simp only [Act.put, List.setIfInBounds_toArray, List.set_cons_zero, List.set_cons_succ]
  refine held_take (HS0.out) (i := 21) (v := ?_) rfl (by kernel_rfl) (by kernel_rfl) (by kernel_rfl) (fun _ _ _ h => h) (Or.inl ⟨by rfl, ?_⟩) ?_
  rotate_left
  · (intro W hSw; obtain ⟨s1, s2, s3, s4, s5⟩ := hSw; go_simp; try with_reducible rfl)
  try simp only [Act.put, List.setIfInBounds_toArray, List.set_cons_zero, List.set_cons_succ]
  refine held_take (HS0.out) (i := 22) (v := ?_) rfl (by kernel_rfl) (by kernel_rfl) (by kernel_rfl) (fun _ _ _ h => h) (Or.inl ⟨by rfl, ?_⟩) ?_
  rotate_left
  · (intro W hSw; obtain ⟨s1, s2, s3, s4, s5⟩ := hSw; go_simp; try with_reducible rfl)
  try simp only [Act.put, List.setIfInBounds_toArray, List.set_cons_zero, List.set_cons_succ]
  refine held_take (HS0.out) (i := 23) (v := ?_) rfl (by kernel_rfl) (by kernel_rfl) (by kernel_rfl) (fun _ _ _ h => h) (Or.inl ⟨by rfl, ?_⟩) ?_
  rotate_left
  · (intro W hSw; obtain ⟨s1, s2, s3, s4, s5⟩ := hSw; go_simp; try with_reducible rfl)
  try simp only [Act.put, List.setIfInBounds_toArray, List.set_cons_zero, List.set_cons_succ]
  refine held_take (HS0.out) (i := 24) (v := ?_) rfl (by kernel_rfl) (by kernel_rfl) (by kernel_rfl) (fun _ _ _ h => h) (Or.inl ⟨by rfl, ?_⟩) ?_
  rotate_left
  · (intro W hSw; obtain ⟨s1, s2, s3, s4, s5⟩ := hSw; go_simp; try with_reducible rfl)
  try simp only [Act.put, List.setIfInBounds_toArray, List.set_cons_zero, List.set_cons_succ]
  refine held_take (HS0.out) (i := 25) (v := ?_) rfl (by kernel_rfl) (by kernel_rfl) (by kernel_rfl) (fun _ _ _ h => h) (Or.inl ⟨by rfl, ?_⟩) ?_
  rotate_left
  · (intro W hSw; obtain ⟨s1, s2, s3, s4, s5⟩ := hSw; go_simp; try with_reducible rfl)
  try simp only [Act.put, List.setIfInBounds_toArray, List.set_cons_zero, List.set_cons_succ]
  refine held_take (HS0.out) (i := 26) (v := ?_) rfl (by kernel_rfl) (by kernel_rfl) (by kernel_rfl) (fun _ _ _ h => h) (Or.inl ⟨by rfl, ?_⟩) ?_
  rotate_left
  · (intro W hSw; obtain ⟨s1, s2, s3, s4, s5⟩ := hSw; go_simp; try with_reducible rfl)
  try simp only [Act.put, List.setIfInBounds_toArray, List.set_cons_zero, List.set_cons_succ]
  refine held_take (HS0.out) (i := 27) (v := ?_) rfl (by kernel_rfl) (by kernel_rfl) (by kernel_rfl) (fun _ _ _ h => h) (Or.inl ⟨by rfl, ?_⟩) ?_
  rotate_left
  · (intro W hSw; obtain ⟨s1, s2, s3, s4, s5⟩ := hSw; go_simp; try with_reducible rfl)
  try simp only [Act.put, List.setIfInBounds_toArray, List.set_cons_zero, List.set_cons_succ]
  refine held_call (i := 28) (by kernel_rfl) rfl (fun K hK => ?_)
  go_simp
  (go_simp)
  refine hK.out _ _ (HS1.out) ?_
  clear hK K
  try simp only [Act.put, List.setIfInBounds_toArray, List.set_cons_zero, List.set_cons_succ]
  refine held_call (i := 29) (by kernel_rfl) rfl (fun K hK => ?_)
  go_simp
  (go_at_call 54; (with_reducible refine HSEC.out.mono ?_); rintro e w2 ⟨A2, c2, rfl, hc2, ho2, hb2⟩; have HO2 := Lib.hid ho2; have HB2 := Lib.hid (bl_chain HAL.out hb2); have HL2 := Lib.hid (HH.out.below HB2.out); have HS2 := Lib.hid (show w2.cell? ⟨p, 0, none⟩ = some (.pointer (some ⟨d, 0, none⟩)) ∧ w2.cell? ⟨p, 1, none⟩ = some (.int .i64 (F : Int)) ∧ w2.cell? ⟨p, 5, none⟩ = some (.int .i64 tm) ∧ w2.cell? ⟨p, 6, none⟩ = some (.int .i64 vt) ∧ w2.cell? ⟨p, 7, none⟩ = some (.int .i64 bs) from ⟨(hb2.cell (cell_block_lt HS1.out.1)).trans HS1.out.1, (hb2.cell (cell_block_lt HS1.out.2.1)).trans HS1.out.2.1, (hb2.cell (cell_block_lt HS1.out.2.2.1)).trans HS1.out.2.2.1, (hb2.cell (cell_block_lt HS1.out.2.2.2.1)).trans HS1.out.2.2.2.1, (hb2.cell (cell_block_lt HS1.out.2.2.2.2)).trans HS1.out.2.2.2.2⟩); clear ho2 hb2)
  refine hK.out _ _ (HS2.out) ?_
  clear hK K
  try simp only [Act.put, List.setIfInBounds_toArray, List.set_cons_zero, List.set_cons_succ]
  refine held_call (i := 30) (by kernel_rfl) rfl (fun K hK => ?_)
  go_simp
  (have HWR := write_256 (c := c2) HL2.out.dk (Rd.of_own HO2.out) HL.out HB.out hfew a ha2; go_at_call 39; (with_reducible refine HWR.mono ?_); rintro e w3 ⟨rfl, M3, R3, hd3, hm3, hr3, ht3⟩; have hlg3 := HL2.out.disk hd3 hm3 hr3 ht3; have HT3 := Lib.hid ht3; have HM3 := Lib.hid hm3; have HR3 := Lib.hid hr3; have HL3 := Lib.hid hlg3; have HS3 := Lib.hid (show w3.cell? ⟨p, 0, none⟩ = some (.pointer (some ⟨d, 0, none⟩)) ∧ w3.cell? ⟨p, 1, none⟩ = some (.int .i64 (F : Int)) ∧ w3.cell? ⟨p, 5, none⟩ = some (.int .i64 tm) ∧ w3.cell? ⟨p, 6, none⟩ = some (.int .i64 vt) ∧ w3.cell? ⟨p, 7, none⟩ = some (.int .i64 bs) from ⟨(ht3.cell (cell_block_lt HS2.out.1) HH.out.pm).trans HS2.out.1, (ht3.cell (cell_block_lt HS2.out.2.1) HH.out.pm).trans HS2.out.2.1, (ht3.cell (cell_block_lt HS2.out.2.2.1) HH.out.pm).trans HS2.out.2.2.1, (ht3.cell (cell_block_lt HS2.out.2.2.2.1) HH.out.pm).trans HS2.out.2.2.2.1, (ht3.cell (cell_block_lt HS2.out.2.2.2.2) HH.out.pm).trans HS2.out.2.2.2.2⟩); clear hd3 hm3 hr3 ht3 hlg3)
  refine hK.out _ _ (HS3.out) ?_
  clear hK K
  try simp only [Act.put, List.setIfInBounds_toArray, List.set_cons_zero, List.set_cons_succ]
  refine held_take (HS3.out) (i := 31) (v := ?_) rfl (by kernel_rfl) (by kernel_rfl) (by kernel_rfl) (fun _ _ _ h => h) (Or.inl ⟨by rfl, ?_⟩) ?_
  rotate_left
  · (intro W hSw; obtain ⟨s1, s2, s3, s4, s5⟩ := hSw; go_simp; try with_reducible rfl)
  try simp only [Act.put, List.setIfInBounds_toArray, List.set_cons_zero, List.set_cons_succ]
  refine wpAnyH_done (by kernel_rfl) ?_ _
  generalize writeE D a l = e1 at HPE HPD ⊢
  generalize writeD D a l = D1 at HPE HPD HL3 ⊢
  generalize hfe : flushE D1 = e2 at HPE HPD ⊢
  have HFE := Lib.hid hfe
  clear hfe
  have hz2 := HB2.out.size
  have hm3 : ∀ b, M3 b → M b ∨ w.heap.size ≤ b := fun b hb => (HM3.out b hb).imp id (fun h => by omega)
  have hr3 : ∀ b, R3 b → R b ∨ w.heap.size ≤ b := fun b hb => (HR3.out b hb).imp id (fun h => by omega)
  have t3 : Tr (fun b => M b ∨ b = p) w w3 := (Tr.of_below HB2.out).trans HT3.out (fun b _ h => .inl h)
  have HT := Lib.hid t3
  have HM := Lib.hid hm3
  have HR := Lib.hid hr3
  have c0 := HL3.out.lg.cell 0
  have c4 := HL3.out.lg.cell 4
  have c12 := HL3.out.lg.cell 12
  have f4 := HL3.out.lg.frozen 4
  have f12 := HL3.out.lg.frozen 12
  simp [lgCells] at c0 c4 c12
  clear hz2 hm3 hr3 t3
  by_cases h1 : e1 = 0
  · subst h1
    have HP1 := Lib.hid (HPE.out.trans (if_pos rfl))
    have HP2 := Lib.hid (HPD.out.trans (if_pos rfl))
    by_cases h2 : e2 = 0
    · subst h2
      have HP3 := Lib.hid (HPX.out.trans (if_pos HP1.out))
      clear HPE HPD HPX
      go_wp2_with (first
        | (go_at_call 44; (with_reducible refine (flush_any HL3.out.dk).mono ?_); rintro e w4 ⟨rfl, hd4, ht4⟩; rw [HFE.out]; have hl4 := HL3.out.disk hd4 (fun b hb => .inl hb) (fun b hb => .inl hb) ht4; have HT4 := Lib.hid ht4; have q4 := hl4.lg.cell 4; have g4 := hl4.lg.frozen 4; simp [lgCells] at q4; have HL4 := Lib.hid hl4; clear hd4 ht4 hl4))
      go_ret
      obtain ⟨hl5, t5⟩ := HL4.out.set4 ((G : Int) + 1)
      have t4 : Tr (fun b => M b ∨ b = p) w w4 := HT.out.trans HT4.out (fun b hb h => .inl ((HM.out b h).resolve_right (by omega)))
      rw [HP1.out, HP2.out, HP3.out]
      exact ⟨M3, R3, rfl, hl5, HM.out, HR.out, t4.trans t5 (fun b _ h => .inr h)⟩
    · have HP3 := Lib.hid (HPX.out.trans (if_neg (fun h => h2 (HP1.out.symm.trans h))))
      have k2 : (e2 == 0) = false := by simp [h2]
      clear HPE HPD HPX
      go_wp2_with (first
        | (go_at_call 44; (with_reducible refine (flush_any HL3.out.dk).mono ?_); rintro e w4 ⟨rfl, hd4, ht4⟩; rw [HFE.out]; have hl4 := HL3.out.disk hd4 (fun b hb => .inl hb) (fun b hb => .inl hb) ht4; have HT4 := Lib.hid ht4; have q12 := hl4.lg.cell 12; have g12 := hl4.lg.frozen 12; simp [lgCells] at q12; have HL4 := Lib.hid hl4; clear hd4 ht4 hl4))
      go_ret
      obtain ⟨hl5, t5⟩ := HL4.out.set12 true
      have t4 : Tr (fun b => M b ∨ b = p) w w4 := HT.out.trans HT4.out (fun b hb h => .inl ((HM.out b h).resolve_right (by omega)))
      rw [HP1.out, HP2.out, HP3.out]
      exact ⟨M3, R3, rfl, hl5, HM.out, HR.out, t4.trans t5 (fun b _ h => .inr h)⟩
  · have HP1 := Lib.hid (HPE.out.trans (if_neg h1))
    have HP2 := Lib.hid (HPD.out.trans (if_neg h1))
    have HP3 := Lib.hid (HPX.out.trans (if_neg (fun h => h1 (HP1.out.symm.trans h))))
    have k1 : (e1 == 0) = false := by simp [h1]
    clear HPE HPD HPX
    go_wp2_with fail
    go_ret
    obtain ⟨hl5, t5⟩ := HL3.out.set12 true
    rw [HP1.out, HP2.out, HP3.out]
    exact ⟨M3, R3, rfl, hl5, HM.out, HR.out, HT.out.trans t5 (fun b _ h => .inr h)⟩
end
end Go.Proofs.Ytceajiliahmkaaa
