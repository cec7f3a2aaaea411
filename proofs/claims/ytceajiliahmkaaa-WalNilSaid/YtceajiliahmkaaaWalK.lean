/- Layer 4: a log that is not there; next, meta, segments, dead; flush. -/
import Derived.Test.YtceajiliahmkaaaWalJ
namespace Go.Proofs.Ytceajiliahmkaaa
set_option linter.unusedVariables false
set_option linter.unusedSimpArgs false
set_option maxRecDepth 100000
open Go.RowKit

section
variable {w w' : World} {p d : Nat} {x : LG} {A : Option Addr} {c : Nat} {D : DS} {M R F : Nat → Prop}
theorem wopen_nil (f s q : Int) (w : World) : Calls Try.prog 7 #[.pointer none, .int .i64 f, .int .i64 s, .int .i64 q] w fun e w' => e = .returned (.tuple #[.pointer none, .slice none 0 0, .agg #[.int .i64 0, .int .i64 0, .int .i64 0], .int .i64 2]) ∧ Below w.heap.size w w' := by
  go_enter Try.func7, Try.ntmps7
  go_wp2_with fail
  have hb := bl_alloc w (.cells #[.int .i64 0, .int .i64 0, .int .i64 0] 30)
  have hn := Blk.new w 30 #[.int .i64 0, .int .i64 0, .int .i64 0]
  generalize w.alloc (.cells #[.int .i64 0, .int .i64 0, .int .i64 0] 30) = W1 at hb hn ⊢
  have x0 := (hn.cell 0).trans (show _ = some (Value.int .i64 0) from rfl)
  have x1 := (hn.cell 1).trans (show _ = some (Value.int .i64 0) from rfl)
  have x2 := (hn.cell 2).trans (show _ = some (Value.int .i64 0) from rfl)
  refine bodyPost_ret (v := .tuple #[.pointer none, .slice none 0 0, .agg #[.int .i64 0, .int .i64 0, .int .i64 0], .int .i64 2]) (by simp [results, Try.results7, go_sem, x0, x1, x2]) rfl ?_
  exact ⟨rfl, hb⟩
theorem append_nil (A : Option Addr) (n c : Nat) (w : World) : Calls Try.prog 8 #[.pointer none, .slice A n c] w fun e w' => e = .returned (.tuple #[.int .i64 0, .int .i64 2]) ∧ w = w' := by
  go_enter Try.func8, Try.ntmps8
  go_wp2_with (first
    | (go_at_call 33; (with_reducible refine (state_nil _).mono ?_); rintro e w1 ⟨rfl, rfl⟩))
  exact bodyPost_ret (v := .tuple #[.int .i64 0, .int .i64 2]) (by simp [results, Try.results8, go_sem]) rfl ⟨rfl, rfl⟩
theorem flush_nil (w : World) : Calls Try.prog 19 #[.pointer none] w fun e w' => e = .returned (.int .i64 2) ∧ w = w' := by
  go_enter Try.func19, Try.ntmps19
  go_wp2_with (first
    | (go_at_call 33; (with_reducible refine (state_nil _).mono ?_); rintro e w1 ⟨rfl, rfl⟩))
  go_ret
  exact ⟨rfl, rfl⟩
theorem cut_nil (n : Int) (w : World) : Calls Try.prog 9 #[.pointer none, .int .i64 n] w fun e w' => e = .returned (.int .i64 2) ∧ w = w' := by
  go_enter Try.func9, Try.ntmps9
  go_wp2_with (first
    | (go_at_call 33; (with_reducible refine (state_nil _).mono ?_); rintro e w1 ⟨rfl, rfl⟩))
  go_ret
  exact ⟨rfl, rfl⟩
theorem drop_nil (n : Int) (w : World) : Calls Try.prog 10 #[.pointer none, .int .i64 n] w fun e w' => e = .returned (.int .i64 2) ∧ w = w' := by
  go_enter Try.func10, Try.ntmps10
  go_wp2_with (first
    | (go_at_call 33; (with_reducible refine (state_nil _).mono ?_); rintro e w1 ⟨rfl, rfl⟩))
  go_ret
  exact ⟨rfl, rfl⟩
theorem set_nil (n v : Int) (w : World) : Calls Try.prog 11 #[.pointer none, .int .i64 n, .int .i64 v] w fun e w' => e = .returned (.int .i64 2) ∧ w = w' := by
  go_enter Try.func11, Try.ntmps11
  go_wp2_with (first
    | (go_at_call 33; (with_reducible refine (state_nil _).mono ?_); rintro e w1 ⟨rfl, rfl⟩))
  go_ret
  exact ⟨rfl, rfl⟩
theorem next_nil (w : World) : Calls Try.prog 14 #[.pointer none] w fun e w' => e = .returned (.int .i64 0) ∧ w = w' := by
  go_enter Try.func14, Try.ntmps14
  go_wp2_with fail
  go_ret
  exact ⟨rfl, rfl⟩
theorem segments_nil (w : World) : Calls Try.prog 20 #[.pointer none] w fun e w' => e = .returned (.int .i64 0) ∧ w = w' := by
  go_enter Try.func20, Try.ntmps20
  go_wp2_with fail
  go_ret
  exact ⟨rfl, rfl⟩
theorem dead_nil (w : World) : Calls Try.prog 21 #[.pointer none] w fun e w' => e = .returned (.bool false) ∧ w = w' := by
  go_enter Try.func21, Try.ntmps21
  go_wp2_with fail
  go_ret
  exact ⟨rfl, rfl⟩
theorem meta_nil (w : World) : Calls Try.prog 12 #[.pointer none] w fun e w' => e = .returned (.agg #[.int .i64 0, .int .i64 0, .int .i64 0]) ∧ Below w.heap.size w w' := by
  go_enter Try.func12, Try.ntmps12
  go_wp2_with fail
  have hb := bl_alloc w (.cells #[.int .i64 0, .int .i64 0, .int .i64 0] 30)
  have hn := Blk.new w 30 #[.int .i64 0, .int .i64 0, .int .i64 0]
  generalize w.alloc (.cells #[.int .i64 0, .int .i64 0, .int .i64 0] 30) = W1 at hb hn ⊢
  have x0 := (hn.cell 0).trans (show _ = some (Value.int .i64 0) from rfl)
  have x1 := (hn.cell 1).trans (show _ = some (Value.int .i64 0) from rfl)
  have x2 := (hn.cell 2).trans (show _ = some (Value.int .i64 0) from rfl)
  refine bodyPost_ret (v := .agg #[.int .i64 0, .int .i64 0, .int .i64 0]) (by simp [results, Try.results12, go_sem, x0, x1, x2]) rfl ?_
  exact ⟨rfl, hb⟩
theorem segments_any (h : IsLg w p d x A c) : Calls Try.prog 20 #[.pointer (some ⟨p, 0, none⟩)] w fun e w' => e = .returned (.int .i64 (x.chain.length : Int)) ∧ w = w' := by
  have c8 := h.cell 8
  simp [lgCells] at c8
  clear h
  go_enter Try.func20, Try.ntmps20
  go_wp2_with fail
  go_ret
  exact ⟨rfl, rfl⟩
theorem dead_any (h : IsLg w p d x A c) : Calls Try.prog 21 #[.pointer (some ⟨p, 0, none⟩)] w fun e w' => e = .returned (.bool x.dead) ∧ w = w' := by
  have c12 := h.cell 12
  simp [lgCells] at c12
  clear h
  go_enter Try.func21, Try.ntmps21
  go_wp2_with fail
  go_ret
  exact ⟨rfl, rfl⟩
/-- A disk's and a log's turn. -/
def RetLg (w : World) (p d : Nat) (M R : Nat → Prop) (A0 : Option Addr) (x' : LG) (D' : DS) (v : Value) (e : Ending) (w' : World) : Prop :=
  ∃ A c M' R', e = .returned v ∧ LgAt w' p d x' A c D' M' R' ∧ (∀ b, Blo A b → Blo A0 b ∨ w.heap.size ≤ b) ∧ (∀ b, M' b → M b ∨ w.heap.size ≤ b) ∧ (∀ b, R' b → R b ∨ w.heap.size ≤ b) ∧ Tr (fun b => M b ∨ b = p ∨ Blo A0 b) w w'
def LG.flushE (x : LG) (D : DS) : Int := if x.dead = true then 21 else Go.Proofs.Ytceajiliahmkaaa.flushE D
def LG.flushD (x : LG) (D : DS) : DS := if x.dead = true then D else Go.Proofs.Ytceajiliahmkaaa.flushD D
def LG.flushX (x : LG) (D : DS) : LG := if x.dead = true then x else { x with dead := !(Go.Proofs.Ytceajiliahmkaaa.flushE D == 0) }
theorem wflush_any (h : LgAt w p d x A c D M R) : Calls Try.prog 19 #[.pointer (some ⟨p, 0, none⟩)] w (RetLg w p d M R A (x.flushX D) (x.flushD D) (.int .i64 (x.flushE D))) := by
  have HH := Lib.hid h
  have c0 := h.lg.cell 0
  simp [lgCells] at c0
  have HS := Lib.hid (state_any h.lg)
  cases hd : x.dead with
  | true =>
    have HE : Hid (x.flushE D = 21 ∧ x.flushX D = x ∧ x.flushD D = D) := Lib.hid ⟨if_pos hd, if_pos hd, if_pos hd⟩
    have hs : stateE x = 21 := if_pos hd
    rw [hs] at HS
    clear hd h hs
    go_enter Try.func19, Try.ntmps19
    go_wp2_with (first
      | (go_at_call 33; (with_reducible refine HS.out.mono ?_); rintro e w1 ⟨rfl, rfl⟩))
    go_ret
    rw [HE.out.1, HE.out.2.1, HE.out.2.2]
    exact ⟨A, c, M, R, rfl, HH.out, fun b h => .inl h, fun b h => .inl h, fun b h => .inl h, Tr.refl _ _⟩
  | false =>
    have hn : ¬ x.dead = true := by rw [hd]; simp
    have HE : Hid (x.flushE D = Go.Proofs.Ytceajiliahmkaaa.flushE D ∧ x.flushX D = { x with dead := !(Go.Proofs.Ytceajiliahmkaaa.flushE D == 0) } ∧ x.flushD D = Go.Proofs.Ytceajiliahmkaaa.flushD D) := Lib.hid ⟨if_neg hn, if_neg hn, if_neg hn⟩
    have hs : stateE x = 0 := if_neg hn
    rw [hs] at HS
    have HF := Lib.hid (flush_any h.dk)
    generalize Go.Proofs.Ytceajiliahmkaaa.flushE D = fe at HE HF
    generalize Go.Proofs.Ytceajiliahmkaaa.flushD D = fD at HE HF
    clear hd h hs hn
    go_enter Try.func19, Try.ntmps19
    go_wp2_with (first
      | (go_at_call 33; (with_reducible refine HS.out.mono ?_); rintro e w1 ⟨rfl, rfl⟩)
      | (go_at_call 44; (with_reducible refine HF.out.mono ?_); rintro e w4 ⟨rfl, hd4, ht4⟩; have hl4 := HH.out.disk hd4 (fun b hb => .inl hb) (fun b hb => .inl hb) ht4; have HT4 := Lib.hid ht4; have q12 := hl4.lg.cell 12; have g12 := hl4.lg.frozen 12; simp [lgCells] at q12; have HL4 := Lib.hid hl4; clear hd4 ht4 hl4))
    go_ret
    obtain ⟨hl5, t5⟩ := HL4.out.set12 (!(fe == 0))
    rw [HE.out.1, HE.out.2.1, HE.out.2.2]
    exact ⟨A, c, M, R, rfl, hl5, fun b h => .inl h, fun b h => .inl h, fun b h => .inl h, (HT4.out.mono (fun b _ h => Or.inl h)).trans t5 (fun b _ h => .inr (.inl h))⟩
end
end Go.Proofs.Ytceajiliahmkaaa
