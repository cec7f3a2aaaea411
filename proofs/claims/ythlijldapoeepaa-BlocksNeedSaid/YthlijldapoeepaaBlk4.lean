/- Layer 6: the store in memory; place, wrong, died. -/
import Derived.Test.YthlijldapoeepaaBlk3
import Derived.Test.YthlijldapoeepaaDisk4
namespace Go.Proofs.Ythlijldapoeepaa
set_option linter.unusedVariables false
set_option linter.unusedSimpArgs false
set_option maxRecDepth 100000
open Go.RowKit

def stCells (d g F : Nat) (x : ST) (dead : Bool) : Array Value := #[.pointer (some ⟨d, 0, none⟩), .int .i64 F, .pointer (some ⟨g, 0, none⟩), .int .i64 x.gen, .int .i64 x.n, .int .i64 x.area, .int .i64 x.op, .bool dead]
def IsSt (w : World) (s d g F : Nat) (x : ST) (dead : Bool) : Prop := Blk w s 56 (stCells d g F x dead)

/-- A store at block s, on the disk at block d, with the image at block g. -/
structure StAt (w : World) (s d g F : Nat) (x : ST) (dead : Bool) (D : Dk.DS) (Md Rr : Nat → Prop) (L : List (List Int)) (Mi : Nat → Prop) : Prop where
  blk : IsSt w s d g F x dead
  dsk : Dk.IsDisk w d D Md Rr
  img : Img w g L Mi
  sd : ¬ Md s
  sr : ¬ Rr s
  si : ¬ Mi s
  di : ∀ b, Mi b → ¬ Md b ∧ ¬ Rr b

section
variable {w : World} {s d g F : Nat} {x : ST} {dead : Bool} {L : List (List Int)} {M : Nat → Prop}
theorem rows_q (n : Nat) (hn : n ≤ 256) (w : World) : Calls Try.prog 15 #[.int .i64 n] w fun e w' => e = .returned (.int .i64 (rowsN n)) ∧ w' = w :=
  (rows_any n hn w).mono (fun _ _ ⟨a, b⟩ => ⟨a, b.symm⟩)
theorem size_q (h : Img w g L M) : Calls Try.prog 35 #[.pointer (some ⟨g, 0, none⟩)] w fun e w' => e = .returned (.int .i64 L.length) ∧ w' = w :=
  (size_any h).mono (fun _ _ ⟨a, b⟩ => ⟨a, b.symm⟩)
theorem Img.drewN (h : Img w g L M) (n : Nat) : Img (w.drewN n) g L M := h.below ⟨rfl, rfl, rfl, Nat.le_refl _, fun _ _ => rfl⟩

set_option maxHeartbeats 800000 in
theorem place_any (hs : IsSt w s d g F x dead) (hi : Img w g L M) (a : Nat) (ha : a ≤ 1) (k : Nat) (hk : k ≤ 100) (hF : F ≤ 100000) :
    Calls Try.prog 36 #[.pointer (some ⟨s, 0, none⟩), .int .i64 a, .int .i64 k] w fun e w' => e = .returned (.int .i64 ((F + 19 + a * rowsN L.length + k : Nat) : Int)) ∧ Below w.heap.size w w' := by
  have HI := Lib.hid hi
  have h256 := hi.ok.hi
  have hr : rowsN L.length ≤ 86 := by unfold rowsN; omega
  have c1 := hs.cell 1
  have c2 := hs.cell 2
  simp [stCells] at c1 c2
  clear hi hs
  obtain rfl | rfl : a = 0 ∨ a = 1 := by omega
  all_goals
    go_enter Try.func36, Try.ntmps36
    go_wp2_with fail
    go_quiet (first
      | (go_at_call 35; exact Calls.quiet_of_same (size_q (HI.out.drewN _)))
      | (go_at_call 15; exact Calls.quiet_of_same (rows_q _ h256 _)))
    go_wp2_with fail
    go_ret
    refine ⟨?_, ?_⟩
    · first | rfl | (congr 3; first | omega | go_num)
    · exact ⟨rfl, rfl, rfl, Nat.le_refl _, fun _ _ => rfl⟩

def wrongS (x : ST) (dead : Bool) (n : Int) : Int := if dead = true then 21 else if n ≤ x.n ∨ 1152921504606846976 < n then 1 else 0
theorem swrong_nil (n : Int) (w : World) : Calls Try.prog 28 #[.pointer none, .int .i64 n] w fun e w' => e = .returned (.int .i64 2) ∧ w = w' := by
  go_enter Try.func28, Try.ntmps28
  go_wp2_with fail
  go_ret
  exact ⟨rfl, rfl⟩
theorem swrong_any (hs : IsSt w s d g F x dead) (n : Int) : Calls Try.prog 28 #[.pointer (some ⟨s, 0, none⟩), .int .i64 n] w fun e w' => e = .returned (.int .i64 (wrongS x dead n)) ∧ w = w' := by
  have c4 := hs.cell 4
  have c7 := hs.cell 7
  simp [stCells] at c4 c7
  have hw : Hid (wrongS x dead n = if dead = true then 21 else if n ≤ x.n ∨ 1152921504606846976 < n then 1 else 0) := Lib.hid rfl
  clear hs
  cases dead with
  | true =>
    go_enter Try.func28, Try.ntmps28
    go_wp2_with fail
    go_ret
    exact ⟨by rw [hw.out]; rfl, rfl⟩
  | false =>
    by_cases h1 : n ≤ x.n
    · go_enter Try.func28, Try.ntmps28
      go_wp2_with fail
      go_ret
      exact ⟨by rw [hw.out]; simp [h1], rfl⟩
    · by_cases h2 : 1152921504606846976 < n
      · go_enter Try.func28, Try.ntmps28
        go_wp2_with fail
        go_ret
        exact ⟨by rw [hw.out]; simp [h2], rfl⟩
      · go_enter Try.func28, Try.ntmps28
        go_wp2_with fail
        go_ret
        exact ⟨by rw [hw.out]; simp [h1, h2], rfl⟩
theorem died_any (hs : IsSt w s d g F x dead) (e0 : Int) : Calls Try.prog 34 #[.pointer (some ⟨s, 0, none⟩), .int .i64 e0] w fun e w' => e = .returned (.int .i64 e0) ∧ IsSt w' s d g F x (decide (e0 ≠ 0)) ∧ Tr (fun b => b = s) w w' := by
  have c7 := hs.cell 7
  have f7 := hs.frozen 7
  simp [stCells] at c7
  have HS := Lib.hid hs
  clear hs
  by_cases h0 : e0 = 0
  · subst h0
    go_enter Try.func34, Try.ntmps34
    go_wp2_with fail
    go_ret
    exact ⟨rfl, HS.out.set_ 7 (.bool false), (Tr.refl (fun b => b = s) w).setCell (p := ⟨s, 7, none⟩) (fun _ => rfl) _⟩
  · go_enter Try.func34, Try.ntmps34
    go_wp2_with fail
    go_ret
    have hd : decide (e0 ≠ 0) = true := decide_eq_true h0
    have hd2 : (e0 != 0) = true := by simp [h0]
    rw [hd]
    first | rw [hd2] | simp only [hd2]
    exact ⟨rfl, HS.out.set_ 7 (.bool true), (Tr.refl (fun b => b = s) w).setCell (p := ⟨s, 7, none⟩) (fun _ => rfl) _⟩
end
end Go.Proofs.Ythlijldapoeepaa
