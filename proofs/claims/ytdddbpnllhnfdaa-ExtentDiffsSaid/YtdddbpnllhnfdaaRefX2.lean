/- The reference's image: New, in, Unmap, Write. -/
import Derived.Test.YtdddbpnllhnfdaaRefX
namespace Go.Proofs.Ytdddbpnllhnfdaa
set_option linter.unusedVariables false
set_option linter.unusedSimpArgs false
set_option maxRecDepth 100000
open Go.RowKit Go.Shelf

theorem infoS : (Try.prog.info? 28).map (fun i => (i.zero, i.size, i.bytes)) = some (some (.slice none 0 0), 1, 24) := by kernel_rfl
theorem run_makeS (n : Nat) (hn : n ≤ 256) (w : World) :
    (Instr.makeSlice 89 (.int .i64 n) (.int .i64 n)).run Try.prog w = .ok (.slice (some ⟨w.heap.size, 0, none⟩) n n) (w.alloc (.cells (Array.replicate n (.slice none 0 0)) 28)) := by
  obtain ⟨i0, hi, hz0, hz1, hz2⟩ := info_parts infoS
  have hr := run_make (P := Try.prog) w 89 28 i0 _ Try.underlying89 hi hz0 .i64 .i64 n n (by omega) (by omega) (by rw [hz2]; omega) (by omega)
  simp only [Int.toNat_natCast] at hr
  rw [hr, hz1, Nat.mul_one]
  congr 4
  apply Array.ext'
  rw [show (Value.slice none 0 0).cells = #[.slice none 0 0] from rfl, toList_madeCells_one]
  simp
def RetRef (w : World) (L : List (List Int)) (e : Ending) (w' : World) : Prop := ∃ r q c M, e = .returned (.tuple #[.pointer (some ⟨r, 0, none⟩), .int .i64 0]) ∧ IsRef w' r L q c M ∧ (∀ b, M b → w.heap.size ≤ b) ∧ Below w.heap.size w w'
theorem rnew_ok (n : Nat) (w : World) (h1 : 1 ≤ n) (h2 : n ≤ 256) : Calls Try.prog 34 #[.int .i64 n] w (RetRef w (emptyL n)) := by
  have hmk := run_makeS n h2
  go_enter Try.func34, Try.ntmps34
  go_wp2_with fail
  go_ret2
  have hle : (emptyL n).length = n := by simp [emptyL]
  have ho := World.ownsRow_lit (w := w) (e := 28) (size := 1) (base := 0) (Array.replicate n (.slice none 0 0)) n (Nat.zero_le _) (by simp only [maxLen]; omega) (by simp)
  refine ⟨w.heap.size + 1, w.heap.size, n, fun b => b = w.heap.size ∨ b = w.heap.size + 1, rfl, ⟨emptyL_ok h1 h2, ?_, ⟨_, by rw [hle]; exact own_below (B := 0) ho (bl_alloc _ _), fun i v hv => ?_⟩, .inr rfl, .inl rfl, by omega, fun b hb => by simp; omega⟩, fun b hb => by omega, bl_chain (bl_alloc w _) (bl_alloc _ _)⟩
  · rw [hle]
    simpa using Blk.new (w.alloc (.cells (Array.replicate n (.slice none 0 0)) 28)) 91 #[.slice (some ⟨w.heap.size, 0, none⟩) n n]
  · rw [bk_empty]
    have : v = .slice none 0 0 := by
      rw [Array.toList_replicate, List.getElem?_replicate] at hv
      split at hv
      · injection hv with hv; exact hv.symm
      · cases hv
    exact ⟨none, 0, this, Rd.nil, fun b hb => absurd hb (Blo.none b)⟩
section
variable {w : World} {r q c : Nat} {L : List (List Int)} {M : Nat → Prop}
set_option maxHeartbeats 800000 in
theorem rin_any (h : IsRef w r L q c M) (lba k : Int) (hb : -9223372036854775808 ≤ lba ∧ lba ≤ 9223372036854775807 ∧ -9223372036854775808 ≤ k ∧ k ≤ 9223372036854775807) :
    Calls Try.prog 68 #[.pointer (some ⟨r, 0, none⟩), .int .i64 lba, .int .i64 k] w fun e w' => e = .returned (.bool (inB L.length lba k)) ∧ w = w' := by
  have hok := h.ok.hi
  have c0 : w.cell? ⟨r, 0, none⟩ = some (.slice (some ⟨q, 0, none⟩) L.length c) := h.blk.cell 0
  clear h
  obtain ⟨n, hn⟩ : ∃ n, L.length = n := ⟨_, rfl⟩
  rw [hn] at hok c0 ⊢
  clear hn
  have hcs : lba < 0 ∨ (0 ≤ lba ∧ k < 0) ∨ (0 ≤ lba ∧ 0 ≤ k ∧ (n : Int) < lba) ∨ (0 ≤ lba ∧ 0 ≤ k ∧ lba ≤ n) := by omega
  rcases hcs with h | h | h | h
  · have HE : Hid (inB n lba k = false) := Lib.hid (decide_eq_false (by omega))
    rw [HE.out]
    go_enter Try.func68, Try.ntmps68
    go_wp2_with fail
    go_ret
    exact ⟨rfl, rfl⟩
  · have HE : Hid (inB n lba k = false) := Lib.hid (decide_eq_false (by omega))
    rw [HE.out]
    obtain ⟨h1, h2⟩ := h
    go_enter Try.func68, Try.ntmps68
    go_wp2_with fail
    go_ret
    exact ⟨rfl, rfl⟩
  · have HE : Hid (inB n lba k = false) := Lib.hid (decide_eq_false (by omega))
    rw [HE.out]
    obtain ⟨h1, h2, h3⟩ := h
    go_enter Try.func68, Try.ntmps68
    go_wp2_with fail
    go_ret
    exact ⟨rfl, rfl⟩
  · obtain ⟨h1, h2, h3⟩ := h
    have ew : IntKind.i64.wrap ((n : Int) - lba) = (n : Int) - lba := wrapE rfl (by omega)
    by_cases h4 : k ≤ (n : Int) - lba
    · have HE : Hid (inB n lba k = true) := Lib.hid (decide_eq_true (by omega))
      rw [HE.out]
      have t4 : decide (k ≤ (n : Int) - lba) = true := decide_eq_true h4
      go_enter Try.func68, Try.ntmps68
      go_wp2_with fail
      go_ret
      exact ⟨rfl, rfl⟩
    · have HE : Hid (inB n lba k = false) := Lib.hid (decide_eq_false (by omega))
      rw [HE.out]
      have t4 : decide (k ≤ (n : Int) - lba) = false := decide_eq_false h4
      go_enter Try.func68, Try.ntmps68
      go_wp2_with fail
      go_ret
      exact ⟨rfl, rfl⟩
/-- What a writer of a reference's image leaves. -/
def RetRS (w : World) (r : Nat) (L : List (List Int)) (q c : Nat) (M : Nat → Prop) (err : Int) (e : Ending) (w' : World) : Prop := ∃ M', e = .returned (.int .i64 err) ∧ IsRef w' r L q c M' ∧ (∀ b, M' b → M b ∨ w.heap.size ≤ b) ∧ Tr (fun b => b = q) w w'
end
end Go.Proofs.Ytdddbpnllhnfdaa
