/- Contracts of the reference's disk: New, Load, Write, Flush, Crash, Do. -/
import Derived.Test.YtadoclcabkcmeaaRef2
namespace Go.Proofs.Ytadoclcabkcmeaa
set_option linter.unusedVariables false
open Go.RowKit

theorem infoRG : (Try.prog.info? 70).map (fun i => (i.zero, i.size, i.bytes)) = some (some (.agg #[.int .i64 0, .slice none 0 0]), 2, 32) := by kernel_rfl
theorem ERG : AppTy Try.prog 45 70 2 32 := AppTy.mk' Try.underlying45 infoRG rfl (by omega)

/-- A reference's disk is answered, in new memory, with no error. -/
def RetRef (w : World) (D : DS) (e : Ending) (w' : World) : Prop :=
  ∃ g M R, e = .returned (.tuple #[.pointer (some ⟨g, 0, none⟩), .int .i64 0]) ∧ IsRef w' g D M R ∧ (∀ b, M b → w.heap.size ≤ b) ∧ (∀ b, R b → w.heap.size ≤ b) ∧ Below w.heap.size w w'
theorem secs_of {l : List Int} {k : Nat} (h : l.length = 256 * k) : secs l = k := by unfold secs; omega
theorem pad_of {l : List Int} {k : Nat} (h : l.length = 256 * k) : pad l = l := by unfold pad; rw [secs_of h, h, Nat.sub_self]; simp
theorem ref_new {w W : World} {l : List Int} {n : Nat} (h : loadOk l) (hl : l.length = 256 * n) (hB : isB l) {A : Option Addr} {c : Nat} {cells : List Value} (ho : W.ownsRow w.heap.size 29 1 (.slice A n c) n cells) (ha : StsAt W (fun b => w.heap.size ≤ b ∧ b < W.heap.size ∧ ¬ Blo A b) 256 (chunks n l) cells) (hb : Below w.heap.size w W) (h1 : 1 ≤ n) :
    RetRef w (newD l) (.returned (.tuple #[.pointer (some ⟨W.heap.size, 0, none⟩), .int .i64 0])) (W.alloc (.cells #[.slice A n c, .slice none 0 0, .bool false, .bool false] 47)) := by
  obtain ⟨b, rfl⟩ := ownsRow_addr ho h1
  have hbg := own_ge ho b rfl
  have hbl := own_lt ho b rfl
  have hok := newD_ok h hB
  have hn : (newD l).n = n := by show l.length / 256 = n; omega
  have z := hb.size
  refine ⟨W.heap.size, fun x => x = W.heap.size ∨ x = b, fun x => w.heap.size ≤ x ∧ x < W.heap.size ∧ ¬ Blo (some ⟨b, 0, none⟩) x, rfl, ⟨b, c, cells, none, 0, [], hok, good_new l, ?_, ?_, ?_, ownsRow_emp _ _ _ _, rfl, .inl rfl, .inr rfl, fun x hx => (Blo.none x hx).elim, ?_, by simp [newD], ?_, ?_⟩, ?_, fun x hx => hx.1, bl_chain hb (bl_alloc _ _)⟩
  · rw [hn]; exact Blk.new _ _ _
  · rw [hn]; exact ownsRow_base (own_below (B := 0) ho (bl_alloc _ _)) (Nat.zero_le _)
  · rw [hn]; exact ha.below (bl_alloc _ _)
  · rintro x ⟨x1, x2, x3⟩ (rfl | rfl)
    · omega
    · exact x3 rfl
  · rintro x (rfl | rfl)
    · simp
    · simp; omega
  · rintro x ⟨x1, x2, x3⟩
    simp; omega
  · rintro x (rfl | rfl)
    · omega
    · exact hbg

set_option maxHeartbeats 800000 in
theorem rload_ok (A : Option Addr) (c : Nat) (l : List Int) (w : World) (hr : Rd w A (by8 l)) (hB : isB l) (h : loadOk l) : Calls Try.prog 16 #[.slice A l.length c] w (RetRef w (newD l)) := by
  have HR := Lib.hid hr
  have HB := Lib.hid hB
  have HOK := Lib.hid h
  obtain ⟨h1, h2, h3⟩ := h
  obtain ⟨k, hk⟩ : ∃ k, l.length = 256 * k := ⟨l.length / 256, by omega⟩
  have hmod : ((l.length : Int) % 256 != 0) = false := by simp; omega
  have HSEC := Lib.hid (secs_of hk)
  have HPAD := Lib.hid (pad_of hk)
  have HK := Lib.hid hk
  have hs := sectors_any A l.length c l w rfl hr hB (by omega)
  rw [HSEC.out, HPAD.out] at hs
  have HS := Lib.hid hs
  clear hr hB h1 hk hs
  go_enter Try.func16, Try.ntmps16
  go_wp2_with (first
    | (go_at_call 31; (with_reducible refine HS.out.mono ?_); rintro e w1 ⟨A1, c1, cells, rfl, hc1, ho1, ha1, hb1⟩; have HO1 := Lib.hid ho1; have HA1 := Lib.hid ha1; have HB1 := Lib.hid hb1; clear ho1 ha1 hb1))
  go_ret2
  exact ref_new HOK.out HK.out HB.out HO1.out HA1.out HB1.out (by have := HK.out; omega)

set_option maxHeartbeats 800000 in
theorem rload_bad (A : Option Addr) (c : Nat) (l : List Int) (w : World) (hl : l.length ≤ 140737488355328) (h : ¬ loadOk l) : Calls Try.prog 16 #[.slice A l.length c] w (RetNoDisk w) := by
  have hcase : l.length % 256 ≠ 0 ∨ (l.length % 256 = 0 ∧ l.length < 256) ∨ (l.length % 256 = 0 ∧ 256 ≤ l.length ∧ 1048576 < l.length) := by
    unfold loadOk at h; omega
  clear h
  rcases hcase with h1 | ⟨h1, h2⟩ | ⟨h1, h2, h3⟩
  · have hmod : ((l.length : Int) % 256 != 0) = true := by simp; omega
    clear h1
    go_enter Try.func16, Try.ntmps16
    go_wp2_with fail
    go_ret2
    exact ⟨rfl, Below.refl _ _⟩
  · have hmod : ((l.length : Int) % 256 != 0) = false := by simp; omega
    clear h1
    go_enter Try.func16, Try.ntmps16
    go_wp2_with fail
    go_ret2
    exact ⟨rfl, Below.refl _ _⟩
  · have hmod : ((l.length : Int) % 256 != 0) = false := by simp; omega
    clear h1
    go_enter Try.func16, Try.ntmps16
    go_wp2_with fail
    go_ret2
    exact ⟨rfl, Below.refl _ _⟩

/-- New's answer, of which the error alone counts. -/
def RetE (w : World) (err : Int) (e : Ending) (w' : World) : Prop := ∃ p, e = .returned (.tuple #[p, .int .i64 err]) ∧ Below w.heap.size w w'
set_option maxHeartbeats 800000 in
theorem rnew_any (n : Int) (w : World) (hn : -9223372036854775808 ≤ n ∧ n ≤ 9223372036854775807) : Calls Try.prog 13 #[.int .i64 n] w (RetE w (if 1 ≤ n ∧ n ≤ 4096 then 0 else 1)) := by
  by_cases h : 1 ≤ n ∧ n ≤ 4096
  · rw [if_pos h]
    obtain ⟨h1, h2⟩ := h
    obtain ⟨m, rfl⟩ := Int.eq_ofNat_of_zero_le (show 0 ≤ n by omega)
    have hmk := run_make8n (m * 256) (by omega)
    have hcast : ((m * 256 : Nat) : Int) = (m : Int) * 256 := by omega
    rw [hcast] at hmk
    have HS : Hid (∀ A c W, Rd W A (by8 (List.replicate (m * 256) 0)) → Calls Try.prog 31 #[.slice A (m * 256) c] W (RetSecs W (secs (List.replicate (m * 256) 0)) (chunks (secs (List.replicate (m * 256) 0)) (pad (List.replicate (m * 256) 0))))) := Lib.hid fun A c W hr => sectors_any A _ c _ W List.length_replicate hr (zeros_isB _) (by omega)
    have HZ := Lib.hid (Rd.zeros w (m * 256) 5)
    clear hcast
    go_enter Try.func13, Try.ntmps13
    go_wp2_with (first
      | (go_at_call 31; (with_reducible refine (HS.out _ _ _ HZ.out).mono ?_); rintro e w1 ⟨A1, c1, cells, rfl, hc1, ho1, ha1, hb1⟩; have HB1 := Lib.hid hb1; clear ho1 ha1 hb1))
    go_ret2
    exact ⟨_, rfl, bl_chain (bl_chain (bl_alloc _ _) HB1.out) (bl_alloc _ _)⟩
  · rw [if_neg h]
    by_cases h1 : n < 1
    · clear h
      go_enter Try.func13, Try.ntmps13
      go_wp2_with fail
      go_ret2
      exact ⟨_, rfl, Below.refl _ _⟩
    · have h2 : 4096 < n := by omega
      clear h
      go_enter Try.func13, Try.ntmps13
      go_wp2_with fail
      go_ret2
      exact ⟨_, rfl, Below.refl _ _⟩
end Go.Proofs.Ytadoclcabkcmeaa
