/- Contracts of the program's package disk: Load, New, Size, Image, Now, Pending, Dead, Fail, wrong, part, Read. -/
import Derived.Test.YtceajiliahmkaaaDiskDef
set_option maxRecDepth 100000
namespace Go.Proofs.Ytceajiliahmkaaa
set_option linter.unusedVariables false
open Go.RowKit

def loadOk (l : List Int) : Prop := l.length % 256 = 0 ∧ 256 ≤ l.length ∧ l.length ≤ 1048576
instance (l : List Int) : Decidable (loadOk l) := by unfold loadOk; infer_instance
theorem newD_ok {l : List Int} (h : loadOk l) (hB : isB l) : (newD l).Ok := by
  obtain ⟨h1, h2, h3⟩ := h
  have e : (newD l).n = l.length / 256 := rfl
  exact ⟨by rw [e]; omega, by rw [e]; omega, by rw [e]; show l.length = _; omega, by rw [e]; show l.length = _; omega, hB, hB, fun x hx => by cases hx⟩

/-- A disk is answered, in new memory, with no error. -/
def RetDisk (w : World) (D : DS) (e : Ending) (w' : World) : Prop :=
  ∃ g M, e = .returned (.tuple #[.pointer (some ⟨g, 0, none⟩), .int .i64 0]) ∧ IsDisk w' g D M NoB ∧ (∀ b, M b → w.heap.size ≤ b) ∧ Below w.heap.size w w'
/-- No disk, and ErrArg. -/
def RetNoDisk (w : World) (e : Ending) (w' : World) : Prop := e = .returned (.tuple #[.pointer none, .int .i64 1]) ∧ Below w.heap.size w w'

set_option maxHeartbeats 400000 in
theorem load_ok (A : Option Addr) (c : Nat) (l : List Int) (w : World) (hr : Rd w A (by8 l)) (hB : isB l) (h : loadOk l) : Calls Try.prog 28 #[.slice A l.length c] w (RetDisk w (newD l)) := by
  have HR := Lib.hid hr
  have OKD := Lib.hid (newD_ok h hB)
  obtain ⟨h1, h2, h3⟩ := h
  obtain ⟨k, hk⟩ : ∃ k, l.length = 256 * k := ⟨l.length / 256, by omega⟩
  have hq : (l.length : Int) / 256 * 256 = l.length := by omega
  have hne : ((l.length : Int) / 256 * 256 != l.length) = false := by simp [hq]
  have HK := Lib.hid hk
  have hb1 : 1 ≤ (l.length : Int) / 256 := by omega
  have hb2 : (l.length : Int) / 256 ≤ 4096 := by omega
  clear hr h1 hk hq
  go_enter Try.func28, Try.ntmps28
  go_wp2_with (first
    | (go_at_call 46; (with_reducible refine (clone_any A c l _ HR.out (by omega)).mono ?_); rintro e w1 ⟨A1, c1, rfl, hc1, ho1, hb1⟩; have HR1 := Lib.hid (HR.out.below hb1); have HO1 := Lib.hid ho1; have HB1 := Lib.hid hb1; clear ho1 hb1)
    | (go_at_call 46; (with_reducible refine (clone_any A c l _ HR1.out (by omega)).mono ?_); rintro e w2 ⟨A2, c2, rfl, hc2, ho2, hb2⟩; have HO2 := Lib.hid ho2; have HB2 := Lib.hid hb2; clear ho2 hb2))
  go_ret2
  obtain ⟨g1, rfl⟩ := ownsRow_addr HO1.out (by omega)
  obtain ⟨g2, rfl⟩ := ownsRow_addr HO2.out (by omega)
  have lo1 := own_ge HO1.out g1 rfl
  have lt1 := own_lt HO1.out g1 rfl
  have lo2 := own_ge HO2.out g2 rfl
  have hz1 := HB1.out.size
  have hz2 := HB2.out.size
  have lt2 := own_lt HO2.out g2 rfl
  refine ⟨w2.heap.size, fun b => b = w2.heap.size ∨ b = g1 ∨ b = g2, rfl, ⟨g1, c1, g2, c2, none, 0, [], OKD.out, Blk.new _ _ _, ?_, ?_, ownsRow_emp _ _ _ _, rfl, by omega, .inl rfl, .inr (.inl rfl), .inr (.inr rfl), fun b hb => (Blo.none b hb).elim, fun b hb => hb.elim, by simp [newD], ?_, fun b hb => hb.elim⟩, ?_, bl_chain HB1.out (bl_chain HB2.out (bl_alloc _ _))⟩
  · exact ownsRow_base (own_below (B := 0) (own_below (B := 0) HO1.out HB2.out) (bl_alloc _ _)) (by omega)
  · exact ownsRow_base (own_below (B := 0) HO2.out (bl_alloc _ _)) (by omega)
  · rintro b (rfl | rfl | rfl)
    · simp
    · simp; omega
    · simp; omega
  · rintro b (rfl | rfl | rfl)
    · omega
    · exact lo1
    · omega

set_option maxHeartbeats 400000 in
theorem load_bad (A : Option Addr) (c : Nat) (l : List Int) (w : World) (hl : l.length ≤ 140737488355328) (h : ¬ loadOk l) : Calls Try.prog 28 #[.slice A l.length c] w (RetNoDisk w) := by
  have hcase : l.length % 256 ≠ 0 ∨ (l.length % 256 = 0 ∧ l.length < 256) ∨ (l.length % 256 = 0 ∧ 256 ≤ l.length ∧ 1048576 < l.length) := by
    unfold loadOk at h; omega
  clear h
  rcases hcase with h1 | ⟨h1, h2⟩ | ⟨h1, h2, h3⟩
  · have hne : ((l.length : Int) / 256 * 256 != l.length) = true := by simp; omega
    clear h1
    go_enter Try.func28, Try.ntmps28
    go_wp2_with fail
    go_ret2
    exact ⟨rfl, Below.refl _ _⟩
  · have hq : (l.length : Int) / 256 * 256 = l.length := by omega
    have hne : ((l.length : Int) / 256 * 256 != l.length) = false := by simp [hq]
    have hb : (l.length : Int) / 256 < 1 := by omega
    clear h1 hq
    go_enter Try.func28, Try.ntmps28
    go_wp2_with fail
    go_ret2
    exact ⟨rfl, Below.refl _ _⟩
  · have hq : (l.length : Int) / 256 * 256 = l.length := by omega
    have hne : ((l.length : Int) / 256 * 256 != l.length) = false := by simp [hq]
    have hb1 : 1 ≤ (l.length : Int) / 256 := by omega
    have hb : 4096 < (l.length : Int) / 256 := by omega
    clear h1 hq
    go_enter Try.func28, Try.ntmps28
    go_wp2_with fail
    go_ret2
    exact ⟨rfl, Below.refl _ _⟩

/-- make([]byte, n), n a letter. -/
theorem run_make8n (n : Nat) (hn : n ≤ 140737488355328) (w : World) :
    (Instr.makeSlice 33 (.int .i64 (n : Int)) (.int .i64 (n : Int))).run Try.prog w = .ok (.slice (some ⟨w.heap.size, 0, none⟩) n n) (w.alloc (.cells (Array.replicate n (.int .u8 0)) 5)) := by
  obtain ⟨i0, hi, hz0, hz1, hz2⟩ := info_parts infoU8
  have hr := run_make (P := Try.prog) w 33 5 i0 _ Try.underlying33 hi hz0 .i64 .i64 n n (by omega) (by omega) (by rw [hz2]; omega) (by omega)
  simp only [Int.toNat_natCast] at hr
  rw [hr, hz1, Nat.mul_one]
  congr 4
  apply Array.ext'
  rw [show (Value.int IntKind.u8 0).cells = #[.int .u8 0] from rfl, toList_madeCells_one]
  simp
theorem _root_.Go.Proofs.Ytceajiliahmkaaa.Rd.zeros (w : World) (n : Nat) (t : TypeId) : Rd (w.alloc (.cells (Array.replicate n (.int .u8 0)) t)) (some ⟨w.heap.size, 0, none⟩) (by8 (List.replicate n 0)) := by
  have h := Rd.newN w t (Array.replicate n (.int .u8 0))
  rw [Array.toList_replicate] at h
  rw [by8, List.map_replicate]
  exact h
theorem own_zeros (w : World) (n : Nat) (hn : n ≤ maxLen) : (w.alloc (.cells (Array.replicate n (.int .u8 0)) 5)).ownsRow w.heap.size 5 1 (.slice (some ⟨w.heap.size, 0, none⟩) n n) n (by8 (List.replicate n 0)) := by
  have h := World.ownsRow_lit (w := w) (e := 5) (size := 1) (base := w.heap.size) (Array.replicate n (.int .u8 0)) n (Nat.le_refl _) hn (by simp)
  rw [Array.toList_replicate] at h
  rw [by8, List.map_replicate]
  exact h
theorem zeros_isB (n : Nat) : isB (List.replicate n 0) := fun x hx => by rw [(List.mem_replicate.1 hx).2]; omega

set_option maxHeartbeats 400000 in
theorem new_ok (n : Nat) (w : World) (h1 : 1 ≤ n) (h2 : n ≤ 4096) : Calls Try.prog 6 #[.int .i64 n] w (RetDisk w (newD (List.replicate (n * 256) 0))) := by
  have hmk := run_make8n (n * 256) (by omega)
  have hcast : ((n * 256 : Nat) : Int) = (n : Int) * 256 := by omega
  rw [hcast] at hmk
  have HRD := Lib.hid (Rd.zeros w (n * 256) 5)
  have LK : Hid (loadOk (List.replicate (n * 256) 0)) := Lib.hid (by unfold loadOk; rw [List.length_replicate]; omega)
  have hl : ∀ (A : Option Addr) (c : Nat) (w : World), Rd w A (by8 (List.replicate (n * 256) 0)) → Calls Try.prog 28 #[.slice A (n * 256) c] w (RetDisk w (newD (List.replicate (n * 256) 0))) := fun A c w hr => by
    have h := load_ok A c _ w hr (zeros_isB _) LK.out
    rw [List.length_replicate] at h
    exact h
  have HL := Lib.hid hl
  clear hcast hl
  go_enter Try.func6, Try.ntmps6
  go_wp2_with (first
    | (go_at_call 28; (with_reducible refine (HL.out _ _ _ HRD.out).mono ?_); rintro e w1 ⟨g, M, rfl, hd, hm, hb⟩; have HD := Lib.hid hd; have HM := Lib.hid hm; have HB := Lib.hid hb; clear hd hb hm))
  go_ret2
  exact ⟨g, M, rfl, HD.out, fun b hb => by have := HM.out b hb; simp at this; omega, bl_chain (bl_alloc w _) HB.out⟩

theorem new_bad (n : Int) (w : World) (h : ¬ (1 ≤ n ∧ n ≤ 4096)) : Calls Try.prog 6 #[.int .i64 n] w (RetNoDisk w) := by
  by_cases h1 : n < 1
  · clear h
    go_enter Try.func6, Try.ntmps6
    go_wp2_with fail
    go_ret2
    exact ⟨rfl, Below.refl _ _⟩
  · have h2 : 4096 < n := by omega
    clear h
    go_enter Try.func6, Try.ntmps6
    go_wp2_with fail
    go_ret2
    exact ⟨rfl, Below.refl _ _⟩

section
variable {g : Nat} {D : DS} {M R : Nat → Prop} {w : World}
theorem size_any (hd : IsDisk w g D M R) : Calls Try.prog 29 #[.pointer (some ⟨g, 0, none⟩)] w fun e w' => e = .returned (.int .i64 D.n) ∧ w = w' := by
  obtain ⟨bs, cs, bn, cn, Al, cl, cells, h⟩ := hd
  have c0 := h.blk.cell 0
  have hn : (D.n : Int) = (D.safe.length : Int) / 256 := by unfold DS.n; omega
  have hl : D.safe.length ≤ 140737488351232 := by have := h.ok.len; have := h.ok.most; omega
  rw [hn]
  clear hn
  simp at c0
  go_enter Try.func29, Try.ntmps29
  go_wp2_with fail
  go_ret
  exact ⟨rfl, rfl⟩
theorem image_any (hd : IsDisk w g D M R) : Calls Try.prog 25 #[.pointer (some ⟨g, 0, none⟩)] w fun e w' => ∃ A' c', e = .returned (.slice A' D.safe.length c') ∧ D.safe.length ≤ c' ∧ w'.ownsRow w.heap.size 5 1 (.slice A' D.safe.length c') D.safe.length (by8 D.safe) ∧ Below w.heap.size w w' := by
  obtain ⟨bs, cs, bn, cn, Al, cl, cells, h⟩ := hd
  have c0 := h.blk.cell 0
  simp at c0
  have HR := Lib.hid (Rd.of_own h.safe)
  have hl : D.safe.length ≤ 140737488351232 := by have := h.ok.len; have := h.ok.most; omega
  clear h
  go_enter Try.func25, Try.ntmps25
  go_wp2_with (first | (go_at_call 46; (with_reducible refine (clone_any _ _ _ _ HR.out hl).mono ?_); rintro e w1 ⟨A1, c1, rfl, hc1, ho1, hb1⟩; have HO1 := Lib.hid ho1; have HB1 := Lib.hid hb1; clear ho1 hb1))
  go_ret
  exact ⟨A1, c1, rfl, hc1, HO1.out, HB1.out⟩
theorem fail_any (hd : IsDisk w g D M R) : Calls Try.prog 23 #[.pointer (some ⟨g, 0, none⟩)] w fun e w' => e = .returned (.int .i64 0) ∧ IsDisk w' g (failD D) M R ∧ Tr M w w' := by
  obtain ⟨bs, cs, bn, cn, Al, cl, cells, h⟩ := hd
  have c0 := h.blk.cell 3
  have f0 := h.blk.frozen 3
  simp at c0
  have HH := Lib.hid h
  clear h
  go_enter Try.func23, Try.ntmps23
  go_wp2_with fail
  go_ret
  have h := HH.out
  have ht : Tr (fun b => b = g) w (w.setCell ⟨g, 3, none⟩ (.bool true)) := (Tr.refl (fun b => b = g) w).setCell (p := ⟨g, 3, none⟩) (fun _ => rfl) _
  have e1 := h.ne1
  have e2 := h.ne2
  have e3 := h.ne3
  refine ⟨rfl, ⟨bs, cs, bn, cn, Al, cl, cells, ⟨h.ok.pos, h.ok.most, h.ok.len, h.ok.lnow, h.ok.bs, h.ok.bn, h.ok.gs⟩, h.blk.set_ 3 (.bool true), ?_, ?_, ?_, ?_, h.ne, h.mg, h.ms, h.mn, h.ml, h.rm, h.few, fun b x => Nat.lt_of_lt_of_le (h.mlt b x) ht.size, fun b x => Nat.lt_of_lt_of_le (h.rlt b x) ht.size⟩, ht.mono (fun b _ e => e ▸ h.mg)⟩
  · exact own_tr h.safe ht (fun b hb e => e1 (((Blo.some_iff _ _).1 hb).trans e))
  · exact own_tr h.now ht (fun b hb e => e2 (((Blo.some_iff _ _).1 hb).trans e))
  · exact own_tr h.row ht (fun b hb e => e3 (e ▸ hb))
  · exact h.gat.tr ht (fun b hb e => h.rm b hb (e ▸ h.mg))
end

end Go.Proofs.Ytceajiliahmkaaa
