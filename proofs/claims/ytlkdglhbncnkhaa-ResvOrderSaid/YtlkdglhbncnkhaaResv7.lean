/- Contracts: Gen; the statements' known (resv). -/
import Derived.Test.YtlkdglhbncnkhaaResv6
namespace Go.Proofs.Ytlkdglhbncnkhaa
set_option linter.unusedVariables false
open Go.RowKit

theorem gen_any {g : Nat} {s : RS} {w : World} (h : IsRS w g s) : Calls Try.prog 17 #[.pointer (some ⟨g, 0, none⟩)] w fun e w' => e = .returned (.int .i64 s.gen) ∧ w = w' := by
  have c := h.cgen
  have hg := h.ok.gen
  clear h
  go_enter Try.func17, Try.ntmps17
  go_wp2_with fail
  go_ret
  exact ⟨rfl, rfl⟩
theorem RetDo.vals {w w' : World} {g : Nat} {o : DoOut} {e : Ending} (h : RetDo w g o e w') {a b c d : Int} (hr : o.r.st = a ∧ o.r.key = b ∧ o.r.asc = c ∧ o.r.ascq = d) {n : Nat} (hn : o.ns.length = n) :
    ∃ A k, e = .returned (.tuple #[.agg #[.int .i64 a, .int .i64 b, .int .i64 c, .int .i64 d, .slice none 0 0], .slice A n k]) ∧ IsRS w' g o.s ∧ w'.ownsRow w.heap.size 48 2 (.slice A n k) n (noteCells o.ns) ∧ Tr (fun b => b = g) w w' := by
  obtain ⟨rfl, rfl, rfl, rfl⟩ := hr
  subst hn
  exact h
def kC1 : RC := ⟨0, 0, 5, 0⟩
def kC2 : RC := ⟨0, 0, 6, 0⟩
def kC3 : RC := ⟨1, 5, 0, 5⟩
def kC4 : RC := ⟨4, 6, 5, 5⟩
def kD1 : DoOut := doO newRS 1 kC1
def kD2 : DoOut := doO kD1.s 2 kC2
def kD3 : DoOut := doO kD2.s 1 kC3
def kD4 : DoOut := doO kD3.s 2 kC4
theorem kok1 : kC1.Ok := ⟨by decide, by decide, by decide, by decide⟩
theorem kok2 : kC2.Ok := ⟨by decide, by decide, by decide, by decide⟩
theorem kok3 : kC3.Ok := ⟨by decide, by decide, by decide, by decide⟩
theorem kok4 : kC4.Ok := ⟨by decide, by decide, by decide, by decide⟩
theorem kr3 : (kD3.r.st = 0 ∧ kD3.r.key = 0 ∧ kD3.r.asc = 0 ∧ kD3.r.ascq = 0) := by decide +kernel
theorem kr4 : (kD4.r.st = 0 ∧ kD4.r.key = 0 ∧ kD4.r.asc = 0 ∧ kD4.r.ascq = 0) := by decide +kernel
theorem kn3 : kD3.ns.length = 0 := by decide +kernel
theorem kn4 : kD4.ns = [(1, 5)] := by decide +kernel
theorem ks4 : kD4.s.holder = 2 ∧ kD4.s.kind = 5 ∧ kD4.s.gen = 3 := by decide +kernel
theorem km4 : mayW kD4.s 1 = false ∧ mayR kD4.s 1 = true ∧ kD4.s.fen 1 = true := by decide +kernel
section
variable {g : Nat} {w : World}
theorem kdo1 (h : IsRS w g newRS) : Calls Try.prog 8 #[.pointer (some ⟨g, 0, none⟩), .int .i64 1, .agg #[.int .i64 0, .int .u64 0, .int .u64 5, .int .i64 0]] w (RetDo w g kD1) := do_any h 1 (by omega) kC1 kok1
theorem kdo2 (h : IsRS w g kD1.s) : Calls Try.prog 8 #[.pointer (some ⟨g, 0, none⟩), .int .i64 2, .agg #[.int .i64 0, .int .u64 0, .int .u64 6, .int .i64 0]] w (RetDo w g kD2) := do_any h 2 (by omega) kC2 kok2
theorem kdo3 (h : IsRS w g kD2.s) : Calls Try.prog 8 #[.pointer (some ⟨g, 0, none⟩), .int .i64 1, .agg #[.int .i64 1, .int .u64 5, .int .u64 0, .int .i64 5]] w (fun e w' => ∃ A k, e = .returned (.tuple #[.agg #[.int .i64 0, .int .i64 0, .int .i64 0, .int .i64 0, .slice none 0 0], .slice A 0 k]) ∧ IsRS w' g kD3.s ∧ w'.ownsRow w.heap.size 48 2 (.slice A 0 k) 0 (noteCells kD3.ns) ∧ Tr (fun b => b = g) w w') :=
  (do_any h 1 (by omega) kC3 kok3).mono fun e w' hp => RetDo.vals hp kr3 kn3
theorem kdo4 (h : IsRS w g kD3.s) : Calls Try.prog 8 #[.pointer (some ⟨g, 0, none⟩), .int .i64 2, .agg #[.int .i64 4, .int .u64 6, .int .u64 5, .int .i64 5]] w (fun e w' => ∃ b k, e = .returned (.tuple #[.agg #[.int .i64 0, .int .i64 0, .int .i64 0, .int .i64 0, .slice none 0 0], .slice (some ⟨b, 0, none⟩) 1 k]) ∧ IsRS w' g kD4.s ∧ (w'.cell? ⟨b, 0, none⟩ = some (.int .i64 1) ∧ w'.cell? ⟨b, 1, none⟩ = some (.int .i64 5)) ∧ Tr (fun b => b = g) w w') :=
  (do_any h 2 (by omega) kC4 kok4).mono fun e w' hp => by
    obtain ⟨A, k, he, hs, ho, ht⟩ := RetDo.vals hp kr4 (n := 1) (by show kD4.ns.length = 1; rw [kn4]; rfl)
    have hn : (doO kD3.s 2 kC4).ns = [(1, 5)] := kn4
    rw [hn] at ho
    obtain ⟨b, rfl⟩ := ownsRow_addr ho (by omega)
    exact ⟨b, k, he, hs, ⟨by rw [ho.cellAt 0 (by omega)]; rfl, by rw [ho.cellAt 1 (by omega)]; rfl⟩, ht⟩
theorem mayw_1 (h : IsRS w g kD4.s) : Calls Try.prog 11 #[.pointer (some ⟨g, 0, none⟩), .int .i64 1, .int .i64 2] w fun e w' => e = .returned (.bool false) ∧ w = w' :=
  (mayw_any h 1 (by omega)).mono fun e w' ⟨h1, h2⟩ => ⟨by rw [h1, km4.1], h2⟩
theorem mayr_1 (h : IsRS w g kD4.s) : Calls Try.prog 11 #[.pointer (some ⟨g, 0, none⟩), .int .i64 1, .int .i64 1] w fun e w' => e = .returned (.bool true) ∧ w = w' :=
  (mayr_any h 1 (by omega)).mono fun e w' ⟨h1, h2⟩ => ⟨by rw [h1, km4.2.1], h2⟩
theorem fenced_1 (h : IsRS w g kD4.s) : Calls Try.prog 12 #[.pointer (some ⟨g, 0, none⟩), .int .i64 1] w fun e w' => e = .returned (.bool true) ∧ w = w' :=
  (fenced_any h 1 (by omega)).mono fun e w' ⟨h1, h2⟩ => ⟨by rw [h1, km4.2.2], h2⟩
set_option maxHeartbeats 4000000 in
theorem known_any (w : World) : Calls Try.prog 13 #[] w fun e w' => e = .returned (.bool true) ∧ Below w.heap.size w w' := by
  obtain ⟨q1, q2, q3⟩ := ks4
  have Q1 := Lib.hid q1
  have Q2 := Lib.hid q2
  have Q3 := Lib.hid q3
  clear q1 q2 q3
  go_enter Try.func13, Try.ntmps13
  go_wp2_with (first
    | (go_at_call 7; (with_reducible refine (new_any _).mono ?_); rintro e w1 ⟨rfl, hs, hb⟩; have HS1 := Lib.hid hs; have B1 := Lib.hid hb; have hl1 := hs.lt; clear hs hb)
    | (go_at_call 8; (with_reducible refine (kdo1 HS1.out).mono ?_); rintro e w2 ⟨A2, k2, rfl, hs, ho, ht⟩; have HS2 := Lib.hid hs; have T2 := Lib.hid ht; clear hs ho ht HS1)
    | (go_at_call 8; (with_reducible refine (kdo2 HS2.out).mono ?_); rintro e w3 ⟨A3, k3, rfl, hs, ho, ht⟩; have HS3 := Lib.hid hs; have T3 := Lib.hid (T2.out.trans ht (fun _ _ h => h)); clear hs ho ht HS2)
    | (go_at_call 8; (with_reducible refine (kdo3 HS3.out).mono ?_); rintro e w4 ⟨A4, k4, rfl, hs, ho, ht⟩; have HS4 := Lib.hid (hs.below (bl_alloc w4 (.cells #[.int .i64 0, .int .i64 0, .int .i64 0, .int .i64 0, .slice none 0 0] 28))); have T4 := Lib.hid (T3.out.trans ht (fun _ _ h => h)); have R4 := Lib.hid (Blk.new w4 28 #[.int .i64 0, .int .i64 0, .int .i64 0, .int .i64 0, .slice none 0 0]); clear hs ho ht HS3)
    | (go_at_call 8; (with_reducible refine (kdo4 HS4.out).mono ?_); rintro e w5 ⟨b5, k5, rfl, hs, ⟨y0, y1⟩, ht⟩; have HS5 := Lib.hid (hs.below (bl_alloc w5 (.cells #[.int .i64 0, .int .i64 0, .int .i64 0, .int .i64 0, .slice none 0 0] 28))); have T5 := Lib.hid (((T4.out.alloc _).trans ht (fun _ _ h => h)).alloc (.cells #[.int .i64 0, .int .i64 0, .int .i64 0, .int .i64 0, .slice none 0 0] 28)); have r4 := ((ht.blk R4.out (by have h1 := T4.out.size; omega)).alloc (.cells #[.int .i64 0, .int .i64 0, .int .i64 0, .int .i64 0, .slice none 0 0] 28)).cell 0; have y0' := (World.cell?_alloc_lt w5 (.cells #[.int .i64 0, .int .i64 0, .int .i64 0, .int .i64 0, .slice none 0 0] 28) _ (cell_block_lt y0)).trans y0; have y1' := (World.cell?_alloc_lt w5 (.cells #[.int .i64 0, .int .i64 0, .int .i64 0, .int .i64 0, .slice none 0 0] 28) _ (cell_block_lt y1)).trans y1; simp at r4; clear hs ht HS4)
    | (go_at_call 14; (with_reducible refine (holder_any HS5.out).mono ?_); rintro e w6 ⟨rfl, hb⟩; rw [Q1.out, Q2.out]; have HS6 := Lib.hid (HS5.out.below hb); have T6 := Lib.hid (T5.out.then_below hb); have y2 := (hb.cell (cell_block_lt y0')).trans y0'; have y3 := (hb.cell (cell_block_lt y1')).trans y1'; have r6 := (hb.cell (cell_block_lt r4)).trans r4; have r5 := ((Blk.new w5 28 #[.int .i64 0, .int .i64 0, .int .i64 0, .int .i64 0, .slice none 0 0]).keep hb).cell 0; simp at r5; clear hb y0 y1 y0' y1' r4)
    | (go_at_call 11; (with_reducible refine (mayw_1 HS6.out).mono ?_); rintro e w' ⟨rfl, rfl⟩)
    | (go_at_call 11; (with_reducible refine (mayr_1 HS6.out).mono ?_); rintro e w' ⟨rfl, rfl⟩)
    | (go_at_call 12; (with_reducible refine (fenced_1 HS6.out).mono ?_); rintro e w' ⟨rfl, rfl⟩)
    | (go_at_call 17; (with_reducible refine (gen_any HS6.out).mono ?_); rintro e w' ⟨rfl, rfl⟩; rw [Q3.out]))
  go_ret
  exact ⟨rfl, bl_tr B1.out T6.out (fun b hb => by omega)⟩
end
end Go.Proofs.Ytlkdglhbncnkhaa
