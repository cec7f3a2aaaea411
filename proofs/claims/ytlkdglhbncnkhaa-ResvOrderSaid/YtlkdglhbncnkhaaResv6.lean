/- Contracts of the program's package resv: May, Key, Fenced, Holder; the statements' given; Do at any nexus. -/
import Derived.Test.YtlkdglhbncnkhaaResv5
namespace Go.Proofs.Ytlkdglhbncnkhaa
set_option linter.unusedVariables false
open Go.RowKit

def mayR (s : RS) (n : Nat) : Bool := s.kind == 0 || (s.holds n || (s.kind == 1 || (s.kind == 5 || (s.kind == 7 || (decide (5 ≤ s.kind) && s.key n != 0)))))
def mayW (s : RS) (n : Nat) : Bool := !s.fen n && (s.kind == 0 || (s.holds n || (decide (5 ≤ s.kind) && s.key n != 0)))
theorem kinds {s : RS} (h : s.Ok) : s.kind = 0 ∨ s.kind = 1 ∨ s.kind = 3 ∨ s.kind = 5 ∨ s.kind = 6 ∨ s.kind = 7 ∨ s.kind = 8 := by
  rcases h.hk with ⟨h, _⟩ | ⟨h, _⟩
  · exact .inl h
  · exact .inr (of_decide_eq_true h)

section
variable {g : Nat} {s : RS} {w : World}
set_option maxHeartbeats 4000000 in
theorem mayr_any (h : IsRS w g s) (n : Nat) (hn : n < 16) : Calls Try.prog 11 #[.pointer (some ⟨g, 0, none⟩), .int .i64 n, .int .i64 1] w fun e w' => e = .returned (.bool (mayR s n)) ∧ w = w' := by
  have HH := Lib.hid h
  have c1 := h.ckey hn
  have c2 := h.cfen hn
  have c3 := h.ckind
  have hb : decide ((0 : Int) ≤ (n : Int) ∧ (n : Int) < 16) = true := decide_eq_true (by omega)
  have hks := kinds h.ok
  clear h
  rcases hks with hk | hk | hk | hk | hk | hk | hk
  all_goals
    rw [hk] at c3
    have HK := Lib.hid hk
    clear hk
    cases hh : s.holds n
    all_goals
      have HX : Hid (∀ b : Bool, (s.key n != 0) = b → mayR s n = mayR ⟨s.keys, s.fenced, s.holder, s.kind, s.gen⟩ n) := Lib.hid fun _ _ => rfl
      cases hz : (s.key n != 0)
      all_goals
        go_enter Try.func11, Try.ntmps11
        go_wp2_with (first
          | (go_at_call 18; (with_reducible refine (there_any (n : Int) _ (by omega)).mono ?_); rintro e w' ⟨rfl, rfl⟩; rw [hb])
          | (go_at_call 27; (with_reducible refine (holds_any HH.out n hn).mono ?_); rintro e w' ⟨rfl, rfl⟩; rw [hh]))
        go_ret
        refine ⟨?_, rfl⟩
        have e : mayR s n = (s.kind == 0 || (s.holds n || (s.kind == 1 || (s.kind == 5 || (s.kind == 7 || (decide (5 ≤ s.kind) && s.key n != 0)))))) := rfl
        rw [e, HK.out, hh, hz]
        rfl
set_option maxHeartbeats 4000000 in
theorem mayw_any (h : IsRS w g s) (n : Nat) (hn : n < 16) : Calls Try.prog 11 #[.pointer (some ⟨g, 0, none⟩), .int .i64 n, .int .i64 2] w fun e w' => e = .returned (.bool (mayW s n)) ∧ w = w' := by
  have HH := Lib.hid h
  have c1 := h.ckey hn
  have c2 := h.cfen hn
  have c3 := h.ckind
  have hb : decide ((0 : Int) ≤ (n : Int) ∧ (n : Int) < 16) = true := decide_eq_true (by omega)
  have hks := kinds h.ok
  clear h
  cases hf : s.fen n
  · rw [hf] at c2
    rcases hks with hk | hk | hk | hk | hk | hk | hk
    all_goals
      rw [hk] at c3
      have HK := Lib.hid hk
      clear hk
      cases hh : s.holds n
      all_goals
        cases hz : (s.key n != 0)
        all_goals
          go_enter Try.func11, Try.ntmps11
          go_wp2_with (first
            | (go_at_call 18; (with_reducible refine (there_any (n : Int) _ (by omega)).mono ?_); rintro e w' ⟨rfl, rfl⟩; rw [hb])
            | (go_at_call 27; (with_reducible refine (holds_any HH.out n hn).mono ?_); rintro e w' ⟨rfl, rfl⟩; rw [hh]))
          go_ret
          refine ⟨?_, rfl⟩
          have e : mayW s n = (!s.fen n && (s.kind == 0 || (s.holds n || (decide (5 ≤ s.kind) && s.key n != 0)))) := rfl
          rw [e, HK.out, hf, hh, hz]
          rfl
  · rw [hf] at c2
    clear hks
    go_enter Try.func11, Try.ntmps11
    go_wp2_with (first
      | (go_at_call 18; (with_reducible refine (there_any (n : Int) _ (by omega)).mono ?_); rintro e w' ⟨rfl, rfl⟩; rw [hb]))
    go_ret
    refine ⟨?_, rfl⟩
    have e : mayW s n = (!s.fen n && (s.kind == 0 || (s.holds n || (decide (5 ≤ s.kind) && s.key n != 0)))) := rfl
    rw [e, hf]
    rfl
theorem key_any (h : IsRS w g s) (n : Nat) (hn : n < 16) : Calls Try.prog 10 #[.pointer (some ⟨g, 0, none⟩), .int .i64 n] w fun e w' => e = .returned (.int .u64 (s.key n)) ∧ w = w' := by
  have c1 := h.ckey hn
  have hb : decide ((0 : Int) ≤ (n : Int) ∧ (n : Int) < 16) = true := decide_eq_true (by omega)
  clear h
  go_enter Try.func10, Try.ntmps10
  go_wp2_with (first
    | (go_at_call 18; (with_reducible refine (there_any (n : Int) _ (by omega)).mono ?_); rintro e w' ⟨rfl, rfl⟩; rw [hb]))
  go_ret
  exact ⟨rfl, rfl⟩
theorem fenced_any (h : IsRS w g s) (n : Nat) (hn : n < 16) : Calls Try.prog 12 #[.pointer (some ⟨g, 0, none⟩), .int .i64 n] w fun e w' => e = .returned (.bool (s.fen n)) ∧ w = w' := by
  have c1 := h.cfen hn
  have hb : decide ((0 : Int) ≤ (n : Int) ∧ (n : Int) < 16) = true := decide_eq_true (by omega)
  clear h
  go_enter Try.func12, Try.ntmps12
  go_wp2_with (first
    | (go_at_call 18; (with_reducible refine (there_any (n : Int) _ (by omega)).mono ?_); rintro e w' ⟨rfl, rfl⟩; rw [hb]))
  go_ret
  exact ⟨rfl, rfl⟩
theorem holder_any (h : IsRS w g s) : Calls Try.prog 14 #[.pointer (some ⟨g, 0, none⟩)] w fun e w' => e = .returned (.tuple #[.int .i64 s.holder, .int .i64 s.kind]) ∧ Below w.heap.size w w' := by
  have c1 := h.chold
  have c2 := h.ckind
  clear h
  go_enter Try.func14, Try.ntmps14
  go_wp2_with fail
  go_quiet (fail)
  go_wp2_with fail
  go_ret2
  exact ⟨rfl, bl_drewN _ _⟩
theorem given_any (a k m t : Int) (w : World) : Calls Try.prog 9 #[.agg #[.int .i64 a, .int .u64 k, .int .u64 m, .int .i64 t]] w fun e w' => e = .returned (.agg #[.int .i64 a, .int .u64 k, .int .u64 m, .int .i64 t]) ∧ Below w.heap.size w w' := by
  go_enter Try.func9, Try.ntmps9
  go_wp2_with fail
  exact bodyPost_ret (v := .agg #[.int .i64 a, .int .u64 k, .int .u64 m, .int .i64 t]) (by simp [results, Try.results9, go_sem]) rfl ⟨rfl, bl_chain (bl_alloc _ _) (bl_alloc _ _)⟩
set_option maxHeartbeats 4000000 in
theorem do_out (h : IsRS w g s) (nx : Int) (hnx : -9223372036854775808 ≤ nx ∧ nx ≤ 9223372036854775807) (hno : ¬ (0 ≤ nx ∧ nx < 16)) (c : RC) (hc : c.Ok) :
    Calls Try.prog 8 #[.pointer (some ⟨g, 0, none⟩), .int .i64 nx, .agg #[.int .i64 c.act, .int .u64 c.key, .int .u64 c.new, .int .i64 c.kind]] w (RetDo w g (doO s nx c)) := by
  have hb : decide (0 ≤ nx ∧ nx < 16) = false := decide_eq_false hno
  have HX := Lib.hid (doO_out (s := s) (c := c) hno)
  have HB := Lib.hid (bl_chain (bl_alloc w (.cells #[.int .i64 c.act, .int .u64 c.key, .int .u64 c.new, .int .i64 c.kind] 37)) (bl_alloc _ (.cells #[.int .i64 0, .int .i64 0, .int .i64 0, .int .i64 0, .slice none 0 0] 28)))
  have RB := Lib.hid (Blk.newAt (w.alloc (.cells #[.int .i64 c.act, .int .u64 c.key, .int .u64 c.new, .int .i64 c.kind] 37)) (w.heap.size + 1) 28 #[.int .i64 0, .int .i64 0, .int .i64 0, .int .i64 0, .slice none 0 0] (by simp))
  have HH := Lib.hid (h.below HB.out)
  have hglt := h.lt
  clear h hno
  go_enter Try.func8, Try.ntmps8
  go_wp2_with (first
    | (go_at_call 18; (with_reducible refine (there_any nx _ hnx).mono ?_); rintro e w' ⟨rfl, rfl⟩; rw [hb])
    | (go_at_call 19; (with_reducible refine (wrong_any _).mono ?_); rintro e w5 ⟨rfl, hb⟩; have HB5 := Lib.hid hb; (obtain ⟨⟨x0, x1, x2, x3, x4, r0, r1, r2, r3, r4⟩, f0, f1, f2, f3, f4⟩ := rep_cells (RB.out.keep hb) rfl); clear hb))
  refine bodyPost_ret (v := .tuple #[.agg (Rep.cells wrongR), .slice none 0 0]) (by simp [results, Try.results8, go_sem, Rep.cells, wrongR, r0, r1, r2, r3, r4]) rfl ?_
  refine RetDo.eq HX.out ?_
  have t5 := Tr.five w5 (w.heap.size + 1) (.int .i64 2) (.int .i64 5) (.int .i64 36) (.int .i64 0) (.slice none 0 0)
  exact ⟨none, 0, rfl, (HH.out.below HB5.out).tr t5 (by omega), ownsRow_emp _ _ _ _, (Tr.of_below (F := fun b => b = g) (bl_chain HB.out HB5.out)).trans t5 (fun b hb e => by omega)⟩
theorem do_any (h : IsRS w g s) (nx : Int) (hnx : -9223372036854775808 ≤ nx ∧ nx ≤ 9223372036854775807) (c : RC) (hc : c.Ok) :
    Calls Try.prog 8 #[.pointer (some ⟨g, 0, none⟩), .int .i64 nx, .agg #[.int .i64 c.act, .int .u64 c.key, .int .u64 c.new, .int .i64 c.kind]] w (RetDo w g (doO s nx c)) := by
  by_cases hno : 0 ≤ nx ∧ nx < 16
  · obtain ⟨n, rfl⟩ := Int.eq_ofNat_of_zero_le hno.1
    exact do_n h n (by omega) c hc
  · exact do_out h nx hnx hno c hc
end
end Go.Proofs.Ytlkdglhbncnkhaa
