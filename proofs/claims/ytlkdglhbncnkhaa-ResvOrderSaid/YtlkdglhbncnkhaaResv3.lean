/- Contracts of the program's package resv: reserve, release, clear. -/
import Derived.Test.YtlkdglhbncnkhaaResv2
namespace Go.Proofs.Ytlkdglhbncnkhaa
set_option linter.unusedVariables false
open Go.RowKit

def reserveO (s : RS) (n : Nat) (c : RC) (l : List Int) : Out :=
  if rightK c.kind = false then ⟨s, l, wrongR⟩
  else if s.kind = 0 then ⟨s.hold n c.kind, l, goodR⟩
  else if s.holds n = false ∨ s.kind ≠ c.kind then ⟨s, l, conflictR⟩
  else ⟨s, l, goodR⟩
def releaseO (s : RS) (n : Nat) (c : RC) (l : List Int) : Out :=
  if s.holds n = false then ⟨s, l, goodR⟩
  else if s.kind ≠ c.kind then ⟨s, l, otherR⟩
  else ⟨s.free, if 3 < s.kind then s.rest n 4 l else l, goodR⟩
def loseTo (s : RS) : Nat → RS
  | 0 => s
  | k + 1 => if s.key k ≠ 0 then (loseTo s k).lose k else loseTo s k
def clearO (s : RS) (n : Nat) (c : RC) (l : List Int) : Out := ⟨((loseTo s 16).free).bump, s.rest n 3 l, goodR⟩

theorem holds_q {g : Nat} {s : RS} {w : World} (h : IsRS w g s) (n : Nat) (hn : n < 16) {b : Bool} (hb : s.holds n = b) : Calls Try.prog 27 #[.pointer (some ⟨g, 0, none⟩), .int .i64 n] w fun e w' => e = .returned (.bool b) ∧ w' = w :=
  (holds_any h n hn).mono fun e w' ⟨h1, h2⟩ => ⟨by rw [h1, hb], h2.symm⟩

section
variable {g gl : Nat} {s : RS} {l : List Int} {w : World}

set_option maxHeartbeats 8000000 in
set_option maxRecDepth 20000 in
theorem reserve_any (h : IsRS w g s) (hl : IsL w gl l) (hgl : gl ≠ g) (n : Nat) (hn : n < 16) (c : RC) (hc : c.Ok) :
    Calls Try.prog 21 #[.pointer (some ⟨g, 0, none⟩), .int .i64 n, .agg #[.int .i64 c.act, .int .u64 c.key, .int .u64 c.new, .int .i64 c.kind], .pointer (some ⟨gl, 0, none⟩)] w (RetO w g gl (reserveO s n c l)) := by
  have B0 := Lib.hid (bl_chain (bl_alloc w (.cells #[.int .i64 c.act, .int .u64 c.key, .int .u64 c.new, .int .i64 c.kind] 37)) (bl_alloc _ (.cells #[.int .i64 0, .int .i64 0, .int .i64 0, .int .i64 0, .slice none 0 0] 28)))
  have HH := Lib.hid (h.below B0.out)
  have HL := Lib.hid (hl.below B0.out)
  have hglt := h.lt
  have hllt := hl.lt
  have RB := Lib.hid (Blk.newAt (w.alloc (.cells #[.int .i64 c.act, .int .u64 c.key, .int .u64 c.new, .int .i64 c.kind] 37)) (w.heap.size + 1) 28 #[.int .i64 0, .int .i64 0, .int .i64 0, .int .i64 0, .slice none 0 0] (by simp))
  have n1 : g ≠ w.heap.size := by omega
  have n2 : g ≠ w.heap.size + 1 := by omega
  have k0 := HH.out.ckey hn
  have k2 := HH.out.chold
  have k3 := HH.out.ckind
  have k4 := HH.out.cgen
  have f32 := HH.out.fr 32
  have f33 := HH.out.fr 33
  have f34 := HH.out.fr 34
  have m0 : ((w.alloc (.cells #[.int .i64 c.act, .int .u64 c.key, .int .u64 c.new, .int .i64 c.kind] 37)).alloc (.cells #[.int .i64 0, .int .i64 0, .int .i64 0, .int .i64 0, .slice none 0 0] 28)).cell? ⟨w.heap.size, 3, none⟩ = some (.int .i64 c.kind) := by simp [go_sem]
  have m1 : ((w.alloc (.cells #[.int .i64 c.act, .int .u64 c.key, .int .u64 c.new, .int .i64 c.kind] 37)).alloc (.cells #[.int .i64 0, .int .i64 0, .int .i64 0, .int .i64 0, .slice none 0 0] 28)).cell? ⟨w.heap.size, 2, none⟩ = some (.int .u64 c.new) := by simp [go_sem]
  clear h hl

  have hck := hc.kind
  unfold reserveO
  by_cases h1 : rightK c.kind = false
  · rw [if_pos h1]
    go_enter Try.func21, Try.ntmps21
    go_wp2_with (first
      | (go_at_call 38; (with_reducible refine (right_any c.kind _ hck).mono ?_); rintro e w' ⟨rfl, rfl⟩; rw [h1])
      | (go_at_call 19; (with_reducible refine (wrong_any _).mono ?_); rintro e w5 ⟨rfl, hb⟩; (obtain ⟨⟨x0, x1, x2, x3, x4, r0, r1, r2, r3, r4⟩, f0, f1, f2, f3, f4⟩ := rep_after (F := fun b => b = g) RB.out (by repeat (first | exact Tr.refl _ _ | refine tr_drew ?_ | refine tr_drewN ?_ | refine tr_cell (by rfl) ?_)) (by omega) hb rfl); have B5 := Lib.hid hb; clear hb))
    refine bodyPost_ret (v := .agg (Rep.cells wrongR)) (by simp [results, Try.results21, go_sem, Rep.cells, wrongR, r0, r1, r2, r3, r4]) rfl ?_
    exact RetO.end_ B0.out (by omega) hglt hllt (tr_to (by repeat (first | exact Tr.refl _ _ | refine tr_drew ?_ | refine tr_drewN ?_ | refine tr_cell (by rfl) ?_))) HH.out HL.out B5.out
  · rw [if_neg h1]
    have h1' : rightK c.kind = true := by simpa using h1
    have RIGHT := Lib.hid h1'
    clear h1
    by_cases h2 : s.kind = 0
    · rw [if_pos h2]
      have b2 : (s.kind == 0) = true := by simp [h2]
      clear h2 h1'
      go_enter Try.func21, Try.ntmps21
      go_wp2_with (first
        | (go_at_call 38; (with_reducible refine (right_any c.kind _ hck).mono ?_); rintro e w' ⟨rfl, rfl⟩; rw [RIGHT.out]))
      generalize (w.alloc (.cells #[.int .i64 c.act, .int .u64 c.key, .int .u64 c.new, .int .i64 c.kind] 37)).alloc (.cells #[.int .i64 0, .int .i64 0, .int .i64 0, .int .i64 0, .slice none 0 0] 28) = W1 at HH HL RB B0 k0 k2 k3 k4 f32 f33 f34 m0 m1 ⊢
      go_region
      go_wp2_with (first
        | (go_at_call 32; (with_reducible refine (good_any _).mono ?_); rintro e w5 ⟨rfl, hb⟩; (obtain ⟨⟨x0, x1, x2, x3, x4, r0, r1, r2, r3, r4⟩, f0, f1, f2, f3, f4⟩ := rep_after (F := fun b => b = g) RB.out (by repeat (first | exact Tr.refl _ _ | refine tr_drew ?_ | refine tr_drewN ?_ | refine tr_cell (by rfl) ?_)) (by omega) hb rfl); have B5 := Lib.hid hb; clear hb))
      refine bodyPost_ret (v := .agg (Rep.cells goodR)) (by simp [results, Try.results21, go_sem, Rep.cells, goodR, r0, r1, r2, r3, r4]) rfl ?_
      have hs6 : IsRS _ g (s.hold n c.kind) := (HH.out.hold_ (hold_ok HH.out.ok (n := (n : Int)) (by omega) RIGHT.out)).drew
      exact RetO.end_ B0.out (by omega) hglt hllt (tr_to (by repeat (first | exact Tr.refl _ _ | refine tr_drew ?_ | refine tr_drewN ?_ | refine tr_cell (by rfl) ?_))) hs6 (HL.out.tr (F := fun b => b = g) (by repeat (first | exact Tr.refl _ _ | refine tr_drew ?_ | refine tr_drewN ?_ | refine tr_cell (by rfl) ?_)) hgl) B5.out
    · rw [if_neg h2]
      have b2 : (s.kind == 0) = false := by simp [h2]
      clear h2 h1'
      by_cases h3 : s.holds n = false ∨ s.kind ≠ c.kind
      · rw [if_pos h3]
        have hcs : s.holds n = false ∨ (s.holds n = true ∧ (s.kind != c.kind) = true) := by
          cases hh : s.holds n
          · exact .inl rfl
          · right
            rcases h3 with h | h
            · rw [hh] at h; cases h
            · exact ⟨rfl, by simp [h]⟩
        clear h3
        rcases hcs with q1 | ⟨q1, q2⟩
        all_goals
          go_enter Try.func21, Try.ntmps21
          go_wp2_with (first
            | (go_at_call 38; (with_reducible refine (right_any c.kind _ hck).mono ?_); rintro e w' ⟨rfl, rfl⟩; rw [RIGHT.out]))
          go_quiet ((go_at_call 27; exact Calls.quiet_of_same (holds_q (HH.out.drewN _) n hn q1)))
          go_wp2_with (first
            | (go_at_call 26; (with_reducible refine (conflict_any _).mono ?_); rintro e w5 ⟨rfl, hb⟩; (obtain ⟨⟨x0, x1, x2, x3, x4, r0, r1, r2, r3, r4⟩, f0, f1, f2, f3, f4⟩ := rep_after (F := fun b => b = g) RB.out (by repeat (first | exact Tr.refl _ _ | refine tr_drew ?_ | refine tr_drewN ?_ | refine tr_cell (by rfl) ?_)) (by omega) hb rfl); have B5 := Lib.hid hb; clear hb))
          refine bodyPost_ret (v := .agg (Rep.cells conflictR)) (by simp [results, Try.results21, go_sem, Rep.cells, conflictR, r0, r1, r2, r3, r4]) rfl ?_
          exact RetO.end_ B0.out (by omega) hglt hllt (tr_to (by repeat (first | exact Tr.refl _ _ | refine tr_drew ?_ | refine tr_drewN ?_ | refine tr_cell (by rfl) ?_))) (HH.out.drewN _) (HL.out.tr (F := fun b => b = g) (by repeat (first | exact Tr.refl _ _ | refine tr_drew ?_ | refine tr_drewN ?_ | refine tr_cell (by rfl) ?_)) hgl) B5.out
      · rw [if_neg h3]
        have q1 : s.holds n = true := by
          cases hh : s.holds n
          · exact absurd (.inl hh) h3
          · rfl
        have q2 : (s.kind != c.kind) = false := by
          have : s.kind = c.kind := Classical.byContradiction fun h => h3 (.inr h)
          simp [this]
        clear h3
        go_enter Try.func21, Try.ntmps21
        go_wp2_with (first
          | (go_at_call 38; (with_reducible refine (right_any c.kind _ hck).mono ?_); rintro e w' ⟨rfl, rfl⟩; rw [RIGHT.out]))
        go_quiet ((go_at_call 27; exact Calls.quiet_of_same (holds_q (HH.out.drewN _) n hn q1)))
        go_wp2_with (first
          | (go_at_call 32; (with_reducible refine (good_any _).mono ?_); rintro e w5 ⟨rfl, hb⟩; (obtain ⟨⟨x0, x1, x2, x3, x4, r0, r1, r2, r3, r4⟩, f0, f1, f2, f3, f4⟩ := rep_after (F := fun b => b = g) RB.out (by repeat (first | exact Tr.refl _ _ | refine tr_drew ?_ | refine tr_drewN ?_ | refine tr_cell (by rfl) ?_)) (by omega) hb rfl); have B5 := Lib.hid hb; clear hb))
        refine bodyPost_ret (v := .agg (Rep.cells goodR)) (by simp [results, Try.results21, go_sem, Rep.cells, goodR, r0, r1, r2, r3, r4]) rfl ?_
        exact RetO.end_ B0.out (by omega) hglt hllt (tr_to (by repeat (first | exact Tr.refl _ _ | refine tr_drew ?_ | refine tr_drewN ?_ | refine tr_cell (by rfl) ?_))) (HH.out.drewN _) (HL.out.tr (F := fun b => b = g) (by repeat (first | exact Tr.refl _ _ | refine tr_drew ?_ | refine tr_drewN ?_ | refine tr_cell (by rfl) ?_)) hgl) B5.out

set_option maxHeartbeats 8000000 in
set_option maxRecDepth 20000 in
theorem release_any (h : IsRS w g s) (hl : IsL w gl l) (hgl : gl ≠ g) (n : Nat) (hn : n < 16) (c : RC) (hc : c.Ok) :
    Calls Try.prog 22 #[.pointer (some ⟨g, 0, none⟩), .int .i64 n, .agg #[.int .i64 c.act, .int .u64 c.key, .int .u64 c.new, .int .i64 c.kind], .pointer (some ⟨gl, 0, none⟩)] w (RetO w g gl (releaseO s n c l)) := by
  have B0 := Lib.hid (bl_chain (bl_alloc w (.cells #[.int .i64 c.act, .int .u64 c.key, .int .u64 c.new, .int .i64 c.kind] 37)) (bl_alloc _ (.cells #[.int .i64 0, .int .i64 0, .int .i64 0, .int .i64 0, .slice none 0 0] 28)))
  have HH := Lib.hid (h.below B0.out)
  have HL := Lib.hid (hl.below B0.out)
  have hglt := h.lt
  have hllt := hl.lt
  have RB := Lib.hid (Blk.newAt (w.alloc (.cells #[.int .i64 c.act, .int .u64 c.key, .int .u64 c.new, .int .i64 c.kind] 37)) (w.heap.size + 1) 28 #[.int .i64 0, .int .i64 0, .int .i64 0, .int .i64 0, .slice none 0 0] (by simp))
  have n1 : g ≠ w.heap.size := by omega
  have n2 : g ≠ w.heap.size + 1 := by omega
  have k0 := HH.out.ckey hn
  have k2 := HH.out.chold
  have k3 := HH.out.ckind
  have k4 := HH.out.cgen
  have f32 := HH.out.fr 32
  have f33 := HH.out.fr 33
  have f34 := HH.out.fr 34
  have m0 : ((w.alloc (.cells #[.int .i64 c.act, .int .u64 c.key, .int .u64 c.new, .int .i64 c.kind] 37)).alloc (.cells #[.int .i64 0, .int .i64 0, .int .i64 0, .int .i64 0, .slice none 0 0] 28)).cell? ⟨w.heap.size, 3, none⟩ = some (.int .i64 c.kind) := by simp [go_sem]
  have m1 : ((w.alloc (.cells #[.int .i64 c.act, .int .u64 c.key, .int .u64 c.new, .int .i64 c.kind] 37)).alloc (.cells #[.int .i64 0, .int .i64 0, .int .i64 0, .int .i64 0, .slice none 0 0] 28)).cell? ⟨w.heap.size, 2, none⟩ = some (.int .u64 c.new) := by simp [go_sem]
  clear h hl

  unfold releaseO
  obtain ⟨⟨x0, x1, x2, x3, x4, r0, r1, r2, r3, r4⟩, f0, f1, f2, f3, f4⟩ := rep_cells RB.out rfl
  by_cases h1 : s.holds n = false
  · rw [if_pos h1]
    clear r0 r1 r2 r3 r4 f0 f1 f2 f3 f4
    go_enter Try.func22, Try.ntmps22
    go_wp2_with (first
      | (go_at_call 27; (with_reducible refine (holds_any HH.out n hn).mono ?_); rintro e w' ⟨rfl, rfl⟩; rw [h1])
      | (go_at_call 32; (with_reducible refine (good_any _).mono ?_); rintro e w5 ⟨rfl, hb⟩; (obtain ⟨⟨x0, x1, x2, x3, x4, r0, r1, r2, r3, r4⟩, f0, f1, f2, f3, f4⟩ := rep_after (F := fun b => b = g) RB.out (by repeat (first | exact Tr.refl _ _ | refine tr_drew ?_ | refine tr_drewN ?_ | refine tr_cell (by rfl) ?_)) (by omega) hb rfl); have B5 := Lib.hid hb; clear hb))
    refine bodyPost_ret (v := .agg (Rep.cells goodR)) (by simp [results, Try.results22, go_sem, Rep.cells, goodR, r0, r1, r2, r3, r4]) rfl ?_
    exact RetO.end_ B0.out (by omega) hglt hllt (tr_to (by repeat (first | exact Tr.refl _ _ | refine tr_drew ?_ | refine tr_drewN ?_ | refine tr_cell (by rfl) ?_))) HH.out HL.out B5.out
  · rw [if_neg h1]
    have h1' : s.holds n = true := by simpa using h1
    clear h1
    by_cases h2 : s.kind ≠ c.kind
    · rw [if_pos h2]
      have q2 : (s.kind != c.kind) = true := by simp [h2]
      clear h2
      go_enter Try.func22, Try.ntmps22
      go_wp2_with (first
        | (go_at_call 27; (with_reducible refine (holds_any HH.out n hn).mono ?_); rintro e w' ⟨rfl, rfl⟩; rw [h1']))
      generalize (w.alloc (.cells #[.int .i64 c.act, .int .u64 c.key, .int .u64 c.new, .int .i64 c.kind] 37)).alloc (.cells #[.int .i64 0, .int .i64 0, .int .i64 0, .int .i64 0, .slice none 0 0] 28) = W1 at HH HL RB B0 k0 k2 k3 k4 f32 f33 f34 m0 m1 r0 r1 r2 r3 r4 f0 f1 f2 f3 f4 ⊢
      go_quiet (fail)
      go_wp2_with fail
      refine bodyPost_ret (v := .agg (Rep.cells otherR)) (by simp [results, Try.results22, go_sem, Rep.cells, otherR, r0, r1, r2, r3, r4]) rfl ?_
      exact RetO.end_ B0.out (by omega) hglt hllt (tr_to (by repeat (first | exact Tr.refl _ _ | refine tr_drew ?_ | refine tr_drewN ?_ | refine tr_cell (by rfl) ?_))) (HH.out.drewN _) (HL.out.tr (F := fun b => b = g) (by repeat (first | exact Tr.refl _ _ | refine tr_drew ?_ | refine tr_drewN ?_ | refine tr_cell (by rfl) ?_)) hgl) (Below.refl _ _)
    · rw [if_neg h2]
      have q2 : (s.kind != c.kind) = false := by
        have : s.kind = c.kind := Classical.byContradiction h2
        simp [this]
      clear h2
      clear r0 r1 r2 r3 r4 f0 f1 f2 f3 f4
      by_cases h3 : 3 < s.kind
      · rw [if_pos h3]
        go_enter Try.func22, Try.ntmps22
        go_wp2_with (first
          | (go_at_call 27; (with_reducible refine (holds_any HH.out n hn).mono ?_); rintro e w' ⟨rfl, rfl⟩; rw [h1']))
        generalize (w.alloc (.cells #[.int .i64 c.act, .int .u64 c.key, .int .u64 c.new, .int .i64 c.kind] 37)).alloc (.cells #[.int .i64 0, .int .i64 0, .int .i64 0, .int .i64 0, .slice none 0 0] 28) = W1 at HH HL RB B0 k0 k2 k3 k4 f32 f33 f34 m0 m1 ⊢
        go_quiet (fail)
        go_wp2_with (first
          | (go_at_call 37; (with_reducible refine (rest_any (HH.out.drewN _) (HL.out.below (bl_drewN _ _)) n hn 4).mono ?_); rintro e w4 ⟨rfl, hl4, ht4⟩; have HS4 := Lib.hid ((HH.out.drewN _).tr ht4 (fun e => hgl e.symm)); have HL4 := Lib.hid hl4; have T4 := Lib.hid ((tr_drewN (Tr.refl (fun b => b = g ∨ b = gl) _)).trans (ht4.mono (G := fun b => b = g ∨ b = gl) (fun _ _ e => .inr e)) (fun _ _ h => h)); clear hl4 ht4)
          | (go_at_call 36; (with_reducible refine (free_any HS4.out).mono ?_); rintro e w3 ⟨rfl, hs3, ht3⟩; have HS3 := Lib.hid hs3; have HL3 := Lib.hid (HL4.out.tr ht3 hgl); have T3 := Lib.hid (T4.out.trans (tr_to (gl := gl) ht3) (fun _ _ h => h)); clear hs3 ht3)
          | (go_at_call 32; (with_reducible refine (good_any _).mono ?_); rintro e w5 ⟨rfl, hb⟩; (obtain ⟨⟨x0, x1, x2, x3, x4, r0, r1, r2, r3, r4⟩, f0, f1, f2, f3, f4⟩ := rep_after (F := fun b => b = g ∨ b = gl) RB.out T3.out (by omega) hb rfl); have B5 := Lib.hid hb; clear hb))
        refine bodyPost_ret (v := .agg (Rep.cells goodR)) (by simp [results, Try.results22, go_sem, Rep.cells, goodR, r0, r1, r2, r3, r4]) rfl ?_
        exact RetO.end_ B0.out (by omega) hglt hllt T3.out HS3.out HL3.out B5.out
      · rw [if_neg h3]
        go_enter Try.func22, Try.ntmps22
        go_wp2_with (first
          | (go_at_call 27; (with_reducible refine (holds_any HH.out n hn).mono ?_); rintro e w' ⟨rfl, rfl⟩; rw [h1']))
        generalize (w.alloc (.cells #[.int .i64 c.act, .int .u64 c.key, .int .u64 c.new, .int .i64 c.kind] 37)).alloc (.cells #[.int .i64 0, .int .i64 0, .int .i64 0, .int .i64 0, .slice none 0 0] 28) = W1 at HH HL RB B0 k0 k2 k3 k4 f32 f33 f34 m0 m1 ⊢
        go_quiet (fail)
        go_wp2_with (first
          | (go_at_call 36; (with_reducible refine (free_any (HH.out.drewN _)).mono ?_); rintro e w3 ⟨rfl, hs3, ht3⟩; have HS3 := Lib.hid hs3; have HL3 := Lib.hid ((HL.out.below (bl_drewN _ _)).tr ht3 hgl); have T3 := Lib.hid ((tr_drewN (Tr.refl (fun b => b = g ∨ b = gl) _)).trans (tr_to (gl := gl) ht3) (fun _ _ h => h)); clear hs3 ht3)
          | (go_at_call 32; (with_reducible refine (good_any _).mono ?_); rintro e w5 ⟨rfl, hb⟩; (obtain ⟨⟨x0, x1, x2, x3, x4, r0, r1, r2, r3, r4⟩, f0, f1, f2, f3, f4⟩ := rep_after (F := fun b => b = g ∨ b = gl) RB.out T3.out (by omega) hb rfl); have B5 := Lib.hid hb; clear hb))
        refine bodyPost_ret (v := .agg (Rep.cells goodR)) (by simp [results, Try.results22, go_sem, Rep.cells, goodR, r0, r1, r2, r3, r4]) rfl ?_
        exact RetO.end_ B0.out (by omega) hglt hllt T3.out HS3.out HL3.out B5.out

theorem loseTo_ok (h : s.Ok) : ∀ k, (loseTo s k).Ok
  | 0 => h
  | k + 1 => by
    unfold loseTo
    split
    · exact lose_ok (loseTo_ok h k) k
    · exact loseTo_ok h k

set_option maxHeartbeats 8000000 in
set_option maxRecDepth 20000 in
theorem clear_any (h : IsRS w g s) (hl : IsL w gl l) (hgl : gl ≠ g) (n : Nat) (hn : n < 16) (c : RC) (hc : c.Ok) :
    Calls Try.prog 23 #[.pointer (some ⟨g, 0, none⟩), .int .i64 n, .agg #[.int .i64 c.act, .int .u64 c.key, .int .u64 c.new, .int .i64 c.kind], .pointer (some ⟨gl, 0, none⟩)] w (RetO w g gl (clearO s n c l)) := by
  have B0 := Lib.hid (bl_chain (bl_alloc w (.cells #[.int .i64 c.act, .int .u64 c.key, .int .u64 c.new, .int .i64 c.kind] 37)) (bl_alloc _ (.cells #[.int .i64 0, .int .i64 0, .int .i64 0, .int .i64 0, .slice none 0 0] 28)))
  have HH := Lib.hid (h.below B0.out)
  have HL := Lib.hid (hl.below B0.out)
  have hglt := h.lt
  have hllt := hl.lt
  have RB := Lib.hid (Blk.newAt (w.alloc (.cells #[.int .i64 c.act, .int .u64 c.key, .int .u64 c.new, .int .i64 c.kind] 37)) (w.heap.size + 1) 28 #[.int .i64 0, .int .i64 0, .int .i64 0, .int .i64 0, .slice none 0 0] (by simp))
  have n1 : g ≠ w.heap.size := by omega
  have n2 : g ≠ w.heap.size + 1 := by omega
  have k0 := HH.out.ckey hn
  have k2 := HH.out.chold
  have k3 := HH.out.ckind
  have k4 := HH.out.cgen
  have f32 := HH.out.fr 32
  have f33 := HH.out.fr 33
  have f34 := HH.out.fr 34
  have m0 : ((w.alloc (.cells #[.int .i64 c.act, .int .u64 c.key, .int .u64 c.new, .int .i64 c.kind] 37)).alloc (.cells #[.int .i64 0, .int .i64 0, .int .i64 0, .int .i64 0, .slice none 0 0] 28)).cell? ⟨w.heap.size, 3, none⟩ = some (.int .i64 c.kind) := by simp [go_sem]
  have m1 : ((w.alloc (.cells #[.int .i64 c.act, .int .u64 c.key, .int .u64 c.new, .int .i64 c.kind] 37)).alloc (.cells #[.int .i64 0, .int .i64 0, .int .i64 0, .int .i64 0, .slice none 0 0] 28)).cell? ⟨w.heap.size, 2, none⟩ = some (.int .u64 c.new) := by simp [go_sem]
  clear h hl

  unfold clearO
  go_enter Try.func23, Try.ntmps23
  go_wp2_with (first
    | (go_at_call 37; (with_reducible refine (rest_any HH.out HL.out n hn 3).mono ?_); rintro e w4 ⟨rfl, hl4, ht4⟩; have HS4 := Lib.hid (HH.out.tr ht4 (fun e => hgl e.symm)); have HL4 := Lib.hid hl4; have T4 := Lib.hid (ht4.mono (G := fun b => b = g ∨ b = gl) (fun _ _ e => .inr e)); clear hl4 ht4)
    | (refine wpL_loadArr (ty := 54) rfl rfl rfl (loadKeys HS4.out) Try.underlying54 rfl (by rw [List.size_toArray, List.length_map, HS4.out.ok.lk]; exact info16) ?_))
  go_loopw [19] (fun v w2 => ∃ k : Nat, k ≤ 16 ∧ v = .int .i64 k ∧ IsRS w2 g (loseTo s k) ∧ Tr (fun b => b = g) w4 w2) (fun v _ => 16 - (intOf v).toNat)
  case atStart => exact ⟨0, by omega, rfl, HS4.out, Tr.refl _ _⟩
  case round =>
    obtain ⟨k, hk, rfl, hs6, ht6⟩ := hrel
    have HS6 := Lib.hid hs6
    have T6 := Lib.hid ht6
    clear hs6 ht6
    by_cases hlt : k < 16
    · have hix := fun w => run_index_arr (P := Try.prog) (w := w) Try.underlying54 Try.underlying32 size64 (s.keys.map (Value.int .u64)).toArray k hlt _ (key_at HH.out.ok hlt)
      by_cases hz : s.key k ≠ 0
      · have b1 : (s.key k != 0) = true := by simp [hz]
        have HE : Hid (loseTo s (k + 1) = (loseTo s k).lose k) := Lib.hid (by rw [loseTo, if_pos hz])
        clear hz
        go_wp2_with (first
          | (go_at_call 34; (with_reducible refine (lose_any HS6.out k hlt).mono ?_); rintro e w7 ⟨rfl, hs7, ht7⟩; have HS7 := Lib.hid hs7; have T7 := Lib.hid (T6.out.trans ht7 (fun _ _ h => h)); clear hs7 ht7))
        go_roundw
        case rel => exact ⟨k + 1, by omega, by go_num, by rw [HE.out]; exact HS7.out, T7.out⟩
        case measure => simp [intOf]; omega
      · have b1 : (s.key k != 0) = false := by simpa using hz
        have HE : Hid (loseTo s (k + 1) = loseTo s k) := Lib.hid (by rw [loseTo, if_neg hz])
        clear hz
        go_wp2_with fail
        go_roundw
        case rel => exact ⟨k + 1, by omega, by go_num, by rw [HE.out]; exact HS6.out, T6.out⟩
        case measure => simp [intOf]; omega
    · have hk16 : k = 16 := by omega
      subst hk16
      clear hk hlt
      go_wp2_with (first
        | (go_at_call 36; (with_reducible refine (free_any HS6.out).mono ?_); rintro e w8 ⟨rfl, hs8, ht8⟩; have HS8 := Lib.hid hs8; have k5 := hs8.cgen; have f5 := hs8.fr 34; have T8 := Lib.hid (T6.out.trans ht8 (fun _ _ h => h)); have T9 := Lib.hid (T4.out.trans (tr_to (gl := gl) (T6.out.trans ht8 (fun _ _ h => h))) (fun _ _ h => h)); have HL8 := Lib.hid (HL4.out.tr T8.out hgl); clear hs8 ht8)
        | (go_at_call 32; (with_reducible refine (good_any _).mono ?_); rintro e w5 ⟨rfl, hb⟩; (obtain ⟨⟨x0, x1, x2, x3, x4, r0, r1, r2, r3, r4⟩, f0, f1, f2, f3, f4⟩ := rep_after (F := fun b => b = g ∨ b = gl) RB.out (tr_cell (.inl rfl) T9.out) (by omega) hb rfl); have B5 := Lib.hid hb; clear hb))
      refine bodyPost_ret (v := .agg (Rep.cells goodR)) (by simp [results, Try.results23, go_sem, Rep.cells, goodR, r0, r1, r2, r3, r4]) rfl ?_
      exact RetO.end_ B0.out (by omega) hglt hllt (tr_cell (.inl rfl) T9.out) HS8.out.bump_ (HL8.out.tr (tr_cell (F := fun b => b = g) rfl (Tr.refl _ _)) hgl) B5.out

end
end Go.Proofs.Ytlkdglhbncnkhaa

