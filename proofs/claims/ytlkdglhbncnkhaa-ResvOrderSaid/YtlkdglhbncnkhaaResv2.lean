/- Contracts of the program's package resv: register. -/
import Derived.Test.YtlkdglhbncnkhaaResv1
namespace Go.Proofs.Ytlkdglhbncnkhaa
set_option linter.unusedVariables false
open Go.RowKit

/-- What an action comes to: the state, the notes, the answer. -/
structure Out where
  s : RS
  l : List Int
  r : Rep
def registerO (s : RS) (n : Nat) (c : RC) (l : List Int) : Out :=
  if c.act = 0 ∧ c.key ≠ s.key n then ⟨s, l, conflictR⟩
  else if c.new ≠ 0 then ⟨(s.take n c.new).bump, l, goodR⟩
  else if s.key n = 0 then ⟨s, l, goodR⟩
  else if s.kind ≠ 0 ∧ ((s.holder = n ∧ s.each = false) ∨ (s.lose n).empty = true) then
    ⟨((s.lose n).free).bump, if s.kind = 5 ∨ s.kind = 6 then (s.lose n).free.rest n 4 l else l, goodR⟩
  else ⟨(s.lose n).bump, l, goodR⟩
def RetO (w : World) (g gl : Nat) (o : Out) (e : Ending) (w' : World) : Prop :=
  e = .returned (.agg o.r.cells) ∧ IsRS w' g o.s ∧ IsL w' gl o.l ∧ Tr (fun b => b = g ∨ b = gl) w w'
def repBlk (w : World) (r : Nat) (a : Rep) : Prop := Blk w r 28 a.cells
theorem Tr.five (w : World) (g : Nat) (b0 b1 b2 b3 b4 : Value) : Tr (fun b => b = g) w (((((w.setCell ⟨g, 0, none⟩ b0).setCell ⟨g, 1, none⟩ b1).setCell ⟨g, 2, none⟩ b2).setCell ⟨g, 3, none⟩ b3).setCell ⟨g, 4, none⟩ b4) :=
  (((((Tr.refl (fun b => b = g) w).setCell (p := ⟨g, 0, none⟩) (fun _ => rfl) b0).setCell (p := ⟨g, 1, none⟩) (fun _ => rfl) b1).setCell (p := ⟨g, 2, none⟩) (fun _ => rfl) b2).setCell (p := ⟨g, 3, none⟩) (fun _ => rfl) b3).setCell (p := ⟨g, 4, none⟩) (fun _ => rfl) b4
theorem RetO.mk' {w w' : World} {g gl : Nat} {s : RS} {l : List Int} {r : Rep} (hs : IsRS w' g s) (hl : IsL w' gl l) (ht : Tr (fun b => b = g ∨ b = gl) w w') : RetO w g gl ⟨s, l, r⟩ (.returned (.agg r.cells)) w' := ⟨rfl, hs, hl, ht⟩
/-- The answer's cells. -/
theorem bl_drewN (w : World) (n : Nat) : Below w.heap.size w (w.drewN n) := ⟨rfl, rfl, rfl, Nat.le_refl _, fun _ _ => rfl⟩
theorem bl_rep {w w' : World} (hb : Below w.heap.size w w') {r : Nat} (hr : w.heap.size ≤ r) (v0 v1 v2 v3 v4 : Value) : Below w.heap.size w (((((w'.setCell ⟨r, 0, none⟩ v0).setCell ⟨r, 1, none⟩ v1).setCell ⟨r, 2, none⟩ v2).setCell ⟨r, 3, none⟩ v3).setCell ⟨r, 4, none⟩ v4) :=
  bl_tr hb (Tr.five w' r v0 v1 v2 v3 v4) (fun b hb => by omega)
theorem rep_cells {w : World} {r : Nat} {a : Array Value} (h : Blk w r 28 a) (hl : a.size = 5) : (∃ x0 x1 x2 x3 x4, w.cell? ⟨r, 0, none⟩ = some x0 ∧ w.cell? ⟨r, 1, none⟩ = some x1 ∧ w.cell? ⟨r, 2, none⟩ = some x2 ∧ w.cell? ⟨r, 3, none⟩ = some x3 ∧ w.cell? ⟨r, 4, none⟩ = some x4) ∧ (w.frozen? ⟨r, 0, none⟩ = false ∧ w.frozen? ⟨r, 1, none⟩ = false ∧ w.frozen? ⟨r, 2, none⟩ = false ∧ w.frozen? ⟨r, 3, none⟩ = false ∧ w.frozen? ⟨r, 4, none⟩ = false) := by
  refine ⟨⟨a[0], a[1], a[2], a[3], a[4], ?_, ?_, ?_, ?_, ?_⟩, h.frozen 0, h.frozen 1, h.frozen 2, h.frozen 3, h.frozen 4⟩
  all_goals (rw [h.cell, Array.getElem?_eq_getElem])

theorem IsRS.drew {w : World} {g : Nat} {s : RS} (h : IsRS w g s) : IsRS w.drew g s := h.below (bl_drew _)
theorem IsRS.drewN {w : World} {g : Nat} {s : RS} (h : IsRS w g s) (n : Nat) : IsRS (w.drewN n) g s := h.below (bl_drewN _ _)
theorem tr_cell {F : Nat → Prop} {w W : World} {g i : Nat} {v : Value} (hF : F g) (h : Tr F w W) : Tr F w (W.setCell ⟨g, i, none⟩ v) := h.setCell (p := ⟨g, i, none⟩) (fun _ => hF) v
theorem tr_drew {F : Nat → Prop} {w W : World} (h : Tr F w W) : Tr F w W.drew := h.drew
theorem tr_drewN {F : Nat → Prop} {w W : World} {n : Nat} (h : Tr F w W) : Tr F w (W.drewN n) := h.drewN n
theorem tr_to {w W : World} {g gl : Nat} (h : Tr (fun b => b = g) w W) : Tr (fun b => b = g ∨ b = gl) w W := h.mono (fun _ _ e => .inl e)
/-- Where the answer will lie, behind a step. -/
theorem rep_after {w X w5 : World} {F : Nat → Prop} {r : Nat} {a : Array Value} (h : Blk w r 28 a) (t : Tr F w X) (hn : ¬ F r) (hb : Below X.heap.size X w5) (hl : a.size = 5) :
    (∃ x0 x1 x2 x3 x4, w5.cell? ⟨r, 0, none⟩ = some x0 ∧ w5.cell? ⟨r, 1, none⟩ = some x1 ∧ w5.cell? ⟨r, 2, none⟩ = some x2 ∧ w5.cell? ⟨r, 3, none⟩ = some x3 ∧ w5.cell? ⟨r, 4, none⟩ = some x4) ∧ (w5.frozen? ⟨r, 0, none⟩ = false ∧ w5.frozen? ⟨r, 1, none⟩ = false ∧ w5.frozen? ⟨r, 2, none⟩ = false ∧ w5.frozen? ⟨r, 3, none⟩ = false ∧ w5.frozen? ⟨r, 4, none⟩ = false) :=
  rep_cells ((t.blk h hn).keep hb) hl
/-- Behind the answer's store. -/
theorem RetO.end_ {w w1 X w5 : World} {g gl r : Nat} {s' : RS} {l' : List Int} {a : Rep} {v0 v1 v2 v3 v4 : Value} (b0 : Below w.heap.size w w1) (hr : w.heap.size ≤ r) (hg : g < w.heap.size) (hlg : gl < w.heap.size)
    (t : Tr (fun b => b = g ∨ b = gl) w1 X) (hs : IsRS X g s') (hl : IsL X gl l') (hb : Below X.heap.size X w5) :
    RetO w g gl ⟨s', l', a⟩ (.returned (.agg a.cells)) (((((w5.setCell ⟨r, 0, none⟩ v0).setCell ⟨r, 1, none⟩ v1).setCell ⟨r, 2, none⟩ v2).setCell ⟨r, 3, none⟩ v3).setCell ⟨r, 4, none⟩ v4) := by
  have t5 := Tr.five w5 r v0 v1 v2 v3 v4
  refine ⟨rfl, (hs.below hb).tr t5 (by omega), (hl.below hb).tr t5 (by omega), ?_⟩
  have t1 := ((Tr.of_below (F := fun b => b = g ∨ b = gl) b0).trans t (fun _ _ h => h)).trans (Tr.of_below (F := NoB) hb) (fun _ _ h => h.elim)
  exact t1.trans t5 (fun b hb e => by omega)

section
variable {g gl : Nat} {s : RS} {l : List Int} {w : World}
set_option maxHeartbeats 8000000 in
set_option maxRecDepth 20000 in
theorem register_old (h : IsRS w g s) (hl : IsL w gl l) (hgl : gl ≠ g) (n : Nat) (hn : n < 16) (c : RC) (hcs : (c.act == 0) = false ∨ ((c.act == 0) = true ∧ (c.key != s.key n) = false)) (h2 : (c.new != 0) = false) :
    Calls Try.prog 20 #[.pointer (some ⟨g, 0, none⟩), .int .i64 n, .agg #[.int .i64 c.act, .int .u64 c.key, .int .u64 c.new, .int .i64 c.kind], .pointer (some ⟨gl, 0, none⟩)] w (RetO w g gl
      (if s.key n = 0 then ⟨s, l, goodR⟩
      else if s.kind ≠ 0 ∧ ((s.holder = n ∧ s.each = false) ∨ (s.lose n).empty = true) then
        ⟨((s.lose n).free).bump, if s.kind = 5 ∨ s.kind = 6 then (s.lose n).free.rest n 4 l else l, goodR⟩
      else ⟨(s.lose n).bump, l, goodR⟩)) := by
  have B0 := Lib.hid (bl_chain (bl_alloc w (.cells #[.int .i64 c.act, .int .u64 c.key, .int .u64 c.new, .int .i64 c.kind] 37)) (bl_alloc _ (.cells #[.int .i64 0, .int .i64 0, .int .i64 0, .int .i64 0, .slice none 0 0] 28)))
  have HH := Lib.hid (h.below B0.out)
  have HL := Lib.hid (hl.below B0.out)
  have hglt := h.lt
  have hllt := hl.lt
  have RB := Lib.hid (Blk.newAt (w.alloc (.cells #[.int .i64 c.act, .int .u64 c.key, .int .u64 c.new, .int .i64 c.kind] 37)) (w.heap.size + 1) 28 #[.int .i64 0, .int .i64 0, .int .i64 0, .int .i64 0, .slice none 0 0] (by simp))
  have n1 : g ≠ w.heap.size := by omega
  have n2 : g ≠ w.heap.size + 1 := by omega
  have k0 := HH.out.ckey hn
  have k2 := HH.out.chold
  have k3 := HH.out.ckind
  clear h hl
  by_cases hz : s.key n = 0
  · rw [if_pos hz]
    have b4 : (s.key n == 0) = true := by simp [hz]
    have hz2 := Lib.hid hz
    clear hz
    rcases hcs with b1 | ⟨b1, b2⟩
    all_goals
      go_enter Try.func20, Try.ntmps20
      go_wp2_with fail
      go_quiet (fail)
      go_wp2_with (first
        | (go_at_call 32; (with_reducible refine (good_any _).mono ?_); rintro e w5 ⟨rfl, hb⟩; (obtain ⟨⟨x0, x1, x2, x3, x4, r0, r1, r2, r3, r4⟩, f0, f1, f2, f3, f4⟩ := rep_after (F := fun b => b = g) RB.out (by repeat (first | exact Tr.refl _ _ | refine tr_drew ?_ | refine tr_drewN ?_ | refine tr_cell (by rfl) ?_)) (by omega) hb rfl); have B5 := Lib.hid hb; clear hb))
      refine bodyPost_ret (v := .agg (Rep.cells goodR)) (by simp [results, Try.results20, go_sem, Rep.cells, goodR, r0, r1, r2, r3, r4]) rfl ?_
      refine RetO.end_ B0.out (by omega) hglt hllt (tr_to (by repeat (first | exact Tr.refl _ _ | refine tr_drew ?_ | refine tr_drewN ?_ | refine tr_cell (by rfl) ?_))) (HH.out.drewN _) ?_ B5.out
      exact HL.out.tr (F := fun b => b = g) (by repeat (first | exact Tr.refl _ _ | refine tr_drew ?_ | refine tr_drewN ?_ | refine tr_cell (by rfl) ?_)) hgl
  · rw [if_neg hz]
    have b4 : (s.key n == 0) = false := by simp [hz]
    clear hz
    have hkeys : (s.lose n).kind = s.kind := rfl
    by_cases hP : s.kind ≠ 0 ∧ ((s.holder = n ∧ s.each = false) ∨ (s.lose n).empty = true)
    · rw [if_pos hP]
      have d0 : (s.kind != 0) = true := by simp [hP.1]
      have dcs : ((s.holder == (n : Int)) = true ∧ s.each = false) ∨ ((s.holder == (n : Int)) = true ∧ s.each = true ∧ (s.lose n).empty = true) ∨ ((s.holder == (n : Int)) = false ∧ (s.lose n).empty = true) := by
        by_cases hh : s.holder = n
        · have e : (s.holder == (n : Int)) = true := by simp [hh]
          rcases hP.2 with ⟨_, h4⟩ | h4
          · exact .inl ⟨e, h4⟩
          · cases he : s.each
            · exact .inl ⟨e, rfl⟩
            · exact .inr (.inl ⟨e, rfl, h4⟩)
        · have e : (s.holder == (n : Int)) = false := by simp [hh]
          rcases hP.2 with ⟨h3, _⟩ | h4
          · exact absurd h3 hh
          · exact .inr (.inr ⟨e, h4⟩)
      clear hP
      by_cases h56 : s.kind = 5 ∨ s.kind = 6
      · rw [if_pos h56]
        have qcs : (s.kind == 5) = true ∨ ((s.kind == 5) = false ∧ (s.kind == 6) = true) := by
          rcases h56 with h | h
          · left; simp [h]
          · right; simp [h]
        clear h56
        rcases hcs with b1 | ⟨b1, b2⟩ <;> rcases dcs with ⟨d1, d2⟩ | ⟨d1, d2, d3⟩ | ⟨d1, d3⟩ <;> rcases qcs with q1 | ⟨q1, q2⟩
        all_goals
          go_enter Try.func20, Try.ntmps20
          go_wp2_with fail
          go_quiet (fail)
          go_wp2_with (first
            | (go_at_call 33; (with_reducible refine (each_any (HH.out.drewN _)).mono ?_); rintro e w' ⟨rfl, rfl⟩; rw [d2])
            | (go_at_call 34; (with_reducible refine (lose_any (HH.out.drewN _) n hn).mono ?_); rintro e w2 ⟨rfl, hs2, ht2⟩; have HS2 := Lib.hid hs2; have T2 := Lib.hid ht2; clear hs2 ht2)
            | (go_at_call 35; (with_reducible refine (empty_any HS2.out).mono ?_); rintro e w' ⟨rfl, rfl⟩; rw [d3])
            | (go_at_call 36; (with_reducible refine (free_any HS2.out).mono ?_); rintro e w3 ⟨rfl, hs3, ht3⟩; have HS3 := Lib.hid hs3; have T3 := Lib.hid (((tr_drewN (Tr.refl (fun b => b = g) _)).trans T2.out (fun _ _ h => h)).trans ht3 (fun _ _ h => h)); have HL3 := Lib.hid (HL.out.tr T3.out hgl); clear hs3 ht3)
            | (go_at_call 37; (with_reducible refine (rest_any HS3.out HL3.out n hn 4).mono ?_); rintro e w4 ⟨rfl, hl4, ht4⟩; have HS4 := Lib.hid (HS3.out.tr ht4 (fun e => hgl e.symm)); have k5 := HS4.out.cgen; have f5 := HS4.out.fr 34; have HL4 := Lib.hid hl4; have T4 := Lib.hid ((tr_to (gl := gl) T3.out).trans (ht4.mono (G := fun b => b = g ∨ b = gl) (fun _ _ e => .inr e)) (fun _ _ h => h)); clear hl4 ht4)
            | (go_at_call 32; (with_reducible refine (good_any _).mono ?_); rintro e w5 ⟨rfl, hb⟩; (obtain ⟨⟨x0, x1, x2, x3, x4, r0, r1, r2, r3, r4⟩, f0, f1, f2, f3, f4⟩ := rep_after (F := fun b => b = g ∨ b = gl) RB.out (tr_cell (.inl rfl) T4.out) (by omega) hb rfl); have B5 := Lib.hid hb; clear hb))
          refine bodyPost_ret (v := .agg (Rep.cells goodR)) (by simp [results, Try.results20, go_sem, Rep.cells, goodR, r0, r1, r2, r3, r4]) rfl ?_
          exact RetO.end_ B0.out (by omega) hglt hllt (tr_cell (.inl rfl) T4.out) HS4.out.bump_ (HL4.out.tr (tr_cell (F := fun b => b = g) rfl (Tr.refl _ _)) hgl) B5.out
      · rw [if_neg h56]
        have q1 : (s.kind == 5) = false := by simp; omega
        have q2 : (s.kind == 6) = false := by simp; omega
        clear h56
        rcases hcs with b1 | ⟨b1, b2⟩ <;> rcases dcs with ⟨d1, d2⟩ | ⟨d1, d2, d3⟩ | ⟨d1, d3⟩
        all_goals
          go_enter Try.func20, Try.ntmps20
          go_wp2_with fail
          go_quiet (fail)
          go_wp2_with (first
            | (go_at_call 33; (with_reducible refine (each_any (HH.out.drewN _)).mono ?_); rintro e w' ⟨rfl, rfl⟩; rw [d2])
            | (go_at_call 34; (with_reducible refine (lose_any (HH.out.drewN _) n hn).mono ?_); rintro e w2 ⟨rfl, hs2, ht2⟩; have HS2 := Lib.hid hs2; have T2 := Lib.hid ((tr_drewN (Tr.refl (fun b => b = g) _)).trans ht2 (fun _ _ h => h)); have k5 := HS2.out.cgen; have f5 := HS2.out.fr 34; clear hs2 ht2)
            | (go_at_call 35; (with_reducible refine (empty_any HS2.out).mono ?_); rintro e w' ⟨rfl, rfl⟩; rw [d3])
            | (go_at_call 36; (with_reducible refine (free_any HS2.out).mono ?_); rintro e w3 ⟨rfl, hs3, ht3⟩; have HS3 := Lib.hid hs3; have T3 := Lib.hid (T2.out.trans ht3 (fun _ _ h => h)); have k6 := HS3.out.cgen; have f6 := HS3.out.fr 34; clear hs3 ht3)
            | (go_at_call 32; (with_reducible refine (good_any _).mono ?_); rintro e w5 ⟨rfl, hb⟩; (obtain ⟨⟨x0, x1, x2, x3, x4, r0, r1, r2, r3, r4⟩, f0, f1, f2, f3, f4⟩ := rep_after (F := fun b => b = g) RB.out (tr_cell rfl T3.out) (by omega) hb rfl); have B5 := Lib.hid hb; clear hb))
          refine bodyPost_ret (v := .agg (Rep.cells goodR)) (by simp [results, Try.results20, go_sem, Rep.cells, goodR, r0, r1, r2, r3, r4]) rfl ?_
          exact RetO.end_ B0.out (by omega) hglt hllt (tr_to (tr_cell rfl T3.out)) HS3.out.bump_ (HL.out.tr (F := fun b => b = g) (tr_cell rfl T3.out) hgl) B5.out
    · rw [if_neg hP]
      have hok := HH.out.ok.hk
      have dcs : ((s.kind != 0) = false ∧ (s.holder == (n : Int)) = false) ∨ ((s.kind != 0) = true ∧ (s.holder == (n : Int)) = false ∧ (s.lose n).empty = false) ∨ ((s.kind != 0) = true ∧ (s.holder == (n : Int)) = true ∧ s.each = true ∧ (s.lose n).empty = false) := by
        by_cases hk : s.kind = 0
        · left
          refine ⟨by simp [hk], ?_⟩
          rcases hok with ⟨_, h2⟩ | ⟨h1, _⟩
          · rw [h2]; first | (simp; done) | (simp; omega)
          · rw [hk] at h1; cases h1
        · right
          have he : (s.lose n).empty = false := by
            cases hx : (s.lose n).empty
            · rfl
            · exact absurd ⟨hk, .inr hx⟩ hP
          by_cases hh : s.holder = n
          · right
            refine ⟨by simp [hk], by simp [hh], ?_, he⟩
            cases hx : s.each
            · exact absurd ⟨hk, .inl ⟨hh, hx⟩⟩ hP
            · rfl
          · left
            exact ⟨by simp [hk], by simp [hh], he⟩
      clear hP hok
      rcases hcs with b1 | ⟨b1, b2⟩ <;> rcases dcs with ⟨d0, d1⟩ | ⟨d0, d1, d3⟩ | ⟨d0, d1, d2, d3⟩
      all_goals
        go_enter Try.func20, Try.ntmps20
        go_wp2_with fail
        go_quiet (fail)
        go_wp2_with (first
            | (go_at_call 33; (with_reducible refine (each_any (HH.out.drewN _)).mono ?_); rintro e w' ⟨rfl, rfl⟩; rw [d2])
            | (go_at_call 34; (with_reducible refine (lose_any (HH.out.drewN _) n hn).mono ?_); rintro e w2 ⟨rfl, hs2, ht2⟩; have HS2 := Lib.hid hs2; have T2 := Lib.hid ((tr_drewN (Tr.refl (fun b => b = g) _)).trans ht2 (fun _ _ h => h)); have k5 := HS2.out.cgen; have f5 := HS2.out.fr 34; clear hs2 ht2)
            | (go_at_call 35; (with_reducible refine (empty_any HS2.out).mono ?_); rintro e w' ⟨rfl, rfl⟩; rw [d3])
            | (go_at_call 32; (with_reducible refine (good_any _).mono ?_); rintro e w5 ⟨rfl, hb⟩; (obtain ⟨⟨x0, x1, x2, x3, x4, r0, r1, r2, r3, r4⟩, f0, f1, f2, f3, f4⟩ := rep_after (F := fun b => b = g) RB.out (tr_cell rfl T2.out) (by omega) hb rfl); have B5 := Lib.hid hb; clear hb))
        refine bodyPost_ret (v := .agg (Rep.cells goodR)) (by simp [results, Try.results20, go_sem, Rep.cells, goodR, r0, r1, r2, r3, r4]) rfl ?_
        exact RetO.end_ B0.out (by omega) hglt hllt (tr_to (tr_cell rfl T2.out)) HS2.out.bump_ (HL.out.tr (F := fun b => b = g) (tr_cell rfl T2.out) hgl) B5.out
set_option maxHeartbeats 4000000 in
set_option maxRecDepth 20000 in
theorem register_any (h : IsRS w g s) (hl : IsL w gl l) (hgl : gl ≠ g) (n : Nat) (hn : n < 16) (c : RC) (hc : c.Ok) :
    Calls Try.prog 20 #[.pointer (some ⟨g, 0, none⟩), .int .i64 n, .agg #[.int .i64 c.act, .int .u64 c.key, .int .u64 c.new, .int .i64 c.kind], .pointer (some ⟨gl, 0, none⟩)] w (RetO w g gl (registerO s n c l)) := by
  have h0 := h
  have hl0 := hl
  have B0 := Lib.hid (bl_chain (bl_alloc w (.cells #[.int .i64 c.act, .int .u64 c.key, .int .u64 c.new, .int .i64 c.kind] 37)) (bl_alloc _ (.cells #[.int .i64 0, .int .i64 0, .int .i64 0, .int .i64 0, .slice none 0 0] 28)))
  have HH := Lib.hid (h.below B0.out)
  have HL := Lib.hid (hl.below B0.out)
  have hglt := h.lt
  have hllt := hl.lt
  have RB := Lib.hid (Blk.newAt (w.alloc (.cells #[.int .i64 c.act, .int .u64 c.key, .int .u64 c.new, .int .i64 c.kind] 37)) (w.heap.size + 1) 28 #[.int .i64 0, .int .i64 0, .int .i64 0, .int .i64 0, .slice none 0 0] (by simp))
  have n1 : g ≠ w.heap.size := by omega
  have n2 : g ≠ w.heap.size + 1 := by omega
  have k0 := HH.out.ckey hn
  have HX : Hid (registerO s n c l = if c.act = 0 ∧ c.key ≠ s.key n then ⟨s, l, conflictR⟩
  else if c.new ≠ 0 then ⟨(s.take n c.new).bump, l, goodR⟩
  else if s.key n = 0 then ⟨s, l, goodR⟩
  else if s.kind ≠ 0 ∧ ((s.holder = n ∧ s.each = false) ∨ (s.lose n).empty = true) then
    ⟨((s.lose n).free).bump, if s.kind = 5 ∨ s.kind = 6 then (s.lose n).free.rest n 4 l else l, goodR⟩
  else ⟨(s.lose n).bump, l, goodR⟩) := Lib.hid rfl
  clear h hl
  by_cases h1 : c.act = 0 ∧ c.key ≠ s.key n
  · have hx := HX.out
    rw [if_pos h1] at hx
    rw [hx]
    clear hx
    obtain ⟨h1, h2⟩ := h1
    have b1 : (c.act == 0) = true := by simp [h1]
    have b2 : (c.key != s.key n) = true := by simp [h2]
    clear h1 h2
    go_enter Try.func20, Try.ntmps20
    go_wp2_with fail
    go_quiet (fail)
    go_wp2_with (first
      | (go_at_call 26; (with_reducible refine (conflict_any _).mono ?_); rintro e w5 ⟨rfl, hb⟩; (obtain ⟨⟨x0, x1, x2, x3, x4, r0, r1, r2, r3, r4⟩, f0, f1, f2, f3, f4⟩ := rep_after (F := NoB) RB.out ((Tr.refl _ _).drewN _) id hb rfl); have B5 := Lib.hid hb; clear hb))
    refine bodyPost_ret (v := .agg (Rep.cells conflictR)) (by simp [results, Try.results20, go_sem, Rep.cells, conflictR, r0, r1, r2, r3, r4]) rfl ?_
    exact RetO.end_ B0.out (by omega) hglt hllt ((Tr.refl _ _).drewN _) (HH.out.drewN _) (HL.out.below (bl_drewN _ _)) B5.out
  · have hx := HX.out
    rw [if_neg h1] at hx
    have hcs : (c.act == 0) = false ∨ ((c.act == 0) = true ∧ (c.key != s.key n) = false) := by
      by_cases ha : c.act = 0
      · right
        refine ⟨by simp [ha], ?_⟩
        have : c.key = s.key n := Classical.byContradiction fun h => h1 ⟨ha, h⟩
        simp [this]
      · left; simp [ha]
    clear h1
    have k1 := HH.out.cfen hn
    have k2 := HH.out.chold
    have k3 := HH.out.ckind
    have k4 := HH.out.cgen
    have hgen := HH.out.ok.gen
    have f1 := HH.out.fr n
    have f2 := HH.out.fr (16 + n)
    have f3 := HH.out.fr 34
    have m1 : n ≠ 34 := by omega
    have m2 : 34 ≠ n := by omega
    have m3 : 16 + n ≠ 34 := by omega
    have m4 : 34 ≠ 16 + n := by omega
    have m5 : n ≠ 16 + n := by omega
    by_cases h2 : c.new ≠ 0
    · rw [if_pos h2] at hx
      rw [hx]
      clear hx
      have b3 : (c.new != 0) = true := by simp [h2]
      have hnew := hc.new
      clear h2
      rcases hcs with b1 | ⟨b1, b2⟩
      all_goals
        go_enter Try.func20, Try.ntmps20
        go_wp2_with fail
        go_quiet (fail)
        go_wp2_with fail
        go_region
        go_wp2_with (first
          | (go_at_call 32; (with_reducible refine (good_any _).mono ?_); rintro e w5 ⟨rfl, hb⟩; (obtain ⟨⟨x0, x1, x2, x3, x4, r0, r1, r2, r3, r4⟩, f0, f1, f2, f3, f4⟩ := rep_after (F := fun b => b = g) RB.out (by repeat (first | exact Tr.refl _ _ | refine tr_drew ?_ | refine tr_drewN ?_ | refine tr_cell (by rfl) ?_)) (by omega) hb rfl); have B5 := Lib.hid hb; clear hb))
        refine bodyPost_ret (v := .agg (Rep.cells goodR)) (by simp [results, Try.results20, go_sem, Rep.cells, goodR, r0, r1, r2, r3, r4]) rfl ?_
        refine RetO.end_ B0.out (by omega) hglt hllt (tr_to (by repeat (first | exact Tr.refl _ _ | refine tr_drew ?_ | refine tr_drewN ?_ | refine tr_cell (by rfl) ?_))) ?_ ?_ B5.out
        · exact ((HH.out.drewN _).two_ hn hnew false).bump_
        · exact HL.out.tr (F := fun b => b = g) (by repeat (first | exact Tr.refl _ _ | refine tr_drew ?_ | refine tr_drewN ?_ | refine tr_cell (by rfl) ?_)) hgl
    · rw [if_neg h2] at hx
      rw [hx]
      exact register_old h0 hl0 hgl n hn c hcs (by simpa using h2)
end
end Go.Proofs.Ytlkdglhbncnkhaa
