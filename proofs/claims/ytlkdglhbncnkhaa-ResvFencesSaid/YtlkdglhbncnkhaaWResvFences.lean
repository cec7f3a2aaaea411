/- The walk of ResvFences. -/
import Derived.Test.YtlkdglhbncnkhaaResvRow
import Derived.Test.YtlkdglhbncnkhaaResvPlain
import Derived.Test.YtlkdglhbncnkhaaExt
namespace Go.Proofs.Ytlkdglhbncnkhaa
set_option linter.unusedVariables false
open Go.RowKit

/-! ### who had a key -/
def updH (had : List Bool) (s : RS) : Nat → List Bool
  | 0 => had
  | j + 1 => (updH had s j).set j (had[j]?.getD false || s.key j != 0)
theorem updH_length (had : List Bool) (s : RS) : ∀ j, (updH had s j).length = had.length
  | 0 => rfl
  | j + 1 => by rw [updH, List.length_set, updH_length had s j]
theorem updH_get {had : List Bool} {s : RS} (hl : had.length = 16) : ∀ j, j ≤ 16 → ∀ i, i < 16 → (updH had s j)[i]?.getD false = if i < j then (had[i]?.getD false || s.key i != 0) else had[i]?.getD false
  | 0, _, i, _ => rfl
  | j + 1, hj, i, hi => by
    rw [updH, List.getElem?_set]
    by_cases e : j = i
    · subst e
      rw [if_pos rfl, if_pos (by rw [updH_length, hl]; exact hi), if_pos (by omega)]
      rfl
    · rw [if_neg e, updH_get hl j (by omega) i hi]
      by_cases q : i < j
      · rw [if_pos q, if_pos (by omega)]
      · rw [if_neg q, if_neg (by omega)]
def hadAt (had : List Bool) (n : Nat) : Bool := had[n]?.getD false
def HadInv (s : RS) (had : List Bool) : Prop := ∀ n, n < 16 → (hadAt had n = true → s.key n = 0 → s.fen n = true) ∧ (s.fen n = true → hadAt had n = true) ∧ (s.key n ≠ 0 → hadAt had n = true)
theorem had_step {s s' : RS} {had : List Bool} (h : HadInv s had) (hc : ∀ n, n < 16 → Chg s s' n) : ∀ n, n < 16 → (hadAt had n = true → s'.key n = 0 → s'.fen n = true) ∧ (s'.fen n = true → hadAt had n = true) := by
  intro n hn
  obtain ⟨h1, h2, h3⟩ := h n hn
  rcases hc n hn with ⟨e1, e2⟩ | ⟨e0, e1, e2⟩ | ⟨e1, e2⟩
  · rw [e1, e2]; exact ⟨h1, h2⟩
  · exact ⟨fun _ _ => e2, fun _ => h3 e0⟩
  · exact ⟨fun _ h => absurd h e1, fun h => by rw [e2] at h; cases h⟩
theorem had_done {s' : RS} {had : List Bool} (hl : had.length = 16) (h : ∀ n, n < 16 → (hadAt had n = true → s'.key n = 0 → s'.fen n = true) ∧ (s'.fen n = true → hadAt had n = true)) : HadInv s' (updH had s' 16) := by
  intro n hn
  obtain ⟨h1, h2⟩ := h n hn
  have e : hadAt (updH had s' 16) n = (hadAt had n || s'.key n != 0) := by
    unfold hadAt
    rw [updH_get hl 16 (by omega) n hn, if_pos hn]
  rw [e]
  refine ⟨fun h k => h1 ?_ k, fun h => by rw [h2 h]; rfl, fun h => ?_⟩
  · rw [k] at h
    simpa using h
  · have : (s'.key n != 0) = true := by simp [h]
    rw [this, Bool.or_true]
theorem had_new : HadInv newRS (List.replicate 16 false) := by
  intro n hn
  have e1 : hadAt (List.replicate 16 false) n = false := by unfold hadAt; rw [List.getElem?_replicate]; split <;> rfl
  have e2 : newRS.fen n = false := by unfold newRS RS.fen; rw [List.getElem?_replicate]; split <;> rfl
  have e3 : newRS.key n = 0 := by unfold newRS RS.key; rw [List.getElem?_replicate]; split <;> rfl
  rw [e1, e2, e3]
  exact ⟨fun h => by (cases h), fun h => by (cases h), fun h => absurd rfl h⟩
def byBo (l : List Bool) : List Value := l.map Value.bool
theorem run_makeBo (w : World) :
    (Instr.makeSlice 25 (.int .i64 16) (.int .i64 16)).run Try.prog w = .ok (.slice (some ⟨w.heap.size, 0, none⟩) 16 16) (w.alloc (.cells (byBo (List.replicate 16 false)).toArray 4)) := by kernel_rfl
theorem own_newBo (w : World) : (w.alloc (.cells (byBo (List.replicate 16 false)).toArray 4)).ownsRow w.heap.size 4 1 (.slice (some ⟨w.heap.size, 0, none⟩) 16 16) 16 (byBo (List.replicate 16 false)) := by
  have h := World.ownsRow_lit (w := w) (e := 4) (size := 1) (base := w.heap.size) (byBo (List.replicate 16 false)).toArray 16 (Nat.le_refl _) (by simp [maxLen]) rfl
  exact h
/-- In the loops. -/
structure FIn (w W : World) (g gh : Nat) (s : RS) (had : List Bool) : Prop where
  st : IsRS W g s
  f : Fenc s
  row : W.ownsRow w.heap.size 4 1 (.slice (some ⟨gh, 0, none⟩) 16 16) 16 (byBo had)
  b : Below w.heap.size w W
  g : w.heap.size ≤ g
theorem FIn.len {w W : World} {g gh : Nat} {s : RS} {had : List Bool} (h : FIn w W g gh s had) : had.length = 16 := by
  have := h.row.1
  simpa [byBo] using this
theorem FIn.ne {w W : World} {g gh : Nat} {s : RS} {had : List Bool} (h : FIn w W g gh s had) : gh ≠ g := fun e =>
  own_blk h.row h.st.blk (by decide) (by rw [e]; rfl)
theorem FIn.below {w W W' : World} {g gh : Nat} {s : RS} {had : List Bool} (h : FIn w W g gh s had) (hb : Below W.heap.size W W') : FIn w W' g gh s had := ⟨h.st.below hb, h.f, own_below (B := 0) h.row hb, bl_chain h.b hb, h.g⟩
theorem FIn.do_ {w W W' : World} {g gh : Nat} {s s' : RS} {had : List Bool} (h : FIn w W g gh s had) (hs : IsRS W' g s') (hc : ∀ n, n < 16 → Chg s s' n) (ht : Tr (fun b => b = g) W W') : FIn w W' g gh s' had :=
  ⟨hs, fenc_step h.f hc, own_tr h.row ht (fun b hb e => h.ne (by have := (Blo.some_iff _ _).1 hb; simp at this; omega)), bl_tr h.b ht (fun b e => by have := h.g; omega), h.g⟩
theorem FIn.store {w W : World} {g gh : Nat} {s : RS} {had : List Bool} (h : FIn w W g gh s had) (j : Nat) (v : Bool) : FIn w (W.setCell ⟨gh, j, none⟩ (.bool v)) g gh s (had.set j v) := by
  obtain ⟨s1, s2⟩ := own_stored h.row j (.bool v)
  have hge := own_ge h.row gh rfl
  refine ⟨h.st.tr s2 (fun hb => h.ne ((Blo.some_iff _ _).1 hb)), h.f, ?_, bl_tr h.b s2 (fun b hb => by have := (Blo.some_iff _ _).1 hb; simp at this; omega), h.g⟩
  unfold byBo at s1 ⊢
  rw [List.map_set]
  exact s1
theorem FIn.cell {w W : World} {g gh : Nat} {s : RS} {had : List Bool} (h : FIn w W g gh s had) {j : Nat} (hj : j < 16) : W.cell? ⟨gh, j, none⟩ = some (.bool (hadAt had j)) := by
  have hl := h.len
  rw [h.row.cellAt j (by omega), byBo, List.getElem?_map, hadAt, List.getElem?_eq_getElem (by omega)]
  rfl

set_option maxHeartbeats 8000000 in
set_option maxRecDepth 20000 in
theorem resvFences_walk (A : Option Addr) (c : Nat) (l : List ActS) (w : World) (hl : l.length ≤ 140737488351232)
    (hx : ∀ i (h : i < l.length), l[i].Ok ∧ ∃ b o, A = some ⟨b, o, none⟩ ∧ ∀ j u, l[i].cells[j]? = some u → w.cell? ⟨b, o + (i * 5 + j), none⟩ = some u) :
    Calls Try.prog 3 #[.slice A l.length c] w fun e w' => e = .returned (.bool true) ∧ Below w.heap.size w w' := by
  have HX := Lib.hid hx
  clear hx
  have hmk := run_makeBo
  go_enter Try.func3, Try.ntmps3
  go_wp2_with (first
    | (go_at_call 7; (with_reducible refine (new_any _).mono ?_); rintro e w1 ⟨rfl, hs, hb⟩; have HS1 := Lib.hid hs; have B1 := Lib.hid hb; clear hs hb))
  have F1 := Lib.hid (show FIn w _ _ _ _ _ from ⟨HS1.out.below (bl_alloc w1 _), fenc_new, ownsRow_base (own_newBo w1) B1.out.size, bl_chain B1.out (bl_alloc w1 _), Nat.le_refl _⟩)
  clear hmk HS1
  go_loopw [5] (fun v w2 => ∃ (k : Nat) (s : RS) (had : List Bool), k ≤ l.length ∧ k ≤ 80 ∧ v = .int .i64 k ∧ FIn w w2 w.heap.size w1.heap.size s had ∧ HadInv s had) (fun v _ => 80 - (intOf v).toNat)
  case atStart => exact ⟨0, newRS, List.replicate 16 false, by omega, by omega, rfl, F1.out, had_new⟩
  case round =>
    obtain ⟨k, s, had, hkl, hk, rfl, hf, hi⟩ := hrel
    have HF := Lib.hid hf
    have HI := Lib.hid hi
    clear hf hi F1
    by_cases hlt : k < l.length ∧ k < 80
    · obtain ⟨h1, h2⟩ := hlt
      obtain ⟨hok, ab, ao, rfl, hce⟩ := HX.out k h1
      have HOK := Lib.hid hok
      have hbl : ab < w.heap.size := cell_block_lt (hce 0 _ rfl)
      have x0 : ∀ W, Ext w W → W.cell? ⟨ab, ao + k * 5, none⟩ = some (.int .i64 (l[k]).n) := fun W hW => (hW.cell hbl).trans (hce 0 _ rfl)
      have x1 : ∀ W, Ext w W → W.cell? ⟨ab, ao + k * 5 + 1, none⟩ = some (.int .i64 (l[k]).c.act) := fun W hW => (hW.cell hbl).trans (hce 1 _ rfl)
      have x2 : ∀ W, Ext w W → W.cell? ⟨ab, ao + k * 5 + 1 + 1, none⟩ = some (.int .u64 (l[k]).c.key) := fun W hW => (hW.cell hbl).trans (hce 2 _ rfl)
      have x3 : ∀ W, Ext w W → W.cell? ⟨ab, ao + k * 5 + 1 + 2, none⟩ = some (.int .u64 (l[k]).c.new) := fun W hW => (hW.cell hbl).trans (hce 3 _ rfl)
      have x4 : ∀ W, Ext w W → W.cell? ⟨ab, ao + k * 5 + 1 + 3, none⟩ = some (.int .i64 (l[k]).c.kind) := fun W hW => (hW.cell hbl).trans (hce 4 _ rfl)
      clear hok hce
      generalize l[k] = y at HOK x0 x1 x2 x3 x4
      have HFD := Lib.hid (HF.out.below (bl_drew wr))
      go_wp2_with fail
      refine ext_start0 (w0 := w) (by kernel_rfl) ?_
      refine ext_take0 (w0 := w) (HFD.out.b) (i := 0) (v := ?_) rfl (by kernel_rfl) (by kernel_rfl) (by kernel_rfl) (fun _ _ _ h => h) (Or.inl ⟨by rfl, ?_⟩) ?_
      rotate_left
      · (intro W hSw; go_simp; try with_reducible rfl)
      try simp only [Act.put, List.setIfInBounds_toArray, List.set_cons_zero, List.set_cons_succ]
      refine ext_take0 (w0 := w) (HFD.out.b) (i := 1) (v := ?_) rfl (by kernel_rfl) (by kernel_rfl) (by kernel_rfl) (fun _ _ _ h => h) (Or.inl ⟨by rfl, ?_⟩) ?_
      rotate_left
      · (intro W hSw; go_simp; try with_reducible rfl)
      try simp only [Act.put, List.setIfInBounds_toArray, List.set_cons_zero, List.set_cons_succ]
      refine ext_take0 (w0 := w) (HFD.out.b) (i := 2) (v := ?_) rfl (by kernel_rfl) (by kernel_rfl) (by kernel_rfl) (fun _ _ _ h => h) (Or.inl ⟨by rfl, ?_⟩) ?_
      rotate_left
      · (intro W hSw; go_simp; try with_reducible rfl)
      try simp only [Act.put, List.setIfInBounds_toArray, List.set_cons_zero, List.set_cons_succ]
      refine ext_take0 (w0 := w) (HFD.out.b) (i := 3) (v := ?_) rfl (by kernel_rfl) (by kernel_rfl) (by kernel_rfl) (fun _ _ _ h => h) (Or.inl ⟨by rfl, ?_⟩) ?_
      rotate_left
      · (intro W hSw; go_simp; try with_reducible rfl)
      try simp only [Act.put, List.setIfInBounds_toArray, List.set_cons_zero, List.set_cons_succ]
      refine ext_take0 (w0 := w) (HFD.out.b) (i := 4) (v := ?_) rfl (by kernel_rfl) (by kernel_rfl) (by kernel_rfl) (fun _ _ _ h => h) (Or.inl ⟨by rfl, ?_⟩) ?_
      rotate_left
      · (intro W hSw; go_simp; try with_reducible rfl)
      try simp only [Act.put, List.setIfInBounds_toArray, List.set_cons_zero, List.set_cons_succ]
      refine ext_take0 (w0 := w) (HFD.out.b) (i := 5) (v := ?_) rfl (by kernel_rfl) (by kernel_rfl) (by kernel_rfl) (fun _ _ _ h => h) (Or.inl ⟨by rfl, ?_⟩) ?_
      rotate_left
      · (intro W hSw; go_simp; try with_reducible rfl)
      try simp only [Act.put, List.setIfInBounds_toArray, List.set_cons_zero, List.set_cons_succ]
      refine ext_take0 (w0 := w) (HFD.out.b) (i := 6) (v := ?_) rfl (by kernel_rfl) (by kernel_rfl) (by kernel_rfl) (fun _ _ _ h => h) (Or.inl ⟨by rfl, ?_⟩) ?_
      rotate_left
      · (intro W hSw; go_simp; try with_reducible rfl)
      try simp only [Act.put, List.setIfInBounds_toArray, List.set_cons_zero, List.set_cons_succ]
      refine ext_take0 (w0 := w) (HFD.out.b) (i := 7) (v := ?_) rfl (by kernel_rfl) (by kernel_rfl) (by kernel_rfl) (fun _ _ _ h => h) (Or.inl ⟨by rfl, ?_⟩) ?_
      rotate_left
      · (intro W hSw; go_simp; try with_reducible rfl)
      try simp only [Act.put, List.setIfInBounds_toArray, List.set_cons_zero, List.set_cons_succ]
      refine ext_take0 (w0 := w) (HFD.out.b) (i := 8) (v := ?_) rfl (by kernel_rfl) (by kernel_rfl) (by kernel_rfl) (fun _ _ _ h => h) (Or.inl ⟨by rfl, ?_⟩) ?_
      rotate_left
      · (intro W hSw; go_simp; try with_reducible rfl)
      try simp only [Act.put, List.setIfInBounds_toArray, List.set_cons_zero, List.set_cons_succ]
      refine ext_take0 (w0 := w) (HFD.out.b) (i := 9) (v := ?_) rfl (by kernel_rfl) (by kernel_rfl) (by kernel_rfl) (fun _ _ _ h => h) (Or.inl ⟨by rfl, ?_⟩) ?_
      rotate_left
      · (intro W hSw; go_simp; try with_reducible rfl)
      try simp only [Act.put, List.setIfInBounds_toArray, List.set_cons_zero, List.set_cons_succ]
      refine ext_take0 (w0 := w) (HFD.out.b) (i := 10) (v := ?_) rfl (by kernel_rfl) (by kernel_rfl) (by kernel_rfl) (fun _ _ _ h => h) (Or.inl ⟨by rfl, ?_⟩) ?_
      rotate_left
      · (intro W hSw; go_simp; try with_reducible rfl)
      try simp only [Act.put, List.setIfInBounds_toArray, List.set_cons_zero, List.set_cons_succ]
      refine ext_call0 (w0 := w) (i := 11) (by kernel_rfl) rfl (fun K hK => ?_)
      go_simp
      (first | (go_at_call 9; (with_reducible refine (given_any _ _ _ _ _).mono ?_); rintro e w4 ⟨rfl, hb⟩; have F4 := Lib.hid (HFD.out.below hb); clear hb))
      refine hK.out _ _ (F4.out.b) ?_
      clear hK K
      try simp only [Act.put, List.setIfInBounds_toArray, List.set_cons_zero, List.set_cons_succ]
      refine ext_call0 (w0 := w) (i := 12) (by kernel_rfl) rfl (fun K hK => ?_)
      go_simp
      (first | (go_at_call 8; (with_reducible refine (do_any F4.out.st y.n HOK.out.n y.c HOK.out.c).mono ?_); rintro e w5 ⟨A5, k5, rfl, hs, ho, ht⟩; have F5 := Lib.hid (F4.out.do_ hs (fun n hn => do_chg F4.out.st.ok y.n y.c hn) ht); have I5 := Lib.hid (had_step HI.out (fun n hn => do_chg F4.out.st.ok y.n y.c hn)); clear hs ho ht))
      refine hK.out _ _ (F5.out.b) ?_
      clear hK K
      try simp only [Act.put, List.setIfInBounds_toArray, List.set_cons_zero, List.set_cons_succ]
      refine wpAnyH_done (by kernel_rfl) ?_ _
      clear x0 x1 x2 x3 x4 HI
      generalize (doO s y.n y.c).s = s2 at F5 I5
      go_wp2_with fail
      obtain ⟨wo, rfl⟩ : ∃ wo : World, wo = wr := ⟨_, rfl⟩
      go_loopw [6] (fun v w2 => ∃ (j : Nat), j ≤ 16 ∧ v = .int .i64 j ∧ FIn w w2 w.heap.size w1.heap.size s2 (updH had s2 j)) (fun v _ => 16 - (intOf v).toNat)
      case atStart => exact ⟨0, by omega, rfl, F5.out⟩
      case round =>
        obtain ⟨j, hj, rfl, hf6⟩ := hrel
        have F6 := Lib.hid hf6
        clear hf6
        by_cases hgo : j < 16
        · have hlen := F5.out.len
          have HE : Hid (hadAt (updH had s2 j) j = hadAt had j) := Lib.hid (by unfold hadAt; rw [updH_get hlen j hj j hgo, if_neg (by omega)])
          have hc := F6.out.cell hgo
          rw [HE.out] at hc
          have hfr : wr.frozen? ⟨w1.heap.size, j, none⟩ = false := F6.out.row.frozenAt j
          obtain ⟨i1, i2⟩ := I5.out j hgo
          have i3 := F5.out.f j hgo
          have hcs : (hadAt had j = true ∧ (s2.key j != 0) = true ∧ s2.fen j = false) ∨ (hadAt had j = false ∧ (s2.key j != 0) = true ∧ s2.fen j = false) ∨ (hadAt had j = true ∧ (s2.key j != 0) = false ∧ s2.fen j = true ∧ mayW s2 j = false) ∨ (hadAt had j = false ∧ (s2.key j != 0) = false ∧ s2.fen j = false) := by
            by_cases hz : s2.key j = 0
            · have z : (s2.key j != 0) = false := by simp [hz]
              cases hh : hadAt had j
              · right; right; right
                refine ⟨rfl, z, ?_⟩
                cases hf : s2.fen j
                · rfl
                · have := i2 hf; rw [hh] at this; cases this
              · right; right; left
                have hf := i1 hh hz
                exact ⟨rfl, z, hf, by unfold mayW; rw [hf]; rfl⟩
            · have z : (s2.key j != 0) = true := by simp [hz]
              have hf := i3 hz
              cases hh : hadAt had j
              · exact .inr (.inl ⟨rfl, z, hf⟩)
              · exact .inl ⟨rfl, z, hf⟩
          have HU : Hid (updH had s2 (j + 1) = (updH had s2 j).set j (hadAt had j || s2.key j != 0)) := Lib.hid rfl
          clear i1 i2 i3 hlen
          rcases hcs with ⟨p1, p2, p3⟩ | ⟨p1, p2, p3⟩ | ⟨p1, p2, p3, p4⟩ | ⟨p1, p2, p3⟩
          all_goals
            rw [p1] at hc
            have HP1 := Lib.hid p1
            have HP2 := Lib.hid p2
            clear p1
            go_wp2_with (first
              | (go_at_call 10; (with_reducible refine (key_any F6.out.st j hgo).mono ?_); rintro e w' ⟨rfl, rfl⟩)
              | (go_at_call 11; (with_reducible refine (mayw_any F6.out.st j hgo).mono ?_); rintro e w' ⟨rfl, rfl⟩; rw [p4])
              | (go_at_call 12; (with_reducible refine (fenced_any F6.out.st j hgo).mono ?_); rintro e w' ⟨rfl, rfl⟩; rw [p3])
              | (go_at_call 12; (with_reducible refine (fenced_any (F6.out.store j _).st j hgo).mono ?_); rintro e w' ⟨rfl, rfl⟩; rw [p3]))
            go_roundw
            case rel =>
              refine ⟨j + 1, by omega, by go_num, ?_⟩
              rw [HU.out, HP1.out, HP2.out]
              exact F6.out.store j _
            case measure => simp [intOf]; omega
        · have hj16 : j = 16 := by omega
          subst hj16
          have HI7 := Lib.hid (had_done F5.out.len I5.out)
          clear hj hgo
          go_wp2_with fail
          go_roundw
          case rel => exact ⟨k + 1, s2, updH had s2 16, by omega, by omega, by go_num, F6.out, HI7.out⟩
          case measure => simp [intOf]; omega
    · have hcase : (k < l.length ∧ k = 80) ∨ k = l.length := by omega
      clear hlt
      rcases hcase with ⟨h1, h2⟩ | h1
      all_goals
        go_wp2_with (first
          | (go_at_call 13; (with_reducible refine (known_any _).mono ?_); rintro e w7 ⟨rfl, hb⟩; have B7 := Lib.hid hb; clear hb))
        go_ret
        exact ⟨by rfl, bl_chain HF.out.b B7.out⟩
end Go.Proofs.Ytlkdglhbncnkhaa
