/- The reference: LentChanges. -/
import Derived.Test.YtdddbpnllhnfdaaRefX5
namespace Go.Proofs.Ytdddbpnllhnfdaa
set_option linter.unusedVariables false
set_option linter.unusedSimpArgs false
set_option maxRecDepth 100000
open Go.RowKit Go.Shelf

theorem infoCh : (Try.prog.info? 33).map (fun i => (i.zero, i.size, i.bytes)) = some (some (.agg #[.int .i64 0, .slice none 0 0]), 2, 32) := by kernel_rfl
theorem ECh : AppTy Try.prog 23 33 2 32 := AppTy.mk' Try.underlying23 infoCh rfl (by omega)
/-- The cells of changes. -/
def chCells (l : List ChS) : List Value := l.flatMap ChS.cells
theorem chCells_length : ∀ l : List ChS, (chCells l).length = l.length * 2
  | [] => rfl
  | y :: l => by
    show (y.cells ++ chCells l).length = _
    rw [List.length_append, chCells_length l]
    simp [ChS.cells]
    omega
theorem chCells_at : ∀ (l : List ChS) (i j : Nat) (h : i < l.length) (u : Value), l[i].cells[j]? = some u → (chCells l)[i * 2 + j]? = some u
  | y :: l, 0, j, h, u, hu => by
    show (y.cells ++ chCells l)[0 * 2 + j]? = _
    rw [List.getElem?_append_left (by have := (List.getElem?_eq_some_iff.1 hu).1; simpa using this)]
    simpa using hu
  | y :: l, i + 1, j, h, u, hu => by
    show (y.cells ++ chCells l)[(i + 1) * 2 + j]? = _
    rw [List.getElem?_append_right (by simp [ChS.cells]; omega)]
    have := chCells_at l i j (by simpa using h) u (by simpa using hu)
    rw [← this]
    congr 1
    simp [ChS.cells]
    omega
/-- Changes in memory of their own, from B0 on. -/
structure LentAt (w : World) (B0 : Nat) (A : Option Addr) (c : Nat) (l : List ChS) : Prop where
  row : w.ownsRow B0 33 2 (.slice A l.length c) l.length (chCells l)
  data : ∀ y ∈ l, w.ownsRow B0 5 1 (.slice y.A y.d.length y.c) y.d.length (by8 y.d)
  apart : l.Pairwise (fun a b => ∀ x, Blo a.A x → ¬ Blo b.A x)
  ok : ∀ y ∈ l, (-9223372036854775808 ≤ y.lba ∧ y.lba ≤ 9223372036854775807) ∧ isB y.d ∧ y.d.length ≤ 140737488351232
theorem LentAt.chs {w : World} {B0 : Nat} {A : Option Addr} {c : Nat} {l : List ChS} (h : LentAt w B0 A c l) : ChsAt w A l := fun i hi => by
  have hm := List.getElem_mem hi
  obtain ⟨o1, o2, o3⟩ := h.ok _ hm
  refine ⟨⟨o1, Rd.of_own (h.data _ hm), o2, o3⟩, ?_⟩
  rcases h.row.2 with ⟨_, e⟩ | ⟨g, cap, cur, hv, hb, hh, _, _, _, ht⟩
  · omega
  · injection hv with e1 e2 e3
    subst e1
    refine ⟨g, 0, rfl, fun j u hu => ?_⟩
    have hc := chCells_at l i j hi u hu
    rw [Nat.zero_add, cell_of_row w g (i * 2 + j) cur 33 (0, 0) hh]
    rw [← ht] at hc
    rw [List.getElem?_take] at hc
    split at hc
    · simpa using hc
    · cases hc
theorem LentAt.tr {w w' : World} {F : Nat → Prop} {B0 : Nat} {A : Option Addr} {c : Nat} {l : List ChS} (h : LentAt w B0 A c l) (ht : Tr F w w') (hF : ∀ b, B0 ≤ b → b < w.heap.size → ¬ F b) : LentAt w' B0 A c l :=
  ⟨own_tr h.row ht (fun b hb => hF b (own_ge h.row b hb) (own_lt h.row b hb)), fun y hy => own_tr (h.data y hy) ht (fun b hb => hF b (own_ge (h.data y hy) b hb) (own_lt (h.data y hy) b hb)), h.apart, h.ok⟩
theorem Rd.cellx {w w' : World} (hb : Below w.heap.size w w') {p : Addr} {v : Value} (h : w.cell? p = some v) : w'.cell? p = some v := (hb.cell (cell_block_lt h)).trans h
theorem LentAt.trc {w w' : World} {F : Nat → Prop} {B0 : Nat} {A : Option Addr} {c : Nat} {l : List ChS} (h : LentAt w B0 A c l) (ht : Tr F w w') (hF : NoCells w F) : LentAt w' B0 A c l :=
  ⟨own_trc h.row ht hF, fun y hy => own_trc (h.data y hy) ht hF, h.apart, h.ok⟩
theorem chRight_kd (n : Nat) : ∀ (l l' : List ChS), l'.map ChS.kd = l.map ChS.kd → chRight n l' = chRight n l
  | [], [], _ => rfl
  | [], _ :: _, h => by simp at h
  | _ :: _, [], h => by simp at h
  | y :: l, y' :: l', h => by
    simp only [List.map_cons, List.cons.injEq] at h
    have h1 : y'.lba = y.lba ∧ y'.d = y.d := by simpa [ChS.kd] using h.1
    show (chOk n y' && chRight n l') = (chOk n y && chRight n l)
    rw [chRight_kd n l l' h.2]
    unfold chOk
    rw [h1.1, h1.2]
theorem chTo_kd : ∀ (l l' : List ChS) (L : List (List Int)), l'.map ChS.kd = l.map ChS.kd → chTo L l' = chTo L l
  | [], [], _, _ => rfl
  | [], _ :: _, _, h => by simp at h
  | _ :: _, [], _, h => by simp at h
  | y :: l, y' :: l', L, h => by
    simp only [List.map_cons, List.cons.injEq] at h
    have h1 : y'.lba = y.lba ∧ y'.d = y.d := by simpa [ChS.kd] using h.1
    show chTo (L.set y'.lba.toNat y'.d) l' = chTo (L.set y.lba.toNat y.d) l
    rw [h1.1, h1.2, chTo_kd l l' _ h.2]
theorem change_kd {l l' : List ChS} (h : l'.map ChS.kd = l.map ChS.kd) (L : List (List Int)) : changeL L l' = changeL L l ∧ changeE L.length l' = changeE L.length l := by
  unfold changeL changeE
  rw [chRight_kd _ l l' h, chTo_kd l l' L h]
  exact ⟨rfl, rfl⟩
set_option maxHeartbeats 3200000 in
theorem lentch_any (A : Option Addr) (k : Nat) (l : List ChS) (w : World) (hl : l.length ≤ 4398046510976) (hA : ChsAt w A l) :
    Calls Try.prog 61 #[.slice A l.length k] w fun e w' => ∃ A' k' l', e = .returned (.slice A' l'.length k') ∧ l'.map ChS.kd = l.map ChS.kd ∧ LentAt w' w.heap.size A' k' l' ∧ Below w.heap.size w w' := by
  have HA := Lib.hid hA
  clear hA
  go_enter Try.func61, Try.ntmps61
  go_wp2_with fail
  go_loopw [3, 4, 5] (fun v v2 _ W => ∃ j : Nat, ∃ A' k' l', j ≤ l.length ∧ v2 = .int .i64 (j : Int) ∧ v = .slice A' l'.length k' ∧ l'.map ChS.kd = (l.take j).map ChS.kd ∧ LentAt W w.heap.size A' k' l' ∧ Below w.heap.size w W) (fun _ v _ _ => l.length - (RowKit.intOf v).toNat)
  case atStart => exact ⟨0, none, 0, [], by omega, rfl, rfl, rfl, ⟨ownsRow_emp _ _ _ _, fun y hy => (by cases hy), List.Pairwise.nil, fun y hy => (by cases hy)⟩, Below.refl _ _⟩
  case round =>
    obtain ⟨j, A', k', l', hj, rfl, rfl, hk, hL, hb⟩ := hrel
    have HL := Lib.hid hL
    have HB := Lib.hid hb
    have HK := Lib.hid hk
    have hll : l'.length = j := by have := congrArg List.length hk; simp at this; omega
    clear hL hb hk
    by_cases hlt : j < l.length
    · obtain ⟨hin, b, o, rfl, hc⟩ := (HA.out.below HB.out) j hlt
      have x0 := hc 0 _ rfl
      have x1 := hc 1 _ rfl
      simp only [Nat.add_zero] at x0
      rw [← Nat.add_assoc] at x1
      have HTK := Lib.hid (show l.take (j + 1) = l.take j ++ [l[j]] from List.take_succ_eq_append_getElem hlt)
      have HIN := Lib.hid hin
      clear hc hin
      generalize l[j] = y at x0 x1 HTK HIN
      have hyl := HIN.out.len
      have HRD := Lib.hid (HIN.out.rd.below (bl_alloc wr (.cells #[.int .i64 y.lba, .slice none 0 0] 33)))
      have y1 := (Rd.cellx (bl_alloc wr (.cells #[.int .i64 y.lba, .slice none 0 0] 33)) x1)
      have hcb : Blk (wr.alloc (.cells #[.int .i64 y.lba, .slice none 0 0] 33)) wr.heap.size 33 #[.int .i64 y.lba, .slice none 0 0] := Blk.new _ _ _
      have z1 : (wr.alloc (.cells #[.int .i64 y.lba, .slice none 0 0] 33)).cell? ⟨wr.heap.size, 1, none⟩ = some (.slice none 0 0) := hcb.cell 1
      have HL1 := Lib.hid (HL.out.tr (Tr.of_below (F := NoB) (bl_alloc wr (.cells #[.int .i64 y.lba, .slice none 0 0] 33))) (fun _ _ _ h => h))
      have HB1 := Lib.hid (bl_chain HB.out (bl_alloc wr (.cells #[.int .i64 y.lba, .slice none 0 0] 33)))
      have HCB := Lib.hid hcb
      have HBW := Lib.hid (bl_alloc wr (.cells #[.int .i64 y.lba, .slice none 0 0] 33))
      have hsz1 : wr.heap.size + 1 = (wr.alloc (.cells #[.int .i64 y.lba, .slice none 0 0] 33)).heap.size := by simp
      obtain ⟨dn, hdn⟩ : ∃ dn, y.d.length = dn := ⟨_, rfl⟩
      rw [hdn] at x1 y1 hyl
      have HDN := Lib.hid hdn
      clear hcb hdn
      go_wp2_with fail
      generalize hW : wr.alloc (.cells #[.int .i64 y.lba, .slice none 0 0] 33) = W1 at HRD y1 z1 HL1 HB1 HCB HBW hsz1 ⊢
      clear hW x0 x1
      have hzz := HB.out.size
      go_region_law (refine stepR_append E8 rfl rfl (ownsRow_emp W1.drew W1.heap.size _ _) rfl HRD.out.drew rfl (by rw [by8_length, HDN.out]; simp) (by8_one _) dn (by8 y.d) (by simp) (by simp) (by simp only [maxLen]; omega) (by omega) (Nat.le_refl _) ?_; intro A3 c3 w3 hc3 ho3 ht3 _; have hb3 : Below W1.drew.heap.size W1.drew w3 := ht3.below (fun b _ h => Blo.none b h); have hk3 := HCB.out.drew.keep hb3; have z3 := hk3.cell 1; have f3 := hk3.frozen 1; simp at z3; have HO3 := Lib.hid ho3; have HB3 := Lib.hid hb3; have HK3 := Lib.hid hk3; clear ho3 ht3 hb3 hk3)
      all_goals
        have hk4 := HK3.out.set_ 1 (.slice A3 dn c3)
        have T4 : Tr (fun x => x = wr.heap.size) wr (w3.setCell ⟨wr.heap.size, 1, none⟩ (.slice A3 dn c3)) := (((Tr.of_below (F := fun x => x = wr.heap.size) HBW.out).drew).then_below HB3.out).setCell (p := ⟨wr.heap.size, 1, none⟩) (fun _ => rfl) _
        have hL4 := HL.out.tr T4 (fun b _ h e => by omega)
        have ho4 := own_tr HO3.out ((Tr.refl (fun x => x = wr.heap.size) w3).setCell (p := ⟨wr.heap.size, 1, none⟩) (fun _ => rfl) (.slice A3 dn c3)) (fun b hx hq => own_blk HO3.out HK3.out (by decide) (hq ▸ hx))
        have hb4 : Below w.heap.size w (w3.setCell ⟨wr.heap.size, 1, none⟩ (.slice A3 dn c3)) := HB.out.trans (T4.to_below HB.out.size (fun b e => by rw [e]; exact hzz))
        generalize w3.setCell ⟨wr.heap.size, 1, none⟩ (.slice A3 dn c3) = W4 at hk4 hL4 ho4 hb4 T4 ⊢
        have u0 : W4.cell? ⟨wr.heap.size, 0, none⟩ = some (.int .i64 y.lba) := hk4.cell 0
        have u1 : W4.cell? ⟨wr.heap.size, 1, none⟩ = some (.slice A3 dn c3) := hk4.cell 1
        have HK4 := Lib.hid hk4
        have HL4 := Lib.hid hL4
        have HO4 := Lib.hid ho4
        have HB4 := Lib.hid hb4
        have hrow := hL4.row
        rw [hll] at hrow
        have HROW := Lib.hid hrow
        have hz4 := hb4.size
        clear hk4 hL4 ho4 hb4 hrow z1 y1
        obtain ⟨l2, hl2⟩ : ∃ l2, l' ++ [(⟨A3, c3, y.lba, y.d⟩ : ChS)] = l2 := ⟨_, rfl⟩
        have hcells : chCells l' ++ [.int .i64 y.lba, .slice A3 dn c3] = chCells l2 := by
          rw [← hl2, chCells, chCells, List.flatMap_append]
          simp [ChS.cells, HDN.out]
        have HL2 := Lib.hid hl2
        have HCE := Lib.hid hcells
        clear hl2 hcells
        go_wp2_with (first
          | (at_builtin; refine wpL_append ECh rfl rfl (HROW.out.alloc _) rfl (Rd.newN W4 33 #[.int .i64 y.lba, .slice A3 dn c3]) rfl (by rfl) (by simp [Value.oneCell']) (j + 1) (chCells l2) rfl HCE.out (by simp only [maxLen]; omega) (by omega) (by simp; omega) ?_; intro A5 c5 w5 hc5 ho5 ht5 _; have HO5 := Lib.hid ho5; have HT5 := Lib.hid ht5; clear ho5 ht5)
          | go_in)
        have hl2n : l2.length = j + 1 := by rw [← HL2.out]; simp [hll]
        have hfar : ∀ (y' : ChS), (w4 : World) → w4 = W4.alloc (.cells #[.int .i64 y.lba, .slice A3 dn c3] 33) → ∀ B1, w4.ownsRow B1 5 1 (.slice y'.A y'.d.length y'.c) y'.d.length (by8 y'.d) → w5.ownsRow B1 5 1 (.slice y'.A y'.d.length y'.c) y'.d.length (by8 y'.d) := fun y' w4 e B1 h => by
          subst e
          exact own_tr h HT5.out (fun b hx hq => own_two_ne (HROW.out.alloc _) h (by decide) hq hx)
        refine ⟨⟨j + 1, A5, c5, l2, by omega, by go_num, by rw [hl2n], ?_, ⟨?_, ?_, ?_, ?_⟩, ?_⟩, by simp [RowKit.intOf]; omega⟩
        · rw [HTK.out, List.map_append, ← HK.out, ← HL2.out, List.map_append]
          rfl
        · rw [hl2n]; exact HO5.out
        · intro y' hy'
          rw [← HL2.out] at hy'
          rcases List.mem_append.1 hy' with hy' | hy'
          · exact hfar y' _ rfl _ ((HL4.out.data y' hy').alloc _)
          · obtain rfl := List.mem_singleton.1 hy'
            refine hfar _ _ rfl _ (World.ownsRow.alloc ?_ _)
            show W4.ownsRow w.heap.size 5 1 (.slice A3 y.d.length c3) y.d.length (by8 y.d)
            rw [HDN.out]
            exact ownsRow_base HO4.out (by omega)
        · rw [← HL2.out, List.pairwise_append]
          refine ⟨HL4.out.apart, List.pairwise_singleton _ _, fun a' ha' b' hb' x hx hx2 => ?_⟩
          obtain rfl := List.mem_singleton.1 hb'
          have e1 := own_lt (HL.out.data a' ha') x hx
          have e2 := own_ge HO3.out x hx2
          omega
        · intro y' hy'
          rw [← HL2.out] at hy'
          rcases List.mem_append.1 hy' with hy' | hy'
          · exact HL4.out.ok y' hy'
          · obtain rfl := List.mem_singleton.1 hy'
            exact ⟨HIN.out.lb, HIN.out.b, HIN.out.len⟩
        · exact (bl_chain HB4.out (bl_alloc W4 _)).trans (HT5.out.to_below (B := w.heap.size) (by simp; omega) (fun b hb => own_ge HROW.out b hb))
    · go_wp2_with fail
      go_ret
      exact ⟨A', k', l', rfl, by rw [HK.out, List.take_of_length_le (by omega)], HL.out, HB.out⟩
end Go.Proofs.Ytdddbpnllhnfdaa
