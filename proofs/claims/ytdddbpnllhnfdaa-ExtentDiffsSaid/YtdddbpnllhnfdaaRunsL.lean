/- runs of the laws of 05: the runs of an image as a list of pairs; played. -/
import Derived.Test.YtdddbpnllhnfdaaExtK
namespace Go.Proofs.Ytdddbpnllhnfdaa
set_option linter.unusedVariables false
set_option linter.unusedSimpArgs false
set_option maxRecDepth 100000
open Go.RowKit Go.Shelf

attribute [local go_sem] Oper.semAt_some

theorem infoSI : (Try.prog.info? 40).map (fun i => (i.zero, i.size, i.bytes)) = some (some (.slice none 0 0), 1, 24) := by kernel_rfl
theorem ESI : AppTy Try.prog 38 40 1 24 := AppTy.mk' Try.underlying38 infoSI rfl (by omega)
/-- A list of pairs in memory: each pair a slice of two. -/
def PairsAt (w : World) (lo : Nat) (vs : List Value) (l : List (Int × Nat)) : Prop := ∀ (i : Nat) (p : Int × Nat), l[i]? = some p → ∃ b : Nat, vs[i]? = some (.slice (some ⟨b, 0, none⟩) 2 2) ∧ lo ≤ b ∧ Blk w b 3 #[.int .i64 p.1, .int .i64 (p.2 : Nat)]
structure LSt (w w5 : World) (l : List (Int × Nat)) (W : World) : Prop where
  row : ∃ A c vs, Blk W w.heap.size 38 #[.slice A l.length c] ∧ W.ownsRow w5.heap.size 40 1 (.slice A l.length c) l.length vs ∧ l.length ≤ c ∧ PairsAt W w5.heap.size vs l
  bl : Below w.heap.size w W
  sz : w5.heap.size ≤ W.heap.size
section
variable {w w5 : World} {G b5 : Nat} {l : List (Int × Nat)} {W : World}
theorem PairsAt.tr {F : Nat → Prop} {W' : World} {lo : Nat} {vs : List Value} (h : PairsAt W lo vs l) (ht : Tr F W W') (hF : ∀ b cs, Blk W b 3 cs → ¬ F b) : PairsAt W' lo vs l := fun i p hp => by
  obtain ⟨b, h1, h2, h3⟩ := h i p hp
  exact ⟨b, h1, h2, ht.blk h3 (hF b _ h3)⟩
theorem LSt.turn (h : LSt w w5 l W) {W' : World} {row : Option Nat} {n : Nat} (hn : w.heap.size ≤ n) (hg : W.grownBy W' row) (hr : ∀ r, row = some r → n ≤ r ∧ ∃ o : Obj, W.heap[r]? = some o ∧ o.isCells = false) : LSt w w5 l W' := by
  obtain ⟨⟨A, c, vs, h1, h2, h3, h4⟩, h5, h6⟩ := h
  refine ⟨⟨A, c, vs, h1.turn (turn_of hg hr), own_turn h2 (turn_of hg hr), h3, h4.tr (turn_of hg hr) (fun b cs hb => ?_)⟩, below_turn h5 h5.size hg hr hn, Nat.le_trans h6 hg.size⟩
  rintro ⟨o, ho, hc⟩
  have := hb.symm.trans ho
  injection this with this
  subst this
  cases hc
theorem LSt.app (h : LSt w w5 l W) (h5s : w.heap.size < w5.heap.size) {p : Int × Nat} {W2 : World} {A A' : Option Addr} {c c' : Nat} {vs : List Value}
    (hb : Blk W w.heap.size 38 #[.slice A l.length c]) (ho : W.ownsRow w5.heap.size 40 1 (.slice A l.length c) l.length vs) (hp : PairsAt W w5.heap.size vs l)
    (ho2 : W2.ownsRow w5.heap.size 40 1 (.slice A' (l.length + 1) c') (l.length + 1) (vs ++ [.slice (some ⟨W.heap.size, 0, none⟩) 2 2])) (hc : l.length + 1 ≤ c')
    (ht : Tr (Blo A) ((W.alloc (.cells #[.int .i64 p.1, .int .i64 (p.2 : Nat)] 3)).alloc (.cells #[.slice (some ⟨W.heap.size, 0, none⟩) 2 2] 40)) W2) (hG : w.heap.size < G ∧ G < w5.heap.size) (h5 : w.heap.size < b5 ∧ b5 < w5.heap.size) :
    LSt w w5 (l ++ [p]) (W2.setCell ⟨w.heap.size, 0, none⟩ (.slice A' (l.length + 1) c')) ∧ KeepsOthers W (W2.setCell ⟨w.heap.size, 0, none⟩ (.slice A' (l.length + 1) c')) ∧ Two G b5 W (W2.setCell ⟨w.heap.size, 0, none⟩ (.slice A' (l.length + 1) c')) := by
  have hbn : Blk ((W.alloc (.cells #[.int .i64 p.1, .int .i64 (p.2 : Nat)] 3)).alloc (.cells #[.slice (some ⟨W.heap.size, 0, none⟩) 2 2] 40)) W.heap.size 3 #[.int .i64 p.1, .int .i64 (p.2 : Nat)] := (Blk.new W _ _).alloc _
  have h1 : Below W.heap.size W ((W.alloc (.cells #[.int .i64 p.1, .int .i64 (p.2 : Nat)] 3)).alloc (.cells #[.slice (some ⟨W.heap.size, 0, none⟩) 2 2] 40)) := bl_chain (bl_alloc W _) (bl_alloc _ _)
  generalize (W.alloc (.cells #[.int .i64 p.1, .int .i64 (p.2 : Nat)] 3)).alloc (.cells #[.slice (some ⟨W.heap.size, 0, none⟩) 2 2] 40) = W1 at hbn h1 ht
  have hsz := h.sz
  have hsz1 := h1.size
  have hsz2 := ht.size
  have hblt := hb.lt
  have hbA : ¬ Blo A w.heap.size := own_blk ho hb (by decide)
  have t1 : Tr (Blo A) W W2 := (Tr.of_below (F := Blo A) h1).trans ht (fun _ _ h => h)
  have hb2 := t1.blk hb hbA
  have hge := own_ge ho
  have hltA := own_lt ho
  have hn2 : Blk W2 W.heap.size 3 #[.int .i64 p.1, .int .i64 (p.2 : Nat)] := ht.blk hbn (fun h => by have := hltA _ h; omega)
  have t2 : Tr (fun b => Blo A b ∨ b = w.heap.size) W (W2.setCell ⟨w.heap.size, 0, none⟩ (.slice A' (l.length + 1) c')) := (t1.mono (fun b _ h => .inl h)).setCell (p := ⟨w.heap.size, 0, none⟩) (fun _ => .inr rfl) _
  have hk : ∀ r, r < W.heap.size → ¬ Blo A r → r ≠ w.heap.size → (W2.setCell ⟨w.heap.size, 0, none⟩ (.slice A' (l.length + 1) c')).heap[r]? = W.heap[r]? := fun r h1 h2 h3 => (Below.heap_setCell _ _ _ _ h3).trans (t1.block r h1 h2)
  refine ⟨⟨⟨A', c', vs ++ [.slice (some ⟨W.heap.size, 0, none⟩) 2 2], ?_, ?_, ?_, ?_⟩, ?_, by simpa [World.setCell] using Nat.le_trans hsz t1.size⟩, ?_, ?_, ?_⟩
  rotate_left
  · rw [List.length_append]
    exact own_tr ho2 ((Tr.refl (fun b => b = w.heap.size) W2).setCell (p := ⟨w.heap.size, 0, none⟩) (fun _ => rfl) _) (fun b hx hq => own_blk ho2 hb2 (by decide) (hq ▸ hx))
  · simpa using hc
  · intro i q hq
    rw [List.getElem?_append] at hq
    split at hq
    · rename_i hi
      obtain ⟨b, e1, e2, e3⟩ := hp i q hq
      have hv : i < vs.length := (List.getElem?_eq_some_iff.1 e1).1
      refine ⟨b, by rw [List.getElem?_append_left hv]; exact e1, e2, t2.blk e3 ?_⟩
      rintro (hx | hx)
      · exact own_blk ho e3 (by decide) hx
      · exact absurd (hx ▸ e2) (by omega)
    · rename_i hi
      have hi2 : i = l.length := by
        have := (List.getElem?_eq_some_iff.1 hq).1
        simp at this
        omega
      subst hi2
      simp at hq
      subst hq
      have hv : vs.length = l.length := by have := ho.1; simpa using this
      refine ⟨W.heap.size, by rw [List.getElem?_append_right (by omega), hv]; simp, hsz, ?_⟩
      exact hn2.far (p := ⟨w.heap.size, 0, none⟩) (by show W.heap.size ≠ w.heap.size; omega) _
  · have t3 : Tr (fun b => w.heap.size ≤ b) W (W2.setCell ⟨w.heap.size, 0, none⟩ (.slice A' (l.length + 1) c')) := t2.mono (fun b _ h => by
      rcases h with h | h
      · have := hge b h; omega
      · omega)
    exact h.bl.trans (t3.to_below h.bl.size (fun b h => h))
  · refine keeps_tr t2 (fun b hb' o ho' => ?_)
    rcases hb' with h | rfl
    · exact own_cellsB ho h ho'
    · have := hb.symm.trans ho'
      injection this with this
      subst this
      rfl
  · exact hk G (by omega) (fun h => by have := hge _ h; omega) (by omega)
  · exact hk b5 (by omega) (fun h => by have := hge _ h; omega) (by omega)
  · rw [List.length_append]
    exact hb2.set_ 0 _
end
theorem rn_all (l : List Int) : (List.range (runsG l).length).map (fun x => rnAt l (idx (runsG l).length x)) = runsG l := by
  apply List.ext_getElem?
  intro i
  rw [List.getElem?_map]
  by_cases hi : i < (runsG l).length
  · rw [List.getElem?_range hi]
    simp [idx_of hi, rnAt, hi]
  · rw [List.getElem?_eq_none (by simpa using hi), List.getElem?_eq_none (by omega)]
    rfl
section
variable {w : World} {g B : Nat} {L : List (List Int)} {D : DataW Unit} {M : Nat → Prop}
set_option maxHeartbeats 4000000 in
theorem lruns_any (h : IsImg w g L B D M) : Calls Try.prog 17 #[.pointer (some ⟨g, 0, none⟩)] w fun e w' => ∃ A c vs, e = .returned (.slice A (runsG (nums L)).length c) ∧ (runsG (nums L)).length ≤ c ∧ w'.ownsRow w.heap.size 40 1 (.slice A (runsG (nums L)).length c) (runsG (nums L)).length vs ∧ PairsAt w' w.heap.size vs (runsG (nums L)) ∧ Below w.heap.size w w' := by
  have h256 := h.ok.hi
  have hle := used_le L
  have HH := Lib.hid h
  clear h
  refine (callsIn_wide (n := 10)).1 (callsIn_of_wp_marks Try.func17 rfl trivial ?_ rfl)
  refine wpIn_wide.2 ?_
  simp only [Try.ntmps17, List.size_toArray, List.length_cons, List.length_nil, Nat.reduceAdd, Nat.reduceSub, Array.replicate_succ, Array.replicate_zero, List.push_toArray, List.append_toArray, List.nil_append, List.cons_append]
  go_wp2_with (first
    | (go_at_call 40; ((with_reducible refine (runs_any (HH.out.below (bl_alloc w (.cells #[.slice none 0 0] 38)))).mono ?_); rintro e w5 ⟨A5, c5, G, b5, rfl, hG, hA5, hb5g, hb5, hc5, hBG, hR5, hbl⟩; have Y5 := Lib.hid ((Blk.new w 38 #[.slice none 0 0]).keep hbl); have B5 := Lib.hid (bl_chain (bl_alloc w _) hbl); have BG := Lib.hid hBG; have R5 := Lib.hid hR5; have HA5 := Lib.hid hA5; have z5 := hbl.size; have fn5 := func_nil (.func 66) #[.pointer (some ⟨G, 0, none⟩)]; clear hBG hR5 hbl hA5)))
  simp only [World.size_alloc] at hG hb5g z5
  obtain ⟨N, hNN⟩ : ∃ N, (runsG (nums L)).length = N := ⟨_, rfl⟩
  have HNN := Lib.hid hNN
  have hN256 : N ≤ 256 := by rw [← hNN]; exact Nat.le_trans (runsG_length_le _) (by rw [nums_length]; omega)
  have hGlt := BG.out.lt
  clear hNN fn5
  have O5' : Hid (LSt w w5 [] w5) := Lib.hid ⟨⟨none, 0, [], Y5.out, ownsRow_emp _ _ _ _, Nat.le_refl _, fun i p hp => by cases hp⟩, B5.out, Nat.le_refl _⟩
  refine range_ownG2 (Kp := Two G b5) (v := fun x => .int .i64 (rnAt (nums L) (idx (runsG (nums L)).length x)).1) (u := fun x => .int .i64 ((rnAt (nums L) (idx (runsG (nums L)).length x)).2 : Nat)) (gf := 66) (lb := #[.pointer (some ⟨G, 0, none⟩)]) rfl (enters_of Try.func66 (by kernel_rfl) rfl)
    (runs2_stops G b5 c5 A5 (nums L) (nums_isN HH.out.ok) HA5.out hc5 w5 BG.out R5.out) two_t (two_b hGlt hb5)
    (fun pre W => LSt w w5 (pre.map (fun x => rnAt (nums L) (idx (runsG (nums L)).length x))) W)
    (fun pre X Y row h hg hr => h.turn (n := w5.heap.size) B5.out.size hg hr)
    (by simpa using O5'.out)
    (fun T x => (((T.setIfInBounds 12 (.int .i64 (rnAt (nums L) (idx (runsG (nums L)).length x)).1)).setIfInBounds 13 (.int .i64 ((rnAt (nums L) (idx (runsG (nums L)).length x)).2 : Nat))).setIfInBounds 5 (.int .i64 (rnAt (nums L) (idx (runsG (nums L)).length x)).1)).setIfInBounds 6 (.int .i64 ((rnAt (nums L) (idx (runsG (nums L)).length x)).2 : Nat))) ?assign ?body ?done
  case assign =>
    intro l x W K hK
    simp only [List.setIfInBounds_toArray, List.set_cons_zero, List.set_cons_succ] at hK ⊢
    gi_wp2
    exact hK
  case body =>
    rintro lr pre x W hS hN
    obtain ⟨p, hp⟩ : ∃ p, rnAt (nums L) (idx (runsG (nums L)).length x) = p := ⟨_, rfl⟩
    rw [HNN.out] at hN
    have hpre : (pre ++ [x]).map (fun x => rnAt (nums L) (idx (runsG (nums L)).length x)) = pre.map (fun x => rnAt (nums L) (idx (runsG (nums L)).length x)) ++ [p] := by
      rw [List.map_append, List.map_cons, List.map_nil, hp]
    have hl0 : (pre.map (fun x => rnAt (nums L) (idx (runsG (nums L)).length x))).length = pre.length := List.length_map _
    rw [hp]
    generalize pre.map (fun x => rnAt (nums L) (idx (runsG (nums L)).length x)) = l0 at hS hpre hl0
    have hl256 : l0.length < 256 := by omega
    have HPRE := Lib.hid hpre
    have HS := Lib.hid hS
    clear hpre hl0 hp
    obtain ⟨⟨A, c, vs, r1, r2, r3, r4⟩, rbl, rsz⟩ := hS
    have cb := r1.cell 0
    have fb := r1.frozen 0
    simp at cb
    have H1 := Lib.hid r1
    have H2 := Lib.hid r2
    have H4 := Lib.hid r4
    have HBL := Lib.hid rbl
    clear r1 r2 r3 r4 rbl
    simp only [List.setIfInBounds_toArray, List.set_cons_zero, List.set_cons_succ]
    gi_wp2_with (first
      | (gi_at_builtin; refine list_in (by rintro ⟨a, w, h⟩; exact h) _ (by decide) _ _ ?_; refine wpL_append ESI rfl rfl ((H2.out.alloc _).alloc _) rfl (Rd.newAt _ (W.heap.size + 1) _ [.slice (some ⟨W.heap.size, 0, none⟩) 2 2] _ 0 (by simp) rfl) rfl (by rfl) (by simp [Value.oneCell']) (l0.length + 1) _ rfl rfl (by simp only [maxLen]; omega) (by omega) (by simp; have := HS.out.sz; omega) ?_; intro A3 c3 W3 hc3 ho3 ht3 ha3; have hb3 := ht3.blk ((H1.out.alloc _).alloc _) (own_blk H2.out H1.out (by decide)); have c03 := hb3.cell 0; have f03 := hb3.frozen 0; simp at c03; have HO3 := Lib.hid ho3; have HT3 := Lib.hid ht3; clear ho3 ht3 ha3 hb3)
      | gi_in)
    go_wp2_with fail
    gi_wp2
    obtain ⟨hS2, hK2, hT2⟩ := HS.out.app (p := p) (G := G) (b5 := b5) (by omega) H1.out H2.out H4.out HO3.out hc3 HT3.out ⟨by omega, by omega⟩ ⟨by omega, by omega⟩
    refine ⟨hK2.from _, hT2, ?_⟩
    show LSt w w5 _ _
    rw [HPRE.out]
    exact hS2
  case done =>
    rintro D7 xs W7 hD rfl hS hK
    rw [rn_all] at hS
    obtain ⟨⟨A, c, vs, r1, r2, r3, r4⟩, rbl, rsz⟩ := hS
    have cb := r1.cell 0
    simp at cb
    have HD7 := Lib.hid hK
    have R2 := Lib.hid r2
    have R4 := Lib.hid r4
    have RBL := Lib.hid rbl
    clear r1 r2 r4 rbl hK
    go_wp2_with fail
    refine ⟨by simp, .inl ⟨D7, _, rfl, run_takeDeferred HD7.out, ?_⟩⟩
    have hz5 := B5.out.size
    refine ⟨_, results_tmp rfl _ _ _, A, c, vs, rfl, r3, ownsRow_putObj (ownsRow_base R2.out (by omega)) _ HD7.out rfl, ?_, RBL.out.trans (belowK_b (w := w) (Nat.le_refl _) W7 D7 _ _ (by omega) HD7.out rfl rfl)⟩
    intro i p hp
    obtain ⟨b, e1, e2, e3⟩ := R4.out i p hp
    have hne : b ≠ D7 := by
      rintro rfl
      have := e3.symm.trans HD7.out
      injection this with this
      cases this
    exact ⟨b, e1, by omega, (World.putObj_heap_other hne).trans e3⟩
end
end Go.Proofs.Ytdddbpnllhnfdaa
