/- Contracts of the package extent: Same. -/
import Derived.Test.YtdddbpnllhnfdaaExtK
import Derived.Lib.SlMapEqual
namespace Go.Proofs.Ytdddbpnllhnfdaa
set_option linter.unusedVariables false
set_option linter.unusedSimpArgs false
set_option maxRecDepth 100000
open Go.RowKit Go.Shelf

theorem beqs {l m : List Int} (hl : isB l) (hm : isB m) : ((strOfNums l).toList == (strOfNums m).toList) = decide (l = m) := by
  by_cases h : l = m
  · subst h; simp
  · rw [str_ne hl hm h]; exact (decide_eq_false h).symm
/-- bytes.Equal. -/
theorem bytesEqual_any (A1 A2 : Option Addr) (n1 c1 n2 c2 : Nat) (l m : List Int) (w : World) (h1 : Rd w A1 (by8 l)) (h2 : Rd w A2 (by8 m)) (e1 : l.length = n1) (e2 : m.length = n2) (hl : isB l) (hm : isB m) :
    Calls Try.prog 44 #[.slice A1 n1 c1, .slice A2 n2 c2] w fun e w' => e = .returned (.bool (decide (l = m))) ∧ w = w' := by
  have k1 := conv8 n1 c1 h1 e1
  have k2 := conv8 n2 c2 h2 e2
  have kb := beqs hl hm
  obtain ⟨S1, hS1⟩ : ∃ S, strOfNums l = S := ⟨_, rfl⟩
  obtain ⟨S2, hS2⟩ : ∃ S, strOfNums m = S := ⟨_, rfl⟩
  rw [hS1] at k1 kb
  rw [hS2] at k2 kb
  clear hS1 hS2 h1 h2
  go_enter Try.func44, Try.ntmps44
  go_wp2_with fail
  go_ret
  exact ⟨by rw [← kb]; rfl, rfl⟩

/-- A block that reads as 64 bytes. -/
def okB (w : World) (b : Nat) : Prop := ∃ xs, isBl xs ∧ Rd w (some ⟨b, 0, none⟩) (by8 xs)
open Classical in
noncomputable def cont (w : World) (b : Nat) : List Int := if h : okB w b then h.choose else []
theorem rd_uniq {w : World} {b : Nat} {l m : List Int} (h1 : Rd w (some ⟨b, 0, none⟩) (by8 l)) (h2 : Rd w (some ⟨b, 0, none⟩) (by8 m)) (e : l.length = m.length) : l = m := by
  apply List.ext_getElem e
  intro i hi hi2
  have a1 := h1.cell8 i l[i] (List.getElem?_eq_getElem hi)
  have a2 := h2.cell8 i m[i] (List.getElem?_eq_getElem hi2)
  rw [a1] at a2
  injection a2 with a2
  injection a2
theorem cont_of {w : World} {b : Nat} {xs : List Int} (hx : isBl xs) (hr : Rd w (some ⟨b, 0, none⟩) (by8 xs)) : cont w b = xs := by
  have h : okB w b := ⟨xs, hx, hr⟩
  unfold cont
  rw [dif_pos h]
  have hc := h.choose_spec
  exact rd_uniq hc.2 hr (hc.1.1.trans hx.1.symm)
/-- What a map's datum says of a block's bytes. -/
noncomputable def contD (w : World) : DataW Unit → List Int
  | .lit (.int .i64 z) => cont w z.toNat
  | _ => []
noncomputable def eqC (w : World) (x y : DataW Unit) : Bool := decide (contD w x = contD w y)
open Classical in
/-- The reader kept to blocks that read as 64 bytes. -/
noncomputable def rCl (w : World) (v : Value) : Option (DataW Unit × List MemPlace) := if (∀ (b : Nat) ps, rSl v = some (.lit (lk (b : Int)), ps) → okB w b) then rSl v else none
theorem rCl_of {w : World} {v : Value} {z : DataW Unit × List MemPlace} (h : rSl v = some z) (hb : ∀ (b : Nat) ps, rSl v = some (.lit (lk (b : Int)), ps) → okB w b) : rCl w v = some z := by
  unfold rCl
  rw [if_pos hb]
  exact h
theorem rCl_inv {w : World} {v : Value} {d : DataW Unit} {ps : List MemPlace} (h : rCl w v = some (d, ps)) : (v = .slice none 0 0 ∧ d = .nil) ∨ ∃ b c xs, v = .slice (some ⟨b, 0, none⟩) 64 c ∧ d = .lit (lk (b : Int)) ∧ isBl xs ∧ Rd w (some ⟨b, 0, none⟩) (by8 xs) := by
  unfold rCl at h
  split at h
  · rename_i hb
    have h' := h
    unfold rSl at h
    split at h
    · left
      simp at h
      exact ⟨rfl, h.1.symm⟩
    · rename_i b c
      split at h
      · simp at h
        obtain ⟨e1, e2⟩ := h
        subst e1 e2
        obtain ⟨xs, hx, hr⟩ := hb b [] h'
        exact .inr ⟨b, c, xs, rfl, rfl, hx, hr⟩
      · cases h
    · cases h
  · cases h
section
variable {w : World} {g B : Nat} {L : List (List Int)} {D : DataW Unit} {M : Nat → Prop}
/-- An image's map under the kept reader. -/
theorem IsImg.own2 (h : IsImg w g L B D M) : ∃ n, w.ownsMap Try.prog 3 (rCl w) B n D := by
  obtain ⟨es, clock, hb, F, hs, hD⟩ := h.own
  have htid := h.own.entries keyI
  obtain ⟨es1, hD1, hap, hkeys⟩ := htid
  have key : ∀ x ∈ es.toList, ∀ z, rSl x.val = some z → rCl w x.val = some z := fun x hx z hz => by
    refine rCl_of hz (fun b ps hbp => ?_)
    obtain ⟨y, hy⟩ := F.reads x hx
    have hk := Go.WideElems.rd_key hy
    obtain ⟨z', hz', hyz⟩ := Go.WideElems.rd_val hy
    obtain ⟨q, _, hq, _⟩ := Go.Maps.keyOf_i64 Try.underlying3 hk
    have hmem : y ∈ es1 := by
      have e : es1 = (es.toList.map (Go.WideElems.rg Try.prog 3 rSl)).foldr DataW.insert [] := by
        have := hD1.symm.trans hD
        injection this
      rw [e]
      refine (Go.WideShapes.sorted_perm _).mem_iff.2 ?_
      exact List.mem_map.2 ⟨x, hx, Go.WideElems.rg_of hy⟩
    have hat : ∀ zd, D.atKey y.1 zd = y.2 := fun zd => by
      rw [hD1]
      exact WideAt.atKey_mem zd (hkeys y hmem) hap hmem
    have hhas : Maps.has D y.1 = true := Maps.has_true_of_atKey hat
    rw [hq] at hhas
    rw [h.has q] at hhas
    obtain ⟨hq0, hqb⟩ := of_decide_eq_true hhas
    obtain ⟨b', hb1, _, hb3⟩ := h.at_ q.toNat hqb
    have e2 := hb1 .nil
    rw [show ((q.toNat : Nat) : Int) = q from Int.toNat_of_nonneg hq0] at e2
    rw [show lk q = y.1 from hq.symm, hat .nil, hyz] at e2
    rw [hbp] at hz'
    injection hz' with hz'
    rw [← hz'] at e2
    injection e2 with e2
    injection e2 with _ e2
    have : b = b' := by omega
    subst this
    exact ⟨_, (h.ok.at_ q.toNat).resolve_left hqb, hb3⟩
  refine ⟨es.size, ?_⟩
  have := World.ownsMap_of_fit hb F key
  rw [hD]
  exact this
theorem IsImg.ent (h : IsImg w g L B D M) {p : Lit × DataW Unit} (hp : p ∈ Lib.entriesD D) : ∃ i : Nat, p.1 = lk (i : Int) ∧ bk L i ≠ [] ∧ contD w p.2 = bk L i := by
  obtain ⟨es, clock, hb, F, hs, hD⟩ := h.own
  obtain ⟨es1, hD1, hap, hkeys⟩ := h.own.entries keyI
  have e : es1 = (es.toList.map (Go.WideElems.rg Try.prog 3 rSl)).foldr DataW.insert [] := by
    have := hD1.symm.trans hD
    injection this
  rw [hD1] at hp
  have hp : p ∈ es1 := hp
  have hp' := hp
  rw [e] at hp'
  obtain ⟨x, hx, hxp⟩ := List.mem_map.1 ((Go.WideShapes.sorted_perm _).mem_iff.1 hp')
  obtain ⟨y, hy⟩ := F.reads x hx
  rw [Go.WideElems.rg_of hy] at hxp
  subst hxp
  have hk := Go.WideElems.rd_key hy
  obtain ⟨q, _, hq, _⟩ := Go.Maps.keyOf_i64 Try.underlying3 hk
  have hat : ∀ zd, D.atKey y.1 zd = y.2 := fun zd => by
    rw [hD1]
    exact WideAt.atKey_mem zd (hkeys y hp) hap hp
  have hhas : Maps.has D y.1 = true := Maps.has_true_of_atKey hat
  rw [hq] at hhas
  rw [h.has q] at hhas
  obtain ⟨hq0, hqb⟩ := of_decide_eq_true hhas
  obtain ⟨b', hb1, _, hb3⟩ := h.at_ q.toNat hqb
  have e2 := hb1 .nil
  have eq : ((q.toNat : Nat) : Int) = q := Int.toNat_of_nonneg hq0
  refine ⟨q.toNat, by rw [hq, eq], hqb, ?_⟩
  rw [eq] at e2
  rw [show lk q = y.1 from hq.symm, hat .nil] at e2
  rw [e2]
  show cont w ((b' : Int)).toNat = _
  rw [Int.toNat_natCast]
  exact cont_of ((h.ok.at_ q.toNat).resolve_left hqb) hb3
theorem IsImg.ent_of (h : IsImg w g L B D M) (i : Nat) (hi : bk L i ≠ []) : ∃ d, (lk (i : Int), d) ∈ Lib.entriesD D := by
  obtain ⟨es1, hD1, hap, hkeys⟩ := h.own.entries keyI
  obtain ⟨b, h1, _⟩ := h.at_ i hi
  rw [hD1] at h1 ⊢
  exact ⟨_, Go.Maps.came_mem hap hkeys h1⟩
theorem IsImg.cont_at (h : IsImg w g L B D M) (i : Nat) (hi : bk L i ≠ []) (z : DataW Unit) : contD w (D.atKey (lk (i : Int)) z) = bk L i := by
  obtain ⟨b, h1, _, h3⟩ := h.at_ i hi
  rw [h1]
  show cont w ((b : Int)).toNat = _
  rw [Int.toNat_natCast]
  exact cont_of ((h.ok.at_ i).resolve_left hi) h3
theorem img_ext {L1 L2 : List (List Int)} (hl : L1.length = L2.length) (h : ∀ i, bk L1 i = bk L2 i) : L1 = L2 := by
  apply List.ext_getElem hl
  intro i h1 h2
  have := h i
  unfold bk at this
  rw [List.getElem?_eq_getElem h1, List.getElem?_eq_getElem h2] at this
  exact this
theorem img_sub {L1 L2 : List (List Int)} (hl : L1.length = L2.length) (hu : used L1 = used L2) (h : ∀ i, bk L1 i ≠ [] → bk L1 i = bk L2 i) : L1 = L2 := by
  have hsub : ∀ k, usedTo L1 k ≤ usedTo L2 k ∧ (usedTo L1 k = usedTo L2 k → ∀ i, i < k → bk L1 i = bk L2 i) := by
    intro k
    induction k with
    | zero => exact ⟨Nat.le_refl _, fun _ i hi => by omega⟩
    | succ k ih =>
      unfold usedTo
      by_cases h1 : bk L1 k = []
      · by_cases h2 : bk L2 k = []
        · rw [if_pos h1, if_pos h2]
          refine ⟨by omega, fun e i hi => ?_⟩
          by_cases e2 : i = k
          · rw [e2, h1, h2]
          · exact ih.2 (by omega) i (by omega)
        · rw [if_pos h1, if_neg h2]
          exact ⟨by omega, fun e => by have := ih.1; omega⟩
      · have h2 : bk L2 k ≠ [] := by rw [← h k h1]; exact h1
        rw [if_neg h1, if_neg h2]
        refine ⟨by omega, fun e i hi => ?_⟩
        by_cases e2 : i = k
        · rw [e2]; exact h k h1
        · exact ih.2 (by omega) i (by omega)
  refine img_ext hl (fun i => ?_)
  by_cases hi : i < L1.length
  · have hu' := hu
    unfold used at hu'
    rw [← hl] at hu'
    exact (hsub L1.length).2 hu' i hi
  · rw [bk_out (by omega), bk_out (by omega)]
theorem same_plain {g2 B2 : Nat} {L2 : List (List Int)} {D2 : DataW Unit} {M2 : Nat → Prop} (h : IsImg w g L B D M) (h2 : IsImg w g2 L2 B2 D2 M2) (hl : L.length = L2.length) : Lib.equalFuncD (eqC w) D D2 = decide (L = L2) := by
  by_cases he : L = L2
  · rw [decide_eq_true he]
    unfold Lib.equalFuncD
    rw [h.sz, h2.sz, he]
    simp only [decide_true, Bool.true_and]
    refine List.all_eq_true.2 (fun p hp => ?_)
    obtain ⟨i, hi, hb, hc⟩ := h.ent hp
    unfold Lib.goodD
    rw [hi, h2.has]
    have hb2 : bk L2 i ≠ [] := he ▸ hb
    rw [decide_eq_true ⟨by omega, by simpa using hb2⟩]
    unfold eqC
    rw [hc, h2.cont_at i hb2, he]
    simp
  · rw [decide_eq_false he]
    apply Bool.eq_false_iff.2
    intro ht
    apply he
    unfold Lib.equalFuncD at ht
    rw [Bool.and_eq_true] at ht
    have hu := of_decide_eq_true ht.1
    rw [h.sz, h2.sz] at hu
    refine img_sub hl hu (fun i hi => ?_)
    obtain ⟨d, hd⟩ := h.ent_of i hi
    have hg := List.all_eq_true.1 ht.2 _ hd
    unfold Lib.goodD at hg
    rw [Bool.and_eq_true] at hg
    obtain ⟨i', hi', hb', hc'⟩ := h.ent hd
    have e : (i' : Int) = i := by
      have : lk (i : Int) = lk (i' : Int) := hi'
      injection this with _ this
      exact this.symm
    have e : i' = i := by omega
    subst e
    have hh := hg.1
    rw [h2.has] at hh
    have hb2 : bk L2 i' ≠ [] := by simpa using (of_decide_eq_true hh).2
    have hq := of_decide_eq_true hg.2
    rw [hc', h2.cont_at i' hb2] at hq
    exact hq
theorem grown_refl (w : World) : w.grownBy w none := ⟨rfl, rfl, rfl, Nat.le_refl _, fun _ _ _ => rfl⟩
theorem equalFunc_any {g2 B2 : Nat} {L2 : List (List Int)} {D2 : DataW Unit} {M2 : Nat → Prop} (h : IsImg w g L B D M) (h2 : IsImg w g2 L2 B2 D2 M2) (hl : L.length = L2.length) :
    Calls Try.prog 43 #[.map (some B), .map (some B2), .func (.func 44) #[] #[]] w fun e w' => e = .returned (.bool (decide (L = L2))) ∧ w.grownBy w' none := by
  obtain ⟨n1, o1⟩ := h.own2
  obtain ⟨n2, o2⟩ := h2.own2
  rw [← same_plain h h2 hl]
  refine AnyEq.maps_EqualFunc Try.eqL keyI (rCl w) (rCl w) (eqC w) 44 #[] B B2 n1 n2 D D2 w (enters_of Try.func44 (by kernel_rfl) rfl) o1 o2 (.slice none 0 0) zero8 .nil [] (rCl_of rSl_nil (fun b ps hb => by rw [rSl_nil] at hb; simp at hb)) ?_
  intro W x y xd yd xp yp hW hx hy
  have hb : Below w.heap.size w W := (Tr.of_grown (F := NoB) hW (fun b e _ => by cases e)).below (fun _ _ => id)
  have fin : ∀ (A1 A2 : Option Addr) (m1 c1 m2 c2 : Nat) (l m : List Int), Rd w A1 (by8 l) → Rd w A2 (by8 m) → l.length = m1 → m.length = m2 → isB l → isB m → contD w xd = l → contD w yd = m → x = .slice A1 m1 c1 → y = .slice A2 m2 c2 →
      Calls Try.prog 44 (#[x, y] ++ #[]) W fun e w' => e = .returned (.bool (eqC w xd yd)) ∧ W.grownBy w' none := fun A1 A2 m1 c1 m2 c2 l m r1 r2 e1 e2 b1 b2 k1 k2 ex ey => by
    subst ex ey
    unfold eqC
    rw [k1, k2]
    refine (bytesEqual_any A1 A2 m1 c1 m2 c2 l m W (r1.below hb) (r2.below hb) e1 e2 b1 b2).mono ?_
    rintro e w' ⟨rfl, rfl⟩
    exact ⟨rfl, grown_refl _⟩
  have ck : ∀ (b : Nat) xs, isBl xs → Rd w (some ⟨b, 0, none⟩) (by8 xs) → contD w (.lit (lk (b : Int))) = xs := fun b xs h1 h2 => by
    show cont w ((b : Int)).toNat = xs
    rw [Int.toNat_natCast]
    exact cont_of h1 h2
  rcases rCl_inv hx with ⟨rfl, rfl⟩ | ⟨b1, c1, xs, rfl, rfl, hxs, hr1⟩
  · rcases rCl_inv hy with ⟨rfl, rfl⟩ | ⟨b2, c2, ys, rfl, rfl, hys, hr2⟩
    · exact fin none none 0 0 0 0 [] [] Rd.nil Rd.nil rfl rfl isB.nil isB.nil rfl rfl rfl rfl
    · exact fin none _ 0 0 64 c2 [] ys Rd.nil hr2 rfl hys.1 isB.nil hys.2 rfl (ck b2 ys hys hr2) rfl rfl
  · rcases rCl_inv hy with ⟨rfl, rfl⟩ | ⟨b2, c2, ys, rfl, rfl, hys, hr2⟩
    · exact fin _ none 64 c1 0 0 xs [] hr1 Rd.nil hxs.1 rfl hxs.2 isB.nil (ck b1 xs hxs hr1) rfl rfl rfl
    · exact fin _ _ 64 c1 64 c2 xs ys hr1 hr2 hxs.1 hys.1 hxs.2 hys.2 (ck b1 xs hxs hr1) (ck b2 ys hys hr2) rfl rfl
theorem below_of_grown {w w' : World} (h : w.grownBy w' none) : Below w.heap.size w w' := (Tr.of_grown (F := NoB) h (fun b e _ => by cases e)).below (fun _ _ => id)
set_option maxHeartbeats 1600000 in
theorem same_any {g2 : Nat} {L2 : List (List Int)} {M2 : Nat → Prop} (h : Img w g L M) (h2 : Img w g2 L2 M2) : Calls Try.prog 21 #[.pointer (some ⟨g, 0, none⟩), .pointer (some ⟨g2, 0, none⟩)] w fun e w' => e = .returned (.bool (decide (L = L2))) ∧ Below w.heap.size w w' := by
  obtain ⟨B, D, h⟩ := h
  obtain ⟨B2, D2, h2⟩ := h2
  have c0 := h.c0
  have c1 := h.c1
  have d0 := h2.c0
  have d1 := h2.c1
  have HH := Lib.hid h
  have HH2 := Lib.hid h2
  have hb := h.ok.hi
  have hb2 := h2.ok.hi
  clear h h2
  by_cases hl : L.length = L2.length
  · have HC : Hid (∀ W, Below w.heap.size w W → Calls Try.prog 43 #[.map (some B), .map (some B2), .func (.func 44) #[] #[]] W fun e w' => e = .returned (.bool (decide (L = L2))) ∧ W.grownBy w' none) := Lib.hid (fun W hW => equalFunc_any (HH.out.below hW) (HH2.out.below hW) hl)
    rw [← hl] at d0
    clear hl
    go_enter Try.func21, Try.ntmps21
    go_wp2_with fail
    go_region_held3 (fun w' => w'.cell? ⟨g, 0, none⟩ = some (.int .i64 L.length) ∧ w'.cell? ⟨g, 1, none⟩ = some (.map (some B)) ∧ w'.cell? ⟨g2, 0, none⟩ = some (.int .i64 L.length) ∧ w'.cell? ⟨g2, 1, none⟩ = some (.map (some B2))) (go_keep) ((go_at_call 43; (with_reducible refine (HC.out _ (bl_drew w)).mono ?_); rintro e w' ⟨rfl, hg⟩; have hb := below_of_grown hg; have z0 := (hb.cell (cell_block_lt c0)).trans c0; have z1 := (hb.cell (cell_block_lt c1)).trans c1; have y0 := (hb.cell (cell_block_lt d0)).trans d0; have y1 := (hb.cell (cell_block_lt d1)).trans d1; have HB := Lib.hid hb; clear hb hg))
    go_wp2_with fail
    go_ret
    exact ⟨rfl, bl_chain (bl_drew w) HB.out⟩
  · have t1 : (((L.length : Nat) : Int) == ((L2.length : Nat) : Int)) = false := by simpa using (by omega : ¬ ((L.length : Int) = (L2.length : Int)))
    have t2 : ((L.length == L2.length)) = false := by simpa using hl
    have HE : Hid (decide (L = L2) = false) := Lib.hid (decide_eq_false (fun e => hl (by rw [e])))
    rw [HE.out]
    clear hl
    go_enter Try.func21, Try.ntmps21
    go_wp2_with fail
    go_quiet (fail)
    go_wp2_with fail
    go_ret
    exact ⟨rfl, bl_drewN _ _⟩
end
end Go.Proofs.Ytdddbpnllhnfdaa
