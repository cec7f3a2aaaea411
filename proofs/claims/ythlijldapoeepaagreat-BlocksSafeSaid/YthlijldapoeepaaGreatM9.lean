/- Contracts of the package extent: Bytes. -/
import Derived.Test.YthlijldapoeepaaGreatM8
import Derived.Test.YthlijldapoeepaaGreatM2
import Derived.Test.YthlijldapoeepaaGreatM6
import Derived.Lib.SmallJoins
import Derived.Deep.Slices
import Derived.Deep.Fields
namespace Go.Proofs.YthlijldapoeepaaGreat
set_option linter.unusedVariables false
set_option linter.unusedSimpArgs false
set_option maxRecDepth 100000
open Go.RowKit Go.Shelf

attribute [local go_sem] Oper.semAt_some

/-- A block with its number, as bytes. -/
def e1 (L : List (List Int)) (z : Int) : List Int := 0 :: z :: bk L z.toNat
def entR (L : List (List Int)) (x : Nat) : List Int := (run1 (rnAt (nums L) (idx (runsG (nums L)).length x))).flatMap (e1 L)
def bytesL (L : List (List Int)) : List Int := be 2 L.length ++ be 2 (used L) ++ (nums L).flatMap (e1 L)
theorem entR_all (L : List (List Int)) : (List.range (runsG (nums L)).length).flatMap (entR L) = (nums L).flatMap (e1 L) := by
  conv => rhs; rw [← runsG_all (nums L)]
  rw [List.flatMap_assoc]
  have h : (List.range (runsG (nums L)).length).map (fun x => rnAt (nums L) (idx (runsG (nums L)).length x)) = runsG (nums L) := by
    apply List.ext_getElem?
    intro i
    rw [List.getElem?_map]
    by_cases hi : i < (runsG (nums L)).length
    · rw [List.getElem?_range hi]
      simp [idx_of hi, rnAt, hi]
    · rw [List.getElem?_eq_none (by simpa using hi), List.getElem?_eq_none (by omega)]
      rfl
  conv => rhs; rw [← h]
  rw [List.flatMap_map]
  rfl
theorem e1_length (L : List (List Int)) (h : ImgOk L) (z : Int) : (e1 L z).length ≤ 66 := by
  unfold e1
  rcases h.at_ z.toNat with h | h
  · simp [h]
  · simp [h.1]
theorem flat_length {α : Type} (f : α → List Int) (k : Nat) (hf : ∀ z, (f z).length ≤ k) : ∀ l : List α, (l.flatMap f).length ≤ k * l.length
  | [] => by simp
  | z :: l => by
    have := flat_length f k hf l
    have := hf z
    simp [List.flatMap_cons, Nat.mul_succ] at *
    omega
/-- A box of bytes that grow, in the rounds. -/
structure BSt (w w3 w4 w5 : World) (g : Nat) (l : List Int) (W : World) : Prop where
  row : ∃ A c, Blk W w4.heap.size 52 #[.slice A l.length c] ∧ W.ownsRow w3.heap.size 5 1 (.slice A l.length c) l.length (by8 l) ∧ (∀ b, Blo A b → b < w4.heap.size ∨ w5.heap.size ≤ b) ∧ l.length ≤ c
  box : Blk W w.heap.size 55 #[.pointer (some ⟨g, 0, none⟩)]
  bl : Below w.heap.size w W
  sz : w5.heap.size ≤ W.heap.size
section
variable {w w3 w4 w5 : World} {g G b5 : Nat} {l : List Int} {W : World}
theorem BSt.turn (h : BSt w w3 w4 w5 g l W) {W' : World} {row : Option Nat} {n : Nat} (hn : w.heap.size ≤ n) (hg : W.grownBy W' row) (hr : ∀ r, row = some r → n ≤ r ∧ ∃ o : Obj, W.heap[r]? = some o ∧ o.isCells = false) : BSt w w3 w4 w5 g l W' := by
  obtain ⟨⟨A, c, h1, h2, h3, h3'⟩, h4, h5, h6⟩ := h
  exact ⟨⟨A, c, h1.turn (turn_of hg hr), own_turn h2 (turn_of hg hr), h3, h3'⟩, h4.turn (turn_of hg hr), below_turn h5 h5.size hg hr hn, Nat.le_trans h6 hg.size⟩
theorem BSt.app (h : BSt w w3 w4 w5 g l W) (h34 : w.heap.size + 1 ≤ w3.heap.size ∧ w3.heap.size ≤ w4.heap.size) {l' : List Int} {W1 W2 : World} {A A' : Option Addr} {c c' : Nat}
    (hb : Blk W w4.heap.size 52 #[.slice A l.length c]) (ho : W.ownsRow w3.heap.size 5 1 (.slice A l.length c) l.length (by8 l)) (hA : ∀ b, Blo A b → b < w4.heap.size ∨ w5.heap.size ≤ b)
    (h1 : Below W.heap.size W W1) (ho2 : W2.ownsRow w3.heap.size 5 1 (.slice A' l'.length c') l'.length (by8 l')) (hc : l'.length ≤ c') (ht : Tr (Blo A) W1 W2) (hn : NewAt A A' W1.heap.size) (hG : w4.heap.size < G ∧ G < w5.heap.size) (h5 : w4.heap.size < b5 ∧ b5 < w5.heap.size) :
    BSt w w3 w4 w5 g l' (W2.setCell ⟨w4.heap.size, 0, none⟩ (.slice A' l'.length c')) ∧ KeepsOthers W (W2.setCell ⟨w4.heap.size, 0, none⟩ (.slice A' l'.length c')) ∧ Two G b5 W (W2.setCell ⟨w4.heap.size, 0, none⟩ (.slice A' l'.length c')) := by
  have hsz := h.sz
  have hsz1 := h1.size
  have hsz2 := ht.size
  have hblt := hb.lt
  have hbA : ¬ Blo A w4.heap.size := own_blk ho hb (by decide)
  have t1 : Tr (Blo A) W W2 := (Tr.of_below (F := Blo A) h1).trans ht (fun _ _ h => h)
  have hb2 := t1.blk hb hbA
  have hge := own_ge ho
  have hblo : ∀ b, Blo A' b → b < w4.heap.size ∨ w5.heap.size ≤ b := fun b hb => by
    rcases hn.blo hb with h | h
    · exact hA b h
    · right; omega
  have hk : ∀ r, r < W.heap.size → ¬ Blo A r → r ≠ w4.heap.size → (W2.setCell ⟨w4.heap.size, 0, none⟩ (.slice A' l'.length c')).heap[r]? = W.heap[r]? := fun r h1 h2 h3 => (Below.heap_setCell _ _ _ _ h3).trans (t1.block r h1 h2)
  have hbw : ¬ Blo A w.heap.size := fun h => by have := hge _ h; omega
  refine ⟨⟨⟨A', c', ?_, ?_, hblo, hc⟩, (hk _ (by omega) hbw (by omega)).trans h.box, ?_, by simpa [World.setCell] using Nat.le_trans hsz t1.size⟩, ?_, ?_, ?_⟩
  · exact hb2.set_ 0 _
  · exact own_tr ho2 ((Tr.refl (fun b => b = w4.heap.size) W2).setCell (p := ⟨w4.heap.size, 0, none⟩) (fun _ => rfl) _) (fun b hx hq => own_blk ho2 hb2 (by decide) (hq ▸ hx))
  · have t2 : Tr (fun b => w3.heap.size ≤ b) W (W2.setCell ⟨w4.heap.size, 0, none⟩ (.slice A' l'.length c')) := (t1.mono (fun b _ h => hge b h)).setCell (p := ⟨w4.heap.size, 0, none⟩) (fun _ => h34.2) _
    exact h.bl.trans (t2.to_below h.bl.size (fun b h => by have := h34.1; omega))
  · refine keeps_tr (F := fun b => Blo A b ∨ b = w4.heap.size) ((t1.mono (fun b _ h => .inl h)).setCell (p := ⟨w4.heap.size, 0, none⟩) (fun _ => .inr rfl) _) (fun b hb' o ho' => ?_)
    rcases hb' with h | rfl
    · exact own_cellsB ho h ho'
    · have := hb.symm.trans ho'
      injection this with this
      subst this
      rfl
  · exact hk G (by omega) (fun h => by have := hA _ h; omega) (by omega)
  · exact hk b5 (by omega) (fun h => by have := hA _ h; omega) (by omega)
end
section
variable {w : World} {g B : Nat} {L : List (List Int)} {D : DataW Unit} {M : Nat → Prop}
theorem bytes_nil (w : World) : Calls Tryz.prog 43 #[.pointer none] w fun e w' => e = .returned (.slice none 0 0) ∧ Below w.heap.size w w' := by
  go_enter Tryz.func43, Tryz.ntmps43
  go_wp2_with fail
  go_ret
  exact ⟨rfl, bl_alloc _ _⟩
theorem mem_len {α β : Type} (f : α → List β) : ∀ (l : List α) (p : α), p ∈ l → (f p).length ≤ (l.flatMap f).length
  | x :: l, p, h => by
    rw [List.flatMap_cons, List.length_append]
    rcases List.mem_cons.1 h with rfl | h
    · omega
    · have := mem_len f l p h; omega
theorem rn_mem (L : List (List Int)) (x : Nat) (h : 0 < (runsG (nums L)).length) : rnAt (nums L) (idx (runsG (nums L)).length x) ∈ runsG (nums L) := by
  have hi := idx_lt (x := x) h
  unfold rnAt
  rw [List.getElem?_eq_getElem hi]
  exact List.getElem_mem hi
theorem rn_facts (L : List (List Int)) (hok : ImgOk L) (x : Nat) (h : 0 < (runsG (nums L)).length) {z0 : Int} {n : Nat} (e : rnAt (nums L) (idx (runsG (nums L)).length x) = (z0, n)) : n ≤ 256 ∧ ∀ j : Nat, j < n → ∃ zi : Nat, z0 + (j : Int) = zi ∧ zi < L.length ∧ bk L zi ≠ [] := by
  have hm := rn_mem L x h
  rw [e] at hm
  refine ⟨?_, fun j hj => ?_⟩
  · have h1 := mem_len run1 _ _ hm
    rw [runsG_all, nums_length] at h1
    have h2 := used_le L
    have h3 := hok.hi
    simp [run1] at h1
    omega
  · have h1 : z0 + (j : Int) ∈ nums L := by
      rw [← runsG_all (nums L)]
      refine List.mem_flatMap.2 ⟨_, hm, ?_⟩
      unfold run1
      exact List.mem_map.2 ⟨j, List.mem_range.2 hj, rfl⟩
    obtain ⟨i, e1, e2, e3⟩ := (numsTo_mem L _ _).1 h1
    exact ⟨i, e1, e2, e3⟩
theorem entR_length (L : List (List Int)) (hok : ImgOk L) (h : 0 < (runsG (nums L)).length) (x : Nat) : (entR L x).length ≤ 16896 := by
  obtain ⟨⟨z0, n⟩, e⟩ : ∃ p, rnAt (nums L) (idx (runsG (nums L)).length x) = p := ⟨_, rfl⟩
  have h1 := (rn_facts L hok x h e).1
  unfold entR
  rw [e]
  have h2 := flat_length (e1 L) 66 (e1_length L hok) (run1 (z0, n))
  simp [run1] at h2 ⊢
  omega
set_option maxHeartbeats 4000000 in
theorem bytes_any (h : IsImg w g L B D M) : Calls Tryz.prog 43 #[.pointer (some ⟨g, 0, none⟩)] w fun e w' => ∃ A c, e = .returned (.slice A (bytesL L).length c) ∧ (bytesL L).length ≤ c ∧ w'.ownsRow w.heap.size 5 1 (.slice A (bytesL L).length c) (bytesL L).length (by8 (bytesL L)) ∧ Below w.heap.size w w' := by
  have h256 := h.ok.hi
  have hle := used_le L
  have HH := Lib.hid h
  clear h
  have hb2 : (be 2 (L.length : Int)).length = 2 := be_length _ _
  obtain ⟨hd, hhd⟩ : ∃ hd, [] ++ be 2 (L.length : Int) ++ be 2 (used L : Int) = hd := ⟨_, rfl⟩
  have h4 : hd.length = 4 := by rw [← hhd]; simp [be_length]
  have HE4 := Lib.hid (show ∀ BB gg W, IsWriter W BB gg hd 0 → Calls Tryz.prog 72 #[.pointer (some ⟨gg, 0, none⟩)] W fun e w' => ∃ A' c', e = .returned (.tuple #[.slice A' 4 c', .int .i64 0]) ∧ 4 ≤ c' ∧ w'.ownsRow W.heap.size 5 1 (.slice A' 4 c') 4 (by8 hd) ∧ Below W.heap.size W w' from fun BB gg W hw => by
    have := end_any BB gg hd W hw (by omega)
    rw [h4] at this
    exact this)
  have HHD := Lib.hid hhd
  have H4 := Lib.hid h4
  clear hhd h4
  refine (callsIn_wide (n := 10)).1 (callsIn_of_wp_marks Tryz.func43 rfl trivial ?_ rfl)
  refine wpIn_wide.2 ?_
  simp only [Tryz.ntmps43, List.size_toArray, List.length_cons, List.length_nil, Nat.reduceAdd, Nat.reduceSub, Array.replicate_succ, Array.replicate_zero, List.push_toArray, List.append_toArray, List.nil_append, List.cons_append]
  go_wp2_with (first
    | (go_at_call 70; (with_reducible refine (newWriter_any _).mono ?_); rintro e w1 ⟨rfl, hw, hb⟩; have X1 := Lib.hid ((Blk.new w 55 #[.pointer (some ⟨g, 0, none⟩)]).keep hb); have W1 := Lib.hid hw; have B1 := Lib.hid (bl_chain (bl_alloc w _) hb); have I1 := HH.out.below B1.out; have i10 := I1.c0; have i11 := I1.c1; have x1 := X1.out.cell 0; simp at x1; simp only [World.size_alloc] at W1; have z1 : w.heap.size + 1 ≤ w1.heap.size := (by have := hb.size; simpa using this); clear I1 hw hb)
    | (go_at_call 71; (with_reducible refine (num2 (w.heap.size + 1) (w.heap.size + 1) [] L.length w1 z1 W1.out (by simp) (by omega) (by omega)).mono ?_); rintro e w2 ⟨rfl, hw, hb⟩; have X2 := Lib.hid (X1.out.below hb (Nat.lt_succ_self _)); have W2 := Lib.hid hw; have B2 := Lib.hid (B1.out.trans (hb.mono (Nat.le_succ _))); have I2 := HH.out.below B2.out; have i20 := I2.c0; have i21 := I2.c1; have x2 := X2.out.cell 0; simp at x2; have hl2 := fun ty => I2.own.len Tryz.underlying100 ty; rw [I2.sz] at hl2; have z2 := Nat.le_trans z1 hb.size; clear I2 hw hb)
    | (go_at_call 71; (with_reducible refine (num2 (w.heap.size + 1) (w.heap.size + 1) ([] ++ be 2 L.length) (used L) w2 z2 W2.out (by simp [hb2]) (by omega) (by omega)).mono ?_); rintro e w3 ⟨rfl, hw, hb⟩; rw [HHD.out] at hw; have X3 := Lib.hid (X2.out.below hb (Nat.lt_succ_self _)); have W3 := Lib.hid hw; have B3 := Lib.hid (B2.out.trans (hb.mono (Nat.le_succ _))); have x3 := X3.out.cell 0; simp at x3; have z3 := Nat.le_trans z2 hb.size; clear hw hb)
    | (go_at_call 72; (with_reducible refine (HE4.out _ _ w3 W3.out).mono ?_); rintro e w4 ⟨A4, c4, rfl, hc4, ho, hb⟩; have X4 := Lib.hid (X3.out.keep hb); have O4 := Lib.hid ho; have B4 := Lib.hid (bl_chain B3.out hb); have x4 := X4.out.cell 0; simp at x4; have z4 := Nat.le_trans z3 hb.size; have z34 := hb.size; have x4a : (w4.alloc (.cells #[.slice A4 4 c4] 52)).cell? ⟨w.heap.size, 0, none⟩ = some (.pointer (some ⟨g, 0, none⟩)) := (X4.out.alloc _).cell 0; clear ho hb)
    | (go_at_call 73; (with_reducible refine (runs_any (HH.out.below (bl_chain B4.out (bl_alloc w4 _)))).mono ?_); rintro e w5 ⟨A5, c5, G, b5, rfl, hG, hA5, hb5g, hb5, hc5, hBG, hR5, hbl⟩; have X5 := Lib.hid ((X4.out.alloc _).keep hbl); have O5 := Lib.hid (own_below (B := 0) (O4.out.alloc (.cells #[.slice A4 4 c4] 52)) hbl); have Y5 := Lib.hid ((Blk.new w4 52 #[.slice A4 4 c4]).keep hbl); have B5 := Lib.hid (bl_chain (bl_chain B4.out (bl_alloc w4 _)) hbl); have BG := Lib.hid hBG; have R5 := Lib.hid hR5; have HA5 := Lib.hid hA5; have z5 := hbl.size; clear hBG hR5 hbl hA5))
  simp only [World.size_alloc] at hG hb5g z5
  obtain ⟨N, hNN⟩ : ∃ N, (runsG (nums L)).length = N := ⟨_, rfl⟩
  have HNN := Lib.hid hNN
  have hN256 : N ≤ 256 := by rw [← hNN]; exact Nat.le_trans (runsG_length_le _) (by rw [nums_length]; omega)
  have hGlt := BG.out.lt
  clear hNN
  have O5' : Hid (BSt w w3 w4 w5 g hd w5) := Lib.hid ⟨⟨A4, c4, by rw [H4.out]; exact Y5.out, by rw [H4.out]; exact O5.out, fun b hb => .inl (own_lt O4.out b hb), by rw [H4.out]; exact hc4⟩, X5.out, B5.out, Nat.le_refl _⟩
  refine range_ownG2 (Kp := Two G b5) (v := fun x => .int .i64 (rnAt (nums L) (idx (runsG (nums L)).length x)).1) (u := fun x => .int .i64 ((rnAt (nums L) (idx (runsG (nums L)).length x)).2 : Nat)) (gf := 93) (lb := #[.pointer (some ⟨G, 0, none⟩)]) rfl (enters_of Tryz.func93 (by kernel_rfl) rfl)
    (runs2_stops G b5 c5 A5 (nums L) (nums_isN HH.out.ok) HA5.out hc5 w5 BG.out R5.out) two_t (two_b hGlt hb5)
    (fun pre W => BSt w w3 w4 w5 g (hd ++ pre.flatMap (entR L)) W)
    (fun pre X Y row h hg hr => h.turn (n := w5.heap.size) B5.out.size hg hr)
    (by simpa using O5'.out)
    (fun T x => (((T.setIfInBounds 32 (.int .i64 (rnAt (nums L) (idx (runsG (nums L)).length x)).1)).setIfInBounds 33 (.int .i64 ((rnAt (nums L) (idx (runsG (nums L)).length x)).2 : Nat))).setIfInBounds 6 (.int .i64 (rnAt (nums L) (idx (runsG (nums L)).length x)).1)).setIfInBounds 7 (.int .i64 ((rnAt (nums L) (idx (runsG (nums L)).length x)).2 : Nat))) ?assign ?body ?done
  case assign =>
    intro l x W K hK
    simp only [List.setIfInBounds_toArray, List.set_cons_zero, List.set_cons_succ] at hK ⊢
    gi_wp2
    exact hK
  case body =>
    rintro lr pre x W hS hN
    have hN0 : 0 < (runsG (nums L)).length := by omega
    obtain ⟨⟨z0, n⟩, hp⟩ : ∃ p, rnAt (nums L) (idx (runsG (nums L)).length x) = p := ⟨_, rfl⟩
    obtain ⟨hn, hmem⟩ := rn_facts L HH.out.ok x hN0 hp
    have hlen := flat_length (entR L) 16896 (entR_length L HH.out.ok hN0) pre
    have hent : entR L x = (List.range n).flatMap (fun (i : Nat) => e1 L (z0 + (i : Int))) := by
      unfold entR
      rw [hp]
      unfold run1
      rw [List.flatMap_map]
    rw [HNN.out] at hN
    rw [hp]
    have HMEM := Lib.hid hmem
    have HENT := Lib.hid hent
    obtain ⟨l0, hl0⟩ : ∃ l0, hd ++ pre.flatMap (entR L) = l0 := ⟨_, rfl⟩
    rw [hl0] at hS
    have hl0l : l0.length ≤ 4 + 16896 * 256 := by
      rw [← hl0, List.length_append, H4.out]
      have : 16896 * pre.length ≤ 16896 * 256 := Nat.mul_le_mul_left _ (by omega)
      omega
    have HL0 := Lib.hid hl0
    have HS := Lib.hid hS
    clear hS hl0 hlen hent hmem hp hN0
    simp only [List.setIfInBounds_toArray, List.set_cons_zero, List.set_cons_succ]
    gi_wp2
    gi_loopw [8, 35] (fun _ v wr => ∃ j : Nat, j ≤ n ∧ v = .int .i64 (j : Int) ∧ BSt w w3 w4 w5 g (l0 ++ (List.range j).flatMap (fun (i : Nat) => e1 L (z0 + (i : Int)))) wr ∧ KeepsOthers W wr ∧ Two G b5 W wr) (fun _ v _ => n - (RowKit.intOf v).toNat)
    case atStart => exact ⟨0, by omega, rfl, by simpa using HS.out, KeepsOthers.refl _, ⟨rfl, rfl⟩⟩
    case round =>
      obtain ⟨j, hj, rfl, hS, hK, hT⟩ := hrel
      by_cases hjn : j < n
      · obtain ⟨zi, hz, hzl, hzb⟩ := HMEM.out j hjn
        have hlj := flat_length (fun (i : Nat) => e1 L (z0 + (i : Int))) 66 (fun i => e1_length L HH.out.ok _) (List.range j)
        obtain ⟨l1, hl1⟩ : ∃ l1, l0 ++ (List.range j).flatMap (fun (i : Nat) => e1 L (z0 + (i : Int))) = l1 := ⟨_, rfl⟩
        rw [hl1] at hS
        have hl1l : l1.length ≤ 4500000 := by rw [← hl1, List.length_append]; rw [List.length_range] at hlj; omega
        have ewz : IntKind.i64.wrap (zi : Int) = (zi : Int) := wrapE rfl (by omega)
        have HS1 := Lib.hid hS
        obtain ⟨⟨A2, c2, r1, r2, r3, r4⟩, rb, rbl, rsz⟩ := hS
        have cb := r1.cell 0
        have fb := r1.frozen 0
        have cm := rb.cell 0
        simp at cb cm
        have ew1 : IntKind.i64.wrap (z0 + (j : Int)) = (zi : Int) := wrapE hz (by omega)
        have H1 := Lib.hid r1
        have H2 := Lib.hid r2
        have H3 := Lib.hid r3
        have HBL := Lib.hid rbl
        have HRB := Lib.hid rb
        have HL1 := Lib.hid hl1
        have HK := Lib.hid hK
        have HT := Lib.hid hT
        clear r1 r2 r3 rbl rb hl1 hK hT hlj
        have hz0 : (zi : Int) / 256 = 0 := by omega
        obtain ⟨l2, hl2e⟩ : ∃ l2, l1 ++ [0, (zi : Int)] = l2 := ⟨_, rfl⟩
        have hl2l : l2.length = l1.length + 2 := by rw [← hl2e]; simp
        have HL2 := Lib.hid hl2e
        have HL2L := Lib.hid hl2l
        clear hl2e hl2l hl2
        gi_wp2_with (first
          | (gi_at_builtin; refine list_in (by rintro ⟨a, w, h⟩; exact h) _ (by decide) _ _ ?_; refine wpL_append E8 rfl rfl (H2.out.alloc _) rfl (Rd.newAt wr wr.heap.size _ [.int .u8 0, .int .u8 (zi : Int)] _ 0 rfl rfl) rfl (by rfl) (by simp [Value.oneCell']) (l1.length + 2) (by8 l2) rfl (by rw [← HL2.out]; simp [by8]) (by simp only [maxLen]; omega) (by omega) (by simp; have := HBL.out.size; omega) ?_; intro A3 c3 W3 hc3 ho3 ht3 ha3; have hb3 := ht3.blk (H1.out.alloc _) (own_blk H2.out H1.out (by decide)); have c03 := hb3.cell 0; have f03 := hb3.frozen 0; simp at c03; have HO3 := Lib.hid ho3; have HT3 := Lib.hid ht3; have HA3 := Lib.hid ha3; clear ho3 ht3 ha3 hb3)
          | gi_in)
        go_wp2_with fail
        gi_wp2
        have hO2 := HO3.out
        rw [← HL2L.out] at hO2
        obtain ⟨hS2, hK2, hT2⟩ := HS1.out.app ⟨by omega, z34⟩ (l' := l2) (G := G) (b5 := b5) H1.out H2.out H3.out (bl_alloc wr _) hO2 (by rw [HL2L.out]; exact hc3) HT3.out HA3.out ⟨by omega, by omega⟩ ⟨by omega, by omega⟩
        rw [HL2L.out] at hS2 hK2 hT2
        clear hO2
        generalize hW4 : W3.setCell ⟨w4.heap.size, 0, none⟩ (.slice A3 (l1.length + 2) c3) = W4 at hS2 hK2 hT2 ⊢
        clear hW4 c03 f03 cb fb cm
        have HS2 := Lib.hid hS2
        have HK2 := Lib.hid (HK.out.trans hK2)
        have HT2 := Lib.hid (two_t HT.out hT2)
        clear hK2 hT2
        obtain ⟨⟨A6, c6, q1, q2, q3, q4⟩, qb, qbl, qsz⟩ := hS2
        have hI6 := HH.out.below (qbl.trans ((bl_drew W4).mono qbl.size))
        obtain ⟨A8, c8, hlk, hc8, hc8m, hr8, _, _⟩ := hI6.look zi hzl
        have i61 := hI6.c1
        have hb64 : (bk L zi).length = 64 := ((HH.out.ok.at_ zi).resolve_left hzb).1
        rw [hb64] at hlk
        have cb6 := q1.cell 0
        have fb6 := q1.frozen 0
        have cm6 := qb.cell 0
        simp at cb6 cm6
        have hl2n : l2.length = l1.length + 2 := HL2L.out
        obtain ⟨n2, hn2⟩ : ∃ n2, l2.length = n2 := ⟨_, rfl⟩
        have hn2b : n2 ≤ 4500002 := by omega
        obtain ⟨l3, hl3⟩ : ∃ l3, l2 ++ bk L zi = l3 := ⟨_, rfl⟩
        have hl3n : l3.length = n2 + 64 := by rw [← hl3, List.length_append, hb64, hn2]
        have hl3e : l0 ++ (List.range (j + 1)).flatMap (fun (i : Nat) => e1 L (z0 + (i : Int))) = l3 := by
          rw [List.range_succ, List.flatMap_append, ← List.append_assoc, HL1.out, ← hl3, ← HL2.out]
          simp [e1, hz]
        rw [hn2] at cb6 q1 q2 q4
        have Q1 := Lib.hid q1
        have Q2 := Lib.hid q2
        have Q3 := Lib.hid q3
        have HN2 := Lib.hid hn2
        have HL3 := Lib.hid hl3
        have HL3N := Lib.hid hl3n
        have HL3E := Lib.hid hl3e
        have HB64 := Lib.hid hb64
        have HR8 := Lib.hid hr8
        have HQB := Lib.hid qbl.size
        have HE1 : Hid (∀ (A7 : Option Addr) (c7 : Nat) (W7 : World), n2 + 64 ≤ c7 → W7.ownsRow w3.heap.size 5 1 (.slice A7 (n2 + 64) c7) (n2 + 64) (by8 l3) → Tr (Blo A6) W4.drew W7 → NewAt A6 A7 W4.drew.heap.size → ∀ F : World, F = W7.setCell ⟨w4.heap.size, 0, none⟩ (.slice A7 (n2 + 64) c7) → BSt w w3 w4 w5 g (l0 ++ (List.range (j + 1)).flatMap (fun (i : Nat) => e1 L (z0 + (i : Int)))) F ∧ KeepsOthers W F ∧ Two G b5 W F) := Lib.hid (fun A7 c7 W7 h7 ho7 ht7 ha7 F hF => by
          subst hF
          have hq1 := Q1.out
          have hq2 := Q2.out
          rw [← HN2.out] at hq1 hq2
          have ho7' := ho7
          rw [← HL3N.out] at ho7'
          obtain ⟨e1', e2', e3'⟩ := HS2.out.app ⟨by omega, z34⟩ (l' := l3) (G := G) (b5 := b5) hq1 hq2 Q3.out (bl_drew W4) ho7' (by rw [HL3N.out]; exact h7) ht7 ha7 ⟨by omega, by omega⟩ ⟨by omega, by omega⟩
          rw [HL3N.out] at e1' e2' e3'
          rw [HL3E.out]
          exact ⟨e1', HK2.out.trans e2', two_t HT2.out e3'⟩)
        clear q1 q2 q3 qb qbl hl3 hl3n hl3e hr8 hI6 hl2n hn2 hb64 hzb hz0
        refine in_any_start (by kernel_rfl) (by decide) (by rintro ⟨a, w, h⟩; exact h) ?_
        refine wpAny_take (i := 5) (v := ?_) rfl (by kernel_rfl) (by kernel_rfl) (by kernel_rfl) (fun _ _ _ h => h) (Or.inl ⟨by rfl, ?_⟩) ?_
        rotate_left
        · (intro W; go_simp; try with_reducible rfl)
        try simp only [Act.put, List.setIfInBounds_toArray, List.set_cons_zero, List.set_cons_succ]
        refine wpAny_take (i := 6) (v := ?_) rfl (by kernel_rfl) (by kernel_rfl) (by kernel_rfl) (fun _ _ _ h => h) (Or.inl ⟨by rfl, ?_⟩) ?_
        rotate_left
        · (intro W; go_simp; try with_reducible rfl)
        try simp only [Act.put, List.setIfInBounds_toArray, List.set_cons_zero, List.set_cons_succ]
        refine wpAny_take (i := 7) (v := ?_) rfl (by kernel_rfl) (by kernel_rfl) (by kernel_rfl) (fun _ _ _ h => h) (Or.inl ⟨by rfl, ?_⟩) ?_
        rotate_left
        · (intro W; go_simp; try with_reducible rfl)
        try simp only [Act.put, List.setIfInBounds_toArray, List.set_cons_zero, List.set_cons_succ]
        refine wpAny_ready (rs := [0, 1]) (by kernel_rfl) (by simp) ?_
        refine AllReady.cons rfl (fun K hK => ?_) ?_
        · go_simp
          refine hK _ _ ?_
          clear hK K
          try simp only [Act.put, List.setIfInBounds_toArray, List.set_cons_zero, List.set_cons_succ]
          refine wpAny_ready (rs := [1]) (by kernel_rfl) (by simp) ?_
          refine AllReady.cons rfl (fun K hK => ?_) ?_
          · go_simp
            refine hK _ _ ?_
            clear hK K
            try simp only [Act.put, List.setIfInBounds_toArray, List.set_cons_zero, List.set_cons_succ]
            refine wpAny_take (i := 2) (v := ?_) rfl (by kernel_rfl) (by kernel_rfl) (by kernel_rfl) (fun _ _ _ h => h) (Or.inl ⟨by rfl, ?_⟩) ?_
            rotate_left
            · (intro W; go_simp; try with_reducible rfl)
            try simp only [Act.put, List.setIfInBounds_toArray, List.set_cons_zero, List.set_cons_succ]
            refine wpAny_take (i := 3) (v := ?_) rfl (by kernel_rfl) (by kernel_rfl) (by kernel_rfl) (fun _ _ _ h => h) (Or.inl ⟨by rfl, ?_⟩) ?_
            rotate_left
            · (intro W; go_simp; try with_reducible rfl)
            try simp only [Act.put, List.setIfInBounds_toArray, List.set_cons_zero, List.set_cons_succ]
            refine wpAny_ready (rs := [4]) (by kernel_rfl) (by simp) ?_
            refine AllReady.cons rfl (fun K hK => ?_) ?_
            · go_simp
              refine hK _ _ ?_
              clear hK K
              try simp only [Act.put, List.setIfInBounds_toArray, List.set_cons_zero, List.set_cons_succ]
              refine wpAny_ready (rs := [8]) (by kernel_rfl) (by simp) ?_
              refine AllReady.cons rfl (fun K hK => ?_) ?_
              · go_simp
                refine hK _ _ ?_
                clear hK K
                try simp only [Act.put, List.setIfInBounds_toArray, List.set_cons_zero, List.set_cons_succ]
                refine wpAny_ready (rs := [9]) (by kernel_rfl) (by simp) ?_
                refine AllReady.cons rfl (fun K hK => ?_) ?_
                · (refine stepR_append E8 rfl rfl Q2.out.drew rfl HR8.out rfl (by rw [by8_length, HB64.out]) (by8_one _) (n2 + 64) (by8 l3) rfl (by rw [← HL3.out, by8_append]) (by simp only [maxLen]; omega) (by omega) (by have := HBL.out.size; have := HQB.out; show w3.heap.size ≤ W4.heap.size; omega) ?_; intro A7 c7 W7 hc7 ho7 ht7 ha7; have hb7 := ht7.blk Q1.out.drew (own_blk Q2.out Q1.out (by decide)); have c07 := hb7.cell 0; have f07 := hb7.frozen 0; simp at c07; have HO7 := Lib.hid ho7; have HT7 := Lib.hid ht7; have HA7 := Lib.hid ha7; clear ho7 ht7 ha7 hb7)
                  refine hK _ _ ?_
                  clear hK K
                  try simp only [Act.put, List.setIfInBounds_toArray, List.set_cons_zero, List.set_cons_succ]
                  refine wpAny_ready (rs := [10]) (by kernel_rfl) (by simp) ?_
                  refine AllReady.cons rfl (fun K hK => ?_) ?_
                  · go_simp
                    refine hK _ _ ?_
                    clear hK K
                    try simp only [Act.put, List.setIfInBounds_toArray, List.set_cons_zero, List.set_cons_succ]
                    refine wpAny_done (by kernel_rfl) ?_ _
                    (gi_wp2; obtain ⟨g1, g2, g3⟩ := HE1.out A7 c7 W7 hc7 HO7.out HT7.out HA7.out _ rfl; exact ⟨⟨j + 1, by omega, by go_num, g1, g2, g3⟩, by simp [RowKit.intOf]; omega⟩)
                  exact AllReady.nil
                exact AllReady.nil
              exact AllReady.nil
            exact AllReady.nil
          exact AllReady.nil
        refine AllReady.cons rfl (fun K hK => ?_) ?_
        · go_simp
          refine hK _ _ ?_
          clear hK K
          try simp only [Act.put, List.setIfInBounds_toArray, List.set_cons_zero, List.set_cons_succ]
          refine wpAny_take (i := 2) (v := ?_) rfl (by kernel_rfl) (by kernel_rfl) (by kernel_rfl) (fun _ _ _ h => h) (Or.inl ⟨by rfl, ?_⟩) ?_
          rotate_left
          · (intro W; go_simp; try with_reducible rfl)
          try simp only [Act.put, List.setIfInBounds_toArray, List.set_cons_zero, List.set_cons_succ]
          refine wpAny_take (i := 3) (v := ?_) rfl (by kernel_rfl) (by kernel_rfl) (by kernel_rfl) (fun _ _ _ h => h) (Or.inl ⟨by rfl, ?_⟩) ?_
          rotate_left
          · (intro W; go_simp; try with_reducible rfl)
          try simp only [Act.put, List.setIfInBounds_toArray, List.set_cons_zero, List.set_cons_succ]
          refine wpAny_ready (rs := [0, 4]) (by kernel_rfl) (by simp) ?_
          refine AllReady.cons rfl (fun K hK => ?_) ?_
          · go_simp
            refine hK _ _ ?_
            clear hK K
            try simp only [Act.put, List.setIfInBounds_toArray, List.set_cons_zero, List.set_cons_succ]
            refine wpAny_ready (rs := [4]) (by kernel_rfl) (by simp) ?_
            refine AllReady.cons rfl (fun K hK => ?_) ?_
            · go_simp
              refine hK _ _ ?_
              clear hK K
              try simp only [Act.put, List.setIfInBounds_toArray, List.set_cons_zero, List.set_cons_succ]
              refine wpAny_ready (rs := [8]) (by kernel_rfl) (by simp) ?_
              refine AllReady.cons rfl (fun K hK => ?_) ?_
              · go_simp
                refine hK _ _ ?_
                clear hK K
                try simp only [Act.put, List.setIfInBounds_toArray, List.set_cons_zero, List.set_cons_succ]
                refine wpAny_ready (rs := [9]) (by kernel_rfl) (by simp) ?_
                refine AllReady.cons rfl (fun K hK => ?_) ?_
                · (refine stepR_append E8 rfl rfl Q2.out.drew rfl HR8.out rfl (by rw [by8_length, HB64.out]) (by8_one _) (n2 + 64) (by8 l3) rfl (by rw [← HL3.out, by8_append]) (by simp only [maxLen]; omega) (by omega) (by have := HBL.out.size; have := HQB.out; show w3.heap.size ≤ W4.heap.size; omega) ?_; intro A7 c7 W7 hc7 ho7 ht7 ha7; have hb7 := ht7.blk Q1.out.drew (own_blk Q2.out Q1.out (by decide)); have c07 := hb7.cell 0; have f07 := hb7.frozen 0; simp at c07; have HO7 := Lib.hid ho7; have HT7 := Lib.hid ht7; have HA7 := Lib.hid ha7; clear ho7 ht7 ha7 hb7)
                  refine hK _ _ ?_
                  clear hK K
                  try simp only [Act.put, List.setIfInBounds_toArray, List.set_cons_zero, List.set_cons_succ]
                  refine wpAny_ready (rs := [10]) (by kernel_rfl) (by simp) ?_
                  refine AllReady.cons rfl (fun K hK => ?_) ?_
                  · go_simp
                    refine hK _ _ ?_
                    clear hK K
                    try simp only [Act.put, List.setIfInBounds_toArray, List.set_cons_zero, List.set_cons_succ]
                    refine wpAny_done (by kernel_rfl) ?_ _
                    (gi_wp2; obtain ⟨g1, g2, g3⟩ := HE1.out A7 c7 W7 hc7 HO7.out HT7.out HA7.out _ rfl; exact ⟨⟨j + 1, by omega, by go_num, g1, g2, g3⟩, by simp [RowKit.intOf]; omega⟩)
                  exact AllReady.nil
                exact AllReady.nil
              exact AllReady.nil
            exact AllReady.nil
          refine AllReady.cons rfl (fun K hK => ?_) ?_
          · go_simp
            refine hK _ _ ?_
            clear hK K
            try simp only [Act.put, List.setIfInBounds_toArray, List.set_cons_zero, List.set_cons_succ]
            refine wpAny_ready (rs := [0, 8]) (by kernel_rfl) (by simp) ?_
            refine AllReady.cons rfl (fun K hK => ?_) ?_
            · go_simp
              refine hK _ _ ?_
              clear hK K
              try simp only [Act.put, List.setIfInBounds_toArray, List.set_cons_zero, List.set_cons_succ]
              refine wpAny_ready (rs := [8]) (by kernel_rfl) (by simp) ?_
              refine AllReady.cons rfl (fun K hK => ?_) ?_
              · go_simp
                refine hK _ _ ?_
                clear hK K
                try simp only [Act.put, List.setIfInBounds_toArray, List.set_cons_zero, List.set_cons_succ]
                refine wpAny_ready (rs := [9]) (by kernel_rfl) (by simp) ?_
                refine AllReady.cons rfl (fun K hK => ?_) ?_
                · (refine stepR_append E8 rfl rfl Q2.out.drew rfl HR8.out rfl (by rw [by8_length, HB64.out]) (by8_one _) (n2 + 64) (by8 l3) rfl (by rw [← HL3.out, by8_append]) (by simp only [maxLen]; omega) (by omega) (by have := HBL.out.size; have := HQB.out; show w3.heap.size ≤ W4.heap.size; omega) ?_; intro A7 c7 W7 hc7 ho7 ht7 ha7; have hb7 := ht7.blk Q1.out.drew (own_blk Q2.out Q1.out (by decide)); have c07 := hb7.cell 0; have f07 := hb7.frozen 0; simp at c07; have HO7 := Lib.hid ho7; have HT7 := Lib.hid ht7; have HA7 := Lib.hid ha7; clear ho7 ht7 ha7 hb7)
                  refine hK _ _ ?_
                  clear hK K
                  try simp only [Act.put, List.setIfInBounds_toArray, List.set_cons_zero, List.set_cons_succ]
                  refine wpAny_ready (rs := [10]) (by kernel_rfl) (by simp) ?_
                  refine AllReady.cons rfl (fun K hK => ?_) ?_
                  · go_simp
                    refine hK _ _ ?_
                    clear hK K
                    try simp only [Act.put, List.setIfInBounds_toArray, List.set_cons_zero, List.set_cons_succ]
                    refine wpAny_done (by kernel_rfl) ?_ _
                    (gi_wp2; obtain ⟨g1, g2, g3⟩ := HE1.out A7 c7 W7 hc7 HO7.out HT7.out HA7.out _ rfl; exact ⟨⟨j + 1, by omega, by go_num, g1, g2, g3⟩, by simp [RowKit.intOf]; omega⟩)
                  exact AllReady.nil
                exact AllReady.nil
              exact AllReady.nil
            refine AllReady.cons rfl (fun K hK => ?_) ?_
            · go_simp
              refine hK _ _ ?_
              clear hK K
              try simp only [Act.put, List.setIfInBounds_toArray, List.set_cons_zero, List.set_cons_succ]
              refine wpAny_ready (rs := [0]) (by kernel_rfl) (by simp) ?_
              refine AllReady.cons rfl (fun K hK => ?_) ?_
              · go_simp
                refine hK _ _ ?_
                clear hK K
                try simp only [Act.put, List.setIfInBounds_toArray, List.set_cons_zero, List.set_cons_succ]
                refine wpAny_ready (rs := [9]) (by kernel_rfl) (by simp) ?_
                refine AllReady.cons rfl (fun K hK => ?_) ?_
                · (refine stepR_append E8 rfl rfl Q2.out.drew rfl HR8.out rfl (by rw [by8_length, HB64.out]) (by8_one _) (n2 + 64) (by8 l3) rfl (by rw [← HL3.out, by8_append]) (by simp only [maxLen]; omega) (by omega) (by have := HBL.out.size; have := HQB.out; show w3.heap.size ≤ W4.heap.size; omega) ?_; intro A7 c7 W7 hc7 ho7 ht7 ha7; have hb7 := ht7.blk Q1.out.drew (own_blk Q2.out Q1.out (by decide)); have c07 := hb7.cell 0; have f07 := hb7.frozen 0; simp at c07; have HO7 := Lib.hid ho7; have HT7 := Lib.hid ht7; have HA7 := Lib.hid ha7; clear ho7 ht7 ha7 hb7)
                  refine hK _ _ ?_
                  clear hK K
                  try simp only [Act.put, List.setIfInBounds_toArray, List.set_cons_zero, List.set_cons_succ]
                  refine wpAny_ready (rs := [10]) (by kernel_rfl) (by simp) ?_
                  refine AllReady.cons rfl (fun K hK => ?_) ?_
                  · go_simp
                    refine hK _ _ ?_
                    clear hK K
                    try simp only [Act.put, List.setIfInBounds_toArray, List.set_cons_zero, List.set_cons_succ]
                    refine wpAny_done (by kernel_rfl) ?_ _
                    (gi_wp2; obtain ⟨g1, g2, g3⟩ := HE1.out A7 c7 W7 hc7 HO7.out HT7.out HA7.out _ rfl; exact ⟨⟨j + 1, by omega, by go_num, g1, g2, g3⟩, by simp [RowKit.intOf]; omega⟩)
                  exact AllReady.nil
                exact AllReady.nil
              exact AllReady.nil
            exact AllReady.nil
          exact AllReady.nil
        exact AllReady.nil
      · obtain rfl : j = n := by omega
        have HSN := Lib.hid hS
        have HK := Lib.hid hK
        have HT := Lib.hid hT
        clear hS hK hT
        gi_wp2
        refine ⟨HK.out.from _, HT.out, ?_⟩
        have e : hd ++ (pre ++ [x]).flatMap (entR L) = l0 ++ (List.range j).flatMap (fun (i : Nat) => e1 L (z0 + (i : Int))) := by
          rw [List.flatMap_append, ← List.append_assoc, HL0.out, List.flatMap_cons, List.flatMap_nil, List.append_nil, HENT.out]
        show BSt w w3 w4 w5 g (hd ++ (pre ++ [x]).flatMap (entR L)) wr
        rw [e]
        exact HSN.out
  case done =>
    rintro D7 xs W7 hD rfl hS hK
    rw [entR_all] at hS
    have eB : hd ++ (nums L).flatMap (e1 L) = bytesL L := by rw [← HHD.out]; rfl
    rw [eB] at hS
    obtain ⟨⟨A, c, r1, r2, r3, r4⟩, rb, rbl, rsz⟩ := hS
    have cb := r1.cell 0
    simp at cb
    have HD7 := Lib.hid hK
    have R2 := Lib.hid r2
    have RBL := Lib.hid rbl
    clear r1 r2 rbl rb hK hl2
    go_wp2_with fail
    refine ⟨by simp, .inl ⟨D7, _, rfl, run_takeDeferred HD7.out, ?_⟩⟩
    have hz5 := B5.out.size
    exact ⟨_, results_tmp rfl _ _ _, A, c, rfl, r4, ownsRow_putObj (ownsRow_base R2.out (by omega)) _ HD7.out rfl, RBL.out.trans (belowK_b (w := w) (Nat.le_refl _) W7 D7 _ _ (by omega) HD7.out rfl rfl)⟩
end
end Go.Proofs.YthlijldapoeepaaGreat


/- Arguments opened: slices of structs, changes. -/

namespace Go.Proofs.YthlijldapoeepaaGreat
set_option linter.unusedVariables false
set_option maxRecDepth 100000
open Go.Joins Go.ChangeShapes Go.WideShapes Go.RowKit Go.Deep

section
variable {H : Type} {enc : TypeId × Value → H} {w : World} {base : Nat} {spare : Nat → Bool} {held : Bool}
theorem slice_trod {n by_ : Nat} {t e : TypeId} {k : IntKind} {v : Value} {y : DataW H × List MemPlace}
    (ht : Tryz.prog.underlying t = some (.slice e)) (he : Tryz.prog.underlying e = some (.int k)) (hc : Tryz.prog.cellsOf e = 1) (hby : Tryz.prog.bytesOf e = by_)
    (h : DataW.trod enc Tryz.prog w base spare held n t [v] = some y) (hs : ∀ m ∈ y.1.weights Tryz.prog t, m ≤ reachBytes) :
    ∃ (A : Option Addr) (c : Nat) (l : List Int), v = .slice A l.length c ∧ l.length ≤ c ∧ Rd w A (l.map (Value.int k)) ∧ (∀ n ∈ l, (Lit.int k n).wf = true) ∧ l.length * by_ ≤ 140737488351232 := by
  subst hby
  rcases open_ints ht he hc h with ⟨hcs, _⟩ | ⟨x, len, c, zs, hcs, hlc, hl, hm, hz, hx, hcell, hwz⟩
  · injection hcs with hcs
    subst hcs
    exact ⟨none, 0, [], rfl, Nat.le_refl _, Rd.nil, by simp, by simp⟩
  · injection hcs with hcs
    subst hcs
    have hzl : len ≤ zs.length := by
      rw [hz]; split <;> omega
    have hlen : (zs.take len).length = len := by rw [List.length_take]; omega
    refine ⟨some x, c, zs.take len, by rw [hlen], by omega, fun j u hj => ⟨x, rfl, ?_⟩, fun n hn => hwz n (List.mem_of_mem_take hn), ?_⟩
    · rw [List.getElem?_map, List.getElem?_take] at hj
      split at hj
      · rename_i hjl
        have hjz : j < zs.length := by omega
        rw [List.getElem?_eq_getElem hjz] at hj
        injection hj with hj
        rw [hcell j hjz, ← hj]
        simp [List.getD, List.getElem?_eq_getElem hjz]
      · cases hj
    · have := hs ((lits (H := H) k (zs.take len)).length * Tryz.prog.bytesOf e + (lits (H := H) k (zs.drop len)).length * Tryz.prog.bytesOf e) (by
        rw [hx, ← Nat.add_mul]
        simp [DataW.weights, ht])
      simp only [lits, List.length_map, List.length_take, List.length_drop, reachBytes] at this
      rw [hlen]
      have h2 : min len zs.length = len := Nat.min_eq_left hzl
      rw [h2] at this
      omega
theorem weightsAll_mem {P : Program} {e : TypeId} {d : DataW H} : ∀ {l : List (DataW H)} {q : Nat}, d ∈ l → q ∈ d.weights P e → q ∈ DataW.weightsAll P e l
  | x :: l, q, hd, hq => by
    simp only [DataW.weightsAll, List.mem_append]
    rcases List.mem_cons.1 hd with rfl | hd
    · exact .inl hq
    · exact .inr (weightsAll_mem hd hq)
/-- A slice of structs. -/
theorem srow_trod {α : Type} {t e : TypeId} {sz by_ : Nat} (cells : α → List Value) (In : α → Prop) (hcl : ∀ y, 0 < (cells y).length) (ht : Tryz.prog.underlying t = some (.slice e)) (hc : Tryz.prog.cellsOf e = sz) (hby : Tryz.prog.bytesOf e = by_) (h1 : 1 ≤ by_)
    (elem : ∀ {n : Nat} {cs : List Value} {x : DataW H × List MemPlace}, DataW.trod enc Tryz.prog w base spare held n e cs = some x → (∀ m ∈ x.1.weights Tryz.prog e, m ≤ reachBytes) → ∃ y, cs = cells y ∧ In y)
    {n : Nat} {v : Value} {y : DataW H × List MemPlace} (h : DataW.trod enc Tryz.prog w base spare held n t [v] = some y) (hs : ∀ m ∈ y.1.weights Tryz.prog t, m ≤ reachBytes) :
    ∃ (A : Option Addr) (c : Nat) (l : List α), v = .slice A l.length c ∧ l.length * by_ ≤ 140737488351232 ∧
      ∀ i (h : i < l.length), In l[i] ∧ ∃ b o, A = some ⟨b, o, none⟩ ∧ ∀ j u, (cells l[i])[j]? = some u → w.cell? ⟨b, o + (i * sz + j), none⟩ = some u := by
  rcases open_slice ht h with ⟨hcs, _⟩ | ⟨a, len, cap, m, n, D, Pl, hcs, _, hl, hm, hmm, hx, hi⟩
  · injection hcs with hcs
    subst hcs
    exact ⟨none, 0, [], rfl, by simp, fun i h => by cases h⟩
  · injection hcs with hcs
    subst hcs
    have hlm : len ≤ m := by rw [hmm]; split <;> omega
    have hd : y.1 = .slice ((List.range len).map D) ((List.range (m - len)).map fun j => D (len + j)) := by rw [hx]
    have each : ∀ i, i < len → ∃ y : α, In y ∧ ∀ j u, (cells y)[j]? = some u → w.cell? (a.add (i * sz + j)) = some u := fun i hil => by
      obtain ⟨cs', hc', ht'⟩ := hi i (by omega)
      rw [hc] at hc'
      obtain ⟨y', e', hy⟩ := elem ht' (fun q hq => by
        refine hs q ?_
        rw [hd]
        simp only [DataW.weights, ht, List.mem_cons, List.mem_append]
        refine .inr (.inl ?_)
        exact weightsAll_mem (d := D i) (List.mem_map.2 ⟨i, List.mem_range.2 hil, rfl⟩) hq)
      obtain ⟨_, hcl', hat⟩ := World.cells?_some hc'
      refine ⟨y', hy, fun j u hj => ?_⟩
      rw [← e'] at hj
      have hjl := (List.getElem?_eq_some_iff.1 hj).1
      rw [← Go.Deep.add_add, hat j (by omega), hj]
    have hex : ∃ l : List α, l.length = len ∧ ∀ i (h : i < l.length), In l[i] ∧ ∀ j u, (cells l[i])[j]? = some u → w.cell? (a.add (i * sz + j)) = some u := by
      refine ⟨(List.finRange len).map (fun i => (each i.1 i.2).choose), by simp, fun i h => ?_⟩
      have hil : i < len := by simpa using h
      have := (each i hil).choose_spec
      simpa using this
    obtain ⟨l, hll, hl2⟩ := hex
    have hbig := hs ((((List.range len).map D).length + ((List.range (m - len)).map fun j => D (len + j)).length) * Tryz.prog.bytesOf e) (by
      rw [hd]
      simp [DataW.weights, ht])
    rw [hby] at hbig
    simp only [List.length_map, List.length_range, reachBytes] at hbig
    have hle : len * by_ ≤ (len + (m - len)) * by_ := Nat.mul_le_mul_right _ (Nat.le_add_right _ _)
    have hsp : ∀ i (h : i < l.length), ∃ b o, a = ⟨b, o, none⟩ := fun i h => by
      have hp := hcl l[0]
      have h0 := (hl2 0 (by omega)).2 0 _ (List.getElem?_eq_getElem hp)
      have hs := World.cell?_spot h0
      obtain ⟨b, o, sp⟩ := a
      simp [Addr.add] at hs
      subst hs
      exact ⟨b, o, rfl⟩
    refine ⟨some a, cap, l, by rw [hll], by rw [hll]; omega, fun i hil => ⟨(hl2 i hil).1, ?_⟩⟩
    obtain ⟨b, o, rfl⟩ := hsp i hil
    refine ⟨b, o, rfl, fun j u hj => ?_⟩
    have h1 := (hl2 i hil).2 j u hj
    rwa [add_lit] at h1
theorem ch_trod {n : Nat} {cs : List Value} {x : DataW H × List MemPlace} (h : DataW.trod enc Tryz.prog w base spare held n 54 cs = some x) (hs : ∀ m ∈ x.1.weights Tryz.prog 54, m ≤ reachBytes) :
    ∃ y : ChS, cs = y.cells ∧ y.In w := by
  obtain ⟨xs, n', _, hx, hlen, hxl, hf⟩ := DataW.trod_struct Tryz.underlying54 h
  have hc4 : Tryz.prog.cellsOf 54 = 2 := by kernel_rfl
  rw [hc4] at hlen
  match cs, hlen with
  | [v0, v1], _ =>
    match xs, hxl with
    | [y0, y1], _ =>
      have g0 := hf 0 _ rfl
      have g1 := hf 1 _ rfl
      have k0 : Tryz.prog.cellsOf 3 = 1 := by kernel_rfl
      have k1 : Tryz.prog.cellsOf 52 = 1 := by kernel_rfl
      simp [k0, k1] at g0 g1
      obtain ⟨a0, e0, _, w0⟩ := DataW.trod_int Tryz.underlying3 g0
      have hw : ∀ (j : Nat) (d : DataW H) (t : TypeId), ([y0.1, y1.1] : List (DataW H))[j]? = some d → ([3, 52] : List TypeId)[j]? = some t → ∀ m ∈ DataW.weights Tryz.prog t d, m ≤ reachBytes := fun j d t hd ht m hm => by
        refine hs m ?_
        rw [hx]
        simp only [DataW.weights, Tryz.underlying54]
        exact DataW.weights_mem_each ht hd m hm
      obtain ⟨A, c, b, rfl, hbc, hrb, hwb, hlb⟩ := slice_trod (by_ := 1) Tryz.underlying52 Tryz.underlying5 (by kernel_rfl) (by kernel_rfl) g1 (hw 1 y1.1 _ rfl rfl)
      simp at e0
      subst e0
      exact ⟨⟨A, c, a0, b⟩, rfl, ⟨wf_i64 w0, hrb, isB_of hwb, by show b.length ≤ _; omega⟩⟩
theorem chs_trod {n : Nat} {v : Value} {y : DataW H × List MemPlace} (h : DataW.trod enc Tryz.prog w base spare held n 38 [v] = some y) (hs : ∀ m ∈ y.1.weights Tryz.prog 38, m ≤ reachBytes) :
    ∃ (A : Option Addr) (c : Nat) (l : List ChS), v = .slice A l.length c ∧ l.length ≤ 4398046510976 ∧ ChsAt w A l := by
  obtain ⟨A, c, l, e, hl, ha⟩ := srow_trod (by_ := 32) ChS.cells (ChS.In w) (fun y => by simp [ChS.cells]) Tryz.underlying38 (by kernel_rfl) (by kernel_rfl) (by omega) ch_trod h hs
  exact ⟨A, c, l, e, by omega, ha⟩
theorem open_chs {r : Reach} {b0 : Nat} {v : Value} {d : DataW H} {p : List MemPlace} (hs : ∀ m ∈ d.weights Tryz.prog 38, m ≤ reachBytes)
    (hv : Value.okWide Tryz.prog w r b0 38 v) (h : DataW.Trod enc Tryz.prog w base spare held 38 v d p) :
    ∃ (A : Option Addr) (c : Nat) (l : List ChS), v = .slice A l.length c ∧ l.length ≤ 140737488351232 ∧ ChsAt w A l := by
  obtain ⟨a0, len0, cap0, rfl⟩ := okWide_slice Tryz.underlying38 hv
  obtain ⟨fuel, hf⟩ := h
  obtain ⟨A, c, l, e, hl, ha⟩ := chs_trod hf hs
  exact ⟨A, c, l, e, by omega, ha⟩
end
end Go.Proofs.YthlijldapoeepaaGreat

