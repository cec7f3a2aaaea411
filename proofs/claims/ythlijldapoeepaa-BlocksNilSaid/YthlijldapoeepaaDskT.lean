/- The disk's blocks, tight: all of them are cells; what abides the turn of other blocks. Writing rows: what it computes. -/
import Derived.Test.YthlijldapoeepaaBlk7
import Derived.Test.YthlijldapoeepaaTurned
namespace Go.Proofs.Ythlijldapoeepaa
set_option linter.unusedVariables false
set_option linter.unusedSimpArgs false
set_option maxRecDepth 100000
open Go.RowKit

def CellB (w : World) (b : Nat) : Prop := ∃ o : Obj, w.heap[b]? = some o ∧ o.isCells = true
theorem CellB.blk {w : World} {g : Nat} {t : TypeId} {cs : Array Value} (h : Blk w g t cs) : CellB w g := ⟨_, h, rfl⟩
theorem CellB.rd {w : World} {b : Nat} {o : Nat} {xs : List Value} (h : Rd w (some ⟨b, o, none⟩) xs) (hx : xs ≠ []) : CellB w b := by
  obtain ⟨ad, e, hb, hc⟩ := h.at_ (k := 0) (by cases xs with | nil => exact absurd rfl hx | cons _ _ => simp)
  injection e with e
  subst e
  rw [add_lit] at hc
  unfold World.cell? at hc
  simp only at hc
  split at hc
  · rename_i o h1 h2
    exact ⟨_, h2, rfl⟩
  · cases hc
theorem CellB.own {w : World} {base : Nat} {e : TypeId} {size n m c : Nat} {A : Option Addr} {xs : List Value} (h : w.ownsRow base e size (.slice A n c) m xs) {b : Nat} (hb : Blo A b) : CellB w b := by
  rcases h.2 with ⟨h1, h2⟩ | ⟨g, cap, cur, h1, _, hg, _⟩
  · injection h1 with h1
    subst h1
    exact (Blo.none b hb).elim
  · injection h1 with h1
    subst h1
    have e := (Blo.some_iff _ _).1 hb
    simp at e
    subst e
    exact ⟨_, hg, rfl⟩
theorem CellB.turn {w w' : World} {b : Nat} (h : CellB w b) (ht : Turn w w') : CellB w' b := by
  obtain ⟨o, ho, hc⟩ := h
  refine ⟨o, (ht.block b (Array.getElem?_eq_some_iff.1 ho).1 ?_).trans ho, hc⟩
  rintro ⟨o', ho', hc'⟩
  rw [ho] at ho'
  injection ho' with e
  subst e
  rw [hc] at hc'
  cases hc'
theorem GAt.tight {w : World} {R : Nat → Prop} : ∀ {gs : List (Nat × List Int)} {vs : List Value}, Dk.GAt w R gs vs → (∀ x ∈ gs, x.2 ≠ []) → Dk.GAt w (fun b => R b ∧ CellB w b) gs vs
  | [], _, h, _ => h
  | g :: gs, _, ⟨b, r, e, hr, hb, h⟩, hn => ⟨b, r, e, hr, ⟨hb, CellB.rd hr (by8_ne (hn g List.mem_cons_self))⟩, GAt.tight h (fun x hx => hn x (List.mem_cons_of_mem _ hx))⟩

/-- A disk, all its blocks cells. -/
structure TDisk (w : World) (d : Nat) (D : Dk.DS) (M R : Nat → Prop) : Prop where
  dsk : Dk.IsDisk w d D M R
  cm : ∀ b, M b → CellB w b
  cr : ∀ b, R b → CellB w b
theorem IsDisk.tight {w : World} {d : Nat} {D : Dk.DS} {M R : Nat → Prop} (h : Dk.IsDisk w d D M R) : ∃ M0 R0, TDisk w d D M0 R0 ∧ (∀ b, M0 b → M b) ∧ ∀ b, R0 b → R b := by
  obtain ⟨bs, cs, bn, cn, Al, cl, cells, h⟩ := h
  refine ⟨fun b => M b ∧ CellB w b, fun b => R b ∧ CellB w b, ⟨⟨bs, cs, bn, cn, Al, cl, cells, ?_⟩, fun b h => h.2, fun b h => h.2⟩, fun b h => h.1, fun b h => h.1⟩
  exact ⟨h.ok, h.blk, h.safe, h.now, h.row, GAt.tight h.gat (fun x hx => by
      obtain ⟨_, k, h1, h2, _⟩ := h.ok.gs x hx
      intro e
      rw [e] at h2
      simp at h2
      omega), h.ne, ⟨h.mg, CellB.blk h.blk⟩, ⟨h.ms, CellB.own h.safe rfl⟩, ⟨h.mn, CellB.own h.now rfl⟩, fun b hb => ⟨h.ml b hb, CellB.own h.row hb⟩, fun b hb hm => h.rm b hb.1 hm.1, h.few, fun b hb => h.mlt b hb.1, fun b hb => h.rlt b hb.1⟩
theorem CellB.no {w : World} {b : Nat} (h : CellB w b) {o : Obj} (ho : w.heap[b]? = some o) (hc : o.isCells = false) : False := by
  obtain ⟨o', ho', hc'⟩ := h
  rw [ho] at ho'
  injection ho' with e
  subst e
  rw [hc] at hc'
  cases hc'
theorem TDisk.turn {w w' : World} {d : Nat} {D : Dk.DS} {M R : Nat → Prop} (h : TDisk w d D M R) (ht : Turn w w') : TDisk w' d D M R :=
  ⟨h.dsk.tr ht (fun b hb ⟨o, ho, hc⟩ => (h.cm b hb).no ho hc) (fun b hb ⟨o, ho, hc⟩ => (h.cr b hb).no ho hc), fun b hb => (h.cm b hb).turn ht, fun b hb => (h.cr b hb).turn ht⟩
theorem TDisk.keeps {w w' : World} {d : Nat} {D : Dk.DS} {M R : Nat → Prop} (h : TDisk w d D M R) (ht : Tr M w w') : KeepsOthers w w' :=
  keeps_tr ht (fun b hb o ho => by
    cases hc : o.isCells with
    | true => rfl
    | false => exact ((h.cm b hb).no ho hc).elim)

/-! ### writing -/
theorem writeD_n (D : Dk.DS) (a : Int) (l : List Int) : (Dk.writeD D a l).n = D.n := by unfold Dk.writeD; split; rfl; split <;> rfl
theorem writeD_dead (D : Dk.DS) (a : Int) (l : List Int) : (Dk.writeD D a l).dead = D.dead := by unfold Dk.writeD; split; rfl; split <;> rfl
theorem writeD_failing (D : Dk.DS) (a : Int) (l : List Int) : (Dk.writeD D a l).failing = D.failing := by unfold Dk.writeD; split; rfl; split <;> rfl
theorem writeD_safe (D : Dk.DS) (a : Int) (l : List Int) : (Dk.writeD D a l).safe = D.safe := by unfold Dk.writeD; split; rfl; split <;> rfl
theorem writeD_few (D : Dk.DS) (a : Int) (l : List Int) : (Dk.writeD D a l).gs.length ≤ D.gs.length + 1 := by
  unfold Dk.writeD; split; omega; split; omega; simp [Dk.DS.put]
/-- Where a row lies. -/
def rowAt (F n a k : Nat) : Nat := F + 19 + a * rowsN n + k
/-- Rows written, one behind the other. -/
def rowsD (D : Dk.DS) (F a : Nat) (L : List (List Int)) (ks : List Nat) : Dk.DS := ks.foldl (fun D k => Dk.writeD D (rowAt F L.length a k : Nat) (rowL L k)) D
theorem rowsD_snoc (D : Dk.DS) (F a : Nat) (L : List (List Int)) (ks : List Nat) (k : Nat) : rowsD D F a L (ks ++ [k]) = Dk.writeD (rowsD D F a L ks) (rowAt F L.length a k : Nat) (rowL L k) := by unfold rowsD; rw [List.foldl_append]; rfl
theorem snocInd {α : Type} {P : List α → Prop} (h0 : P []) (hs : ∀ l x, P l → P (l ++ [x])) (l : List α) : P l := by
  rw [← l.reverse_reverse]
  induction l.reverse with
  | nil => exact h0
  | cons x l ih => rw [List.reverse_cons]; exact hs _ _ ih
theorem rowsD_keeps (D : Dk.DS) (F a : Nat) (L : List (List Int)) (ks : List Nat) : (rowsD D F a L ks).n = D.n ∧ (rowsD D F a L ks).dead = D.dead ∧ (rowsD D F a L ks).failing = D.failing ∧ (rowsD D F a L ks).safe = D.safe ∧ (rowsD D F a L ks).gs.length ≤ D.gs.length + ks.length := by
  induction ks using snocInd with
  | h0 => exact ⟨rfl, rfl, rfl, rfl, Nat.le_refl _⟩
  | hs ks k ih =>
    rw [rowsD_snoc]
    obtain ⟨h1, h2, h3, h4, h5⟩ := ih
    refine ⟨(writeD_n _ _ _).trans h1, (writeD_dead _ _ _).trans h2, (writeD_failing _ _ _).trans h3, (writeD_safe _ _ _).trans h4, ?_⟩
    have := writeD_few (rowsD D F a L ks) (rowAt F L.length a k : Nat) (rowL L k)
    rw [List.length_append, List.length_singleton]
    omega
theorem rowL_length {L : List (List Int)} (h : ImgOk L) (k : Nat) : (rowL L k).length = 195 := rowTo_length h k 3
theorem rowL_isB {L : List (List Int)} (h : ImgOk L) (k : Nat) : isB (rowL L k) := rowTo_isB h k 3
theorem writeE_row {D : Dk.DS} {L : List (List Int)} (h : ImgOk L) (hd : D.dead = false) {F a k : Nat} (ha : a ≤ 1) (hk : k < rowsN L.length) (hn : F + 19 + 2 * rowsN L.length ≤ D.n) : Dk.writeE D (rowAt F L.length a k : Nat) (rowL L k) = 0 := by
  unfold Dk.writeE
  rw [hd, if_neg (by simp), if_neg]
  unfold Dk.wrongD
  rw [decide_eq_true_iff]
  have hs : Dk.secs (rowL L k) = 1 := by unfold Dk.secs; rw [rowL_length h]
  rw [hs]
  unfold rowAt
  have : a * rowsN L.length ≤ rowsN L.length := by
    rcases (by omega : a = 0 ∨ a = 1) with rfl | rfl <;> omega
  omega
end Go.Proofs.Ythlijldapoeepaa
