/- Layer 4: a segment followed: its records. -/
import Derived.Test.YtceajiliahmkaaaWalF
import Derived.Test.YtceajiliahmkaaaHeldW
namespace Go.Proofs.Ytceajiliahmkaaa
set_option linter.unusedVariables false
set_option linter.unusedSimpArgs false
set_option maxRecDepth 100000
open Go.RowKit

theorem infoS : (Try.prog.info? 33).map (fun i => (i.zero, i.size, i.bytes)) = some (some (.slice none 0 0), 1, 24) := by kernel_rfl
theorem ES : AppTy Try.prog 28 33 1 24 := AppTy.mk' Try.underlying28 infoS rfl (by decide)
/-- Records in a row of the call's own. -/
def RecRow (w : World) (B : Nat) (A : Option Addr) (c : Nat) (ls : List (List Int)) : Prop :=
  ∃ vs : List Value, w.ownsRow B 33 1 (.slice A ls.length c) ls.length vs ∧ ∀ i (h : i < ls.length), ∃ A' c', vs[i]? = some (.slice A' ls[i].length c') ∧ w.ownsRow B 5 1 (.slice A' ls[i].length c') ls[i].length (by8 ls[i])
section
variable {w w' : World} {p d : Nat} {x : LG} {A : Option Addr} {c B : Nat} {D : DS} {M R F : Nat → Prop} {ls : List (List Int)}
theorem RecRow.nil (w : World) (B : Nat) : RecRow w B none 0 [] := ⟨[], ownsRow_emp _ _ _ _, fun i h => by cases h⟩
theorem RecRow.tr (h : RecRow w B A c ls) (ht : Tr F w w') (hF : ∀ b, B ≤ b → b < w.heap.size → ¬ F b) : RecRow w' B A c ls := by
  obtain ⟨vs, h1, h2⟩ := h
  refine ⟨vs, own_tr h1 ht (fun b hb => hF b (own_ge h1 b hb) (own_lt h1 b hb)), fun i hi => ?_⟩
  obtain ⟨A', c', e, ho⟩ := h2 i hi
  exact ⟨A', c', e, own_tr ho ht (fun b hb => hF b (own_ge ho b hb) (own_lt ho b hb))⟩
theorem RecRow.below (h : RecRow w B A c ls) (hb : Below w.heap.size w w') : RecRow w' B A c ls := h.tr (Tr.of_below (F := NoB) hb) (fun _ _ _ h => h)
theorem RecRow.base (h : RecRow w B A c ls) {B' : Nat} (hB : B' ≤ B) : RecRow w B' A c ls := by
  obtain ⟨vs, h1, h2⟩ := h
  refine ⟨vs, ownsRow_base h1 hB, fun i hi => ?_⟩
  obtain ⟨A', c', e, ho⟩ := h2 i hi
  exact ⟨A', c', e, ownsRow_base ho hB⟩
/-- Behind an append of one record's slice. -/
theorem RecRow.add {w3 : World} {vs : List Value} {A2 A5 : Option Addr} {c2 c5 : Nat} {b : List Int} (h1 : w.ownsRow B 33 1 (.slice A ls.length c) ls.length vs) (h2 : ∀ i (h : i < ls.length), ∃ A' c', vs[i]? = some (.slice A' ls[i].length c') ∧ w.ownsRow B 5 1 (.slice A' ls[i].length c') ls[i].length (by8 ls[i]))
    (hb : w.ownsRow B 5 1 (.slice A2 b.length c2) b.length (by8 b)) (ho : w3.ownsRow B 33 1 (.slice A5 (ls.length + 1) c5) (ls.length + 1) (vs ++ [.slice A2 b.length c2])) (ht : Tr (Blo A) w w3) :
    RecRow w3 B A5 c5 (ls ++ [b]) := by
  have hvl : vs.length = ls.length := by have := h1.1; omega
  have hfar : ∀ (A' : Option Addr) (c' n : Nat) (xs : List Value), w.ownsRow B 5 1 (.slice A' n c') n xs → w3.ownsRow B 5 1 (.slice A' n c') n xs := fun A' c' n xs h => own_tr h ht (fun b hx hq => own_two_ne h1 h (by decide) hq hx)
  refine ⟨vs ++ [.slice A2 b.length c2], by rw [List.length_append]; exact ho, fun i hi => ?_⟩
  rw [List.length_append] at hi
  simp only [List.length_cons, List.length_nil] at hi
  by_cases hlt : i < ls.length
  · obtain ⟨A', c', e, hx⟩ := h2 i hlt
    refine ⟨A', c', ?_, ?_⟩
    · rw [List.getElem?_append_left (by omega), List.getElem_append_left hlt]
      exact e
    · rw [List.getElem_append_left hlt]
      exact hfar _ _ _ _ hx
  · obtain rfl : i = ls.length := by omega
    refine ⟨A2, c2, ?_, ?_⟩
    · rw [List.getElem?_append_right (by omega), hvl, Nat.sub_self, List.getElem_append_right (Nat.le_refl _)]
      simp
    · rw [List.getElem_append_right (Nat.le_refl _)]
      simp only [Nat.sub_self, List.getElem_cons_zero]
      exact hfar _ _ _ _ hb
/-- A log at block p, on the disk at block d. -/
structure LgAt (w : World) (p d : Nat) (x : LG) (A : Option Addr) (c : Nat) (D : DS) (M R : Nat → Prop) : Prop where
  lg : IsLg w p d x A c
  row : SegRow w 0 A c x.chain
  dk : IsDisk w d D M R
  pa : ¬ Blo A p
  pm : ¬ M p
  pr : ¬ R p
  am : ∀ b, Blo A b → ¬ M b ∧ ¬ R b
theorem LgAt.below (h : LgAt w p d x A c D M R) (hb : Below w.heap.size w w') : LgAt w' p d x A c D M R := ⟨h.lg.keep hb, h.row.below hb, h.dk.below hb, h.pa, h.pm, h.pr, h.am⟩
/-- The records of a segment, from a sector and a number on. -/
def LG.folTo (x : LG) (D : DS) (s : SG) : Nat → Nat → Int → List (List Int)
  | 0, _, _ => []
  | f + 1, at_, i => match x.recL D s at_ i with
    | none => []
    | some (b, k) => b :: x.folTo D s f (at_ + k) (i + 1)
def LG.folL (x : LG) (D : DS) (s : SG) : List (List Int) := x.folTo D s 64 1 s.first
def LG.folX (x : LG) (D : DS) (s : SG) : LG := { x with chain := x.chain ++ [s], next := s.first + (x.folL D s).length }
theorem recL_len {s : SG} {at_ : Nat} {i : Int} {b : List Int} {k : Nat} (h : x.recL D s at_ i = some (b, k)) : 1 ≤ k ∧ at_ < x.per ∧ at_ + k ≤ x.per := by
  unfold LG.recL at h
  split at h
  · cases h
  · split at h
    · cases h
    · split at h
      · injection h with h
        injection h with h1 h2
        subst h2
        refine ⟨by unfold takesN; omega, by omega, by omega⟩
      · cases h
theorem folTo_len {s : SG} : ∀ (f at_ : Nat) (i : Int), (x.folTo D s f at_ i).length ≤ f
  | 0, _, _ => Nat.le_refl _
  | f + 1, at_, i => by
    unfold LG.folTo
    split
    · simp
    · have := folTo_len (s := s) f (at_ + ‹Nat›) (i + 1)
      simp only [List.length_cons]
      omega
theorem LgAt.tr (h : LgAt w p d x A c D M R) (ht : Tr F w w') (hF : ∀ b, (b = p ∨ Blo A b ∨ M b ∨ R b) → ¬ F b) : LgAt w' p d x A c D M R :=
  ⟨ht.blk h.lg (hF p (.inl rfl)), h.row.tr ht (fun b hb => hF b (.inr (.inl hb))), h.dk.tr ht (fun b hb => hF b (.inr (.inr (.inl hb)))) (fun b hb => hF b (.inr (.inr (.inr hb)))), h.pa, h.pm, h.pr, h.am⟩
theorem LgAt.set9 (h : LgAt w p d x A c D M R) (n : Int) : LgAt (w.setCell ⟨p, 9, none⟩ (.int .i64 n)) p d { x with next := n } A c D M R ∧ Tr (fun b => b = p) w (w.setCell ⟨p, 9, none⟩ (.int .i64 n)) := by
  have ts : Tr (fun b => b = p) w (w.setCell ⟨p, 9, none⟩ (.int .i64 n)) := (Tr.refl (fun b => b = p) w).setCell (p := ⟨p, 9, none⟩) (fun _ => rfl) _
  have hb := h.lg.set_ 9 (.int .i64 n)
  refine ⟨⟨?_, h.row.tr ts (fun b hb e => h.pa (e ▸ hb)), h.dk.tr ts (fun b hb e => h.pm (e ▸ hb)) (fun b hb e => h.pr (e ▸ hb)), h.pa, h.pm, h.pr, h.am⟩, ts⟩
  simpa [lgCells, IsLg] using hb
theorem LgAt.chained {W1' w2 : World} {A2 : Option Addr} {c2 : Nat} {s : SG} (h : LgAt w p d x A c D M R) (hW : Below w.heap.size w W1') (hr2 : SegRow w2 0 A2 c2 (x.chain ++ [s])) (ht2 : Tr (Blo A) W1' w2) (ha2 : ∀ b, Blo A2 b → Blo A b ∨ W1'.heap.size ≤ b) (n : Nat) (hn : x.chain.length + 1 = n) :
    LgAt ((w2.setCell ⟨p, 8, none⟩ (.slice A2 n c2)).setCell ⟨p, 9, none⟩ (.int .i64 s.first)) p d { x with chain := x.chain ++ [s], next := s.first } A2 c2 D M R ∧ Tr (fun b => b = p ∨ Blo A b) w ((w2.setCell ⟨p, 8, none⟩ (.slice A2 n c2)).setCell ⟨p, 9, none⟩ (.int .i64 s.first)) ∧ (∀ b, Blo A2 b → b < w2.heap.size) ∧ (∀ b, Blo A2 b → Blo A b ∨ w.heap.size ≤ b) := by
  subst hn
  have hz := hW.size
  have hal := h.row.lt
  have hpl := h.lg.lt
  have hml := h.dk.mlt
  have hrl := h.dk.rlt
  have hb2 := ht2.blk (h.lg.keep hW) h.pa
  have hd2 := (h.dk.below hW).tr ht2 (fun b hb e => (h.am b e).1 hb) (fun b hb e => (h.am b e).2 hb)
  have t8 : Tr (fun b => b = p) w2 ((w2.setCell ⟨p, 8, none⟩ (.slice A2 (x.chain.length + 1) c2)).setCell ⟨p, 9, none⟩ (.int .i64 s.first)) := ((Tr.refl (fun b => b = p) w2).setCell (p := ⟨p, 8, none⟩) (fun _ => rfl) _).setCell (p := ⟨p, 9, none⟩) (fun _ => rfl) _
  have hpa2 : ¬ Blo A2 p := fun hb => (ha2 p hb).elim h.pa (fun e => by omega)
  refine ⟨⟨?_, hr2.tr t8 (fun b hb e => hpa2 (e ▸ hb)), hd2.tr t8 (fun b hb e => h.pm (e ▸ hb)) (fun b hb e => h.pr (e ▸ hb)), hpa2, h.pm, h.pr, fun b hb => ?_⟩, ?_, fun b hb => (hr2.lt b hb).2, fun b hb => (ha2 b hb).imp id (fun e => by omega)⟩
  · have hs := (hb2.set_ 8 (.slice A2 (x.chain.length + 1) c2)).set_ 9 (.int .i64 s.first)
    simpa [lgCells, IsLg] using hs
  · rcases ha2 b hb with e | e
    · exact h.am b e
    · exact ⟨fun q => by have := hml b q; omega, fun q => by have := hrl b q; omega⟩
  · exact ((Tr.of_below hW).trans ht2 (fun b _ e => .inr e)).trans t8 (fun b _ e => .inl e)
def RetFol (w : World) (p d : Nat) (x' : LG) (A : Option Addr) (D : DS) (M R : Nat → Prop) (ls : List (List Int)) (e : Ending) (w' : World) : Prop :=
  ∃ A' c' Ar cr B, e = .returned (.slice Ar ls.length cr) ∧ LgAt w' p d x' A' c' D M R ∧ w.heap.size ≤ B ∧ RecRow w' B Ar cr ls ∧ (∀ b, Blo A' b → b < B) ∧ (∀ b, Blo A' b → Blo A b ∨ w.heap.size ≤ b) ∧ Tr (fun b => b = p ∨ Blo A b) w w'
set_option maxHeartbeats 12800000 in
theorem follow_any (h : LgAt w p d x A c D M R) (hg : x.Geo D.n) (s : SG) (hs : 1 ≤ s.life ∧ s.life ≤ 1152921504606846976) (hf : 0 ≤ s.first ∧ s.first ≤ 1152921504606846976) (hc : x.chain.length ≤ 200) :
    Calls Try.prog 53 #[.pointer (some ⟨p, 0, none⟩), s.agg] w (RetFol w p d (x.folX D s) A D M R (x.folL D s)) := by
  have HL := Lib.hid h
  have HG := Lib.hid hg
  have hp64 := hg.p64
  have hplt := h.lg.lt
  have hAlt := h.row.lt
  have hpa := h.pa
  obtain ⟨sl, sf, se⟩ := s
  simp only at hs hf
  have HSR := Lib.hid h.row
  have c8 := h.lg.cell 8
  simp [lgCells] at c8
  obtain ⟨cl, hcl⟩ : ∃ cl, x.chain.length = cl := ⟨_, rfl⟩
  have HCL := Lib.hid hcl
  rw [hcl] at c8 hc
  have agg : (SG.mk sl sf se).agg = .agg #[.int .i64 sl, .int .i64 sf, .int .i64 se] := rfl
  rw [agg]
  clear h hg agg hcl
  have HX := Lib.hid (bl_alloc w (.cells #[.int .i64 sl, .int .i64 sf, .int .i64 se] 71))
  have hxb : Blk (w.alloc (.cells #[.int .i64 sl, .int .i64 sf, .int .i64 se] 71)) w.heap.size 71 #[.int .i64 sl, .int .i64 sf, .int .i64 se] := Blk.new _ _ _
  have HXB := Lib.hid hxb
  have HLX := Lib.hid (HL.out.below HX.out)
  have hsz1 : (w.alloc (.cells #[.int .i64 sl, .int .i64 sf, .int .i64 se] 71)).heap.size = w.heap.size + 1 := by simp
  clear hxb c8
  have HAP := Lib.hid hpa
  have HAL := Lib.hid hAlt
  clear hpa hAlt
  go_enter Try.func53, Try.ntmps53
  go_wp2_with fail
  generalize w.alloc (.cells #[.int .i64 sl, .int .i64 sf, .int .i64 se] 71) = W1 at HX HXB HLX hsz1 ⊢
  have z0 := HXB.out.cell 0
  have z1 := HXB.out.cell 1
  have z2 := HXB.out.cell 2
  have d8 := HLX.out.lg.cell 8
  simp at z0 z1 z2
  simp [lgCells] at d8
  rw [HCL.out] at d8
  have hrd : Rd (W1.alloc (.cells #[.int .i64 sl, .int .i64 sf, .int .i64 se] 71)).drew (some ⟨w.heap.size + 1, 0, none⟩) (SG.mk sl sf se).cells := (Rd.newAt W1 (w.heap.size + 1) 71 [.int .i64 sl, .int .i64 sf, .int .i64 se] #[.int .i64 sl, .int .i64 sf, .int .i64 se] 0 (by omega) rfl).drew
  have HRD := Lib.hid hrd
  have hcl200 : x.chain.length ≤ 1000 := by have := HCL.out; omega
  have hcl1 : x.chain.length + 1 = cl + 1 := by rw [HCL.out]
  have HQ := Lib.hid (And.intro hcl200 hcl1)
  clear hrd hcl200 hcl1
  go_region_law (refine stepR_seg (B := 0) (L := x.chain) (A0 := A) (c0 := c) (n := cl) (A2 := some ⟨w.heap.size + 1, 0, none⟩) (c2 := 1) rfl rfl (HLX.out.row.below (bl_chain (bl_alloc _ _) (bl_drew _))) rfl HCL.out.symm ⟨sl, sf, se⟩ HRD.out rfl HQ.out.1 (Nat.zero_le _) (cl + 1) HQ.out.2 ?_; intro A2 c2 w2 hr2 ht2 ha2; have hb2 := ht2.blk (Blk.drew (HLX.out.lg.alloc _)) HAP.out; have q8 := hb2.cell 8; have f8 := hb2.frozen 8; have q9 := hb2.cell 9; have f9 := hb2.frozen 9; simp [lgCells] at q8 q9; have hx2 := ht2.blk (Blk.drew (HXB.out.alloc _)) (fun hb => by have := HAL.out _ hb; omega); have y0 := hx2.cell 0; have y1 := hx2.cell 1; have y2 := hx2.cell 2; simp at y0 y1 y2; have HR2 := Lib.hid hr2; have HT2 := Lib.hid ht2; have HA2 := Lib.hid ha2; have HB2 := Lib.hid hb2; have HX2 := Lib.hid hx2; clear hr2 ht2 ha2 hb2 hx2)
  all_goals
    have hch := (HLX.out.chained (bl_chain (bl_alloc _ _) (bl_drew _)) HR2.out HT2.out HA2.out (cl + 1) HQ.out.2)
    have HCH := Lib.hid hch
    have hzz := HT2.out.size
    simp at hzz
    clear hch
    go_wp2_with fail
    have hx3 := (HX2.out.far (p := ⟨p, 8, none⟩) (by show w.heap.size ≠ p; omega) (.slice A2 (cl + 1) c2)).far (p := ⟨p, 9, none⟩) (by show w.heap.size ≠ p; omega) (.int .i64 sf)
    have HX3 := Lib.hid hx3
    have hz3 : ((w2.setCell ⟨p, 8, none⟩ (.slice A2 (cl + 1) c2)).setCell ⟨p, 9, none⟩ (.int .i64 sf)).heap.size = w2.heap.size := by simp
    have HA3 : Hid (∀ b, Blo A2 b → b < ((w2.setCell ⟨p, 8, none⟩ (.slice A2 (cl + 1) c2)).setCell ⟨p, 9, none⟩ (.int .i64 sf)).heap.size) := Lib.hid (by rw [hz3]; exact HCH.out.2.2.1)
    have HZ3 : Hid (w.heap.size + 2 ≤ ((w2.setCell ⟨p, 8, none⟩ (.slice A2 (cl + 1) c2)).setCell ⟨p, 9, none⟩ (.int .i64 sf)).heap.size) := Lib.hid (by rw [hz3]; omega)
    clear hx3 hz3
    generalize (w2.setCell ⟨p, 8, none⟩ (.slice A2 (cl + 1) c2)).setCell ⟨p, 9, none⟩ (.int .i64 sf) = w3 at HCH HX3 HA3 HZ3 ⊢
    go_loopw [5, 6, 7, 8] (fun v5 v6 _ _ W => ∃ (pre : List (List Int)) (f at_ n : Nat) (Ar : Option Addr) (cr : Nat), v5 = .slice Ar n cr ∧ n = pre.length ∧ v6 = .int .i64 (at_ : Int) ∧ LgAt W p d { x with chain := x.chain ++ [⟨sl, sf, se⟩], next := sf + (pre.length : Int) } A2 c2 D M R ∧ RecRow W w3.heap.size Ar cr pre ∧ Blk W w.heap.size 71 #[.int .i64 sl, .int .i64 sf, .int .i64 se] ∧ Tr (fun b => b = p ∨ Blo A b) W1 W ∧ w3.heap.size ≤ W.heap.size ∧
        pre ++ x.folTo D ⟨sl, sf, se⟩ f at_ (sf + (pre.length : Int)) = x.folL D ⟨sl, sf, se⟩ ∧ x.per < at_ + f ∧ at_ ≤ 64 ∧ pre.length + f ≤ 64) (fun _ v6 _ _ _ => 100 - (intOf v6).toNat)
    case atStart =>
      have h1 := HCH.out.1
      exact ⟨[], 64, 1, 0, none, 0, rfl, rfl, rfl, by simpa using h1, RecRow.nil _ _, HX3.out, HCH.out.2.1, Nat.le_refl _, by simp [LG.folL], by omega, by omega, by simp⟩
    case round =>
      obtain ⟨pre, f, at_, pn, Ar, cr, rfl, hpn, rfl, hl, hrr, hbx, htr, hwz, hfol, hpf, hat, hpf2⟩ := hrel
      have hpn64 : pn ≤ 64 := by omega
      rw [← hpn] at hl hfol
      have HPN := Lib.hid hpn
      have HFO := Lib.hid hfol
      have HLG := Lib.hid hl
      have HRR := Lib.hid hrr
      have HBX := Lib.hid hbx
      have HTR := Lib.hid htr
      have c0 := hbx.cell 0
      have c1 := hbx.cell 1
      have c2' := hbx.cell 2
      have c9 := hl.lg.cell 9
      simp at c0 c1 c2'
      simp [lgCells] at c9
      have HSS : Hid (wr.drew.cell? ⟨w.heap.size, 0, none⟩ = some (.int .i64 sl) ∧ wr.drew.cell? ⟨w.heap.size, 1, none⟩ = some (.int .i64 sf) ∧ wr.drew.cell? ⟨w.heap.size, 2, none⟩ = some (.int .i64 se) ∧ wr.drew.cell? ⟨p, 9, none⟩ = some (.int .i64 (sf + (pn : Int)))) := Lib.hid ⟨c0, c1, c2', c9⟩
      have hgeo : LG.Geo { x with chain := x.chain ++ [⟨sl, sf, se⟩], next := sf + (pn : Int) } D.n := ⟨HG.out.s2, HG.out.s64, HG.out.p2, HG.out.p64, HG.out.fit, HG.out.big⟩
      have hrec : Calls Try.prog 67 #[.pointer (some ⟨p, 0, none⟩), .agg #[.int .i64 sl, .int .i64 sf, .int .i64 se], .int .i64 (at_ : Int), .int .i64 (sf + (pn : Int))] wr.drew (RetRec wr.drew (x.recL D ⟨sl, sf, se⟩ at_ (sf + (pn : Int)))) :=
        record_any (hl.below (bl_drew wr)).lg hgeo (hl.below (bl_drew wr)).dk ⟨sl, sf, se⟩ hs at_ (by omega) (sf + (pn : Int))
      have hplr := hl.lg.lt
      clear hpn hfol hl hrr hbx htr hgeo c0 c1 c2' c9
      cases hrl : x.recL D ⟨sl, sf, se⟩ at_ (sf + (pn : Int)) with
      | none =>
        rw [hrl] at hrec
        have HREC := Lib.hid hrec
        have HEND : Hid (x.folL D ⟨sl, sf, se⟩ = pre) := Lib.hid (by
          have h1 := HFO.out
          cases f with
          | zero => simpa [LG.folTo] using h1.symm
          | succ f => simpa [LG.folTo, hrl] using h1.symm)
        clear hrl hrec
        go_wp2_with fail
        refine held_startB (S := fun W => W.cell? ⟨w.heap.size, 0, none⟩ = some (.int .i64 sl) ∧ W.cell? ⟨w.heap.size, 1, none⟩ = some (.int .i64 sf) ∧ W.cell? ⟨w.heap.size, 2, none⟩ = some (.int .i64 se) ∧ W.cell? ⟨p, 9, none⟩ = some (.int .i64 (sf + (pn : Int)))) (by kernel_rfl) ?_
        refine held_take (HSS.out) (i := 0) (v := ?_) rfl (by kernel_rfl) (by kernel_rfl) (by kernel_rfl) (fun _ _ _ h => h) (Or.inl ⟨by rfl, ?_⟩) ?_
        rotate_left
        · (intro W hSw; obtain ⟨s1, s2, s3, s4⟩ := hSw; go_simp; try with_reducible rfl)
        try simp only [Act.put, List.setIfInBounds_toArray, List.set_cons_zero, List.set_cons_succ]
        refine held_take (HSS.out) (i := 1) (v := ?_) rfl (by kernel_rfl) (by kernel_rfl) (by kernel_rfl) (fun _ _ _ h => h) (Or.inl ⟨by rfl, ?_⟩) ?_
        rotate_left
        · (intro W hSw; obtain ⟨s1, s2, s3, s4⟩ := hSw; go_simp; try with_reducible rfl)
        try simp only [Act.put, List.setIfInBounds_toArray, List.set_cons_zero, List.set_cons_succ]
        refine held_take (HSS.out) (i := 2) (v := ?_) rfl (by kernel_rfl) (by kernel_rfl) (by kernel_rfl) (fun _ _ _ h => h) (Or.inl ⟨by rfl, ?_⟩) ?_
        rotate_left
        · (intro W hSw; obtain ⟨s1, s2, s3, s4⟩ := hSw; go_simp; try with_reducible rfl)
        try simp only [Act.put, List.setIfInBounds_toArray, List.set_cons_zero, List.set_cons_succ]
        refine held_take (HSS.out) (i := 3) (v := ?_) rfl (by kernel_rfl) (by kernel_rfl) (by kernel_rfl) (fun _ _ _ h => h) (Or.inl ⟨by rfl, ?_⟩) ?_
        rotate_left
        · (intro W hSw; obtain ⟨s1, s2, s3, s4⟩ := hSw; go_simp; try with_reducible rfl)
        try simp only [Act.put, List.setIfInBounds_toArray, List.set_cons_zero, List.set_cons_succ]
        refine held_take (HSS.out) (i := 4) (v := ?_) rfl (by kernel_rfl) (by kernel_rfl) (by kernel_rfl) (fun _ _ _ h => h) (Or.inl ⟨by rfl, ?_⟩) ?_
        rotate_left
        · (intro W hSw; obtain ⟨s1, s2, s3, s4⟩ := hSw; go_simp; try with_reducible rfl)
        try simp only [Act.put, List.setIfInBounds_toArray, List.set_cons_zero, List.set_cons_succ]
        refine held_take (HSS.out) (i := 5) (v := ?_) rfl (by kernel_rfl) (by kernel_rfl) (by kernel_rfl) (fun _ _ _ h => h) (Or.inl ⟨by rfl, ?_⟩) ?_
        rotate_left
        · (intro W hSw; obtain ⟨s1, s2, s3, s4⟩ := hSw; go_simp; try with_reducible rfl)
        try simp only [Act.put, List.setIfInBounds_toArray, List.set_cons_zero, List.set_cons_succ]
        refine held_take (HSS.out) (i := 6) (v := ?_) rfl (by kernel_rfl) (by kernel_rfl) (by kernel_rfl) (fun _ _ _ h => h) (Or.inl ⟨by rfl, ?_⟩) ?_
        rotate_left
        · (intro W hSw; obtain ⟨s1, s2, s3, s4⟩ := hSw; go_simp; try with_reducible rfl)
        try simp only [Act.put, List.setIfInBounds_toArray, List.set_cons_zero, List.set_cons_succ]
        refine held_call (i := 7) (by kernel_rfl) rfl (fun K hK => ?_)
        go_simp
        (go_at_call 67; (with_reducible refine HREC.out.mono ?_); rintro e w4 ⟨rfl, hb4⟩; have hbb := bl_chain (bl_drew wr) hb4; have HB4 := Lib.hid hbb; have HS4 := Lib.hid (show w4.cell? ⟨w.heap.size, 0, none⟩ = some (.int .i64 sl) ∧ w4.cell? ⟨w.heap.size, 1, none⟩ = some (.int .i64 sf) ∧ w4.cell? ⟨w.heap.size, 2, none⟩ = some (.int .i64 se) ∧ w4.cell? ⟨p, 9, none⟩ = some (.int .i64 (sf + (pn : Int))) from ⟨(hbb.cell (cell_block_lt HSS.out.1)).trans HSS.out.1, (hbb.cell (cell_block_lt HSS.out.2.1)).trans HSS.out.2.1, (hbb.cell (cell_block_lt HSS.out.2.2.1)).trans HSS.out.2.2.1, (hbb.cell (cell_block_lt HSS.out.2.2.2)).trans HSS.out.2.2.2⟩); clear hb4 hbb)
        refine hK.out _ _ (HS4.out) ?_
        clear hK K
        try simp only [Act.put, List.setIfInBounds_toArray, List.set_cons_zero, List.set_cons_succ]
        refine held_take (HS4.out) (i := 8) (v := ?_) rfl (by kernel_rfl) (by kernel_rfl) (by kernel_rfl) (fun _ _ _ h => h) (Or.inl ⟨by rfl, ?_⟩) ?_
        rotate_left
        · (intro W hSw; obtain ⟨s1, s2, s3, s4⟩ := hSw; go_simp; try with_reducible rfl)
        try simp only [Act.put, List.setIfInBounds_toArray, List.set_cons_zero, List.set_cons_succ]
        refine held_take (HS4.out) (i := 9) (v := ?_) rfl (by kernel_rfl) (by kernel_rfl) (by kernel_rfl) (fun _ _ _ h => h) (Or.inl ⟨by rfl, ?_⟩) ?_
        rotate_left
        · (intro W hSw; obtain ⟨s1, s2, s3, s4⟩ := hSw; go_simp; try with_reducible rfl)
        try simp only [Act.put, List.setIfInBounds_toArray, List.set_cons_zero, List.set_cons_succ]
        refine held_take (HS4.out) (i := 11) (v := ?_) rfl (by kernel_rfl) (by kernel_rfl) (by kernel_rfl) (fun _ _ _ h => h) (Or.inl ⟨by rfl, ?_⟩) ?_
        rotate_left
        · (intro W hSw; obtain ⟨s1, s2, s3, s4⟩ := hSw; go_simp; try with_reducible rfl)
        try simp only [Act.put, List.setIfInBounds_toArray, List.set_cons_zero, List.set_cons_succ]
        refine held_take (HS4.out) (i := 10) (v := ?_) rfl (by kernel_rfl) (by kernel_rfl) (by kernel_rfl) (fun _ _ _ h => h) (Or.inl ⟨by rfl, ?_⟩) ?_
        rotate_left
        · (intro W hSw; obtain ⟨s1, s2, s3, s4⟩ := hSw; go_simp; try with_reducible rfl)
        try simp only [Act.put, List.setIfInBounds_toArray, List.set_cons_zero, List.set_cons_succ]
        refine held_take (HS4.out) (i := 12) (v := ?_) rfl (by kernel_rfl) (by kernel_rfl) (by kernel_rfl) (fun _ _ _ h => h) (Or.inl ⟨by rfl, ?_⟩) ?_
        rotate_left
        · (intro W hSw; obtain ⟨s1, s2, s3, s4⟩ := hSw; go_simp; try with_reducible rfl)
        try simp only [Act.put, List.setIfInBounds_toArray, List.set_cons_zero, List.set_cons_succ]
        refine wpAnyH_done (by kernel_rfl) ?_ _
        go_wp2_with fail
        go_ret
        have hz := HZ3.out
        rw [HEND.out]
        refine ⟨A2, c2, Ar, cr, w3.heap.size, ?_, ?_, by omega, HRR.out.below HB4.out, HA3.out, fun b hb => (HCH.out.2.2.2 b hb).imp id (fun e => by omega), ((Tr.of_below HX.out).trans HTR.out (fun b _ e => e)).then_below HB4.out⟩
        · rw [HPN.out]; rfl
        · have h1 := HLG.out.below HB4.out
          show LgAt w4 p d { x with chain := x.chain ++ [⟨sl, sf, se⟩], next := sf + ((x.folL D ⟨sl, sf, se⟩).length : Int) } A2 c2 D M R
          rw [HEND.out, ← HPN.out]
          exact h1
      | some bk =>
        obtain ⟨b, k⟩ := bk
        rw [hrl] at hrec
        obtain ⟨hk1, hk2, hk3⟩ := recL_len hrl
        obtain ⟨f', rfl⟩ : ∃ f', f = f' + 1 := ⟨f - 1, by omega⟩
        obtain ⟨bn, hbn⟩ : ∃ bn, b.length = bn := ⟨_, rfl⟩
        have HBN := Lib.hid hbn
        have hrec2 : Calls Try.prog 67 #[.pointer (some ⟨p, 0, none⟩), .agg #[.int .i64 sl, .int .i64 sf, .int .i64 se], .int .i64 (at_ : Int), .int .i64 (sf + (pn : Int))] wr.drew fun e w' => ∃ A' c', e = .returned (.tuple #[.slice A' bn c', .int .i64 (k : Int)]) ∧ w'.ownsRow wr.drew.heap.size 5 1 (.slice A' bn c') bn (by8 b) ∧ Below wr.drew.heap.size wr.drew w' := by
          rw [← hbn]
          exact hrec
        have HREC := Lib.hid hrec2
        have HSTEP : Hid ((pre ++ [b]) ++ x.folTo D ⟨sl, sf, se⟩ f' (at_ + k) (sf + (pn : Int) + 1) = x.folL D ⟨sl, sf, se⟩) := Lib.hid (by
          have h1 := HFO.out
          simp only [LG.folTo, hrl] at h1
          rw [← h1]
          simp)
        have hk0 : ((k : Int) == 0) = false := by simp; omega
        have hw9 : -9223372036854775808 ≤ sf + (pn : Int) + 1 ∧ sf + (pn : Int) + 1 ≤ 9223372036854775807 := by omega
        clear hrl hrec hrec2 hbn
        go_wp2_with fail
        refine held_startB (S := fun W => W.cell? ⟨w.heap.size, 0, none⟩ = some (.int .i64 sl) ∧ W.cell? ⟨w.heap.size, 1, none⟩ = some (.int .i64 sf) ∧ W.cell? ⟨w.heap.size, 2, none⟩ = some (.int .i64 se) ∧ W.cell? ⟨p, 9, none⟩ = some (.int .i64 (sf + (pn : Int)))) (by kernel_rfl) ?_
        refine held_take (HSS.out) (i := 0) (v := ?_) rfl (by kernel_rfl) (by kernel_rfl) (by kernel_rfl) (fun _ _ _ h => h) (Or.inl ⟨by rfl, ?_⟩) ?_
        rotate_left
        · (intro W hSw; obtain ⟨s1, s2, s3, s4⟩ := hSw; go_simp; try with_reducible rfl)
        try simp only [Act.put, List.setIfInBounds_toArray, List.set_cons_zero, List.set_cons_succ]
        refine held_take (HSS.out) (i := 1) (v := ?_) rfl (by kernel_rfl) (by kernel_rfl) (by kernel_rfl) (fun _ _ _ h => h) (Or.inl ⟨by rfl, ?_⟩) ?_
        rotate_left
        · (intro W hSw; obtain ⟨s1, s2, s3, s4⟩ := hSw; go_simp; try with_reducible rfl)
        try simp only [Act.put, List.setIfInBounds_toArray, List.set_cons_zero, List.set_cons_succ]
        refine held_take (HSS.out) (i := 2) (v := ?_) rfl (by kernel_rfl) (by kernel_rfl) (by kernel_rfl) (fun _ _ _ h => h) (Or.inl ⟨by rfl, ?_⟩) ?_
        rotate_left
        · (intro W hSw; obtain ⟨s1, s2, s3, s4⟩ := hSw; go_simp; try with_reducible rfl)
        try simp only [Act.put, List.setIfInBounds_toArray, List.set_cons_zero, List.set_cons_succ]
        refine held_take (HSS.out) (i := 3) (v := ?_) rfl (by kernel_rfl) (by kernel_rfl) (by kernel_rfl) (fun _ _ _ h => h) (Or.inl ⟨by rfl, ?_⟩) ?_
        rotate_left
        · (intro W hSw; obtain ⟨s1, s2, s3, s4⟩ := hSw; go_simp; try with_reducible rfl)
        try simp only [Act.put, List.setIfInBounds_toArray, List.set_cons_zero, List.set_cons_succ]
        refine held_take (HSS.out) (i := 4) (v := ?_) rfl (by kernel_rfl) (by kernel_rfl) (by kernel_rfl) (fun _ _ _ h => h) (Or.inl ⟨by rfl, ?_⟩) ?_
        rotate_left
        · (intro W hSw; obtain ⟨s1, s2, s3, s4⟩ := hSw; go_simp; try with_reducible rfl)
        try simp only [Act.put, List.setIfInBounds_toArray, List.set_cons_zero, List.set_cons_succ]
        refine held_take (HSS.out) (i := 5) (v := ?_) rfl (by kernel_rfl) (by kernel_rfl) (by kernel_rfl) (fun _ _ _ h => h) (Or.inl ⟨by rfl, ?_⟩) ?_
        rotate_left
        · (intro W hSw; obtain ⟨s1, s2, s3, s4⟩ := hSw; go_simp; try with_reducible rfl)
        try simp only [Act.put, List.setIfInBounds_toArray, List.set_cons_zero, List.set_cons_succ]
        refine held_take (HSS.out) (i := 6) (v := ?_) rfl (by kernel_rfl) (by kernel_rfl) (by kernel_rfl) (fun _ _ _ h => h) (Or.inl ⟨by rfl, ?_⟩) ?_
        rotate_left
        · (intro W hSw; obtain ⟨s1, s2, s3, s4⟩ := hSw; go_simp; try with_reducible rfl)
        try simp only [Act.put, List.setIfInBounds_toArray, List.set_cons_zero, List.set_cons_succ]
        refine held_call (i := 7) (by kernel_rfl) rfl (fun K hK => ?_)
        go_simp
        (go_at_call 67; (with_reducible refine HREC.out.mono ?_); rintro e w4 ⟨A4, c4, rfl, ho4, hb4⟩; have hbb := bl_chain (bl_drew wr) hb4; have HB4 := Lib.hid hbb; have HO4 := Lib.hid ho4; have HS4 := Lib.hid (show w4.cell? ⟨w.heap.size, 0, none⟩ = some (.int .i64 sl) ∧ w4.cell? ⟨w.heap.size, 1, none⟩ = some (.int .i64 sf) ∧ w4.cell? ⟨w.heap.size, 2, none⟩ = some (.int .i64 se) ∧ w4.cell? ⟨p, 9, none⟩ = some (.int .i64 (sf + (pn : Int))) from ⟨(hbb.cell (cell_block_lt HSS.out.1)).trans HSS.out.1, (hbb.cell (cell_block_lt HSS.out.2.1)).trans HSS.out.2.1, (hbb.cell (cell_block_lt HSS.out.2.2.1)).trans HSS.out.2.2.1, (hbb.cell (cell_block_lt HSS.out.2.2.2)).trans HSS.out.2.2.2⟩); clear ho4 hb4 hbb)
        refine hK.out _ _ (HS4.out) ?_
        clear hK K
        try simp only [Act.put, List.setIfInBounds_toArray, List.set_cons_zero, List.set_cons_succ]
        refine held_take (HS4.out) (i := 8) (v := ?_) rfl (by kernel_rfl) (by kernel_rfl) (by kernel_rfl) (fun _ _ _ h => h) (Or.inl ⟨by rfl, ?_⟩) ?_
        rotate_left
        · (intro W hSw; obtain ⟨s1, s2, s3, s4⟩ := hSw; go_simp; try with_reducible rfl)
        try simp only [Act.put, List.setIfInBounds_toArray, List.set_cons_zero, List.set_cons_succ]
        refine held_take (HS4.out) (i := 9) (v := ?_) rfl (by kernel_rfl) (by kernel_rfl) (by kernel_rfl) (fun _ _ _ h => h) (Or.inl ⟨by rfl, ?_⟩) ?_
        rotate_left
        · (intro W hSw; obtain ⟨s1, s2, s3, s4⟩ := hSw; go_simp; try with_reducible rfl)
        try simp only [Act.put, List.setIfInBounds_toArray, List.set_cons_zero, List.set_cons_succ]
        refine held_take (HS4.out) (i := 11) (v := ?_) rfl (by kernel_rfl) (by kernel_rfl) (by kernel_rfl) (fun _ _ _ h => h) (Or.inl ⟨by rfl, ?_⟩) ?_
        rotate_left
        · (intro W hSw; obtain ⟨s1, s2, s3, s4⟩ := hSw; go_simp; try with_reducible rfl)
        try simp only [Act.put, List.setIfInBounds_toArray, List.set_cons_zero, List.set_cons_succ]
        refine held_take (HS4.out) (i := 10) (v := ?_) rfl (by kernel_rfl) (by kernel_rfl) (by kernel_rfl) (fun _ _ _ h => h) (Or.inl ⟨by rfl, ?_⟩) ?_
        rotate_left
        · (intro W hSw; obtain ⟨s1, s2, s3, s4⟩ := hSw; go_simp; try with_reducible rfl)
        try simp only [Act.put, List.setIfInBounds_toArray, List.set_cons_zero, List.set_cons_succ]
        refine held_take (HS4.out) (i := 12) (v := ?_) rfl (by kernel_rfl) (by kernel_rfl) (by kernel_rfl) (fun _ _ _ h => h) (Or.inl ⟨by rfl, ?_⟩) ?_
        rotate_left
        · (intro W hSw; obtain ⟨s1, s2, s3, s4⟩ := hSw; go_simp; try with_reducible rfl)
        try simp only [Act.put, List.setIfInBounds_toArray, List.set_cons_zero, List.set_cons_succ]
        refine wpAnyH_done (by kernel_rfl) ?_ _
        obtain ⟨vs, hv1, hv2⟩ := HRR.out.below HB4.out
        rw [← HPN.out] at hv1
        have HV1 := Lib.hid hv1
        have HV2 := Lib.hid hv2
        have hz4 := HB4.out.size
        have hz3 := HZ3.out
        have hl4 := HLG.out.below HB4.out
        have HL4 := Lib.hid hl4
        have HB4x := Lib.hid (HBX.out.keep HB4.out)
        clear hv1 hv2 hl4
        go_wp2_with (first
          | (at_builtin; refine wpL_append ES rfl rfl (HV1.out.alloc _) rfl (Rd.newAt _ w4.heap.size _ [.slice A4 bn c4] _ 0 rfl rfl) rfl (by rfl) (by simp [Value.oneCell']) (pn + 1) (vs ++ [.slice A4 bn c4]) rfl rfl (by simp only [maxLen]; omega) (by omega) (by simp; omega) ?_; intro A5 c5 w5 hc5 ho5 ht5 ha5; have HO5 := Lib.hid ho5; have HT5 := Lib.hid ht5; have hl5 := ht5.blk (HL4.out.lg.alloc _) (fun hb => by have := own_ge HV1.out p hb; omega); have q9 := hl5.cell 9; have f9 := hl5.frozen 9; simp [lgCells] at q9; have HL5 := Lib.hid hl5; clear ho5 ht5 ha5 hl5))
        go_roundw
        case measure => simp [intOf]; omega
        case rel =>
          have hz5 := HT5.out.size
          simp at hz5
          have hml := HL.out.dk.mlt
          have hrl := HL.out.dk.rlt
          have hage : ∀ b, Blo Ar b → w3.heap.size ≤ b := own_ge HV1.out
          have t5 : Tr (Blo Ar) w4 w5 := ((Tr.refl (Blo Ar) w4).alloc _).trans HT5.out (fun b _ e => e)
          have hl5 := HL4.out.tr t5 (fun b hb e => by
            have h1 := hage b e
            rcases hb with hb | hb | hb | hb
            · omega
            · have := HA3.out b hb; omega
            · have := hml b hb; omega
            · have := hrl b hb; omega)
          obtain ⟨hl6, t6⟩ := hl5.set9 (sf + (pn : Int) + 1)
          have hbx5 := t6.blk (t5.blk HB4x.out (fun e => by have := hage _ e; omega)) (fun e => by omega)
          have ho4 := ownsRow_base HO4.out (show w3.heap.size ≤ wr.drew.heap.size from hwz)
          have hpn := HPN.out
          rw [← HBN.out] at ho4
          have ho5 := HO5.out
          have hv1 := HV1.out
          rw [hpn, ← HBN.out] at ho5
          rw [hpn] at hv1
          have hrow := (RecRow.add hv1 HV2.out ho4 ho5 t5).tr t6 (fun b hb _ e => by omega)
          have htt := (((HTR.out.then_below HB4.out).trans t5 (fun b hb e => by have := hage b e; omega)).trans t6 (fun b _ e => .inl e))
          have hzs : (w5.setCell ⟨p, 9, none⟩ (.int .i64 (sf + (pn : Int) + 1))).heap.size = w5.heap.size := by simp
          refine ⟨pre ++ [b], f', at_ + k, pn + 1, A5, c5, rfl, by simp; omega, by go_num, ?_, hrow, hbx5, htt, by omega, ?_, by omega, by omega, by simp; omega⟩
          · have e : sf + ((pre ++ [b]).length : Int) = sf + (pn : Int) + 1 := by simp; omega
            rw [e]
            exact hl6
          · have e : sf + ((pre ++ [b]).length : Int) = sf + (pn : Int) + 1 := by simp; omega
            rw [e]
            exact HSTEP.out
end
end Go.Proofs.Ytceajiliahmkaaa
