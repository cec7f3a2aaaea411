/- Layer 4: the chain read. -/
import Derived.Test.YtceajiliahmkaaaWalH
namespace Go.Proofs.Ytceajiliahmkaaa
set_option linter.unusedVariables false
set_option linter.unusedSimpArgs false
set_option maxRecDepth 100000
open Go.RowKit

def LG.segAt (x : LG) (i : Nat) : Nat := x.from_ + 2 + i * x.per
/-- The head that the chain begins with, of the first segments. -/
def LG.selTo (x : LG) (D : DS) : Nat → SG
  | 0 => ⟨0, 0, 0⟩
  | i + 1 => match x.headL (x.segAt i) (secL D (x.segAt i)) with
    | none => x.selTo D i
    | some s => if s.first ≤ x.base + 1 ∧ ((x.selTo D i).epoch < s.epoch ∨ s.epoch = (x.selTo D i).epoch ∧ (x.selTo D i).life < s.life) then s else x.selTo D i
def LG.nextH (y : LG) (D : DS) (last : SG) : Option SG := match y.headL (y.place last.life.toNat) (secL D (y.place last.life.toNat)) with
  | none => none
  | some s => if s.life = last.life + 1 ∧ last.epoch ≤ s.epoch ∧ inW s.first last.first y.next = true then some s else none
/-- The chain read on: the log, and its records. -/
def LG.rdTo (D : DS) (f0 : Int) : Nat → LG → List (List Int) → SG → LG × List (List Int)
  | 0, y, out, _ => (y, out)
  | f + 1, y, out, last => if y.chain.length < y.segs ∧ last.life < 1152921504606846976 then match y.nextH D last with
      | none => (y, out)
      | some s => rdTo D f0 f (y.folX D s) (out.take (s.first - f0).toNat ++ y.folL D s) s
    else (y, out)
def LG.rdX (x : LG) (D : DS) : LG × List (List Int) × Int :=
  if (x.selTo D x.segs).life = 0 then ({ x with next := x.base + 1 }, [], x.base + 1)
  else (fun r => (r.1, r.2, (x.selTo D x.segs).first)) (LG.rdTo D (x.selTo D x.segs).first 64 (({ x with next := x.base + 1 } : LG).folX D (x.selTo D x.segs)) (x.folL D (x.selTo D x.segs)) (x.selTo D x.segs))
section
variable {w w' : World} {p d : Nat} {x : LG} {A : Option Addr} {c : Nat} {D : DS} {M R F : Nat → Prop}
theorem headL_ok {a : Nat} {l : List Int} {s : SG} (h : x.headL a l = some s) : (1 ≤ s.life ∧ s.life ≤ 1152921504606846976) ∧ (1 ≤ s.first ∧ s.first ≤ 1152921504606846976) ∧ (1 ≤ s.epoch ∧ s.epoch ≤ 1152921504606846976) := by
  unfold LG.headL at h
  split at h
  · rename_i hc
    injection h with h
    subst h
    obtain ⟨_, h1, h2, h3, _⟩ := hc
    unfold inW at h1 h2 h3
    simp only [Bool.and_eq_true, decide_eq_true_eq] at h1 h2 h3
    exact ⟨h1, h2, h3⟩
  · cases h
theorem selTo_ok (i : Nat) : x.selTo D i = ⟨0, 0, 0⟩ ∨ ((1 ≤ (x.selTo D i).life ∧ (x.selTo D i).life ≤ 1152921504606846976) ∧ (1 ≤ (x.selTo D i).first ∧ (x.selTo D i).first ≤ 1152921504606846976) ∧ (1 ≤ (x.selTo D i).epoch ∧ (x.selTo D i).epoch ≤ 1152921504606846976) ∧ (x.selTo D i).first ≤ x.base + 1) := by
  induction i with
  | zero => exact .inl rfl
  | succ i ih =>
    unfold LG.selTo
    split
    · exact ih
    · rename_i s hs
      split
      · rename_i hc
        obtain ⟨h1, h2, h3⟩ := headL_ok hs
        exact .inr ⟨h1, h2, h3, hc.1⟩
      · exact ih
-- GEN
theorem selTo_next (k : Int) : ∀ n, ({ x with next := k } : LG).selTo D n = x.selTo D n
  | 0 => rfl
  | n + 1 => by
    have ih := selTo_next k n
    simp only [LG.selTo]
    rw [ih]
    rfl
theorem RecRow.trT {B : Nat} {ls : List (List Int)} (h : RecRow w B A c ls) (ht : Tr F w w') (hF : ∀ b, F b → b < B ∨ SegTy w b) : RecRow w' B A c ls := by
  obtain ⟨vs, h1, h2⟩ := h
  refine ⟨vs, own_tr h1 ht (fun b hb hf => ?_), fun i hi => ?_⟩
  · rcases hF b hf with e | e
    · have := own_ge h1 b hb; omega
    · exact e.not_own h1 (by decide) hb
  · obtain ⟨A', c', e, ho⟩ := h2 i hi
    refine ⟨A', c', e, own_tr ho ht (fun b hb hf => ?_)⟩
    rcases hF b hf with e | e
    · have := own_ge ho b hb; omega
    · exact e.not_own ho (by decide) hb
theorem own_take {B n k : Nat} {e : TypeId} {A : Option Addr} {xs : List Value} (h : w.ownsRow B e 1 (.slice A n c) n xs) (hk : k ≤ n) : w.ownsRow B e 1 (.slice A k c) k (xs.take k) := by
  obtain ⟨h1, h2⟩ := h
  refine ⟨by rw [List.length_take]; omega, ?_⟩
  rcases h2 with ⟨hv, h0⟩ | ⟨g, cap, cur, hv, hb, hg, h3, h4, h5, h6⟩
  · injection hv with e1 e2 e3
    obtain rfl : k = 0 := by omega
    exact .inl ⟨by rw [e1, e3], rfl⟩
  · injection hv with e1 e2 e3
    subst e1
    subst e3
    refine .inr ⟨g, c, cur, rfl, hb, hg, by omega, h4, h5, ?_⟩
    rw [← h6, List.take_take, Nat.mul_one, Nat.mul_one, Nat.min_eq_left hk]
/-- Some first records of the one list, and the other list behind them. -/
theorem RecRow.cat {w3 : World} {B B2 k c5 : Nat} {A5 : Option Addr} {ls ls2 : List (List Int)} {vs vs2 : List Value} (h1 : w.ownsRow B 33 1 (.slice A ls.length c) ls.length vs) (h2 : ∀ i (h : i < ls.length), ∃ A' c', vs[i]? = some (.slice A' ls[i].length c') ∧ w.ownsRow B 5 1 (.slice A' ls[i].length c') ls[i].length (by8 ls[i])) (hk : k ≤ ls.length)
    (g1 : vs2.length = ls2.length) (g2 : ∀ i (h : i < ls2.length), ∃ A' c', vs2[i]? = some (.slice A' ls2[i].length c') ∧ w.ownsRow B2 5 1 (.slice A' ls2[i].length c') ls2[i].length (by8 ls2[i])) (hB : B ≤ B2)
    (ho : w3.ownsRow B 33 1 (.slice A5 (k + ls2.length) c5) (k + ls2.length) (vs.take k ++ vs2)) (ht : Tr (Blo A) w w3) : RecRow w3 B A5 c5 (ls.take k ++ ls2) := by
  have hvl : vs.length = ls.length := by have := h1.1; omega
  have hfar : ∀ (A' : Option Addr) (c' n B' : Nat) (xs : List Value), w.ownsRow B' 5 1 (.slice A' n c') n xs → w3.ownsRow B' 5 1 (.slice A' n c') n xs := fun A' c' n B' xs h => own_tr h ht (fun b hx hq => own_two_ne h1 h (by decide) hq hx)
  have hl : (ls.take k ++ ls2).length = k + ls2.length := by rw [List.length_append, List.length_take]; omega
  refine ⟨vs.take k ++ vs2, by rw [hl]; exact ho, fun i hi => ?_⟩
  rw [hl] at hi
  by_cases hlt : i < k
  · obtain ⟨A', c', e, hx⟩ := h2 i (by omega)
    have e1 : (ls.take k ++ ls2)[i]'(by rw [hl]; exact hi) = ls[i] := by
      rw [List.getElem_append_left (by rw [List.length_take]; omega), List.getElem_take]
    refine ⟨A', c', ?_, ?_⟩
    · rw [e1, List.getElem?_append_left (by rw [List.length_take]; omega), List.getElem?_take, if_pos hlt]
      exact e
    · rw [e1]
      exact hfar _ _ _ _ _ hx
  · obtain ⟨A', c', e, hx⟩ := g2 (i - k) (by omega)
    have hkl : (ls.take k).length = k := by rw [List.length_take]; omega
    have hkv : (vs.take k).length = k := by rw [List.length_take]; omega
    have e1 : (ls.take k ++ ls2)[i]'(by rw [hl]; exact hi) = ls2[i - k] := by
      rw [List.getElem_append_right (by omega)]
      congr 1
      omega
    refine ⟨A', c', ?_, ?_⟩
    · rw [e1, List.getElem?_append_right (by omega), hkv]
      exact e
    · rw [e1]
      exact ownsRow_base (hfar _ _ _ _ _ hx) hB
theorem within_q (n lo hi : Int) (w : World) : Calls Try.prog 42 #[.int .i64 n, .int .i64 lo, .int .i64 hi] w fun e w' => e = .returned (.bool (inW n lo hi)) ∧ w' = w := (within_any n lo hi w).mono (fun _ _ ⟨a, b⟩ => ⟨a, b.symm⟩)
theorem head_at (h : LgAt w p d x A c D M R) (hg : x.Geo D.n) (a : Nat) (ha : a + 1 ≤ D.n) : Calls Try.prog 52 #[.pointer (some ⟨p, 0, none⟩), .int .i64 (a : Int)] w fun e w' => e = .returned (headV (x.headL a (secL D a))) ∧ Below w.heap.size w w' := head_any h.lg hg h.dk a ha
def RetRead (w : World) (p d : Nat) (x : LG) (A : Option Addr) (D : DS) (M R : Nat → Prop) (e : Ending) (w' : World) : Prop :=
  ∃ A' c' Ar cr B, e = .returned (.tuple #[.slice Ar (x.rdX D).2.1.length cr, .int .i64 (x.rdX D).2.2]) ∧ LgAt w' p d (x.rdX D).1 A' c' D M R ∧ w.heap.size ≤ B ∧ RecRow w' B Ar cr (x.rdX D).2.1 ∧ (∀ b, Blo A' b → Blo A b ∨ w.heap.size ≤ b) ∧ Tr (fun b => b = p ∨ Blo A b) w w'
/-- What stands ahead of each round of the second loop. -/
structure RdI (w : World) (p d : Nat) (y : LG) (A : Option Addr) (D : DS) (M R : Nat → Prop) (f : SG) (tot : LG × List (List Int)) (W : World) (k n T : Nat) (z : LG) (out : List (List Int)) (last : SG) (Aa : Option Addr) (cc : Nat) (Ao : Option Addr) (co : Nat) : Prop where
  lg : LgAt W p d z Aa cc D M R
  row : RecRow W w.heap.size Ao co out
  n : n = out.length
  lst : Blk W T 71 #[.int .i64 last.life, .int .i64 last.first, .int .i64 last.epoch]
  fst : Blk W w.heap.size 71 #[.int .i64 f.life, .int .i64 f.first, .int .i64 f.epoch]
  T0 : w.heap.size < T
  tr : Tr (fun b => b = p ∨ Blo A b) w W
  new : ∀ b, Blo Aa b → Blo A b ∨ w.heap.size < b
  notT : ¬ Blo Aa T
  geo : z.from_ = y.from_ ∧ z.segs = y.segs ∧ z.per = y.per ∧ z.base = y.base
  fuel : z.chain.length + k = 65
  next : z.next = f.first + (out.length : Int)
  ord : f.first ≤ last.first ∧ 1 ≤ f.first
  lb : (1 ≤ last.life ∧ last.life ≤ 1152921504606846976) ∧ last.first ≤ 1152921504606846976
  len : out.length ≤ 64 * z.chain.length
  tot : LG.rdTo D f.first k z out last = tot
def chLen (W : World) (p : Nat) : Nat := match W.cell? ⟨p, 8, none⟩ with
  | some (.slice _ n _) => n
  | _ => 0
theorem rdTo_stop {D : DS} {f0 : Int} {y : LG} {out : List (List Int)} {last : SG} (h : ¬ (y.chain.length < y.segs ∧ last.life < 1152921504606846976)) : ∀ k, LG.rdTo D f0 k y out last = (y, out)
  | 0 => rfl
  | k + 1 => if_neg h
theorem rdTo_none {D : DS} {f0 : Int} {y : LG} {out : List (List Int)} {last : SG} (h : y.nextH D last = none) : ∀ k, LG.rdTo D f0 k y out last = (y, out)
  | 0 => rfl
  | k + 1 => by
    unfold LG.rdTo
    rw [h]
    split <;> rfl
theorem chLen_at (h : LgAt w p d x A c D M R) : chLen w p = x.chain.length := by
  have := h.lg.cell 8
  unfold chLen
  rw [this]
  rfl
set_option maxHeartbeats 12800000 in
theorem wread_any (h : LgAt w p d x A c D M R) (hg : x.Geo D.n) (hc : x.chain = []) (hb : 0 ≤ x.base ∧ x.base ≤ 1152921504606846976) :
    Calls Try.prog 31 #[.pointer (some ⟨p, 0, none⟩)] w (RetRead w p d x A D M R) := by
  have HG := Lib.hid hg
  have HH := Lib.hid h
  have hplt := h.lg.lt
  have c7 := h.lg.cell 7
  have c9 := h.lg.cell 9
  have f9 := h.lg.frozen 9
  have c2 := h.lg.cell 2
  simp [lgCells] at c2 c7 c9
  obtain ⟨hl1, t1⟩ := h.set9 (x.base + 1)
  have HL1 := Lib.hid (hl1.below (bl_alloc _ (.cells #[.int .i64 0, .int .i64 0, .int .i64 0] 71)))
  have HT1 := Lib.hid t1
  have HF0 := Lib.hid (Blk.new (w.setCell ⟨p, 9, none⟩ (.int .i64 (x.base + 1))) 71 #[.int .i64 0, .int .i64 0, .int .i64 0])
  have hsz : (w.setCell ⟨p, 9, none⟩ (.int .i64 (x.base + 1))).heap.size = w.heap.size := by simp
  rw [hsz] at HF0
  obtain ⟨bs, hbs⟩ : ∃ b, x.base = b := ⟨_, rfl⟩
  obtain ⟨Sg, hSg⟩ : ∃ b, x.segs = b := ⟨_, rfl⟩
  have HBS := Lib.hid hbs
  have HSG := Lib.hid hSg
  rw [hbs] at c7 hb HL1 HT1 HF0
  rw [hSg] at c2
  have hs64 : Sg ≤ 64 := by rw [← hSg]; exact hg.s64
  have HCH := Lib.hid hc
  have HLT : Hid (∀ b, (b = p ∨ Blo A b ∨ M b ∨ R b) → b < w.heap.size) := Lib.hid (fun b hb => by
    rcases hb with rfl | hb | hb | hb
    · exact hplt
    · exact (HH.out.row.lt b hb).2
    · exact HH.out.dk.mlt b hb
    · exact HH.out.dk.rlt b hb)
  clear h hg hl1 t1 hsz hbs hSg hc
  go_enter Try.func31, Try.ntmps31
  go_wp2_with fail
  have HA1 := Lib.hid (bl_alloc (w.setCell ⟨p, 9, none⟩ (.int .i64 (bs + 1))) (.cells #[.int .i64 0, .int .i64 0, .int .i64 0] 71))
  have hz1 : w.heap.size + 1 = ((w.setCell ⟨p, 9, none⟩ (.int .i64 (bs + 1))).alloc (.cells #[.int .i64 0, .int .i64 0, .int .i64 0] 71)).heap.size := by simp
  generalize (w.setCell ⟨p, 9, none⟩ (.int .i64 (bs + 1))).alloc (.cells #[.int .i64 0, .int .i64 0, .int .i64 0] 71) = W1 at HL1 HF0 HA1 hz1 ⊢
  obtain ⟨y, hy⟩ : ∃ y : LG, y = { x with base := bs, next := bs + 1 } := ⟨_, rfl⟩
  rw [← hy] at HL1
  have HY := Lib.hid hy
  have HGY : Hid (y.Geo D.n) := Lib.hid (by rw [hy]; exact ⟨HG.out.s2, HG.out.s64, HG.out.p2, HG.out.p64, HG.out.fit, HG.out.big⟩)
  have hyb : Hid (y.base = bs) := Lib.hid (by rw [hy])
  have hysg : Hid (y.segs = Sg) := Lib.hid (by rw [hy]; exact HSG.out)
  clear hy
  go_loopw [5, 6, 7, 25] (fun _ _ _ v W => ∃ i : Nat, i ≤ Sg ∧ v = .int .i64 (i : Int) ∧ LgAt W p d y A c D M R ∧ Blk W w.heap.size 71 #[.int .i64 (y.selTo D i).life, .int .i64 (y.selTo D i).first, .int .i64 (y.selTo D i).epoch] ∧ Tr (fun b => b = w.heap.size) W1 W) (fun _ _ _ v _ => 64 - (intOf v).toNat)
  case atStart => exact ⟨0, by omega, rfl, HL1.out, HF0.out, Tr.refl _ _⟩
  case round =>
    obtain ⟨i, hi, rfl, hl, hf0, htr⟩ := hrel
    have HL := Lib.hid hl
    have HF := Lib.hid hf0
    have HTR := Lib.hid htr
    clear hl hf0 htr
    by_cases hlt : i < Sg
    · obtain ⟨Fr, hFr⟩ : ∃ b, y.from_ = b := ⟨_, rfl⟩
      obtain ⟨P, hP⟩ : ∃ b, y.per = b := ⟨_, rfl⟩
      have hfit := HGY.out.fit
      have hbig := HGY.out.big
      have hp64 := HGY.out.p64
      obtain ⟨z, hz⟩ : ∃ z, i * P = z := ⟨_, rfl⟩
      have hzf : Fr + 2 + z + P ≤ D.n := by
        have h3 : (i + 1) * y.per ≤ y.segs * y.per := Nat.mul_le_mul_right _ (by rw [hysg.out]; exact hlt)
        rw [Nat.add_mul, hP, hz] at h3
        rw [hFr, hP] at hfit
        omega
      have hmul : (i : Int) * (P : Int) = (z : Int) := by rw [← hz]; simp
      obtain ⟨a, ha⟩ : ∃ a, Fr + 2 + z = a := ⟨_, rfl⟩
      have hsum : (Fr : Int) + 2 + (z : Int) = (a : Int) := by omega
      have hsega : y.segAt i = a := by unfold LG.segAt; rw [hFr, hP, hz, ha]
      have hP1 : 1 ≤ P := by have := HGY.out.p2; omega
      have ha1 : a + 1 ≤ D.n := by omega
      have hb4 : Fr + 2 + z ≤ 4096 := by omega
      have hw1 : IntKind.i64.wrap ((Fr : Int) + 2) = (Fr : Int) + 2 := by rw [IntKind.wrap_i64]; omega
      have hw2 : IntKind.i64.wrap (z : Int) = (z : Int) := by rw [IntKind.wrap_i64]; omega
      have hw3 : IntKind.i64.wrap (a : Int) = (a : Int) := by rw [IntKind.wrap_i64]; omega
      have HHD := Lib.hid (fun (W : World) (hW : Below wr.heap.size wr W) => head_at (HL.out.below hW) HGY.out a ha1)
      have c1 := HL.out.lg.cell 1
      have c3 := HL.out.lg.cell 3
      simp [lgCells] at c1 c3
      rw [hFr] at c1
      rw [hP] at c3
      have HSS : Hid (wr.drew.cell? ⟨p, 1, none⟩ = some (.int .i64 (Fr : Int)) ∧ wr.drew.cell? ⟨p, 3, none⟩ = some (.int .i64 (P : Int))) := Lib.hid ⟨c1, c3⟩
      have hsel : y.selTo D (i + 1) = match y.headL a (secL D a) with
        | none => y.selTo D i
        | some s => if s.first ≤ y.base + 1 ∧ ((y.selTo D i).epoch < s.epoch ∨ s.epoch = (y.selTo D i).epoch ∧ (y.selTo D i).life < s.life) then s else y.selTo D i := by
        rw [← hsega]
        rfl
      have HSEL := Lib.hid hsel
      clear hsel c1 c3 hFr hP hfit hz hzf ha hsega
      generalize y.headL a (secL D a) = o at HHD HSEL
      cases o with
      | none =>
        have HSN : Hid (y.selTo D (i + 1) = y.selTo D i) := HSEL
        have HHD : Hid (∀ W : World, Below wr.heap.size wr W → Calls Try.prog 52 #[.pointer (some ⟨p, 0, none⟩), .int .i64 (a : Int)] W fun e w' => e = .returned (.tuple #[.agg #[.int .i64 0, .int .i64 0, .int .i64 0], .bool false]) ∧ Below W.heap.size W w') := HHD
        have hplr : p < wr.heap.size := HL.out.lg.lt
        clear HSEL
        go_wp2_with fail
        refine held_startB (S := fun W => W.cell? ⟨p, 1, none⟩ = some (.int .i64 (Fr : Int)) ∧ W.cell? ⟨p, 3, none⟩ = some (.int .i64 (P : Int))) (by kernel_rfl) ?_
        refine held_take (HSS.out) (i := 0) (v := ?_) rfl (by kernel_rfl) (by kernel_rfl) (by kernel_rfl) (fun _ _ _ h => h) (Or.inl ⟨by rfl, ?_⟩) ?_
        rotate_left
        · (intro W hSw; obtain ⟨s1, s2⟩ := hSw; go_simp; try with_reducible rfl)
        try simp only [Act.put, List.setIfInBounds_toArray, List.set_cons_zero, List.set_cons_succ]
        refine held_take (HSS.out) (i := 1) (v := ?_) rfl (by kernel_rfl) (by kernel_rfl) (by kernel_rfl) (fun _ _ _ h => h) (Or.inl ⟨by rfl, ?_⟩) ?_
        rotate_left
        · (intro W hSw; obtain ⟨s1, s2⟩ := hSw; go_simp; try with_reducible rfl)
        try simp only [Act.put, List.setIfInBounds_toArray, List.set_cons_zero, List.set_cons_succ]
        refine held_take (HSS.out) (i := 2) (v := ?_) rfl (by kernel_rfl) (by kernel_rfl) (by kernel_rfl) (fun _ _ _ h => h) (Or.inl ⟨by rfl, ?_⟩) ?_
        rotate_left
        · (intro W hSw; obtain ⟨s1, s2⟩ := hSw; go_simp; try with_reducible rfl)
        try simp only [Act.put, List.setIfInBounds_toArray, List.set_cons_zero, List.set_cons_succ]
        refine held_take (HSS.out) (i := 3) (v := ?_) rfl (by kernel_rfl) (by kernel_rfl) (by kernel_rfl) (fun _ _ _ h => h) (Or.inl ⟨by rfl, ?_⟩) ?_
        rotate_left
        · (intro W hSw; obtain ⟨s1, s2⟩ := hSw; go_simp; try with_reducible rfl)
        try simp only [Act.put, List.setIfInBounds_toArray, List.set_cons_zero, List.set_cons_succ]
        refine held_take (HSS.out) (i := 4) (v := ?_) rfl (by kernel_rfl) (by kernel_rfl) (by kernel_rfl) (fun _ _ _ h => h) (Or.inl ⟨by rfl, ?_⟩) ?_
        rotate_left
        · (intro W hSw; obtain ⟨s1, s2⟩ := hSw; go_simp; try with_reducible rfl)
        try simp only [Act.put, List.setIfInBounds_toArray, List.set_cons_zero, List.set_cons_succ]
        refine held_take (HSS.out) (i := 5) (v := ?_) rfl (by kernel_rfl) (by kernel_rfl) (by kernel_rfl) (fun _ _ _ h => h) (Or.inl ⟨by rfl, ?_⟩) ?_
        rotate_left
        · (intro W hSw; obtain ⟨s1, s2⟩ := hSw; go_simp; try with_reducible rfl)
        try simp only [Act.put, List.setIfInBounds_toArray, List.set_cons_zero, List.set_cons_succ]
        refine held_take (HSS.out) (i := 6) (v := ?_) rfl (by kernel_rfl) (by kernel_rfl) (by kernel_rfl) (fun _ _ _ h => h) (Or.inl ⟨by rfl, ?_⟩) ?_
        rotate_left
        · (intro W hSw; obtain ⟨s1, s2⟩ := hSw; go_simp; try with_reducible rfl)
        try simp only [Act.put, List.setIfInBounds_toArray, List.set_cons_zero, List.set_cons_succ]
        refine held_take (HSS.out) (i := 7) (v := ?_) rfl (by kernel_rfl) (by kernel_rfl) (by kernel_rfl) (fun _ _ _ h => h) (Or.inl ⟨by rfl, ?_⟩) ?_
        rotate_left
        · (intro W hSw; obtain ⟨s1, s2⟩ := hSw; go_simp; try with_reducible rfl)
        try simp only [Act.put, List.setIfInBounds_toArray, List.set_cons_zero, List.set_cons_succ]
        refine held_take (HSS.out) (i := 8) (v := ?_) rfl (by kernel_rfl) (by kernel_rfl) (by kernel_rfl) (fun _ _ _ h => h) (Or.inl ⟨by rfl, ?_⟩) ?_
        rotate_left
        · (intro W hSw; obtain ⟨s1, s2⟩ := hSw; go_simp; try with_reducible rfl)
        try simp only [Act.put, List.setIfInBounds_toArray, List.set_cons_zero, List.set_cons_succ]
        refine held_take (HSS.out) (i := 9) (v := ?_) rfl (by kernel_rfl) (by kernel_rfl) (by kernel_rfl) (fun _ _ _ h => h) (Or.inl ⟨by rfl, ?_⟩) ?_
        rotate_left
        · (intro W hSw; obtain ⟨s1, s2⟩ := hSw; go_simp; try with_reducible rfl)
        try simp only [Act.put, List.setIfInBounds_toArray, List.set_cons_zero, List.set_cons_succ]
        refine held_take (HSS.out) (i := 10) (v := ?_) rfl (by kernel_rfl) (by kernel_rfl) (by kernel_rfl) (fun _ _ _ h => h) (Or.inl ⟨by rfl, ?_⟩) ?_
        rotate_left
        · (intro W hSw; obtain ⟨s1, s2⟩ := hSw; go_simp; try with_reducible rfl)
        try simp only [Act.put, List.setIfInBounds_toArray, List.set_cons_zero, List.set_cons_succ]
        refine held_take (HSS.out) (i := 11) (v := ?_) rfl (by kernel_rfl) (by kernel_rfl) (by kernel_rfl) (fun _ _ _ h => h) (Or.inl ⟨by rfl, ?_⟩) ?_
        rotate_left
        · (intro W hSw; obtain ⟨s1, s2⟩ := hSw; go_simp; try with_reducible rfl)
        try simp only [Act.put, List.setIfInBounds_toArray, List.set_cons_zero, List.set_cons_succ]
        refine held_take (HSS.out) (i := 12) (v := ?_) rfl (by kernel_rfl) (by kernel_rfl) (by kernel_rfl) (fun _ _ _ h => h) (Or.inl ⟨by rfl, ?_⟩) ?_
        rotate_left
        · (intro W hSw; obtain ⟨s1, s2⟩ := hSw; go_simp; try with_reducible rfl)
        try simp only [Act.put, List.setIfInBounds_toArray, List.set_cons_zero, List.set_cons_succ]
        refine held_call2 (i := 13) (j := 17) (by kernel_rfl) rfl rfl (fun K hK => ?_) (fun K hK => ?_)
        ·
          go_simp
          (go_at_call 52; (with_reducible refine (HHD.out _ (bl_drew wr)).mono ?_); rintro e w4 ⟨rfl, hb4⟩; have hbb := bl_chain (bl_drew wr) hb4; have HB4 := Lib.hid hbb; have HS4 := Lib.hid (show w4.cell? ⟨p, 1, none⟩ = some (.int .i64 (Fr : Int)) ∧ w4.cell? ⟨p, 3, none⟩ = some (.int .i64 (P : Int)) from ⟨(hbb.cell (cell_block_lt HSS.out.1)).trans HSS.out.1, (hbb.cell (cell_block_lt HSS.out.2)).trans HSS.out.2⟩); have HZ4 := Lib.hid (bl_alloc w4 (.cells #[.int .i64 0, .int .i64 0, .int .i64 0] 71)); have HS5 := Lib.hid (show (w4.alloc (.cells #[.int .i64 0, .int .i64 0, .int .i64 0] 71)).cell? ⟨p, 1, none⟩ = some (.int .i64 (Fr : Int)) ∧ (w4.alloc (.cells #[.int .i64 0, .int .i64 0, .int .i64 0] 71)).cell? ⟨p, 3, none⟩ = some (.int .i64 (P : Int)) from ⟨(HZ4.out.cell (cell_block_lt HS4.out.1)).trans HS4.out.1, (HZ4.out.cell (cell_block_lt HS4.out.2)).trans HS4.out.2⟩); clear hb4 hbb)
          refine hK.out _ _ (HS4.out) ?_
          clear hK K
          try simp only [Act.put, List.setIfInBounds_toArray, List.set_cons_zero, List.set_cons_succ]
          refine held_take (HS4.out) (i := 14) (v := ?_) rfl (by kernel_rfl) (by kernel_rfl) (by kernel_rfl) (fun _ _ _ h => h) (Or.inl ⟨by rfl, ?_⟩) ?_
          rotate_left
          · (intro W hSw; obtain ⟨s1, s2⟩ := hSw; go_simp; try with_reducible rfl)
          try simp only [Act.put, List.setIfInBounds_toArray, List.set_cons_zero, List.set_cons_succ]
          refine held_take (HS4.out) (i := 15) (v := ?_) rfl (by kernel_rfl) (by kernel_rfl) (by kernel_rfl) (fun _ _ _ h => h) (Or.inl ⟨by rfl, ?_⟩) ?_
          rotate_left
          · (intro W hSw; obtain ⟨s1, s2⟩ := hSw; go_simp; try with_reducible rfl)
          try simp only [Act.put, List.setIfInBounds_toArray, List.set_cons_zero, List.set_cons_succ]
          refine held_take (HS4.out) (i := 16) (v := ?_) rfl (by kernel_rfl) (by kernel_rfl) (by kernel_rfl) (fun _ _ _ h => h) (Or.inl ⟨by rfl, ?_⟩) ?_
          rotate_left
          · (intro W hSw; obtain ⟨s1, s2⟩ := hSw; go_simp; try with_reducible rfl)
          try simp only [Act.put, List.setIfInBounds_toArray, List.set_cons_zero, List.set_cons_succ]
          refine held_call (i := 17) (by kernel_rfl) rfl (fun K hK => ?_)
          go_simp
          refine hK.out _ _ (HS5.out) ?_
          clear hK K
          try simp only [Act.put, List.setIfInBounds_toArray, List.set_cons_zero, List.set_cons_succ]
          refine held_call (i := 18) (by kernel_rfl) rfl (fun K hK => ?_)
          go_simp
          (have HS6 := Lib.hid (show (w4.alloc (.cells #[.int .i64 0, .int .i64 0, .int .i64 0] 71)).cell? ⟨p, 1, none⟩ = some (.int .i64 (Fr : Int)) ∧ (w4.alloc (.cells #[.int .i64 0, .int .i64 0, .int .i64 0] 71)).cell? ⟨p, 3, none⟩ = some (.int .i64 (P : Int)) from ⟨HS4.out.1.symm ▸ ((bl_alloc w4 (.cells #[.int .i64 0, .int .i64 0, .int .i64 0] 71)).cell (cell_block_lt HS4.out.1)), HS4.out.2.symm ▸ ((bl_alloc w4 (.cells #[.int .i64 0, .int .i64 0, .int .i64 0] 71)).cell (cell_block_lt HS4.out.2))⟩))
          refine hK.out _ _ (HS6.out) ?_
          clear hK K
          try simp only [Act.put, List.setIfInBounds_toArray, List.set_cons_zero, List.set_cons_succ]
          refine held_take (HS6.out) (i := 19) (v := ?_) rfl (by kernel_rfl) (by kernel_rfl) (by kernel_rfl) (fun _ _ _ h => h) (Or.inl ⟨by rfl, ?_⟩) ?_
          rotate_left
          · (intro W hSw; obtain ⟨s1, s2⟩ := hSw; go_simp; try with_reducible rfl)
          try simp only [Act.put, List.setIfInBounds_toArray, List.set_cons_zero, List.set_cons_succ]
          refine wpAnyH_done (by kernel_rfl) ?_ _
          have hbw := bl_chain HB4.out (bl_alloc w4 (.cells #[.int .i64 0, .int .i64 0, .int .i64 0] 71))
          have hbt := Blk.new w4 71 #[.int .i64 0, .int .i64 0, .int .i64 0]
          have htl : wr.heap.size ≤ w4.heap.size := HB4.out.size
          generalize w4.alloc (.cells #[.int .i64 0, .int .i64 0, .int .i64 0] 71) = W5 at hbw hbt ⊢
          generalize w4.heap.size = T at hbt htl ⊢
          have hl5 := HL.out.below hbw
          have hf5 := HF.out.keep hbw
          have HL5 := Lib.hid hl5
          have HF5 := Lib.hid hf5
          have HBW := Lib.hid hbw
          clear hl5 hf5 hbw hbt
          go_wp2_with fail
          go_quiet (fail)
          go_wp2_with fail
          go_roundw
          case measure => simp [intOf]; omega
          case rel => exact ⟨i + 1, by omega, by go_num, HL5.out.below (bl_drewN _ _), by rw [HSN.out]; exact HF5.out.keep (bl_drewN _ _), (HTR.out.then_below HBW.out).then_below (bl_drewN _ _)⟩
        ·
          go_simp
          (have HZ3 := Lib.hid (bl_chain (bl_drew wr) (bl_alloc wr.drew (.cells #[.int .i64 0, .int .i64 0, .int .i64 0] 71))); have HS3 := Lib.hid (show (wr.alloc (.cells #[.int .i64 0, .int .i64 0, .int .i64 0] 71)).drew.cell? ⟨p, 1, none⟩ = some (.int .i64 (Fr : Int)) ∧ (wr.alloc (.cells #[.int .i64 0, .int .i64 0, .int .i64 0] 71)).drew.cell? ⟨p, 3, none⟩ = some (.int .i64 (P : Int)) from ⟨(HZ3.out.cell (cell_block_lt HSS.out.1)).trans HSS.out.1, (HZ3.out.cell (cell_block_lt HSS.out.2)).trans HSS.out.2⟩))
          refine hK.out _ _ (HS3.out) ?_
          clear hK K
          try simp only [Act.put, List.setIfInBounds_toArray, List.set_cons_zero, List.set_cons_succ]
          refine held_call (i := 13) (by kernel_rfl) rfl (fun K hK => ?_)
          go_simp
          (go_at_call 52; (with_reducible refine (HHD.out _ (bl_chain (bl_alloc wr _) (bl_drew _))).mono ?_); rintro e w4 ⟨rfl, hb4⟩; have hbb := bl_chain (bl_chain (bl_alloc wr (.cells #[.int .i64 0, .int .i64 0, .int .i64 0] 71)) (bl_drew _)) hb4; have HB4 := Lib.hid hbb; have hbt4 := ((Blk.new wr 71 #[.int .i64 0, .int .i64 0, .int .i64 0]).drew).keep hb4; have z0 := hbt4.cell 0; have z1 := hbt4.cell 1; have z2 := hbt4.cell 2; have g0 := hbt4.frozen 0; have g1 := hbt4.frozen 1; have g2 := hbt4.frozen 2; simp at z0 z1 z2; have HBT4 := Lib.hid hbt4; have HS4 := Lib.hid (show w4.cell? ⟨p, 1, none⟩ = some (.int .i64 (Fr : Int)) ∧ w4.cell? ⟨p, 3, none⟩ = some (.int .i64 (P : Int)) from ⟨(hbb.cell (cell_block_lt HSS.out.1)).trans HSS.out.1, (hbb.cell (cell_block_lt HSS.out.2)).trans HSS.out.2⟩); clear hb4 hbb hbt4)
          refine hK.out _ _ (HS4.out) ?_
          clear hK K
          try simp only [Act.put, List.setIfInBounds_toArray, List.set_cons_zero, List.set_cons_succ]
          refine held_take (HS4.out) (i := 14) (v := ?_) rfl (by kernel_rfl) (by kernel_rfl) (by kernel_rfl) (fun _ _ _ h => h) (Or.inl ⟨by rfl, ?_⟩) ?_
          rotate_left
          · (intro W hSw; obtain ⟨s1, s2⟩ := hSw; go_simp; try with_reducible rfl)
          try simp only [Act.put, List.setIfInBounds_toArray, List.set_cons_zero, List.set_cons_succ]
          refine held_take (HS4.out) (i := 15) (v := ?_) rfl (by kernel_rfl) (by kernel_rfl) (by kernel_rfl) (fun _ _ _ h => h) (Or.inl ⟨by rfl, ?_⟩) ?_
          rotate_left
          · (intro W hSw; obtain ⟨s1, s2⟩ := hSw; go_simp; try with_reducible rfl)
          try simp only [Act.put, List.setIfInBounds_toArray, List.set_cons_zero, List.set_cons_succ]
          refine held_take (HS4.out) (i := 16) (v := ?_) rfl (by kernel_rfl) (by kernel_rfl) (by kernel_rfl) (fun _ _ _ h => h) (Or.inl ⟨by rfl, ?_⟩) ?_
          rotate_left
          · (intro W hSw; obtain ⟨s1, s2⟩ := hSw; go_simp; try with_reducible rfl)
          try simp only [Act.put, List.setIfInBounds_toArray, List.set_cons_zero, List.set_cons_succ]
          refine held_call (i := 18) (by kernel_rfl) rfl (fun K hK => ?_)
          go_simp
          (have ts : Tr (fun b => b = wr.heap.size) w4 (((w4.setCell ⟨wr.heap.size, 0, none⟩ (.int .i64 0)).setCell ⟨wr.heap.size, 1, none⟩ (.int .i64 0)).setCell ⟨wr.heap.size, 2, none⟩ (.int .i64 0)) := (((Tr.refl (fun b => b = wr.heap.size) w4).setCell (p := ⟨wr.heap.size, 0, none⟩) (fun _ => rfl) _).setCell (p := ⟨wr.heap.size, 1, none⟩) (fun _ => rfl) _).setCell (p := ⟨wr.heap.size, 2, none⟩) (fun _ => rfl) _; have HS6 := Lib.hid (show (((w4.setCell ⟨wr.heap.size, 0, none⟩ (.int .i64 0)).setCell ⟨wr.heap.size, 1, none⟩ (.int .i64 0)).setCell ⟨wr.heap.size, 2, none⟩ (.int .i64 0)).cell? ⟨p, 1, none⟩ = some (.int .i64 (Fr : Int)) ∧ (((w4.setCell ⟨wr.heap.size, 0, none⟩ (.int .i64 0)).setCell ⟨wr.heap.size, 1, none⟩ (.int .i64 0)).setCell ⟨wr.heap.size, 2, none⟩ (.int .i64 0)).cell? ⟨p, 3, none⟩ = some (.int .i64 (P : Int)) from ⟨(ts.cell (cell_block_lt HS4.out.1) (fun e => by have : p = wr.heap.size := e; omega)).trans HS4.out.1, (ts.cell (cell_block_lt HS4.out.2) (fun e => by have : p = wr.heap.size := e; omega)).trans HS4.out.2⟩); clear ts)
          refine hK.out _ _ (HS6.out) ?_
          clear hK K
          try simp only [Act.put, List.setIfInBounds_toArray, List.set_cons_zero, List.set_cons_succ]
          refine held_take (HS6.out) (i := 19) (v := ?_) rfl (by kernel_rfl) (by kernel_rfl) (by kernel_rfl) (fun _ _ _ h => h) (Or.inl ⟨by rfl, ?_⟩) ?_
          rotate_left
          · (intro W hSw; obtain ⟨s1, s2⟩ := hSw; go_simp; try with_reducible rfl)
          try simp only [Act.put, List.setIfInBounds_toArray, List.set_cons_zero, List.set_cons_succ]
          refine wpAnyH_done (by kernel_rfl) ?_ _
          have hbw := ((HB4.out.setCell (p := ⟨wr.heap.size, 0, none⟩) (Nat.le_refl _) (.int .i64 0)).setCell (p := ⟨wr.heap.size, 1, none⟩) (Nat.le_refl _) (.int .i64 0)).setCell (p := ⟨wr.heap.size, 2, none⟩) (Nat.le_refl _) (.int .i64 0)
          have hbt := ((HBT4.out.set_ 0 (.int .i64 0)).set_ 1 (.int .i64 0)).set_ 2 (.int .i64 0)
          have htl : wr.heap.size ≤ wr.heap.size := Nat.le_refl _
          replace hbt : Blk (((w4.setCell ⟨wr.heap.size, 0, none⟩ (.int .i64 0)).setCell ⟨wr.heap.size, 1, none⟩ (.int .i64 0)).setCell ⟨wr.heap.size, 2, none⟩ (.int .i64 0)) wr.heap.size 71 #[.int .i64 0, .int .i64 0, .int .i64 0] := hbt
          generalize ((w4.setCell ⟨wr.heap.size, 0, none⟩ (.int .i64 0)).setCell ⟨wr.heap.size, 1, none⟩ (.int .i64 0)).setCell ⟨wr.heap.size, 2, none⟩ (.int .i64 0) = W5 at hbw hbt ⊢
          have hl5 := HL.out.below hbw
          have hf5 := HF.out.keep hbw
          have HL5 := Lib.hid hl5
          have HF5 := Lib.hid hf5
          have HBW := Lib.hid hbw
          clear hl5 hf5 hbw hbt
          go_wp2_with fail
          go_quiet (fail)
          go_wp2_with fail
          go_roundw
          case measure => simp [intOf]; omega
          case rel => exact ⟨i + 1, by omega, by go_num, HL5.out.below (bl_drewN _ _), by rw [HSN.out]; exact HF5.out.keep (bl_drewN _ _), (HTR.out.then_below HBW.out).then_below (bl_drewN _ _)⟩
      | some s =>
        obtain ⟨sl, sf, se⟩ := s
        have HHD : Hid (∀ W : World, Below wr.heap.size wr W → Calls Try.prog 52 #[.pointer (some ⟨p, 0, none⟩), .int .i64 (a : Int)] W fun e w' => e = .returned (.tuple #[.agg #[.int .i64 sl, .int .i64 sf, .int .i64 se], .bool true]) ∧ Below W.heap.size W w') := HHD
        have hplr : p < wr.heap.size := HL.out.lg.lt
        have HSEL2 : Hid (y.selTo D (i + 1) = if sf ≤ bs + 1 ∧ ((y.selTo D i).epoch < se ∨ se = (y.selTo D i).epoch ∧ (y.selTo D i).life < sl) then ⟨sl, sf, se⟩ else y.selTo D i) := Lib.hid (by
          have := HSEL.out
          simp only [hyb.out] at this
          exact this)
        clear HSEL
        generalize y.selTo D i = f at HF HSEL2
        obtain ⟨fl, ff, fe⟩ := f
        simp only at HF HSEL2
        go_wp2_with fail
        refine held_startB (S := fun W => W.cell? ⟨p, 1, none⟩ = some (.int .i64 (Fr : Int)) ∧ W.cell? ⟨p, 3, none⟩ = some (.int .i64 (P : Int))) (by kernel_rfl) ?_
        refine held_take (HSS.out) (i := 0) (v := ?_) rfl (by kernel_rfl) (by kernel_rfl) (by kernel_rfl) (fun _ _ _ h => h) (Or.inl ⟨by rfl, ?_⟩) ?_
        rotate_left
        · (intro W hSw; obtain ⟨s1, s2⟩ := hSw; go_simp; try with_reducible rfl)
        try simp only [Act.put, List.setIfInBounds_toArray, List.set_cons_zero, List.set_cons_succ]
        refine held_take (HSS.out) (i := 1) (v := ?_) rfl (by kernel_rfl) (by kernel_rfl) (by kernel_rfl) (fun _ _ _ h => h) (Or.inl ⟨by rfl, ?_⟩) ?_
        rotate_left
        · (intro W hSw; obtain ⟨s1, s2⟩ := hSw; go_simp; try with_reducible rfl)
        try simp only [Act.put, List.setIfInBounds_toArray, List.set_cons_zero, List.set_cons_succ]
        refine held_take (HSS.out) (i := 2) (v := ?_) rfl (by kernel_rfl) (by kernel_rfl) (by kernel_rfl) (fun _ _ _ h => h) (Or.inl ⟨by rfl, ?_⟩) ?_
        rotate_left
        · (intro W hSw; obtain ⟨s1, s2⟩ := hSw; go_simp; try with_reducible rfl)
        try simp only [Act.put, List.setIfInBounds_toArray, List.set_cons_zero, List.set_cons_succ]
        refine held_take (HSS.out) (i := 3) (v := ?_) rfl (by kernel_rfl) (by kernel_rfl) (by kernel_rfl) (fun _ _ _ h => h) (Or.inl ⟨by rfl, ?_⟩) ?_
        rotate_left
        · (intro W hSw; obtain ⟨s1, s2⟩ := hSw; go_simp; try with_reducible rfl)
        try simp only [Act.put, List.setIfInBounds_toArray, List.set_cons_zero, List.set_cons_succ]
        refine held_take (HSS.out) (i := 4) (v := ?_) rfl (by kernel_rfl) (by kernel_rfl) (by kernel_rfl) (fun _ _ _ h => h) (Or.inl ⟨by rfl, ?_⟩) ?_
        rotate_left
        · (intro W hSw; obtain ⟨s1, s2⟩ := hSw; go_simp; try with_reducible rfl)
        try simp only [Act.put, List.setIfInBounds_toArray, List.set_cons_zero, List.set_cons_succ]
        refine held_take (HSS.out) (i := 5) (v := ?_) rfl (by kernel_rfl) (by kernel_rfl) (by kernel_rfl) (fun _ _ _ h => h) (Or.inl ⟨by rfl, ?_⟩) ?_
        rotate_left
        · (intro W hSw; obtain ⟨s1, s2⟩ := hSw; go_simp; try with_reducible rfl)
        try simp only [Act.put, List.setIfInBounds_toArray, List.set_cons_zero, List.set_cons_succ]
        refine held_take (HSS.out) (i := 6) (v := ?_) rfl (by kernel_rfl) (by kernel_rfl) (by kernel_rfl) (fun _ _ _ h => h) (Or.inl ⟨by rfl, ?_⟩) ?_
        rotate_left
        · (intro W hSw; obtain ⟨s1, s2⟩ := hSw; go_simp; try with_reducible rfl)
        try simp only [Act.put, List.setIfInBounds_toArray, List.set_cons_zero, List.set_cons_succ]
        refine held_take (HSS.out) (i := 7) (v := ?_) rfl (by kernel_rfl) (by kernel_rfl) (by kernel_rfl) (fun _ _ _ h => h) (Or.inl ⟨by rfl, ?_⟩) ?_
        rotate_left
        · (intro W hSw; obtain ⟨s1, s2⟩ := hSw; go_simp; try with_reducible rfl)
        try simp only [Act.put, List.setIfInBounds_toArray, List.set_cons_zero, List.set_cons_succ]
        refine held_take (HSS.out) (i := 8) (v := ?_) rfl (by kernel_rfl) (by kernel_rfl) (by kernel_rfl) (fun _ _ _ h => h) (Or.inl ⟨by rfl, ?_⟩) ?_
        rotate_left
        · (intro W hSw; obtain ⟨s1, s2⟩ := hSw; go_simp; try with_reducible rfl)
        try simp only [Act.put, List.setIfInBounds_toArray, List.set_cons_zero, List.set_cons_succ]
        refine held_take (HSS.out) (i := 9) (v := ?_) rfl (by kernel_rfl) (by kernel_rfl) (by kernel_rfl) (fun _ _ _ h => h) (Or.inl ⟨by rfl, ?_⟩) ?_
        rotate_left
        · (intro W hSw; obtain ⟨s1, s2⟩ := hSw; go_simp; try with_reducible rfl)
        try simp only [Act.put, List.setIfInBounds_toArray, List.set_cons_zero, List.set_cons_succ]
        refine held_take (HSS.out) (i := 10) (v := ?_) rfl (by kernel_rfl) (by kernel_rfl) (by kernel_rfl) (fun _ _ _ h => h) (Or.inl ⟨by rfl, ?_⟩) ?_
        rotate_left
        · (intro W hSw; obtain ⟨s1, s2⟩ := hSw; go_simp; try with_reducible rfl)
        try simp only [Act.put, List.setIfInBounds_toArray, List.set_cons_zero, List.set_cons_succ]
        refine held_take (HSS.out) (i := 11) (v := ?_) rfl (by kernel_rfl) (by kernel_rfl) (by kernel_rfl) (fun _ _ _ h => h) (Or.inl ⟨by rfl, ?_⟩) ?_
        rotate_left
        · (intro W hSw; obtain ⟨s1, s2⟩ := hSw; go_simp; try with_reducible rfl)
        try simp only [Act.put, List.setIfInBounds_toArray, List.set_cons_zero, List.set_cons_succ]
        refine held_take (HSS.out) (i := 12) (v := ?_) rfl (by kernel_rfl) (by kernel_rfl) (by kernel_rfl) (fun _ _ _ h => h) (Or.inl ⟨by rfl, ?_⟩) ?_
        rotate_left
        · (intro W hSw; obtain ⟨s1, s2⟩ := hSw; go_simp; try with_reducible rfl)
        try simp only [Act.put, List.setIfInBounds_toArray, List.set_cons_zero, List.set_cons_succ]
        refine held_call2 (i := 13) (j := 17) (by kernel_rfl) rfl rfl (fun K hK => ?_) (fun K hK => ?_)
        ·
          go_simp
          (go_at_call 52; (with_reducible refine (HHD.out _ (bl_drew wr)).mono ?_); rintro e w4 ⟨rfl, hb4⟩; have hbb := bl_chain (bl_drew wr) hb4; have HB4 := Lib.hid hbb; have HS4 := Lib.hid (show w4.cell? ⟨p, 1, none⟩ = some (.int .i64 (Fr : Int)) ∧ w4.cell? ⟨p, 3, none⟩ = some (.int .i64 (P : Int)) from ⟨(hbb.cell (cell_block_lt HSS.out.1)).trans HSS.out.1, (hbb.cell (cell_block_lt HSS.out.2)).trans HSS.out.2⟩); have HZ4 := Lib.hid (bl_alloc w4 (.cells #[.int .i64 0, .int .i64 0, .int .i64 0] 71)); have HS5 := Lib.hid (show (w4.alloc (.cells #[.int .i64 0, .int .i64 0, .int .i64 0] 71)).cell? ⟨p, 1, none⟩ = some (.int .i64 (Fr : Int)) ∧ (w4.alloc (.cells #[.int .i64 0, .int .i64 0, .int .i64 0] 71)).cell? ⟨p, 3, none⟩ = some (.int .i64 (P : Int)) from ⟨(HZ4.out.cell (cell_block_lt HS4.out.1)).trans HS4.out.1, (HZ4.out.cell (cell_block_lt HS4.out.2)).trans HS4.out.2⟩); clear hb4 hbb)
          refine hK.out _ _ (HS4.out) ?_
          clear hK K
          try simp only [Act.put, List.setIfInBounds_toArray, List.set_cons_zero, List.set_cons_succ]
          refine held_take (HS4.out) (i := 14) (v := ?_) rfl (by kernel_rfl) (by kernel_rfl) (by kernel_rfl) (fun _ _ _ h => h) (Or.inl ⟨by rfl, ?_⟩) ?_
          rotate_left
          · (intro W hSw; obtain ⟨s1, s2⟩ := hSw; go_simp; try with_reducible rfl)
          try simp only [Act.put, List.setIfInBounds_toArray, List.set_cons_zero, List.set_cons_succ]
          refine held_take (HS4.out) (i := 15) (v := ?_) rfl (by kernel_rfl) (by kernel_rfl) (by kernel_rfl) (fun _ _ _ h => h) (Or.inl ⟨by rfl, ?_⟩) ?_
          rotate_left
          · (intro W hSw; obtain ⟨s1, s2⟩ := hSw; go_simp; try with_reducible rfl)
          try simp only [Act.put, List.setIfInBounds_toArray, List.set_cons_zero, List.set_cons_succ]
          refine held_take (HS4.out) (i := 16) (v := ?_) rfl (by kernel_rfl) (by kernel_rfl) (by kernel_rfl) (fun _ _ _ h => h) (Or.inl ⟨by rfl, ?_⟩) ?_
          rotate_left
          · (intro W hSw; obtain ⟨s1, s2⟩ := hSw; go_simp; try with_reducible rfl)
          try simp only [Act.put, List.setIfInBounds_toArray, List.set_cons_zero, List.set_cons_succ]
          refine held_call (i := 17) (by kernel_rfl) rfl (fun K hK => ?_)
          go_simp
          refine hK.out _ _ (HS5.out) ?_
          clear hK K
          try simp only [Act.put, List.setIfInBounds_toArray, List.set_cons_zero, List.set_cons_succ]
          refine held_call (i := 18) (by kernel_rfl) rfl (fun K hK => ?_)
          go_simp
          (have HS6 := Lib.hid (show (w4.alloc (.cells #[.int .i64 sl, .int .i64 sf, .int .i64 se] 71)).cell? ⟨p, 1, none⟩ = some (.int .i64 (Fr : Int)) ∧ (w4.alloc (.cells #[.int .i64 sl, .int .i64 sf, .int .i64 se] 71)).cell? ⟨p, 3, none⟩ = some (.int .i64 (P : Int)) from ⟨HS4.out.1.symm ▸ ((bl_alloc w4 (.cells #[.int .i64 sl, .int .i64 sf, .int .i64 se] 71)).cell (cell_block_lt HS4.out.1)), HS4.out.2.symm ▸ ((bl_alloc w4 (.cells #[.int .i64 sl, .int .i64 sf, .int .i64 se] 71)).cell (cell_block_lt HS4.out.2))⟩))
          refine hK.out _ _ (HS6.out) ?_
          clear hK K
          try simp only [Act.put, List.setIfInBounds_toArray, List.set_cons_zero, List.set_cons_succ]
          refine held_take (HS6.out) (i := 19) (v := ?_) rfl (by kernel_rfl) (by kernel_rfl) (by kernel_rfl) (fun _ _ _ h => h) (Or.inl ⟨by rfl, ?_⟩) ?_
          rotate_left
          · (intro W hSw; obtain ⟨s1, s2⟩ := hSw; go_simp; try with_reducible rfl)
          try simp only [Act.put, List.setIfInBounds_toArray, List.set_cons_zero, List.set_cons_succ]
          refine wpAnyH_done (by kernel_rfl) ?_ _
          have hbw := bl_chain HB4.out (bl_alloc w4 (.cells #[.int .i64 sl, .int .i64 sf, .int .i64 se] 71))
          have hbt := Blk.new w4 71 #[.int .i64 sl, .int .i64 sf, .int .i64 se]
          have htl : wr.heap.size ≤ w4.heap.size := HB4.out.size
          generalize w4.alloc (.cells #[.int .i64 sl, .int .i64 sf, .int .i64 se] 71) = W5 at hbw hbt ⊢
          generalize w4.heap.size = T at hbt htl ⊢
          have hl5 := HL.out.below hbw
          have hf5 := HF.out.keep hbw
          have u0 := hbt.cell 0
          have u1 := hbt.cell 1
          have u2 := hbt.cell 2
          have v0 := hf5.cell 0
          have v1 := hf5.cell 1
          have v2 := hf5.cell 2
          have g0 := hf5.frozen 0
          have g1 := hf5.frozen 1
          have g2 := hf5.frozen 2
          have b7 := hl5.lg.cell 7
          simp at u0 u1 u2 v0 v1 v2
          simp [lgCells] at b7
          rw [hyb.out] at b7
          have HL5 := Lib.hid hl5
          have HF5 := Lib.hid hf5
          have HBW := Lib.hid hbw
          clear hl5 hf5 hbw hbt
          go_wp2_with fail
          by_cases q1 : sf ≤ bs + 1
          · by_cases q2 : fe < se
            ·
              have HSN := Lib.hid (HSEL2.out.trans (if_pos ⟨q1, .inl q2⟩))
              clear HSEL2
              go_quiet (fail)
              go_wp2_with fail
              go_roundw
              case measure => simp [intOf]; omega
              case rel =>
                have ts := fun (V : World) => ((((Tr.refl (fun b => b = w.heap.size) V).setCell (p := ⟨w.heap.size, 0, none⟩) (fun _ => rfl) (.int .i64 sl)).setCell (p := ⟨w.heap.size, 1, none⟩) (fun _ => rfl) (.int .i64 sf)).setCell (p := ⟨w.heap.size, 2, none⟩) (fun _ => rfl) (.int .i64 se))
                exact ⟨i + 1, by omega, by go_num, (HL5.out.below (bl_drewN _ _)).tr (ts _) (fun b hb e => by have := HLT.out b hb; omega), by rw [HSN.out]; exact (((HF5.out.keep (bl_drewN _ _)).set_ 0 (.int .i64 sl)).set_ 1 (.int .i64 sf)).set_ 2 (.int .i64 se), ((HTR.out.then_below HBW.out).then_below (bl_drewN _ _)).trans (ts _) (fun b _ e => e)⟩
            · have b2 : decide (fe < se) = false := decide_eq_false q2
              by_cases q3 : se = fe
              · subst q3
                by_cases q4 : fl < sl
                ·
                  have HSN := Lib.hid (HSEL2.out.trans (if_pos ⟨q1, .inr ⟨rfl, q4⟩⟩))
                  clear HSEL2
                  go_quiet (fail)
                  go_wp2_with fail
                  go_roundw
                  case measure => simp [intOf]; omega
                  case rel =>
                    have ts := fun (V : World) => ((((Tr.refl (fun b => b = w.heap.size) V).setCell (p := ⟨w.heap.size, 0, none⟩) (fun _ => rfl) (.int .i64 sl)).setCell (p := ⟨w.heap.size, 1, none⟩) (fun _ => rfl) (.int .i64 sf)).setCell (p := ⟨w.heap.size, 2, none⟩) (fun _ => rfl) (.int .i64 se))
                    exact ⟨i + 1, by omega, by go_num, (HL5.out.below (bl_drewN _ _)).tr (ts _) (fun b hb e => by have := HLT.out b hb; omega), by rw [HSN.out]; exact (((HF5.out.keep (bl_drewN _ _)).set_ 0 (.int .i64 sl)).set_ 1 (.int .i64 sf)).set_ 2 (.int .i64 se), ((HTR.out.then_below HBW.out).then_below (bl_drewN _ _)).trans (ts _) (fun b _ e => e)⟩
                · have b4 : decide (fl < sl) = false := decide_eq_false q4
                  have HSN := Lib.hid (HSEL2.out.trans (if_neg (fun h => h.2.elim q2 (fun h => q4 h.2))))
                  clear HSEL2
                  go_quiet (fail)
                  go_wp2_with fail
                  go_roundw
                  case measure => simp [intOf]; omega
                  case rel => exact ⟨i + 1, by omega, by go_num, HL5.out.below (bl_drewN _ _), by rw [HSN.out]; exact HF5.out.keep (bl_drewN _ _), (HTR.out.then_below HBW.out).then_below (bl_drewN _ _)⟩
              · have b3 : (se == fe) = false := by simpa using q3
                have HSN := Lib.hid (HSEL2.out.trans (if_neg (fun h => h.2.elim q2 (fun h => q3 h.1))))
                clear HSEL2
                go_quiet (fail)
                go_wp2_with fail
                go_roundw
                case measure => simp [intOf]; omega
                case rel => exact ⟨i + 1, by omega, by go_num, HL5.out.below (bl_drewN _ _), by rw [HSN.out]; exact HF5.out.keep (bl_drewN _ _), (HTR.out.then_below HBW.out).then_below (bl_drewN _ _)⟩
          · have b1 : decide (sf ≤ bs + 1) = false := decide_eq_false q1
            have HSN := Lib.hid (HSEL2.out.trans (if_neg (fun h => q1 h.1)))
            clear HSEL2
            go_quiet (fail)
            go_wp2_with fail
            go_roundw
            case measure => simp [intOf]; omega
            case rel => exact ⟨i + 1, by omega, by go_num, HL5.out.below (bl_drewN _ _), by rw [HSN.out]; exact HF5.out.keep (bl_drewN _ _), (HTR.out.then_below HBW.out).then_below (bl_drewN _ _)⟩
        ·
          go_simp
          (have HZ3 := Lib.hid (bl_chain (bl_drew wr) (bl_alloc wr.drew (.cells #[.int .i64 0, .int .i64 0, .int .i64 0] 71))); have HS3 := Lib.hid (show (wr.alloc (.cells #[.int .i64 0, .int .i64 0, .int .i64 0] 71)).drew.cell? ⟨p, 1, none⟩ = some (.int .i64 (Fr : Int)) ∧ (wr.alloc (.cells #[.int .i64 0, .int .i64 0, .int .i64 0] 71)).drew.cell? ⟨p, 3, none⟩ = some (.int .i64 (P : Int)) from ⟨(HZ3.out.cell (cell_block_lt HSS.out.1)).trans HSS.out.1, (HZ3.out.cell (cell_block_lt HSS.out.2)).trans HSS.out.2⟩))
          refine hK.out _ _ (HS3.out) ?_
          clear hK K
          try simp only [Act.put, List.setIfInBounds_toArray, List.set_cons_zero, List.set_cons_succ]
          refine held_call (i := 13) (by kernel_rfl) rfl (fun K hK => ?_)
          go_simp
          (go_at_call 52; (with_reducible refine (HHD.out _ (bl_chain (bl_alloc wr _) (bl_drew _))).mono ?_); rintro e w4 ⟨rfl, hb4⟩; have hbb := bl_chain (bl_chain (bl_alloc wr (.cells #[.int .i64 0, .int .i64 0, .int .i64 0] 71)) (bl_drew _)) hb4; have HB4 := Lib.hid hbb; have hbt4 := ((Blk.new wr 71 #[.int .i64 0, .int .i64 0, .int .i64 0]).drew).keep hb4; have z0 := hbt4.cell 0; have z1 := hbt4.cell 1; have z2 := hbt4.cell 2; have g0 := hbt4.frozen 0; have g1 := hbt4.frozen 1; have g2 := hbt4.frozen 2; simp at z0 z1 z2; have HBT4 := Lib.hid hbt4; have HS4 := Lib.hid (show w4.cell? ⟨p, 1, none⟩ = some (.int .i64 (Fr : Int)) ∧ w4.cell? ⟨p, 3, none⟩ = some (.int .i64 (P : Int)) from ⟨(hbb.cell (cell_block_lt HSS.out.1)).trans HSS.out.1, (hbb.cell (cell_block_lt HSS.out.2)).trans HSS.out.2⟩); clear hb4 hbb hbt4)
          refine hK.out _ _ (HS4.out) ?_
          clear hK K
          try simp only [Act.put, List.setIfInBounds_toArray, List.set_cons_zero, List.set_cons_succ]
          refine held_take (HS4.out) (i := 14) (v := ?_) rfl (by kernel_rfl) (by kernel_rfl) (by kernel_rfl) (fun _ _ _ h => h) (Or.inl ⟨by rfl, ?_⟩) ?_
          rotate_left
          · (intro W hSw; obtain ⟨s1, s2⟩ := hSw; go_simp; try with_reducible rfl)
          try simp only [Act.put, List.setIfInBounds_toArray, List.set_cons_zero, List.set_cons_succ]
          refine held_take (HS4.out) (i := 15) (v := ?_) rfl (by kernel_rfl) (by kernel_rfl) (by kernel_rfl) (fun _ _ _ h => h) (Or.inl ⟨by rfl, ?_⟩) ?_
          rotate_left
          · (intro W hSw; obtain ⟨s1, s2⟩ := hSw; go_simp; try with_reducible rfl)
          try simp only [Act.put, List.setIfInBounds_toArray, List.set_cons_zero, List.set_cons_succ]
          refine held_take (HS4.out) (i := 16) (v := ?_) rfl (by kernel_rfl) (by kernel_rfl) (by kernel_rfl) (fun _ _ _ h => h) (Or.inl ⟨by rfl, ?_⟩) ?_
          rotate_left
          · (intro W hSw; obtain ⟨s1, s2⟩ := hSw; go_simp; try with_reducible rfl)
          try simp only [Act.put, List.setIfInBounds_toArray, List.set_cons_zero, List.set_cons_succ]
          refine held_call (i := 18) (by kernel_rfl) rfl (fun K hK => ?_)
          go_simp
          (have ts : Tr (fun b => b = wr.heap.size) w4 (((w4.setCell ⟨wr.heap.size, 0, none⟩ (.int .i64 sl)).setCell ⟨wr.heap.size, 1, none⟩ (.int .i64 sf)).setCell ⟨wr.heap.size, 2, none⟩ (.int .i64 se)) := (((Tr.refl (fun b => b = wr.heap.size) w4).setCell (p := ⟨wr.heap.size, 0, none⟩) (fun _ => rfl) _).setCell (p := ⟨wr.heap.size, 1, none⟩) (fun _ => rfl) _).setCell (p := ⟨wr.heap.size, 2, none⟩) (fun _ => rfl) _; have HS6 := Lib.hid (show (((w4.setCell ⟨wr.heap.size, 0, none⟩ (.int .i64 sl)).setCell ⟨wr.heap.size, 1, none⟩ (.int .i64 sf)).setCell ⟨wr.heap.size, 2, none⟩ (.int .i64 se)).cell? ⟨p, 1, none⟩ = some (.int .i64 (Fr : Int)) ∧ (((w4.setCell ⟨wr.heap.size, 0, none⟩ (.int .i64 sl)).setCell ⟨wr.heap.size, 1, none⟩ (.int .i64 sf)).setCell ⟨wr.heap.size, 2, none⟩ (.int .i64 se)).cell? ⟨p, 3, none⟩ = some (.int .i64 (P : Int)) from ⟨(ts.cell (cell_block_lt HS4.out.1) (fun e => by have : p = wr.heap.size := e; omega)).trans HS4.out.1, (ts.cell (cell_block_lt HS4.out.2) (fun e => by have : p = wr.heap.size := e; omega)).trans HS4.out.2⟩); clear ts)
          refine hK.out _ _ (HS6.out) ?_
          clear hK K
          try simp only [Act.put, List.setIfInBounds_toArray, List.set_cons_zero, List.set_cons_succ]
          refine held_take (HS6.out) (i := 19) (v := ?_) rfl (by kernel_rfl) (by kernel_rfl) (by kernel_rfl) (fun _ _ _ h => h) (Or.inl ⟨by rfl, ?_⟩) ?_
          rotate_left
          · (intro W hSw; obtain ⟨s1, s2⟩ := hSw; go_simp; try with_reducible rfl)
          try simp only [Act.put, List.setIfInBounds_toArray, List.set_cons_zero, List.set_cons_succ]
          refine wpAnyH_done (by kernel_rfl) ?_ _
          have hbw := ((HB4.out.setCell (p := ⟨wr.heap.size, 0, none⟩) (Nat.le_refl _) (.int .i64 sl)).setCell (p := ⟨wr.heap.size, 1, none⟩) (Nat.le_refl _) (.int .i64 sf)).setCell (p := ⟨wr.heap.size, 2, none⟩) (Nat.le_refl _) (.int .i64 se)
          have hbt := ((HBT4.out.set_ 0 (.int .i64 sl)).set_ 1 (.int .i64 sf)).set_ 2 (.int .i64 se)
          have htl : wr.heap.size ≤ wr.heap.size := Nat.le_refl _
          replace hbt : Blk (((w4.setCell ⟨wr.heap.size, 0, none⟩ (.int .i64 sl)).setCell ⟨wr.heap.size, 1, none⟩ (.int .i64 sf)).setCell ⟨wr.heap.size, 2, none⟩ (.int .i64 se)) wr.heap.size 71 #[.int .i64 sl, .int .i64 sf, .int .i64 se] := hbt
          generalize ((w4.setCell ⟨wr.heap.size, 0, none⟩ (.int .i64 sl)).setCell ⟨wr.heap.size, 1, none⟩ (.int .i64 sf)).setCell ⟨wr.heap.size, 2, none⟩ (.int .i64 se) = W5 at hbw hbt ⊢
          have hl5 := HL.out.below hbw
          have hf5 := HF.out.keep hbw
          have u0 := hbt.cell 0
          have u1 := hbt.cell 1
          have u2 := hbt.cell 2
          have v0 := hf5.cell 0
          have v1 := hf5.cell 1
          have v2 := hf5.cell 2
          have g0 := hf5.frozen 0
          have g1 := hf5.frozen 1
          have g2 := hf5.frozen 2
          have b7 := hl5.lg.cell 7
          simp at u0 u1 u2 v0 v1 v2
          simp [lgCells] at b7
          rw [hyb.out] at b7
          have HL5 := Lib.hid hl5
          have HF5 := Lib.hid hf5
          have HBW := Lib.hid hbw
          clear hl5 hf5 hbw hbt
          go_wp2_with fail
          by_cases q1 : sf ≤ bs + 1
          · by_cases q2 : fe < se
            ·
              have HSN := Lib.hid (HSEL2.out.trans (if_pos ⟨q1, .inl q2⟩))
              clear HSEL2
              go_quiet (fail)
              go_wp2_with fail
              go_roundw
              case measure => simp [intOf]; omega
              case rel =>
                have ts := fun (V : World) => ((((Tr.refl (fun b => b = w.heap.size) V).setCell (p := ⟨w.heap.size, 0, none⟩) (fun _ => rfl) (.int .i64 sl)).setCell (p := ⟨w.heap.size, 1, none⟩) (fun _ => rfl) (.int .i64 sf)).setCell (p := ⟨w.heap.size, 2, none⟩) (fun _ => rfl) (.int .i64 se))
                exact ⟨i + 1, by omega, by go_num, (HL5.out.below (bl_drewN _ _)).tr (ts _) (fun b hb e => by have := HLT.out b hb; omega), by rw [HSN.out]; exact (((HF5.out.keep (bl_drewN _ _)).set_ 0 (.int .i64 sl)).set_ 1 (.int .i64 sf)).set_ 2 (.int .i64 se), ((HTR.out.then_below HBW.out).then_below (bl_drewN _ _)).trans (ts _) (fun b _ e => e)⟩
            · have b2 : decide (fe < se) = false := decide_eq_false q2
              by_cases q3 : se = fe
              · subst q3
                by_cases q4 : fl < sl
                ·
                  have HSN := Lib.hid (HSEL2.out.trans (if_pos ⟨q1, .inr ⟨rfl, q4⟩⟩))
                  clear HSEL2
                  go_quiet (fail)
                  go_wp2_with fail
                  go_roundw
                  case measure => simp [intOf]; omega
                  case rel =>
                    have ts := fun (V : World) => ((((Tr.refl (fun b => b = w.heap.size) V).setCell (p := ⟨w.heap.size, 0, none⟩) (fun _ => rfl) (.int .i64 sl)).setCell (p := ⟨w.heap.size, 1, none⟩) (fun _ => rfl) (.int .i64 sf)).setCell (p := ⟨w.heap.size, 2, none⟩) (fun _ => rfl) (.int .i64 se))
                    exact ⟨i + 1, by omega, by go_num, (HL5.out.below (bl_drewN _ _)).tr (ts _) (fun b hb e => by have := HLT.out b hb; omega), by rw [HSN.out]; exact (((HF5.out.keep (bl_drewN _ _)).set_ 0 (.int .i64 sl)).set_ 1 (.int .i64 sf)).set_ 2 (.int .i64 se), ((HTR.out.then_below HBW.out).then_below (bl_drewN _ _)).trans (ts _) (fun b _ e => e)⟩
                · have b4 : decide (fl < sl) = false := decide_eq_false q4
                  have HSN := Lib.hid (HSEL2.out.trans (if_neg (fun h => h.2.elim q2 (fun h => q4 h.2))))
                  clear HSEL2
                  go_quiet (fail)
                  go_wp2_with fail
                  go_roundw
                  case measure => simp [intOf]; omega
                  case rel => exact ⟨i + 1, by omega, by go_num, HL5.out.below (bl_drewN _ _), by rw [HSN.out]; exact HF5.out.keep (bl_drewN _ _), (HTR.out.then_below HBW.out).then_below (bl_drewN _ _)⟩
              · have b3 : (se == fe) = false := by simpa using q3
                have HSN := Lib.hid (HSEL2.out.trans (if_neg (fun h => h.2.elim q2 (fun h => q3 h.1))))
                clear HSEL2
                go_quiet (fail)
                go_wp2_with fail
                go_roundw
                case measure => simp [intOf]; omega
                case rel => exact ⟨i + 1, by omega, by go_num, HL5.out.below (bl_drewN _ _), by rw [HSN.out]; exact HF5.out.keep (bl_drewN _ _), (HTR.out.then_below HBW.out).then_below (bl_drewN _ _)⟩
          · have b1 : decide (sf ≤ bs + 1) = false := decide_eq_false q1
            have HSN := Lib.hid (HSEL2.out.trans (if_neg (fun h => q1 h.1)))
            clear HSEL2
            go_quiet (fail)
            go_wp2_with fail
            go_roundw
            case measure => simp [intOf]; omega
            case rel => exact ⟨i + 1, by omega, by go_num, HL5.out.below (bl_drewN _ _), by rw [HSN.out]; exact HF5.out.keep (bl_drewN _ _), (HTR.out.then_below HBW.out).then_below (bl_drewN _ _)⟩
    · obtain rfl : i = Sg := by omega
      have hrx : x.rdX D = if (y.selTo D i).life = 0 then (y, [], bs + 1) else (fun r => (r.1, r.2, (y.selTo D i).first)) (LG.rdTo D (y.selTo D i).first 64 (y.folX D (y.selTo D i)) (y.folL D (y.selTo D i)) (y.selTo D i)) := by
        have hb' := HBS.out
        have hs' := HSG.out
        have hy' := HY.out
        subst hb'
        subst hs'
        subst hy'
        have e2 : LG.selTo { x with base := x.base, next := x.base + 1 } D x.segs = x.selTo D x.segs := selTo_next _ _
        rw [e2]
        rfl
      have hfo := selTo_ok (x := y) (D := D) i
      obtain ⟨f, hf⟩ : ∃ f, y.selTo D i = f := ⟨_, rfl⟩
      rw [hf] at HF hfo hrx
      have hynext : y.next = bs + 1 := by rw [HY.out]
      have v0 := HF.out.cell 0
      have v1 := HF.out.cell 1
      have v2 := HF.out.cell 2
      have c9 := HL.out.lg.cell 9
      simp at v0 v1 v2
      simp [lgCells] at c9
      rw [hynext] at c9
      have HYN := Lib.hid hynext
      obtain ⟨fl, ff, fe⟩ := f
      simp only at v0 v1 v2 hfo hrx HF
      have TR0 : Hid (Tr (fun b => b = p ∨ Blo A b) w wr) := Lib.hid (((HT1.out.mono (fun b _ e => .inl e)).then_below HA1.out).trans HTR.out (fun b hb e => by omega))
      clear hf hynext HTR
      by_cases h0 : fl = 0
      · subst h0
        have HRX := Lib.hid (hrx.trans (if_pos rfl))
        clear hrx hfo
        go_wp2_with fail
        go_quiet (fail)
        go_wp2_with fail
        go_ret2
        have hzz := TR0.out.size
        refine ⟨A, c, none, 0, wr.heap.size, by rw [HRX.out]; rfl, by rw [HRX.out]; exact HL.out.below (bl_drewN _ _), hzz, by rw [HRX.out]; exact RecRow.nil _ _, fun b hb => .inl hb, TR0.out.then_below (bl_drewN _ _)⟩
      · have HRX := Lib.hid (hrx.trans (if_neg h0))
        have h0b : (fl == 0) = false := by simpa using h0
        have hfb : (1 ≤ fl ∧ fl ≤ 1152921504606846976) ∧ (1 ≤ ff ∧ ff ≤ 1152921504606846976) ∧ (1 ≤ fe ∧ fe ≤ 1152921504606846976) := by
          rcases hfo with e | ⟨e1, e2, e3, _⟩
          · injection e with e1 e2 e3
            exact absurd e1 h0
          · exact ⟨e1, e2, e3⟩
        have hfol : Calls Try.prog 53 #[.pointer (some ⟨p, 0, none⟩), .agg #[.int .i64 fl, .int .i64 ff, .int .i64 fe]] wr (RetFol wr p d (y.folX D ⟨fl, ff, fe⟩) A D M R (y.folL D ⟨fl, ff, fe⟩)) := follow_any HL.out HGY.out ⟨fl, ff, fe⟩ hfb.1 ⟨by show (0 : Int) ≤ ff; omega, hfb.2.1.2⟩ (by rw [HY.out]; show x.chain.length ≤ 200; rw [HCH.out]; simp)
        have HFOL := Lib.hid hfol
        have HFB := Lib.hid hfb
        clear hrx hfo hfol
        obtain ⟨o1, ho1⟩ : ∃ o1, y.folL D ⟨fl, ff, fe⟩ = o1 := ⟨_, rfl⟩
        obtain ⟨z1, hz1'⟩ : ∃ z1, y.folX D ⟨fl, ff, fe⟩ = z1 := ⟨_, rfl⟩
        rw [ho1, hz1'] at HFOL
        have HO1 := Lib.hid ho1
        have HQ1 := Lib.hid hz1'
        clear ho1 hz1'
        go_wp2_with (first
          | (go_at_call 53; (with_reducible refine HFOL.out.mono ?_); rintro e w5 ⟨A5, c5, Ar, cr, B5, rfl, hl5, hB5, hr5, hA5, hA5', ht5⟩; have hf5 := ht5.blk HF.out (fun e => by rcases e with e | e; (· omega); (· have := (HH.out.row.lt _ e).2; omega)); have y0 := hf5.cell 0; have y1 := hf5.cell 1; have y2 := hf5.cell 2; simp at y0 y1 y2; have HL5 := Lib.hid hl5; have HR5 := Lib.hid (And.intro hB5 hr5); have HA5 := Lib.hid (And.intro hA5 hA5'); have HT5 := Lib.hid ht5; have HF5 := Lib.hid hf5; clear hl5 hB5 hr5 hA5 hA5' ht5 hf5))
        have hb9 := bl_alloc w5 (.cells #[.int .i64 fl, .int .i64 ff, .int .i64 fe] 71)
        have hb9b := Blk.new w5 71 #[.int .i64 fl, .int .i64 ff, .int .i64 fe]
        have hz5 : w.heap.size < w5.heap.size := by
          have h1 := HT5.out.size
          have h2 := HL.out.lg.lt
          have h3 := HF.out.lt
          omega
        have hst : RdI w p d y A D M R ⟨fl, ff, fe⟩ (LG.rdTo D ff 64 z1 o1 ⟨fl, ff, fe⟩) (w5.alloc (.cells #[.int .i64 fl, .int .i64 ff, .int .i64 fe] 71)) 64 o1.length w5.heap.size z1 o1 ⟨fl, ff, fe⟩ A5 c5 Ar cr := by
          have hz1 := HQ1.out
          have ho1 := HO1.out
          have hchl : z1.chain.length = 1 := by
            rw [← hz1]
            show (y.chain ++ [SG.mk fl ff fe]).length = 1
            rw [HY.out]
            show (x.chain ++ [SG.mk fl ff fe]).length = 1
            rw [HCH.out]
            rfl
          have hwr : w.heap.size < wr.heap.size := HF.out.lt
          exact ⟨HL5.out.below hb9, (HR5.out.2.base (by have := HR5.out.1; omega)).below hb9, rfl, hb9b, HF5.out.keep hb9, hz5, (TR0.out.trans HT5.out (fun b _ e => e)).then_below hb9,
            fun b hb => (HA5.out.2 b hb).imp id (fun e => by omega), fun hb => by have := HL5.out.row.lt _ hb; omega, by rw [← hz1]; exact ⟨rfl, rfl, rfl, rfl⟩, by rw [hchl], by rw [← hz1, ← ho1]; rfl, ⟨Int.le_refl _, HFB.out.2.1.1⟩, ⟨HFB.out.1, HFB.out.2.1.2⟩,
            by rw [hchl, ← ho1]; exact folTo_len _ _ _, rfl⟩
        have HST := Lib.hid hst
        have HRX2 : Hid (x.rdX D = ((LG.rdTo D ff 64 z1 o1 ⟨fl, ff, fe⟩).1, (LG.rdTo D ff 64 z1 o1 ⟨fl, ff, fe⟩).2, ff)) := Lib.hid (by
          have h1 := HRX.out
          rw [HQ1.out, HO1.out] at h1
          exact h1)
        clear hst hb9 hb9b HRX HFOL v0 v1 v2 c9 y0 y1 y2
        generalize LG.rdTo D ff 64 z1 o1 ⟨fl, ff, fe⟩ = tot at HST HRX2
        generalize w5.alloc (.cells #[.int .i64 fl, .int .i64 ff, .int .i64 fe] 71) = W6 at HST ⊢
        generalize w5.heap.size = T6 at HST ⊢
        go_loopw [8, 9, 10, 11] (fun v8 v9 _ _ W => ∃ (k n T : Nat) (z : LG) (out : List (List Int)) (last : SG) (Aa : Option Addr) (cc : Nat) (Ao : Option Addr) (co : Nat), v8 = .slice Ao n co ∧ v9 = .pointer (some ⟨T, 0, none⟩) ∧ RdI w p d y A D M R ⟨fl, ff, fe⟩ tot W k n T z out last Aa cc Ao co) (fun _ _ _ _ W => 100 - chLen W p)
        case atStart => exact ⟨64, _, T6, z1, o1, ⟨fl, ff, fe⟩, A5, c5, Ar, cr, rfl, rfl, HST.out⟩
        case round =>
          obtain ⟨k, n, T, z, out, ⟨ll, lf, le⟩, Aa, cc, Ao, co, rfl, rfl, hi⟩ := hrel
          have HI := Lib.hid hi
          obtain ⟨cl, hcl⟩ : ∃ cl, z.chain.length = cl := ⟨_, rfl⟩
          have hzs : z.segs = i := by rw [hi.geo.2.1]; exact hysg.out
          have c8 := hi.lg.lg.cell 8
          have c2 := hi.lg.lg.cell 2
          have t0 := hi.lst.cell 0
          have t1 := hi.lst.cell 1
          have t2 := hi.lst.cell 2
          have e0 := hi.fst.cell 0
          have e1 := hi.fst.cell 1
          have e2 := hi.fst.cell 2
          simp [lgCells] at c2 c8
          simp at t0 t1 t2 e0 e1 e2
          rw [hcl] at c8
          rw [hzs] at c2
          have HCL := Lib.hid hcl
          have HZS := Lib.hid hzs
          have hlb := hi.lb
          simp only at hlb
          clear hi hcl hzs
          have hexit : ∀ (W : World), Below wr.heap.size wr W → tot = (z, out) → RetRead w p d x A D M R (.returned (.tuple #[.slice Ao n co, .int .i64 ff])) W := fun W hW ht => by
            have h1 := HI.out
            refine ⟨Aa, cc, Ao, co, w.heap.size, ?_, ?_, Nat.le_refl _, ?_, fun b hb => (h1.new b hb).imp id Nat.le_of_lt, h1.tr.then_below hW⟩
            · rw [HRX2.out, ht, h1.n]
            · rw [HRX2.out, ht]; exact h1.lg.below hW
            · rw [HRX2.out, ht]; exact h1.row.below hW
          have HEXIT := Lib.hid hexit
          clear hexit
          by_cases q1 : cl < i
          · by_cases q2 : ll < 1152921504606846976
            · obtain ⟨kl, rfl⟩ : ∃ kl : Nat, ll = (kl : Int) := Int.eq_ofNat_of_zero_le (by omega)
              have hgz : z.Geo D.n := by
                obtain ⟨g1, g2, g3, g4⟩ := HI.out.geo
                exact ⟨by rw [g2]; exact HGY.out.s2, by rw [g2]; exact HGY.out.s64, by rw [g3]; exact HGY.out.p2, by rw [g3]; exact HGY.out.p64, by rw [g1, g2, g3]; exact HGY.out.fit, HGY.out.big⟩
              have HGZ := Lib.hid hgz
              have hpl := hgz.place kl
              have hp2 := hgz.p2
              have hbig := hgz.big
              obtain ⟨a, ha⟩ : ∃ a, z.place kl = a := ⟨_, rfl⟩
              rw [ha] at hpl
              have ha1 : a + 1 ≤ D.n := by omega
              have HPL : Hid (∀ W : World, Below wr.heap.size wr W → Calls Try.prog 40 #[.pointer (some ⟨p, 0, none⟩), .int .i64 ((kl : Int) + 1)] W fun e w' => e = .returned (.int .i64 (a : Int)) ∧ Below W.heap.size W w') := Lib.hid (fun W hW => by
                have := place_any (x := z) (HI.out.lg.below hW).lg hgz kl _ rfl (by omega)
                rw [ha] at this
                exact this)
              have HHD := Lib.hid (fun (W : World) (hW : Below wr.heap.size wr W) => head_at (HI.out.lg.below hW) hgz a ha1)
              have HNX : Hid (z.nextH D ⟨(kl : Int), lf, le⟩ = match z.headL a (secL D a) with
                | none => none
                | some s => if s.life = (kl : Int) + 1 ∧ le ≤ s.epoch ∧ inW s.first lf z.next = true then some s else none) := Lib.hid (by
                unfold LG.nextH
                simp only [Int.toNat_natCast, ha])
              obtain ⟨nx, hnx⟩ : ∃ nx, z.next = nx := ⟨_, rfl⟩
              rw [hnx] at HNX
              have HNN := Lib.hid hnx
              have hwk : IntKind.i64.wrap ((kl : Int) + 1) = (kl : Int) + 1 := by rw [IntKind.wrap_i64]; omega
              have hok : ∀ s, z.headL a (secL D a) = some s → (1 ≤ s.life ∧ s.life ≤ 1152921504606846976) ∧ (1 ≤ s.first ∧ s.first ≤ 1152921504606846976) ∧ (1 ≤ s.epoch ∧ s.epoch ≤ 1152921504606846976) := fun s h => headL_ok h
              clear hnx ha hpl hgz hp2
              generalize z.headL a (secL D a) = o at HHD HNX hok
              cases o with
              | none =>
                have HTOT : Hid (tot = (z, out)) := Lib.hid (by rw [← HI.out.tot]; exact rdTo_none HNX.out _)
                have HHD : Hid (∀ W : World, Below wr.heap.size wr W → Calls Try.prog 52 #[.pointer (some ⟨p, 0, none⟩), .int .i64 (a : Int)] W fun e w' => e = .returned (.tuple #[.agg #[.int .i64 0, .int .i64 0, .int .i64 0], .bool false]) ∧ Below W.heap.size W w') := HHD
                clear hok HNX
                go_wp2_with fail
                go_quiet (fail)
                go_wp2_with (first
                  | (go_at_call 40; (with_reducible refine (HPL.out _ (bl_drewN _ _)).mono ?_); rintro e w7 ⟨rfl, hb7⟩; have HB7 := Lib.hid (bl_chain (bl_drewN wr _) hb7); clear hb7)
                  | (go_at_call 52; (with_reducible refine (HHD.out _ HB7.out).mono ?_); rintro e w8 ⟨rfl, hb8⟩; have HB8 := Lib.hid (bl_chain HB7.out hb8); clear hb8))
                have hb9 := bl_chain HB8.out (bl_alloc w8 (.cells #[.int .i64 0, .int .i64 0, .int .i64 0] 71))
                have hn9 := Blk.new w8 71 #[.int .i64 0, .int .i64 0, .int .i64 0]
                have hwz : wr.heap.size ≤ w8.heap.size := HB8.out.size
                generalize w8.alloc (.cells #[.int .i64 0, .int .i64 0, .int .i64 0] 71) = W9 at hb9 hn9 ⊢
                generalize w8.heap.size = T9 at hn9 hwz ⊢
                have hf9 := HI.out.fst.keep hb9
                have a1 := hf9.cell 1
                simp at a1
                have HB9 := Lib.hid hb9
                have HF9 := Lib.hid hf9
                clear hb9 hf9
                go_wp2_with fail
                go_quiet (fail)
                go_wp2_with fail
                go_quiet (fail)
                go_wp2_with fail
                go_ret2
                exact HEXIT.out _ (bl_chain (bl_chain HB9.out (bl_drewN _ _)) (bl_drewN _ _)) HTOT.out
              | some s =>
                obtain ⟨sl, sf, se⟩ := s
                obtain ⟨s1, s2, s3⟩ := hok _ rfl
                simp only at s1 s2 s3
                have HHD : Hid (∀ W : World, Below wr.heap.size wr W → Calls Try.prog 52 #[.pointer (some ⟨p, 0, none⟩), .int .i64 (a : Int)] W fun e w' => e = .returned (.tuple #[.agg #[.int .i64 sl, .int .i64 sf, .int .i64 se], .bool true]) ∧ Below W.heap.size W w') := HHD
                have HNX : Hid (z.nextH D ⟨(kl : Int), lf, le⟩ = if sl = (kl : Int) + 1 ∧ le ≤ se ∧ inW sf lf nx = true then some ⟨sl, sf, se⟩ else none) := HNX
                clear hok
                go_wp2_with fail
                go_quiet (fail)
                go_wp2_with (first
                  | (go_at_call 40; (with_reducible refine (HPL.out _ (bl_drewN _ _)).mono ?_); rintro e w7 ⟨rfl, hb7⟩; have HB7 := Lib.hid (bl_chain (bl_drewN wr _) hb7); clear hb7)
                  | (go_at_call 52; (with_reducible refine (HHD.out _ HB7.out).mono ?_); rintro e w8 ⟨rfl, hb8⟩; have HB8 := Lib.hid (bl_chain HB7.out hb8); clear hb8))
                have hb9 := bl_chain HB8.out (bl_alloc w8 (.cells #[.int .i64 sl, .int .i64 sf, .int .i64 se] 71))
                have hn9 := Blk.new w8 71 #[.int .i64 sl, .int .i64 sf, .int .i64 se]
                have hwz : wr.heap.size ≤ w8.heap.size := HB8.out.size
                generalize w8.alloc (.cells #[.int .i64 sl, .int .i64 sf, .int .i64 se] 71) = W9 at hb9 hn9 ⊢
                generalize w8.heap.size = T9 at hn9 hwz ⊢
                have hf9 := HI.out.fst.keep hb9
                have a1 := hf9.cell 1
                simp at a1
                have ht9 := HI.out.lst.keep hb9
                have hl9 := HI.out.lg.below hb9
                have b0 := ht9.cell 0
                have b1 := ht9.cell 1
                have b2 := ht9.cell 2
                have d0 := hn9.cell 0
                have d1 := hn9.cell 1
                have d2 := hn9.cell 2
                have d9 := hl9.lg.cell 9
                simp at b0 b1 b2 d0 d1 d2
                simp [lgCells] at d9
                rw [HNN.out] at d9
                have HT9 := Lib.hid ht9
                have HL9 := Lib.hid hl9
                have HN9 := Lib.hid hn9
                clear ht9 hl9 hn9
                have HB9 := Lib.hid hb9
                have HF9 := Lib.hid hf9
                clear hb9 hf9
                by_cases r1 : sl = (kl : Int) + 1
                · by_cases r2 : se < le
                  · have HTOT : Hid (tot = (z, out)) := Lib.hid (by rw [← HI.out.tot]; exact rdTo_none (HNX.out.trans (if_neg (fun h => by omega))) _)
                    subst r1
                    go_wp2_with fail
                    go_quiet (first | (go_at_call 42; exact Calls.quiet_of_same (within_q _ _ _ _)))
                    go_wp2_with fail
                    go_quiet (fail)
                    go_wp2_with fail
                    go_ret2
                    exact HEXIT.out _ (bl_chain (bl_chain HB9.out (bl_drewN _ _)) (bl_drewN _ _)) HTOT.out
                  · have k2 : decide (se < le) = false := decide_eq_false r2
                    cases r3 : inW sf lf nx with
                    | false =>
                      have HTOT : Hid (tot = (z, out)) := Lib.hid (by rw [← HI.out.tot]; exact rdTo_none (HNX.out.trans (if_neg (fun h => by rw [r3] at h; exact absurd h.2.2 (by simp)))) _)
                      subst r1
                      go_wp2_with fail
                      go_quiet (first | (go_at_call 42; exact Calls.quiet_of_same (within_q _ _ _ _)))
                      go_wp2_with fail
                      go_quiet (fail)
                      go_wp2_with fail
                      go_ret2
                      exact HEXIT.out _ (bl_chain (bl_chain HB9.out (bl_drewN _ _)) (bl_drewN _ _)) HTOT.out
                    | true =>
                      have HNS : Hid (z.nextH D ⟨(kl : Int), lf, le⟩ = some ⟨sl, sf, se⟩) := Lib.hid (HNX.out.trans (if_pos ⟨r1, by omega, r3⟩))
                      have r3b : lf ≤ sf ∧ sf ≤ nx := by simpa [inW] using r3
                      have hnn : nx = ff + (n : Int) := by rw [← HNN.out, HI.out.next, HI.out.n]
                      have hord := HI.out.ord
                      simp only at hord
                      obtain ⟨kk, hkk⟩ : ∃ kk : Nat, sf - ff = (kk : Int) := Int.eq_ofNat_of_zero_le (by omega)
                      have hkn : kk ≤ n := by omega
                      have hn4 : n ≤ 64 * cl := by rw [HI.out.n, ← HCL.out]; exact HI.out.len
                      obtain ⟨vs, hv1, hv2⟩ := HI.out.row.below HB9.out
                      rw [← HI.out.n] at hv1
                      have hnc : n ≤ co := by
                        obtain ⟨A', c', e, h1, _⟩ := ownsRow_slice hv1
                        injection e with e1 e2 e3
                        omega
                      have hkc : kk ≤ co := by omega
                      have HV1 := Lib.hid hv1
                      have HV2 := Lib.hid hv2
                      have HKK := Lib.hid hkk
                      have HNNN := Lib.hid hnn
                      have hskk : IntKind.i64.wrap (kk : Int) = (kk : Int) := by rw [IntKind.wrap_i64]; omega
                      have hcl64 : cl < 64 := by have := HGY.out.s64; have := hysg.out; omega
                      subst r1
                      clear hv1 hv2 HNX hnn
                      go_wp2_with fail
                      go_quiet (first | (go_at_call 42; exact Calls.quiet_of_same (within_q _ _ _ _)))
                      go_wp2_with fail
                      have hbq := bl_drewN W9 nq
                      have hl10 := HL9.out.below hbq
                      have ht10 := HT9.out.keep hbq
                      have hn10 := HN9.out.keep hbq
                      have hf10 := HF9.out.keep hbq
                      have hb10 := bl_chain HB9.out hbq
                      have HV10 := Lib.hid (own_below (B := 0) HV1.out hbq)
                      have HL10 := Lib.hid hl10
                      have HT10 := Lib.hid ht10
                      have HN10 := Lib.hid hn10
                      have HF10 := Lib.hid hf10
                      have HB10 := Lib.hid hb10
                      have HVQ := Lib.hid (fun i (h : i < out.length) => HV2.out i h)
                      clear hbq hl10 ht10 hn10 hf10 hb10 b0 b1 b2 d0 d1 d2 d9 a1 t0 t1 t2 e0 e1 e2 c8 c2
                      have HV20 : Hid (∀ i (h : i < out.length), ∃ A' c', vs[i]? = some (.slice A' out[i].length c') ∧ (W9.drewN nq).ownsRow w.heap.size 5 1 (.slice A' out[i].length c') out[i].length (by8 out[i])) := Lib.hid (fun i h => by
                        obtain ⟨A', c', e, ho⟩ := HV2.out i h
                        exact ⟨A', c', e, own_tr ho (Tr.of_below (F := NoB) (bl_drewN W9 nq)) (fun _ _ h => h)⟩)
                      have HV11 : Hid ((W9.drewN nq).ownsRow w.heap.size 33 1 (.slice Ao n co) n vs) := Lib.hid (own_tr HV1.out (Tr.of_below (F := NoB) (bl_drewN W9 nq)) (fun _ _ h => h))
                      clear HV1 HV2 HV10 HVQ HL9 HT9 HN9 HF9
                      generalize W9.drewN nq = W10 at HL10 HT10 HN10 HF10 HB10 HV20 HV11 ⊢
                      have hfol := fun (W : World) (hW : Below W10.heap.size W10 W) => follow_any (HL10.out.below hW) HGZ.out ⟨(kl : Int) + 1, sf, se⟩ s1 ⟨by show (0 : Int) ≤ sf; omega, s2.2⟩ (by rw [HCL.out]; omega)
                      have HFOL : Hid (∀ W : World, Below W10.heap.size W10 W → Calls Try.prog 53 #[.pointer (some ⟨p, 0, none⟩), .agg #[.int .i64 ((kl : Int) + 1), .int .i64 sf, .int .i64 se]] W (RetFol W p d (z.folX D ⟨(kl : Int) + 1, sf, se⟩) Aa D M R (z.folL D ⟨(kl : Int) + 1, sf, se⟩))) := Lib.hid hfol
                      obtain ⟨ls2, hls2⟩ : ∃ l, z.folL D ⟨(kl : Int) + 1, sf, se⟩ = l := ⟨_, rfl⟩
                      have hls64 : ls2.length ≤ 64 := by rw [← hls2]; exact folTo_len _ _ _
                      obtain ⟨m2, hm2⟩ : ∃ m, ls2.length = m := ⟨_, rfl⟩
                      rw [hls2] at HFOL
                      have HLS := Lib.hid hls2
                      have HM2 := Lib.hid hm2
                      rw [hm2] at hls64
                      have HFOL2 : Hid (Calls Try.prog 53 #[.pointer (some ⟨p, 0, none⟩), .agg #[.int .i64 ((kl : Int) + 1), .int .i64 sf, .int .i64 se]] W10.drew fun e w' => ∃ A' c' Ar cr B, e = .returned (.slice Ar m2 cr) ∧ LgAt w' p d (z.folX D ⟨(kl : Int) + 1, sf, se⟩) A' c' D M R ∧ W10.heap.size ≤ B ∧ RecRow w' B Ar cr ls2 ∧ (∀ b, Blo A' b → b < B) ∧ (∀ b, Blo A' b → Blo Aa b ∨ W10.heap.size ≤ b) ∧ Tr (fun b => b = p ∨ Blo Aa b) W10.drew w') := Lib.hid (by
                        have := HFOL.out W10.drew (bl_drew _)
                        rw [← hm2]
                        exact this)
                      clear hfol HFOL hls2 hm2
                      have hAa : ∀ b, Blo Aa b → b < wr.heap.size := fun b hb => (HI.out.lg.row.lt b hb).2
                      have hT9A : ¬ Blo Aa T9 := fun hb => by have := hAa _ hb; omega
                      have hF0A : ¬ Blo Aa w.heap.size := fun hb => (HI.out.new _ hb).elim (fun h => by have := (HH.out.row.lt _ h).2; omega) (fun h => by omega)
                      have hplr : p < w.heap.size := hplt
                      have hwwr : w.heap.size < wr.heap.size := HI.out.fst.lt
                      have HSS : Hid (W10.drew.cell? ⟨T9, 0, none⟩ = some (.int .i64 ((kl : Int) + 1)) ∧ W10.drew.cell? ⟨T9, 1, none⟩ = some (.int .i64 sf) ∧ W10.drew.cell? ⟨T9, 2, none⟩ = some (.int .i64 se) ∧ W10.drew.cell? ⟨w.heap.size, 1, none⟩ = some (.int .i64 ff)) := Lib.hid ⟨HN10.out.cell 0, HN10.out.cell 1, HN10.out.cell 2, HF10.out.cell 1⟩
                      refine held_startB (S := fun W => W.cell? ⟨T9, 0, none⟩ = some (.int .i64 ((kl : Int) + 1)) ∧ W.cell? ⟨T9, 1, none⟩ = some (.int .i64 sf) ∧ W.cell? ⟨T9, 2, none⟩ = some (.int .i64 se) ∧ W.cell? ⟨w.heap.size, 1, none⟩ = some (.int .i64 ff)) (by kernel_rfl) ?_
                      refine held_take (HSS.out) (i := 0) (v := ?_) rfl (by kernel_rfl) (by kernel_rfl) (by kernel_rfl) (fun _ _ _ h => h) (Or.inl ⟨by rfl, ?_⟩) ?_
                      rotate_left
                      · (intro W hSw; obtain ⟨s1, s2, s3, s4⟩ := hSw; go_simp; try with_reducible rfl)
                      try simp only [Act.put, List.setIfInBounds_toArray, List.set_cons_zero, List.set_cons_succ]
                      refine held_take (HSS.out) (i := 1) (v := ?_) rfl (by kernel_rfl) (by kernel_rfl) (by kernel_rfl) (fun _ _ _ h => h) (Or.inl ⟨by rfl, ?_⟩) ?_
                      rotate_left
                      · (intro W hSw; obtain ⟨s1, s2, s3, s4⟩ := hSw; go_simp; try with_reducible rfl)
                      try simp only [Act.put, List.setIfInBounds_toArray, List.set_cons_zero, List.set_cons_succ]
                      refine held_take (HSS.out) (i := 2) (v := ?_) rfl (by kernel_rfl) (by kernel_rfl) (by kernel_rfl) (fun _ _ _ h => h) (Or.inl ⟨by rfl, ?_⟩) ?_
                      rotate_left
                      · (intro W hSw; obtain ⟨s1, s2, s3, s4⟩ := hSw; go_simp; try with_reducible rfl)
                      try simp only [Act.put, List.setIfInBounds_toArray, List.set_cons_zero, List.set_cons_succ]
                      refine held_take (HSS.out) (i := 3) (v := ?_) rfl (by kernel_rfl) (by kernel_rfl) (by kernel_rfl) (fun _ _ _ h => h) (Or.inl ⟨by rfl, ?_⟩) ?_
                      rotate_left
                      · (intro W hSw; obtain ⟨s1, s2, s3, s4⟩ := hSw; go_simp; try with_reducible rfl)
                      try simp only [Act.put, List.setIfInBounds_toArray, List.set_cons_zero, List.set_cons_succ]
                      refine held_take (HSS.out) (i := 4) (v := ?_) rfl (by kernel_rfl) (by kernel_rfl) (by kernel_rfl) (fun _ _ _ h => h) (Or.inl ⟨by rfl, ?_⟩) ?_
                      rotate_left
                      · (intro W hSw; obtain ⟨s1, s2, s3, s4⟩ := hSw; go_simp; try with_reducible rfl)
                      try simp only [Act.put, List.setIfInBounds_toArray, List.set_cons_zero, List.set_cons_succ]
                      refine held_take (HSS.out) (i := 5) (v := ?_) rfl (by kernel_rfl) (by kernel_rfl) (by kernel_rfl) (fun _ _ _ h => h) (Or.inl ⟨by rfl, ?_⟩) ?_
                      rotate_left
                      · (intro W hSw; obtain ⟨s1, s2, s3, s4⟩ := hSw; go_simp; try with_reducible rfl)
                      try simp only [Act.put, List.setIfInBounds_toArray, List.set_cons_zero, List.set_cons_succ]
                      refine held_take (HSS.out) (i := 6) (v := ?_) rfl (by kernel_rfl) (by kernel_rfl) (by kernel_rfl) (fun _ _ _ h => h) (Or.inl ⟨by rfl, ?_⟩) ?_
                      rotate_left
                      · (intro W hSw; obtain ⟨s1, s2, s3, s4⟩ := hSw; go_simp; try with_reducible rfl)
                      try simp only [Act.put, List.setIfInBounds_toArray, List.set_cons_zero, List.set_cons_succ]
                      refine held_take (HSS.out) (i := 7) (v := ?_) rfl (by kernel_rfl) (by kernel_rfl) (by kernel_rfl) (fun _ _ _ h => h) (Or.inl ⟨by rfl, ?_⟩) ?_
                      rotate_left
                      · (intro W hSw; obtain ⟨s1, s2, s3, s4⟩ := hSw; go_simp; try with_reducible rfl)
                      try simp only [Act.put, List.setIfInBounds_toArray, List.set_cons_zero, List.set_cons_succ]
                      refine held_take (HSS.out) (i := 8) (v := ?_) rfl (by kernel_rfl) (by kernel_rfl) (by kernel_rfl) (fun _ _ _ h => h) (Or.inl ⟨by rfl, ?_⟩) ?_
                      rotate_left
                      · (intro W hSw; obtain ⟨s1, s2, s3, s4⟩ := hSw; go_simp; try with_reducible rfl)
                      try simp only [Act.put, List.setIfInBounds_toArray, List.set_cons_zero, List.set_cons_succ]
                      refine held_call (i := 9) (by kernel_rfl) rfl (fun K hK => ?_)
                      go_simp
                      (go_at_call 53; (with_reducible refine HFOL2.out.mono ?_); rintro e w11 ⟨A11, c11, Ar, cr, B11, rfl, hl11, hB11, hr11, hA11, hA11', ht11⟩; have hn11 := ht11.blk HN10.out.drew (fun e => by rcases e with e | e; (· omega); (· exact hT9A e)); have hf11 := ht11.blk HF10.out.drew (fun e => by rcases e with e | e; (· omega); (· exact hF0A e)); have HS11 := Lib.hid (show w11.cell? ⟨T9, 0, none⟩ = some (.int .i64 ((kl : Int) + 1)) ∧ w11.cell? ⟨T9, 1, none⟩ = some (.int .i64 sf) ∧ w11.cell? ⟨T9, 2, none⟩ = some (.int .i64 se) ∧ w11.cell? ⟨w.heap.size, 1, none⟩ = some (.int .i64 ff) from ⟨hn11.cell 0, hn11.cell 1, hn11.cell 2, hf11.cell 1⟩); have HL11 := Lib.hid hl11; have HR11 := Lib.hid hr11; have HA11 := Lib.hid (And.intro hA11 (And.intro hA11' hB11)); have HT11 := Lib.hid ht11; have HN11 := Lib.hid hn11; have HF11 := Lib.hid hf11; clear hl11 hr11 hA11 hA11' ht11 hn11 hf11)
                      refine hK.out _ _ (HS11.out) ?_
                      clear hK K
                      try simp only [Act.put, List.setIfInBounds_toArray, List.set_cons_zero, List.set_cons_succ]
                      have hv12 : w11.ownsRow w.heap.size 33 1 (.slice Ao n co) n vs := own_tr (own_tr HV11.out (Tr.of_below (F := NoB) (bl_drew W10)) (fun _ _ h => h)) HT11.out (fun b hb hf => by
                        rcases hf with e | e
                        · have := own_ge HV11.out b hb; omega
                        · exact (HL10.out.row.ty b e).not_own HV11.out (by decide) hb)
                      have HV12 := Lib.hid hv12
                      have HV22 : Hid (∀ i (h : i < out.length), ∃ A' c', vs[i]? = some (.slice A' out[i].length c') ∧ w11.ownsRow w.heap.size 5 1 (.slice A' out[i].length c') out[i].length (by8 out[i])) := Lib.hid (fun i h => by
                        obtain ⟨A', c', e, ho⟩ := HV20.out i h
                        refine ⟨A', c', e, own_tr (own_tr ho (Tr.of_below (F := NoB) (bl_drew W10)) (fun _ _ h => h)) HT11.out (fun b hb hf => ?_)⟩
                        rcases hf with e | e
                        · have := own_ge ho b hb; omega
                        · exact (HL10.out.row.ty b e).not_own ho (by decide) hb)
                      obtain ⟨vs2, g1, g2⟩ := HR11.out
                      rw [HM2.out] at g1
                      have HVT := Lib.hid (own_take hv12 hkn)
                      have HRD := Lib.hid (Rd.of_own (ownsRow_base g1 (Nat.zero_le _)))
                      have hvl2 : vs2.length = m2 * 1 := g1.1
                      have HVL := Lib.hid hvl2
                      have HONE : Hid (∀ u ∈ vs2, u.oneCell' = true) := Lib.hid (fun u hu => by
                        obtain ⟨i, hi, rfl⟩ := List.getElem_of_mem hu
                        obtain ⟨A', c', e, _⟩ := g2 i (by rw [HM2.out]; omega)
                        rw [List.getElem?_eq_getElem hi] at e
                        injection e with e
                        rw [e]
                        rfl)
                      have HG2 := Lib.hid (And.intro g1 g2)
                      have hz11 : w.heap.size ≤ w11.heap.size := by have := HF11.out.lt; omega
                      clear g1 g2 hv12 hvl2
                      refine held_call (i := 10) (by kernel_rfl) rfl (fun K hK => ?_)
                      refine stepR_append ES rfl rfl HVT.out rfl HRD.out rfl HVL.out HONE.out (kk + m2) (vs.take kk ++ vs2) rfl rfl (by simp only [maxLen]; omega) (by omega) hz11 ?_
                      intro A12 c12 w12 hc12 ho12 ht12 ha12
                      have hsg : ∀ b cs, Blk w11 b 71 cs → ¬ Blo Ao b := fun b cs h => SegTy.not_own ⟨cs, (0, 0), h⟩ HV12.out (by decide)
                      have hn12 := ht12.blk HN11.out (hsg _ _ HN11.out)
                      have hf12 := ht12.blk HF11.out (hsg _ _ HF11.out)
                      have ht11b := HT11.out.blk HT10.out.drew (fun e => by rcases e with e | e; (· have := HI.out.T0; omega); (· exact HI.out.notT e))
                      have htt12 := ht12.blk ht11b (hsg _ _ ht11b)
                      have HS12 := Lib.hid (show w12.cell? ⟨T9, 0, none⟩ = some (.int .i64 ((kl : Int) + 1)) ∧ w12.cell? ⟨T9, 1, none⟩ = some (.int .i64 sf) ∧ w12.cell? ⟨T9, 2, none⟩ = some (.int .i64 se) ∧ w12.cell? ⟨w.heap.size, 1, none⟩ = some (.int .i64 ff) from ⟨hn12.cell 0, hn12.cell 1, hn12.cell 2, hf12.cell 1⟩)
                      refine hK.out _ _ HS12.out ?_
                      clear hK K
                      try simp only [Act.put, List.setIfInBounds_toArray, List.set_cons_zero, List.set_cons_succ]
                      refine held_take (HS12.out) (i := 11) (v := ?_) rfl (by kernel_rfl) (by kernel_rfl) (by kernel_rfl) (fun _ _ _ h => h) (Or.inl ⟨by rfl, ?_⟩) ?_
                      rotate_left
                      · (intro W hSw; obtain ⟨s1, s2, s3, s4⟩ := hSw; go_simp; try with_reducible rfl)
                      try simp only [Act.put, List.setIfInBounds_toArray, List.set_cons_zero, List.set_cons_succ]
                      refine wpAnyH_done (by kernel_rfl) ?_ _
                      have d0 := hn12.cell 0
                      have d1 := hn12.cell 1
                      have d2 := hn12.cell 2
                      have b0 := htt12.cell 0
                      have b1 := htt12.cell 1
                      have b2 := htt12.cell 2
                      have g0 := htt12.frozen 0
                      have g1 := htt12.frozen 1
                      have g2 := htt12.frozen 2
                      simp at d0 d1 d2 b0 b1 b2
                      have HF12 := Lib.hid hf12
                      have HTT12 := Lib.hid htt12
                      have HO12 := Lib.hid ho12
                      have HT12 := Lib.hid ht12
                      clear hn12 hf12 ht11b htt12 ho12 ht12
                      go_wp2_with fail
                      have hown := own_ge HV12.out
                      have hsgT : SegTy w12 T := ⟨_, (0, 0), HTT12.out⟩
                      have hAo : ∀ b, Blo Ao b → w.heap.size ≤ b := hown
                      have hml := HH.out.dk.mlt
                      have hrl := HH.out.dk.rlt
                      have hTF := HI.out.T0
                      have hTwr : T < wr.heap.size := HI.out.lst.lt
                      have hW10 : wr.heap.size ≤ W10.heap.size := HB10.out.size
                      have hz1112 := HT12.out.size
                      have hz1011 := HT11.out.size
                      have hz1011' : W10.heap.size ≤ w11.heap.size := hz1011
                      have hM : ∀ b, M b → b < w.heap.size := hml
                      have hR : ∀ b, R b → b < w.heap.size := hrl
                      have hl12 := HL11.out.tr HT12.out (fun b hb hf => by
                        have h1 := hAo b hf
                        rcases hb with hb | hb | hb | hb
                        · omega
                        · exact (HL11.out.row.ty b hb).not_own HV12.out (by decide) hf
                        · have := hM b hb; omega
                        · have := hR b hb; omega)
                      have hA11T : ¬ Blo A11 T := fun hb => (HA11.out.2.1 T hb).elim HI.out.notT (fun h => by omega)
                      have ts : Tr (fun b => b = T) w12 (((w12.setCell ⟨T, 0, none⟩ (.int .i64 ((kl : Int) + 1))).setCell ⟨T, 1, none⟩ (.int .i64 sf)).setCell ⟨T, 2, none⟩ (.int .i64 se)) := (((Tr.refl (fun b => b = T) w12).setCell (p := ⟨T, 0, none⟩) (fun _ => rfl) _).setCell (p := ⟨T, 1, none⟩) (fun _ => rfl) _).setCell (p := ⟨T, 2, none⟩) (fun _ => rfl) _
                      have hl13 := hl12.tr ts (fun b hb e => by
                        rcases hb with hb | hb | hb | hb
                        · omega
                        · exact hA11T (e ▸ hb)
                        · have := hM b hb; omega
                        · have := hR b hb; omega)
                      have hba := bl_alloc (((w12.setCell ⟨T, 0, none⟩ (.int .i64 ((kl : Int) + 1))).setCell ⟨T, 1, none⟩ (.int .i64 sf)).setCell ⟨T, 2, none⟩ (.int .i64 se)) (.cells #[.int .i64 ((kl : Int) + 1), .int .i64 sf, .int .i64 se] 71)
                      have hzs : (((w12.setCell ⟨T, 0, none⟩ (.int .i64 ((kl : Int) + 1))).setCell ⟨T, 1, none⟩ (.int .i64 sf)).setCell ⟨T, 2, none⟩ (.int .i64 se)).heap.size = w12.heap.size := by simp
                      have hnew := Blk.new (((w12.setCell ⟨T, 0, none⟩ (.int .i64 ((kl : Int) + 1))).setCell ⟨T, 1, none⟩ (.int .i64 sf)).setCell ⟨T, 2, none⟩ (.int .i64 se)) 71 #[.int .i64 ((kl : Int) + 1), .int .i64 sf, .int .i64 se]
                      rw [hzs] at hnew
                      have hv12 := HV12.out
                      have ho12 := HO12.out
                      rw [HI.out.n] at hv12
                      rw [← HM2.out] at ho12
                      have hkn2 : kk ≤ out.length := by rw [← HI.out.n]; exact hkn
                      have hrow := RecRow.cat hv12 HV22.out hkn2 (by have := HVL.out; rw [HM2.out]; omega) HG2.out.2 (by have := HA11.out.2.2; omega) ho12 HT12.out
                      have hrow2 := (hrow.trT ts (fun b e => .inr (e ▸ hsgT))).below hba
                      have hfst := (ts.blk HF12.out (fun e => by omega)).keep hba
                      obtain ⟨k', rfl⟩ : ∃ k', k = k' + 1 := ⟨k - 1, by have := HI.out.fuel; have := HCL.out; omega⟩
                      have htr2 : Tr (fun b => b = p ∨ Blo A b) w w12 := (((HI.out.tr.then_below HB10.out).drew).trans (HT11.out) (fun b hb e => Or.imp id (fun e => (HI.out.new b e).elim id (fun h => by omega)) e)).trans HT12.out (fun b hb e => by have := hAo b e; omega)
                      have hRF : RdI w p d y A D M R ⟨fl, ff, fe⟩ tot ((((w12.setCell ⟨T, 0, none⟩ (.int .i64 ((kl : Int) + 1))).setCell ⟨T, 1, none⟩ (.int .i64 sf)).setCell ⟨T, 2, none⟩ (.int .i64 se)).alloc (.cells #[.int .i64 ((kl : Int) + 1), .int .i64 sf, .int .i64 se] 71)) k' (kk + m2) w12.heap.size (z.folX D ⟨(kl : Int) + 1, sf, se⟩) (out.take kk ++ ls2) ⟨(kl : Int) + 1, sf, se⟩ A11 c11 A12 c12 := by
                        have hlen : (out.take kk ++ ls2).length = kk + m2 := by rw [List.length_append, List.length_take, HM2.out]; omega
                        have hchl : (z.folX D ⟨(kl : Int) + 1, sf, se⟩).chain.length = z.chain.length + 1 := by unfold LG.folX; simp
                        refine ⟨hl13.below hba, hrow2, hlen.symm, hnew, hfst, by omega, ((htr2.trans ts (fun b hb e => by omega)).then_below hba), fun b hb => ?_, fun hb => by have := (HL11.out.row.lt _ hb).2; omega, HI.out.geo, ?_, ?_, ⟨by show ff ≤ sf; omega, hord.2⟩, ⟨s1, s2.2⟩, ?_, ?_⟩
                        · rcases HA11.out.2.1 b hb with h | h
                          · exact HI.out.new b h
                          · exact .inr (by omega)
                        · rw [hchl]; have := HI.out.fuel; omega
                        · rw [hlen]
                          show sf + ((z.folL D ⟨(kl : Int) + 1, sf, se⟩).length : Int) = ff + ((kk + m2 : Nat) : Int)
                          rw [HLS.out, HM2.out]
                          have := HKK.out
                          omega
                        · rw [hlen, hchl, HCL.out]; omega
                        · have h1 := HI.out.tot
                          unfold LG.rdTo at h1
                          rw [if_pos ⟨by rw [HCL.out, HZS.out]; exact q1, q2⟩, HNS.out] at h1
                          have e1 : (sf - ff).toNat = kk := by rw [HKK.out]; simp
                          simp only [e1, HLS.out] at h1
                          exact h1
                      refine ⟨⟨k', _, _, _, _, _, _, _, _, _, rfl, rfl, hRF⟩, ?_⟩
                      rw [chLen_at hRF.lg, chLen_at HI.out.lg]
                      have hchl : (z.folX D ⟨(kl : Int) + 1, sf, se⟩).chain.length = z.chain.length + 1 := by unfold LG.folX; simp
                      rw [hchl, HCL.out]
                      omega
                      done
                · have HTOT : Hid (tot = (z, out)) := Lib.hid (by rw [← HI.out.tot]; exact rdTo_none (HNX.out.trans (if_neg (fun h => r1 h.1))) _)
                  have k1 : (sl == (kl : Int) + 1) = false := by simpa using r1
                  have k1' : (sl != (kl : Int) + 1) = true := by simpa using r1
                  go_wp2_with fail
                  go_quiet (first | (go_at_call 42; exact Calls.quiet_of_same (within_q _ _ _ _)))
                  go_wp2_with fail
                  go_quiet (fail)
                  go_wp2_with fail
                  go_ret2
                  exact HEXIT.out _ (bl_chain (bl_chain HB9.out (bl_drewN _ _)) (bl_drewN _ _)) HTOT.out
            · have HTOT : Hid (tot = (z, out)) := Lib.hid (by rw [← HI.out.tot]; exact rdTo_stop (fun h => q2 h.2) _)
              have b2 : decide (ll < 1152921504606846976) = false := decide_eq_false q2
              go_wp2_with fail
              go_quiet (fail)
              go_wp2_with fail
              go_quiet (fail)
              go_wp2_with fail
              go_ret2
              exact HEXIT.out _ (bl_chain (bl_drewN _ _) (bl_drewN _ _)) HTOT.out
          · have HTOT : Hid (tot = (z, out)) := Lib.hid (by rw [← HI.out.tot]; exact rdTo_stop (fun h => q1 (by rw [← HCL.out, ← HZS.out]; exact h.1)) _)
            have b1 : decide (cl < i) = false := decide_eq_false q1
            go_wp2_with fail
            go_quiet (fail)
            go_wp2_with fail
            go_quiet (fail)
            go_wp2_with fail
            go_ret2
            exact HEXIT.out _ (bl_chain (bl_drewN _ _) (bl_drewN _ _)) HTOT.out
end
end Go.Proofs.Ytceajiliahmkaaa
