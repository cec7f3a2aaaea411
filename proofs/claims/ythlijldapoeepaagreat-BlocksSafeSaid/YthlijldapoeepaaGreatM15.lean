/- Layer 6: rows: those that changes touch are written, and then the journal is done. -/
import Derived.Test.YthlijldapoeepaaGreatM14
import Derived.Test.YthlijldapoeepaaGreatM5
namespace Go.Proofs.YthlijldapoeepaaGreat
set_option linter.unusedVariables false
set_option linter.unusedSimpArgs false
set_option maxRecDepth 100000
open Go.RowKit Go.Shelf

attribute [local go_sem] Oper.semAt_some

def rowsE (D : Dk.DS) (F : Nat) (x : ST) (L : List (List Int)) (ks : List Nat) : Int :=
  if Dk.flushE (rowsD D F x.area.toNat L ks) = 0 then markE (Dk.flushD (rowsD D F x.area.toNat L ks)) F (x.next x.n x.area 0) else Dk.flushE (rowsD D F x.area.toNat L ks)
def rowsF (D : Dk.DS) (F : Nat) (x : ST) (L : List (List Int)) (ks : List Nat) : Dk.DS :=
  if Dk.flushE (rowsD D F x.area.toNat L ks) = 0 then markD (Dk.flushD (rowsD D F x.area.toNat L ks)) F (x.next x.n x.area 0) else Dk.flushD (rowsD D F x.area.toNat L ks)
def RetRows (w : World) (s d g F : Nat) (x : ST) (dead : Bool) (D : Dk.DS) (Md Rr : Nat → Prop) (L : List (List Int)) (Mi : Nat → Prop) (ks : List Nat) (e : Ending) (w' : World) : Prop :=
  ∃ Md' Rr', e = .returned (.int .i64 (rowsE D F x L ks)) ∧ StAt w' s d g F (if rowsE D F x L ks = 0 then x.next x.n x.area 0 else x) dead (rowsF D F x L ks) Md' Rr' L Mi ∧ (∀ b, Md' b → Md b ∨ w.heap.size ≤ b) ∧ (∀ b, Rr' b → Rr b ∨ w.heap.size ≤ b) ∧ Tr (fun b => Md b ∨ b = s) w w'
theorem row_write {w : World} {d : Nat} {D : Dk.DS} {M R : Nat → Prop} (hd : Dk.IsDisk w d D M R) {A : Option Addr} {c : Nat} {l : List Int} (hr : Rd w A (by8 l)) (hl : l.length = 195) (hB : isB l) (hfew : D.gs.length < 1000000) (a : Nat) (ha : a ≤ 1000000) (h0 : Dk.writeE D a l = 0) :
    Calls Tryz.prog 50 #[.pointer (some ⟨d, 0, none⟩), .int .i64 (a : Int), .slice A 195 c] w (Dk.RetW w d M R (Dk.writeD D a l) 0) := by
  have h := Dk.write_any A c l a hd hr hB (by omega) hfew (by omega)
  rw [hl, h0] at h
  exact h
theorem IsSt.keep {w w' : World} {s d g F : Nat} {x : ST} {dead : Bool} (h : IsSt w s d g F x dead) (hb : Below w.heap.size w w') : IsSt w' s d g F x dead := Blk.keep h hb
theorem place_at {w : World} {s d g F : Nat} {x : ST} {dead : Bool} {L : List (List Int)} {M : Nat → Prop} (hs : IsSt w s d g F x dead) (hi : Img w g L M) (a : Nat) (ha : a ≤ 1) (k : Nat) (hk : k ≤ 100) (hF : F ≤ 100000) (z : Nat) (hz : rowAt F L.length a k = z) :
    Calls Tryz.prog 60 #[.pointer (some ⟨s, 0, none⟩), .int .i64 a, .int .i64 k] w fun e w' => e = .returned (.int .i64 (z : Int)) ∧ Below w.heap.size w w' := by
  subst hz
  exact place_any hs hi a ha k hk hF
theorem tr_drew0 {F : Nat → Prop} (w : World) : Tr F w w.drew := (Tr.refl F w).drew
theorem StAt.drewW {w : World} {s d g F : Nat} {x : ST} {dead : Bool} {D : Dk.DS} {Md Rr : Nat → Prop} {L : List (List Int)} {Mi : Nat → Prop} (h : StAt w s d g F x dead D Md Rr L Mi) : StAt w.drew s d g F x dead D Md Rr L Mi :=
  ⟨h.blk, h.dsk.below (bl_drew w), h.img.below (bl_drew w), h.sd, h.sr, h.si, h.di⟩
theorem next_pos {x : ST} (h : x.pos) {G : Nat} (hG : x.gen = (G : Int)) (hG2 : G < 1000000) : (x.next x.n x.area 0).pos := ⟨⟨by simp only [ST.next]; omega, by simp only [ST.next]; omega⟩, h.2.1, h.2.2.1, by simp [ST.next]⟩
def NoPanic (Q : Exit → Act → World → Prop) : Exit → Act → World → Prop
  | .panic _, _, _ => False
  | e, a, w => Q e a w
theorem noPanic_normal {Q : Exit → Act → World → Prop} {a : Act} {w : World} (h : Q .normal a w) : NoPanic Q .normal a w := h
theorem held_startN {P : Program} {ops : Array Oper} {Q : Exit → Act → World → Prop} {S : World → Prop} {id : Nat} {a : Act} {w : World} (hm : P.follows .mixedOrders = true)
    (h : wpAnyH P .any ops (NoPanic Q) S ops.size (Array.replicate ops.size false) a w.drew) : (Code.region id ops true).wp P Q a w :=
  Code.wp_mono (fun e a w h => by cases e <;> first | exact h | exact h.elim) (wp_region_held hm h)
/-- The rows written so far in a range. -/
def rowsP (D : Dk.DS) (F a : Nat) (L : List (List Int)) (ks : List Nat) (len : Nat) (pre : List Nat) : Dk.DS := rowsD D F a L (pre.map (fun x => ks[idx len x]?.getD 0))
theorem rowsP_all (D : Dk.DS) (F a : Nat) (L : List (List Int)) (ks : List Nat) : rowsP D F a L ks ks.length (List.range ks.length) = rowsD D F a L ks := by
  unfold rowsP
  congr 1
  apply List.ext_getElem
  · simp
  · intro i h1 h2
    simp only [List.getElem_map, List.getElem_range]
    rw [idx_of h2, List.getElem?_eq_getElem h2]
    rfl
structure RI (w w2 W : World) (s d g F : Nat) (x : ST) (dead : Bool) (D : Dk.DS) (Md Rr : Nat → Prop) : Prop where
  dsk : ∃ M R, TDisk W d D M R ∧ (∀ b, M b → Md b ∨ w2.heap.size ≤ b) ∧ (∀ b, R b → Rr b ∨ w2.heap.size ≤ b)
  blk : IsSt W s d g F x dead
  bx : Blk W w.heap.size 29 #[.pointer (some ⟨s, 0, none⟩)]
  er : Blk W (w.heap.size + 1) 26 #[.int .i64 0]
  tr : Tr Md w W
  sz : w2.heap.size ≤ W.heap.size
theorem RI.turn {w w2 W W' : World} {s d g F : Nat} {x : ST} {dead : Bool} {D : Dk.DS} {Md Rr : Nat → Prop} (h : RI w w2 W s d g F x dead D Md Rr) (hw : w.heap.size ≤ w2.heap.size) {row : Option Nat}
    (hg : W.grownBy W' row) (hr : ∀ r, row = some r → w2.heap.size ≤ r ∧ ∃ o : Obj, W.heap[r]? = some o ∧ o.isCells = false) : RI w w2 W' s d g F x dead D Md Rr := by
  have t := turn_of hg hr
  obtain ⟨M, R, h1, h2, h3⟩ := h.dsk
  exact ⟨⟨M, R, h1.turn t, h2, h3⟩, h.blk.turn t, h.bx.turn t, h.er.turn t, h.tr.trans (Tr.of_grown (F := fun q => w2.heap.size ≤ q) hg (fun q e _ => (hr q e).1)) (fun q hq hq2 => absurd hq (by omega)), Nat.le_trans h.sz hg.size⟩
theorem rows_box {w1 w2 : World} {ks : List Nat} {A : Option Addr} {c bx : Nat} (h : RowsAt w1 w2 bx ks A c) : ∃ rb, (iz ks ≠ [] → A = some ⟨rb, 0, none⟩) ∧ rb < w2.heap.size ∧ w1.heap.size ≤ rb := by
  cases ks with
  | nil => exact ⟨bx, fun h => absurd rfl h, h.box.lt, h.new⟩
  | cons k ks =>
    obtain ⟨A', c', e, _, h0, _⟩ := ownsRow_slice h.row
    rcases h0 with h0 | ⟨g, hg⟩
    · simp at h0
    · injection e with e
      subst e
      exact ⟨g, fun _ => hg, own_lt h.row g (by rw [hg]; rfl), own_ge h.row g (by rw [hg]; rfl)⟩
section
variable {w : World} {s d g F : Nat} {x : ST} {dead : Bool} {L : List (List Int)} {Mi Md Rr : Nat → Prop} {D : Dk.DS}
theorem rows_fin (h : StAt w s d g F x dead D Md Rr L Mi) {w5 : World} {x' : ST} {D' : Dk.DS} {M5 R5 : Nat → Prop} {D7 : Nat} (v : Value) (hb : IsSt w5 s d g F x' dead) (hd : Dk.IsDisk w5 d D' M5 R5) (hm : ∀ b, M5 b → Md b ∨ w.heap.size ≤ b) (hr : ∀ b, R5 b → Rr b ∨ w.heap.size ≤ b)
    (ht : Tr (fun b => Md b ∨ b = s) w w5) (hk : w5.heap[D7]? = some (.deferred (some []))) (h7 : w.heap.size ≤ D7) (hn : ∀ b, b = w.heap.size + 1 ∨ b = D7 → ¬ M5 b ∧ ¬ R5 b) :
    StAt ((w5.setCell ⟨w.heap.size + 1, 0, none⟩ v).putObj D7 (.deferred none)) s d g F x' dead D' M5 R5 L Mi ∧ Tr (fun b => Md b ∨ b = s) w ((w5.setCell ⟨w.heap.size + 1, 0, none⟩ v).putObj D7 (.deferred none)) := by
  have hs := h.blk.lt
  have t6 : Tr (fun b => b = w.heap.size + 1 ∨ b = D7) w5 ((w5.setCell ⟨w.heap.size + 1, 0, none⟩ v).putObj D7 (.deferred none)) :=
    ((Tr.refl (fun b => b = w.heap.size + 1 ∨ b = D7) w5).setCell (p := ⟨w.heap.size + 1, 0, none⟩) (fun _ => .inl rfl) v).trans (Tr.of_grown (F := fun b => b = D7) (grownBy_putObj' _ D7 (.deferred none)) (fun b e _ => by injection e with e; exact e.symm)) (fun b _ h => .inr h)
  have t7 : Tr (fun b => Md b ∨ b = s) w ((w5.setCell ⟨w.heap.size + 1, 0, none⟩ v).putObj D7 (.deferred none)) := ht.trans t6 (fun b hb h => by omega)
  exact ⟨h.after (t6.blk hb (fun h => by omega)) (hd.tr t6 (fun b hb h => (hn b h).1 hb) (fun b hb h => (hn b h).2 hb)) t7 hm hr, t7⟩
set_option maxHeartbeats 6400000 in
theorem srows_any (h : StAt w s d g F x dead D Md Rr L Mi) (A : Option Addr) (c : Nat) (l : List ChS) (hl : ChsAt w A l) (h64 : l.length ≤ 64) (hin : ∀ y ∈ l, 0 ≤ y.lba ∧ y.lba < L.length) (a : Nat) (ha : x.area = (a : Int)) (ha1 : a ≤ 1)
    (hD : D.dead = false) (hn : F + 19 + 2 * rowsN L.length ≤ D.n) (hfew : D.gs.length < 900000) (G : Nat) (hG : x.gen = (G : Int)) (hG2 : G < 1000000) (hx : x.pos) (hF : F ≤ 100000) :
    Calls Tryz.prog 33 #[.pointer (some ⟨s, 0, none⟩), .slice A l.length c] w (RetRows w s d g F x dead D Md Rr L Mi (rowsT l)) := by
  have HH := Lib.hid h
  have h256 := h.img.ok.hi
  have hin2 : ∀ y ∈ l, 0 ≤ y.lba ∧ y.lba < 256 := fun y hy => ⟨(hin y hy).1, by have := (hin y hy).2; omega⟩
  have hkN : ∀ k ∈ rowsT l, k < rowsN L.length := fun k hk => by
    obtain ⟨_, y, hy, e⟩ := rowsT_mem.1 hk
    have := hin y hy
    unfold rowsN
    omega
  obtain ⟨ks, hks⟩ : ∃ ks, rowsT l = ks := ⟨_, rfl⟩
  have HAL := Lib.hid (rowsT_length l)
  rw [hks] at hkN HAL ⊢
  have HKN := Lib.hid hkN
  have HL := Lib.hid hl
  have HI2 := Lib.hid hin2
  have hs := h.blk.lt
  have HOK := Lib.hid h.img.ok
  have HR86 : rowsN L.length ≤ 86 := by unfold rowsN; omega
  obtain ⟨M0, R0, hT0, hM0, hR0⟩ := IsDisk.tight h.dsk
  have HT0 := Lib.hid hT0
  have HM0 := Lib.hid hM0
  have HR0 := Lib.hid hR0
  have HDD := Lib.hid hD
  have HNN := Lib.hid hn
  have HFW := Lib.hid hfew
  have HX := Lib.hid hx
  have HAE := Lib.hid ha
  clear ha h hin hin2 hkN hl hT0 hM0 hR0 hD hfew hx
  refine (callsIn_wide (n := 10)).1 (callsIn_of_wp_marks Tryz.func33 rfl trivial ?_ rfl)
  refine wpIn_wide.2 ?_
  simp only [Tryz.ntmps33, List.size_toArray, List.length_cons, List.length_nil, Nat.reduceAdd, Nat.reduceSub, Array.replicate_succ, Array.replicate_zero, List.push_toArray, List.append_toArray, List.nil_append, List.cons_append]
  go_wp2_with (first
    | (go_at_call 64; (with_reducible refine (changed_any A c l _ (HL.out.below (bl_chain (bl_alloc w _) (bl_alloc _ _))) h64 HI2.out).mono ?_); rintro e w2 ⟨A2, c2, bx, rfl, hrow, hb⟩; rw [hks] at hrow; have HRW := Lib.hid hrow; have B2 := Lib.hid (bl_chain (bl_chain (bl_alloc w _) (bl_alloc _ _)) hb); have HBX := Lib.hid (((Blk.new w 29 #[.pointer (some ⟨s, 0, none⟩)]).alloc (.cells #[.int .i64 0] 26)).keep hb); have HER := Lib.hid ((Blk.new (w.alloc (.cells #[.pointer (some ⟨s, 0, none⟩)] 29)) 26 #[.int .i64 0]).keep hb); clear hrow hb))
  simp only [World.size_alloc] at HER
  obtain ⟨rb, hrA, hrb, hrb2⟩ := rows_box HRW.out
  have hnew := HRW.out.new
  have hbxl := HRW.out.box.lt
  simp only [World.size_alloc] at hrb2 hnew
  have HRA := Lib.hid hrA
  obtain ⟨len, hlen⟩ : ∃ len, ks.length = len := ⟨_, rfl⟩
  have HRB := Lib.hid HRW.out.box
  have HRR := Lib.hid (Rd.of_own HRW.out.row)
  obtain ⟨_, _, hsl, hlc, _, hcm⟩ := ownsRow_slice HRW.out.row
  injection hsl with _ _ hcc
  subst hcc
  rw [hlen] at HRB hlc
  have HLEN := Lib.hid hlen
  clear hrA
  have hl86 : len ≤ 86 := by rw [← hlen]; exact HAL.out
  clear hlen
  have hidx : ∀ y, 0 < len → ∃ k, ks[idx len y]?.getD 0 = k ∧ k < rowsN L.length := fun y h0 => by
    have h1 : idx len y < ks.length := by rw [HLEN.out]; exact idx_lt h0
    exact ⟨_, rfl, HKN.out _ (by rw [List.getElem?_eq_getElem h1]; exact List.getElem_mem h1)⟩
  have HIDX := Lib.hid hidx
  clear hidx
  refine range_ownK1 (Kp := Two bx rb) (v := fun y => .int .i64 ((ks[idx len y]?.getD 0 : Nat) : Int)) (gf := 96) (lb := #[.pointer (some ⟨bx, 0, none⟩)]) rfl (enters_of Tryz.func96 (by kernel_rfl) rfl)
    (values_stops bx rb len c2 A2 ks HLEN.out HRA.out hlc (by omega) w2 HRB.out HRR.out) two_t (two_b hbxl hrb)
    (fun pre W => RI w w2 W s d g F x dead (rowsP D F a L ks len pre) Md Rr)
    (fun pre X Y row hI hg hr => hI.turn (by omega) hg hr)
    ⟨⟨M0, R0, HT0.out.turn (Tr.of_below B2.out), fun b hb => .inl (HM0.out b hb), fun b hb => .inl (HR0.out b hb)⟩, HH.out.blk.keep B2.out, HBX.out, HER.out, Tr.of_below B2.out, Nat.le_refl _⟩
    (fun T y => (T.setIfInBounds 10 (.int .i64 ((ks[idx len y]?.getD 0 : Nat) : Int))).setIfInBounds 5 (.int .i64 ((ks[idx len y]?.getD 0 : Nat) : Int))) ?assign ?body ?done
  case assign =>
    intro lp y W K hK
    simp only [List.setIfInBounds_toArray, List.set_cons_zero, List.set_cons_succ] at hK ⊢
    gi_wp2
    exact hK
  case body =>
    rintro lr pre y W hI hN
    obtain ⟨k, hk, hkr⟩ := HIDX.out y (by omega)
    rw [hk]
    have HPN := Lib.hid (show rowsP D F a L ks len (pre ++ [y]) = Dk.writeD (rowsP D F a L ks len pre) (rowAt F L.length a k : Nat) (rowL L k) by
      unfold rowsP
      rw [List.map_append, List.map_singleton, rowsD_snoc, hk])
    obtain ⟨q1, q2, q3, q4, q5⟩ := rowsD_keeps D F a L (pre.map (fun x => ks[idx len x]?.getD 0))
    rw [List.length_map] at q5
    have HQ0 := Lib.hid (show Dk.writeE (rowsP D F a L ks len pre) (rowAt F L.length a k : Nat) (rowL L k) = 0 from writeE_row HOK.out (q2.trans HDD.out) ha1 hkr (by rw [q1]; exact HNN.out))
    have HQ5 := Lib.hid (show (rowsP D F a L ks len pre).gs.length < 1000000 from by have := HFW.out; show (rowsD D F a L _).gs.length < 1000000; omega)
    clear hk q1 q2 q3 q4 q5
    generalize rowsP D F a L ks len pre = D1 at hI HPN HQ0 HQ5
    obtain ⟨M, R, hT, hM, hR⟩ := hI.dsk
    have HI := Lib.hid hI
    have HT := Lib.hid hT
    have HM := Lib.hid hM
    have HR := Lib.hid hR
    have HIM := Lib.hid (HH.out.img.tr hI.tr (fun b hb => (HH.out.di b hb).1))
    have hat : rowAt F L.length a k ≤ 1000000 := by
      unfold rowAt
      rcases (by omega : a = 0 ∨ a = 1) with rfl | rfl <;> omega
    obtain ⟨z, hz⟩ : ∃ z, rowAt F L.length a k = z := ⟨_, rfl⟩
    rw [hz] at HPN HQ0 hat
    have HZ := Lib.hid hz
    clear hz
    have c0 := hI.blk.cell 0
    have c2 := hI.blk.cell 2
    have c5 := hI.blk.cell 5
    have b0 := hI.bx.cell 0
    simp [stCells] at c0 c2 c5 b0
    rw [HAE.out] at c5
    have HSS : Hid (W.drew.cell? ⟨w.heap.size, 0, none⟩ = some (.pointer (some ⟨s, 0, none⟩)) ∧ W.drew.cell? ⟨s, 0, none⟩ = some (.pointer (some ⟨d, 0, none⟩)) ∧ W.drew.cell? ⟨s, 2, none⟩ = some (.pointer (some ⟨g, 0, none⟩)) ∧ W.drew.cell? ⟨s, 5, none⟩ = some (.int .i64 (a : Int))) := Lib.hid ⟨b0, c0, c2, c5⟩
    clear hI hT hM hR c0 c2 c5 b0
    simp only [List.setIfInBounds_toArray, List.set_cons_zero, List.set_cons_succ]
    gi_wp2
    refine in_ext_start (S := fun W => W.cell? ⟨w.heap.size, 0, none⟩ = some (.pointer (some ⟨s, 0, none⟩)) ∧ W.cell? ⟨s, 0, none⟩ = some (.pointer (some ⟨d, 0, none⟩)) ∧ W.cell? ⟨s, 2, none⟩ = some (.pointer (some ⟨g, 0, none⟩)) ∧ W.cell? ⟨s, 5, none⟩ = some (.int .i64 (a : Int))) (by kernel_rfl) (by decide) (by rintro ⟨a, w, h⟩; exact h) ?_
    refine held_take (HSS.out) (i := 0) (v := ?_) rfl (by kernel_rfl) (by kernel_rfl) (by kernel_rfl) (fun _ _ _ h => h) (Or.inl ⟨by rfl, ?_⟩) ?_
    rotate_left
    · (intro W hSw; obtain ⟨s1, s2, s3, s4⟩ := hSw; go_simp; try with_reducible rfl)
    try simp only [Act.put, List.setIfInBounds_toArray, List.set_cons_zero, List.set_cons_succ]
    refine held_take (HSS.out) (i := 1) (v := ?_) rfl (by kernel_rfl) (by kernel_rfl) (by kernel_rfl) (fun _ _ _ h => h) (Or.inl ⟨by rfl, ?_⟩) ?_
    rotate_left
    · (intro W hSw; obtain ⟨s1, s2, s3, s4⟩ := hSw; go_simp; try with_reducible rfl)
    try simp only [Act.put, List.setIfInBounds_toArray, List.set_cons_zero, List.set_cons_succ]
    refine held_take (HSS.out) (i := 2) (v := ?_) rfl (by kernel_rfl) (by kernel_rfl) (by kernel_rfl) (fun _ _ _ h => h) (Or.inl ⟨by rfl, ?_⟩) ?_
    rotate_left
    · (intro W hSw; obtain ⟨s1, s2, s3, s4⟩ := hSw; go_simp; try with_reducible rfl)
    try simp only [Act.put, List.setIfInBounds_toArray, List.set_cons_zero, List.set_cons_succ]
    refine held_take (HSS.out) (i := 3) (v := ?_) rfl (by kernel_rfl) (by kernel_rfl) (by kernel_rfl) (fun _ _ _ h => h) (Or.inl ⟨by rfl, ?_⟩) ?_
    rotate_left
    · (intro W hSw; obtain ⟨s1, s2, s3, s4⟩ := hSw; go_simp; try with_reducible rfl)
    try simp only [Act.put, List.setIfInBounds_toArray, List.set_cons_zero, List.set_cons_succ]
    refine held_take (HSS.out) (i := 4) (v := ?_) rfl (by kernel_rfl) (by kernel_rfl) (by kernel_rfl) (fun _ _ _ h => h) (Or.inl ⟨by rfl, ?_⟩) ?_
    rotate_left
    · (intro W hSw; obtain ⟨s1, s2, s3, s4⟩ := hSw; go_simp; try with_reducible rfl)
    try simp only [Act.put, List.setIfInBounds_toArray, List.set_cons_zero, List.set_cons_succ]
    refine held_take (HSS.out) (i := 5) (v := ?_) rfl (by kernel_rfl) (by kernel_rfl) (by kernel_rfl) (fun _ _ _ h => h) (Or.inl ⟨by rfl, ?_⟩) ?_
    rotate_left
    · (intro W hSw; obtain ⟨s1, s2, s3, s4⟩ := hSw; go_simp; try with_reducible rfl)
    try simp only [Act.put, List.setIfInBounds_toArray, List.set_cons_zero, List.set_cons_succ]
    refine held_take (HSS.out) (i := 6) (v := ?_) rfl (by kernel_rfl) (by kernel_rfl) (by kernel_rfl) (fun _ _ _ h => h) (Or.inl ⟨by rfl, ?_⟩) ?_
    rotate_left
    · (intro W hSw; obtain ⟨s1, s2, s3, s4⟩ := hSw; go_simp; try with_reducible rfl)
    try simp only [Act.put, List.setIfInBounds_toArray, List.set_cons_zero, List.set_cons_succ]
    refine held_take (HSS.out) (i := 7) (v := ?_) rfl (by kernel_rfl) (by kernel_rfl) (by kernel_rfl) (fun _ _ _ h => h) (Or.inl ⟨by rfl, ?_⟩) ?_
    rotate_left
    · (intro W hSw; obtain ⟨s1, s2, s3, s4⟩ := hSw; go_simp; try with_reducible rfl)
    try simp only [Act.put, List.setIfInBounds_toArray, List.set_cons_zero, List.set_cons_succ]
    refine held_take (HSS.out) (i := 8) (v := ?_) rfl (by kernel_rfl) (by kernel_rfl) (by kernel_rfl) (fun _ _ _ h => h) (Or.inl ⟨by rfl, ?_⟩) ?_
    rotate_left
    · (intro W hSw; obtain ⟨s1, s2, s3, s4⟩ := hSw; go_simp; try with_reducible rfl)
    try simp only [Act.put, List.setIfInBounds_toArray, List.set_cons_zero, List.set_cons_succ]
    refine held_take (HSS.out) (i := 9) (v := ?_) rfl (by kernel_rfl) (by kernel_rfl) (by kernel_rfl) (fun _ _ _ h => h) (Or.inl ⟨by rfl, ?_⟩) ?_
    rotate_left
    · (intro W hSw; obtain ⟨s1, s2, s3, s4⟩ := hSw; go_simp; try with_reducible rfl)
    try simp only [Act.put, List.setIfInBounds_toArray, List.set_cons_zero, List.set_cons_succ]
    refine held_take (HSS.out) (i := 10) (v := ?_) rfl (by kernel_rfl) (by kernel_rfl) (by kernel_rfl) (fun _ _ _ h => h) (Or.inl ⟨by rfl, ?_⟩) ?_
    rotate_left
    · (intro W hSw; obtain ⟨s1, s2, s3, s4⟩ := hSw; go_simp; try with_reducible rfl)
    try simp only [Act.put, List.setIfInBounds_toArray, List.set_cons_zero, List.set_cons_succ]
    refine held_take (HSS.out) (i := 12) (v := ?_) rfl (by kernel_rfl) (by kernel_rfl) (by kernel_rfl) (fun _ _ _ h => h) (Or.inl ⟨by rfl, ?_⟩) ?_
    rotate_left
    · (intro W hSw; obtain ⟨s1, s2, s3, s4⟩ := hSw; go_simp; try with_reducible rfl)
    try simp only [Act.put, List.setIfInBounds_toArray, List.set_cons_zero, List.set_cons_succ]
    refine held_take (HSS.out) (i := 13) (v := ?_) rfl (by kernel_rfl) (by kernel_rfl) (by kernel_rfl) (fun _ _ _ h => h) (Or.inl ⟨by rfl, ?_⟩) ?_
    rotate_left
    · (intro W hSw; obtain ⟨s1, s2, s3, s4⟩ := hSw; go_simp; try with_reducible rfl)
    try simp only [Act.put, List.setIfInBounds_toArray, List.set_cons_zero, List.set_cons_succ]
    refine held_take (HSS.out) (i := 14) (v := ?_) rfl (by kernel_rfl) (by kernel_rfl) (by kernel_rfl) (fun _ _ _ h => h) (Or.inl ⟨by rfl, ?_⟩) ?_
    rotate_left
    · (intro W hSw; obtain ⟨s1, s2, s3, s4⟩ := hSw; go_simp; try with_reducible rfl)
    try simp only [Act.put, List.setIfInBounds_toArray, List.set_cons_zero, List.set_cons_succ]
    refine held_take (HSS.out) (i := 15) (v := ?_) rfl (by kernel_rfl) (by kernel_rfl) (by kernel_rfl) (fun _ _ _ h => h) (Or.inl ⟨by rfl, ?_⟩) ?_
    rotate_left
    · (intro W hSw; obtain ⟨s1, s2, s3, s4⟩ := hSw; go_simp; try with_reducible rfl)
    try simp only [Act.put, List.setIfInBounds_toArray, List.set_cons_zero, List.set_cons_succ]
    refine held_take (HSS.out) (i := 16) (v := ?_) rfl (by kernel_rfl) (by kernel_rfl) (by kernel_rfl) (fun _ _ _ h => h) (Or.inl ⟨by rfl, ?_⟩) ?_
    rotate_left
    · (intro W hSw; obtain ⟨s1, s2, s3, s4⟩ := hSw; go_simp; try with_reducible rfl)
    try simp only [Act.put, List.setIfInBounds_toArray, List.set_cons_zero, List.set_cons_succ]
    refine held_take (HSS.out) (i := 17) (v := ?_) rfl (by kernel_rfl) (by kernel_rfl) (by kernel_rfl) (fun _ _ _ h => h) (Or.inl ⟨by rfl, ?_⟩) ?_
    rotate_left
    · (intro W hSw; obtain ⟨s1, s2, s3, s4⟩ := hSw; go_simp; try with_reducible rfl)
    try simp only [Act.put, List.setIfInBounds_toArray, List.set_cons_zero, List.set_cons_succ]
    refine held_call (i := 11) (by kernel_rfl) rfl (fun K hK => ?_)
    go_simp
    (go_at_call 60; (with_reducible refine (place_at (w := W.drew) (HI.out.blk.keep (bl_drew W)) (HIM.out.below (bl_drew W)) a ha1 k (by omega) hF z HZ.out).mono ?_); rintro e w3 ⟨rfl, hb3⟩; have B3 := Lib.hid (bl_chain (bl_drew W) hb3); have HS3 := Lib.hid (show w3.cell? ⟨w.heap.size, 0, none⟩ = some (.pointer (some ⟨s, 0, none⟩)) ∧ w3.cell? ⟨s, 0, none⟩ = some (.pointer (some ⟨d, 0, none⟩)) ∧ w3.cell? ⟨s, 2, none⟩ = some (.pointer (some ⟨g, 0, none⟩)) ∧ w3.cell? ⟨s, 5, none⟩ = some (.int .i64 (a : Int)) from ⟨(hb3.cell (cell_block_lt HSS.out.1)).trans HSS.out.1, (hb3.cell (cell_block_lt HSS.out.2.1)).trans HSS.out.2.1, (hb3.cell (cell_block_lt HSS.out.2.2.1)).trans HSS.out.2.2.1, (hb3.cell (cell_block_lt HSS.out.2.2.2)).trans HSS.out.2.2.2⟩); clear hb3)
    refine hK.out _ _ (HS3.out) ?_
    clear hK K
    try simp only [Act.put, List.setIfInBounds_toArray, List.set_cons_zero, List.set_cons_succ]
    refine held_call (i := 18) (by kernel_rfl) rfl (fun K hK => ?_)
    go_simp
    (go_at_call 65; (with_reducible refine (row_any _ (HIM.out.below B3.out) k (by omega)).mono ?_); rintro e w4 ⟨A4, c4, rfl, hc4, ho4, hb4⟩; have HO4 := Lib.hid ho4; have B4 := Lib.hid (bl_chain B3.out hb4); have HS4 := Lib.hid (show w4.cell? ⟨w.heap.size, 0, none⟩ = some (.pointer (some ⟨s, 0, none⟩)) ∧ w4.cell? ⟨s, 0, none⟩ = some (.pointer (some ⟨d, 0, none⟩)) ∧ w4.cell? ⟨s, 2, none⟩ = some (.pointer (some ⟨g, 0, none⟩)) ∧ w4.cell? ⟨s, 5, none⟩ = some (.int .i64 (a : Int)) from ⟨(hb4.cell (cell_block_lt HS3.out.1)).trans HS3.out.1, (hb4.cell (cell_block_lt HS3.out.2.1)).trans HS3.out.2.1, (hb4.cell (cell_block_lt HS3.out.2.2.1)).trans HS3.out.2.2.1, (hb4.cell (cell_block_lt HS3.out.2.2.2)).trans HS3.out.2.2.2⟩); clear ho4 hb4)
    refine hK.out _ _ (HS4.out) ?_
    clear hK K
    try simp only [Act.put, List.setIfInBounds_toArray, List.set_cons_zero, List.set_cons_succ]
    refine held_call (i := 19) (by kernel_rfl) rfl (fun K hK => ?_)
    go_simp
    (have HWR := row_write (c := c4) (HT.out.dsk.below B4.out) (Rd.of_own HO4.out) (rowL_length HOK.out k) (rowL_isB HOK.out k) HQ5.out _ hat HQ0.out; go_at_call 50; (with_reducible refine HWR.mono ?_); rintro e w5 ⟨rfl, M5, R5, hd5, hm5, hr5, ht5⟩; have hms : ¬ M s := (fun h => (HM.out s h).elim HH.out.sd (fun h => by omega)); have hmb : ¬ M w.heap.size := (fun h => (HM.out _ h).elim (fun h => by have := HH.out.dsk.mlt _ h; omega) (fun h => by omega)); have HS5 := Lib.hid (show w5.cell? ⟨w.heap.size, 0, none⟩ = some (.pointer (some ⟨s, 0, none⟩)) ∧ w5.cell? ⟨s, 0, none⟩ = some (.pointer (some ⟨d, 0, none⟩)) ∧ w5.cell? ⟨s, 2, none⟩ = some (.pointer (some ⟨g, 0, none⟩)) ∧ w5.cell? ⟨s, 5, none⟩ = some (.int .i64 (a : Int)) from ⟨(ht5.cell (cell_block_lt HS4.out.1) hmb).trans HS4.out.1, (ht5.cell (cell_block_lt HS4.out.2.1) hms).trans HS4.out.2.1, (ht5.cell (cell_block_lt HS4.out.2.2.1) hms).trans HS4.out.2.2.1, (ht5.cell (cell_block_lt HS4.out.2.2.2) hms).trans HS4.out.2.2.2⟩); have HD5 := Lib.hid hd5; have HM5 := Lib.hid hm5; have HR5 := Lib.hid hr5; have HT5 := Lib.hid ht5; clear hd5 hm5 hr5 ht5 HWR)
    refine hK.out _ _ (HS5.out) ?_
    clear hK K
    try simp only [Act.put, List.setIfInBounds_toArray, List.set_cons_zero, List.set_cons_succ]
    refine held_take (HS5.out) (i := 20) (v := ?_) rfl (by kernel_rfl) (by kernel_rfl) (by kernel_rfl) (fun _ _ _ h => h) (Or.inl ⟨by rfl, ?_⟩) ?_
    rotate_left
    · (intro W hSw; obtain ⟨s1, s2, s3, s4⟩ := hSw; go_simp; try with_reducible rfl)
    try simp only [Act.put, List.setIfInBounds_toArray, List.set_cons_zero, List.set_cons_succ]
    refine wpAnyH_done (by kernel_rfl) ?_ _
    gi_wp2
    obtain ⟨M6, R6, hT6, hM6, hR6⟩ := IsDisk.tight HD5.out
    have t5 : Tr M W w5 := (Tr.of_below B4.out).trans HT5.out (fun b _ h => h)
    have hz4 := B4.out.size
    have hsz := HI.out.sz
    have hkeep := HT.out.keeps t5
    have hn1 : ∀ b, w.heap.size ≤ b → b < w2.heap.size → ¬ M b := fun b h1 h2 hm => (HM.out b hm).elim (fun h => by have := HH.out.dsk.mlt _ h; omega) (fun h => by omega)
    have hk1 : ∀ b, w.heap.size ≤ b → b < w2.heap.size → w5.heap[b]? = W.heap[b]? := fun b h1 h2 => t5.block b (by omega) (hn1 b h1 h2)
    refine ⟨hkeep, ⟨hk1 _ (by omega) hbxl, hk1 _ (by omega) hrb⟩, ?_⟩
    show RI w w2 w5 s d g F x dead (rowsP D F a L ks len (pre ++ [y])) Md Rr
    rw [HPN.out]
    refine ⟨⟨M6, R6, hT6, fun b hb => ?_, fun b hb => ?_⟩, t5.blk HI.out.blk hms, t5.blk HI.out.bx hmb, t5.blk HI.out.er (hn1 _ (by omega) (by omega)), HI.out.tr.trans t5 (fun b hb h => (HM.out b h).resolve_right (by omega)), ?_⟩
    · rcases HM5.out b (hM6 b hb) with h | h
      · exact HM.out b h
      · exact .inr (by omega)
    · rcases HR5.out b (hR6 b hb) with h | h
      · exact HR.out b h
      · exact .inr (by omega)
    · have := t5.size
      omega
  case done =>
    rintro D7 xs W7 hD7 rfl hI hK
    rw [← HLEN.out, rowsP_all] at hI
    have HI := Lib.hid hI
    have HK := Lib.hid hK
    obtain ⟨M, R, hT, hM, hR⟩ := hI.dsk
    have HT := Lib.hid hT
    have HM := Lib.hid hM
    have HR := Lib.hid hR
    have b0 := hI.bx.cell 0
    have c0 := hI.blk.cell 0
    simp [stCells] at c0 b0
    clear hI hK hT hM hR
    have hat : x.area.toNat = a := by rw [HAE.out]; rfl
    have HRE : Hid (rowsE D F x L ks = if Dk.flushE (rowsD D F a L ks) = 0 then markE (Dk.flushD (rowsD D F a L ks)) F (x.next x.n x.area 0) else Dk.flushE (rowsD D F a L ks)) := Lib.hid (by unfold rowsE; rw [hat])
    have HRF : Hid (rowsF D F x L ks = if Dk.flushE (rowsD D F a L ks) = 0 then markD (Dk.flushD (rowsD D F a L ks)) F (x.next x.n x.area 0) else Dk.flushD (rowsD D F a L ks)) := Lib.hid (by unfold rowsF; rw [hat])
    obtain ⟨q1, q2, q3, q4, q5⟩ := rowsD_keeps D F a L ks
    have HQ5 := Lib.hid (show (Dk.flushD (rowsD D F a L ks)).gs.length < 1000000 from by
      have h1 := HFW.out
      have h2 := HAL.out
      have h3 : (Dk.flushD (rowsD D F a L ks)).gs.length ≤ (rowsD D F a L ks).gs.length := by unfold Dk.flushD; split; exact Nat.le_refl _; split; exact Nat.le_refl _; simp
      omega)
    clear hat q1 q2 q3 q4 q5
    generalize rowsD D F a L ks = D1 at HI HT HRE HRF HQ5
    have hms : ¬ M s := fun h => (HM.out s h).elim HH.out.sd (fun h => by omega)
    have hD7l : D7 < W7.heap.size := (Array.getElem?_eq_some_iff.1 HK.out).1
    have hMd : ¬ M D7 := fun h => (HT.out.cm _ h).no HK.out rfl
    have hRd : ¬ R D7 := fun h => (HT.out.cr _ h).no HK.out rfl
    have hn1 : ∀ b, w.heap.size ≤ b → b < w2.heap.size → ¬ M b := fun b h1 h2 hm => (HM.out b hm).elim (fun h => by have := HH.out.dsk.mlt _ h; omega) (fun h => by omega)
    have hn2 : ∀ b, w.heap.size ≤ b → b < w2.heap.size → ¬ R b := fun b h1 h2 hm => (HR.out b hm).elim (fun h => by have := HH.out.dsk.rlt _ h; omega) (fun h => by omega)
    have HN1 := Lib.hid hn1
    have HN2 := Lib.hid hn2
    have HMS := Lib.hid hms
    have HMD := Lib.hid hMd
    have HRD := Lib.hid hRd
    clear hn1 hn2 hms hMd hRd
    obtain ⟨e1, he1⟩ : ∃ e1, Dk.flushE D1 = e1 := ⟨_, rfl⟩
    obtain ⟨D2, hD2⟩ : ∃ D2, Dk.flushD D1 = D2 := ⟨_, rfl⟩
    rw [he1, hD2] at HRE HRF
    rw [hD2] at HQ5
    have HFL := Lib.hid (Dk.flush_any HT.out.dsk)
    rw [he1, hD2] at HFL
    clear he1 hD2
    by_cases h1 : e1 = 0
    · subst h1
      have HRE2 := Lib.hid (HRE.out.trans (if_pos rfl))
      have HRF2 := Lib.hid (HRF.out.trans (if_pos rfl))
      clear HRE HRF
      go_wp2_with (first
        | (go_at_call 52; (with_reducible refine HFL.out.mono ?_); rintro e w4 ⟨rfl, hd4, ht4⟩; have HD4 := Lib.hid hd4; have HT4 := Lib.hid ht4; clear hd4 ht4))
      have HS4 := Lib.hid (HT4.out.blk HI.out.blk HMS.out)
      have HBX4 := Lib.hid (HT4.out.blk HI.out.bx (HN1.out _ (by omega) (by omega)))
      have HER4 := Lib.hid (HT4.out.blk HI.out.er (HN1.out _ (by omega) (by omega)))
      have HK4 := Lib.hid ((HT4.out.block D7 hD7l HMD.out).trans HK.out)
      have t4 : Tr Md w w4 := HI.out.tr.trans HT4.out (fun b hb h => (HM.out b h).resolve_right (by omega))
      have HST4 : Hid (StAt w4 s d g F x dead D2 M R L Mi) := Lib.hid
        ⟨HS4.out, HD4.out, HH.out.img.tr t4 (fun b hb => (HH.out.di b hb).1), HMS.out, fun h => (HR.out s h).elim HH.out.sr (fun h => by omega), HH.out.si,
          fun b hb => ⟨fun hq => (HM.out b hq).elim (HH.out.di b hb).1 (fun e => by have := HH.out.img.mlt b hb; omega), fun hq => (HR.out b hq).elim (HH.out.di b hb).2 (fun e => by have := HH.out.img.mlt b hb; omega)⟩⟩
      have T4 := Lib.hid t4
      have hz4 := t4.size
      have hz47 := HT4.out.size
      clear t4 b0 c0
      have b0 := HBX4.out.cell 0
      have c4 := HS4.out.cell 4
      have c5 := HS4.out.cell 5
      simp [stCells] at b0 c4 c5
      have HSS : Hid (w4.drew.cell? ⟨w.heap.size, 0, none⟩ = some (.pointer (some ⟨s, 0, none⟩)) ∧ w4.drew.cell? ⟨s, 4, none⟩ = some (.int .i64 x.n) ∧ w4.drew.cell? ⟨s, 5, none⟩ = some (.int .i64 x.area)) := Lib.hid ⟨b0, c4, c5⟩
      clear b0 c4 c5
      refine held_startN (S := fun W' => W'.cell? ⟨w.heap.size, 0, none⟩ = some (.pointer (some ⟨s, 0, none⟩)) ∧ W'.cell? ⟨s, 4, none⟩ = some (.int .i64 x.n) ∧ W'.cell? ⟨s, 5, none⟩ = some (.int .i64 x.area)) (by kernel_rfl) ?_
      refine held_take (HSS.out) (i := 0) (v := ?_) rfl (by kernel_rfl) (by kernel_rfl) (by kernel_rfl) (fun _ _ _ h => h) (Or.inl ⟨by rfl, ?_⟩) ?_
      rotate_left
      · (intro W hSw; obtain ⟨s1, s2, s3⟩ := hSw; go_simp; try with_reducible rfl)
      try simp only [Act.put, List.setIfInBounds_toArray, List.set_cons_zero, List.set_cons_succ]
      refine held_take (HSS.out) (i := 1) (v := ?_) rfl (by kernel_rfl) (by kernel_rfl) (by kernel_rfl) (fun _ _ _ h => h) (Or.inl ⟨by rfl, ?_⟩) ?_
      rotate_left
      · (intro W hSw; obtain ⟨s1, s2, s3⟩ := hSw; go_simp; try with_reducible rfl)
      try simp only [Act.put, List.setIfInBounds_toArray, List.set_cons_zero, List.set_cons_succ]
      refine held_take (HSS.out) (i := 2) (v := ?_) rfl (by kernel_rfl) (by kernel_rfl) (by kernel_rfl) (fun _ _ _ h => h) (Or.inl ⟨by rfl, ?_⟩) ?_
      rotate_left
      · (intro W hSw; obtain ⟨s1, s2, s3⟩ := hSw; go_simp; try with_reducible rfl)
      try simp only [Act.put, List.setIfInBounds_toArray, List.set_cons_zero, List.set_cons_succ]
      refine held_take (HSS.out) (i := 3) (v := ?_) rfl (by kernel_rfl) (by kernel_rfl) (by kernel_rfl) (fun _ _ _ h => h) (Or.inl ⟨by rfl, ?_⟩) ?_
      rotate_left
      · (intro W hSw; obtain ⟨s1, s2, s3⟩ := hSw; go_simp; try with_reducible rfl)
      try simp only [Act.put, List.setIfInBounds_toArray, List.set_cons_zero, List.set_cons_succ]
      refine held_take (HSS.out) (i := 4) (v := ?_) rfl (by kernel_rfl) (by kernel_rfl) (by kernel_rfl) (fun _ _ _ h => h) (Or.inl ⟨by rfl, ?_⟩) ?_
      rotate_left
      · (intro W hSw; obtain ⟨s1, s2, s3⟩ := hSw; go_simp; try with_reducible rfl)
      try simp only [Act.put, List.setIfInBounds_toArray, List.set_cons_zero, List.set_cons_succ]
      refine held_take (HSS.out) (i := 5) (v := ?_) rfl (by kernel_rfl) (by kernel_rfl) (by kernel_rfl) (fun _ _ _ h => h) (Or.inl ⟨by rfl, ?_⟩) ?_
      rotate_left
      · (intro W hSw; obtain ⟨s1, s2, s3⟩ := hSw; go_simp; try with_reducible rfl)
      try simp only [Act.put, List.setIfInBounds_toArray, List.set_cons_zero, List.set_cons_succ]
      refine held_take (HSS.out) (i := 6) (v := ?_) rfl (by kernel_rfl) (by kernel_rfl) (by kernel_rfl) (fun _ _ _ h => h) (Or.inl ⟨by rfl, ?_⟩) ?_
      rotate_left
      · (intro W hSw; obtain ⟨s1, s2, s3⟩ := hSw; go_simp; try with_reducible rfl)
      try simp only [Act.put, List.setIfInBounds_toArray, List.set_cons_zero, List.set_cons_succ]
      refine held_take (HSS.out) (i := 7) (v := ?_) rfl (by kernel_rfl) (by kernel_rfl) (by kernel_rfl) (fun _ _ _ h => h) (Or.inl ⟨by rfl, ?_⟩) ?_
      rotate_left
      · (intro W hSw; obtain ⟨s1, s2, s3⟩ := hSw; go_simp; try with_reducible rfl)
      try simp only [Act.put, List.setIfInBounds_toArray, List.set_cons_zero, List.set_cons_succ]
      refine held_take (HSS.out) (i := 8) (v := ?_) rfl (by kernel_rfl) (by kernel_rfl) (by kernel_rfl) (fun _ _ _ h => h) (Or.inl ⟨by rfl, ?_⟩) ?_
      rotate_left
      · (intro W hSw; obtain ⟨s1, s2, s3⟩ := hSw; go_simp; try with_reducible rfl)
      try simp only [Act.put, List.setIfInBounds_toArray, List.set_cons_zero, List.set_cons_succ]
      refine held_take (HSS.out) (i := 9) (v := ?_) rfl (by kernel_rfl) (by kernel_rfl) (by kernel_rfl) (fun _ _ _ h => h) (Or.inl ⟨by rfl, ?_⟩) ?_
      rotate_left
      · (intro W hSw; obtain ⟨s1, s2, s3⟩ := hSw; go_simp; try with_reducible rfl)
      try simp only [Act.put, List.setIfInBounds_toArray, List.set_cons_zero, List.set_cons_succ]
      refine held_take (HSS.out) (i := 10) (v := ?_) rfl (by kernel_rfl) (by kernel_rfl) (by kernel_rfl) (fun _ _ _ h => h) (Or.inl ⟨by rfl, ?_⟩) ?_
      rotate_left
      · (intro W hSw; obtain ⟨s1, s2, s3⟩ := hSw; go_simp; try with_reducible rfl)
      try simp only [Act.put, List.setIfInBounds_toArray, List.set_cons_zero, List.set_cons_succ]
      refine held_call (i := 11) (by kernel_rfl) rfl (fun K hK => ?_)
      go_simp
      (have hMK := mark_any (HST4.out.drewW) x.n x.area 0 G hG hG2 (show (x.next x.n x.area 0).pos from next_pos HX.out hG hG2) HQ5.out hF; go_at_call 53; (with_reducible refine hMK.mono ?_); rintro e w5 ⟨M5, R5, rfl, hst5, hm5, hr5, ht5⟩; have hern := HN1.out (w.heap.size + 1) (by omega) (by omega); have hbn := HN1.out w.heap.size (by omega) (by omega); have tt5 := Tr.trans (tr_drew0 w4) ht5 (fun b _ h => h); have HER5 := Lib.hid (tt5.blk HER4.out (fun h => h.elim hern (fun e => by omega))); have HBX5 := Lib.hid (tt5.blk HBX4.out (fun h => h.elim hbn (fun e => by omega))); have e0 := HER5.out.cell 0; have e1 := HER5.out.frozen 0; have HS5 := Lib.hid (show w5.cell? ⟨w.heap.size, 0, none⟩ = some (.pointer (some ⟨s, 0, none⟩)) ∧ w5.cell? ⟨s, 4, none⟩ = some (.int .i64 x.n) ∧ w5.cell? ⟨s, 5, none⟩ = some (.int .i64 x.area) from ⟨HBX5.out.cell 0, (hst5.blk.cell 4).trans (by split <;> rfl), (hst5.blk.cell 5).trans (by split <;> rfl)⟩); simp at e0; have HST5 := Lib.hid hst5; have HM5 := Lib.hid hm5; have HR5 := Lib.hid hr5; have HT5 := Lib.hid tt5; clear hst5 hm5 hr5 ht5 hMK)
      refine hK.out _ _ (HS5.out) ?_
      clear hK K
      try simp only [Act.put, List.setIfInBounds_toArray, List.set_cons_zero, List.set_cons_succ]
      refine held_call (i := 12) (by kernel_rfl) rfl (fun K hK => ?_)
      go_simp
      (have HS6 := Lib.hid (show (w5.setCell ⟨w.heap.size + 1, 0, none⟩ (.int .i64 (markE D2 F (x.next x.n x.area 0)))).cell? ⟨w.heap.size, 0, none⟩ = some (.pointer (some ⟨s, 0, none⟩)) ∧ (w5.setCell ⟨w.heap.size + 1, 0, none⟩ (.int .i64 (markE D2 F (x.next x.n x.area 0)))).cell? ⟨s, 4, none⟩ = some (.int .i64 x.n) ∧ (w5.setCell ⟨w.heap.size + 1, 0, none⟩ (.int .i64 (markE D2 F (x.next x.n x.area 0)))).cell? ⟨s, 5, none⟩ = some (.int .i64 x.area) from ⟨(World.cell?_setCell_other _ _ _ _ (by intro e; injection e; omega)).trans HS5.out.1, (World.cell?_setCell_other _ _ _ _ (by intro e; injection e; omega)).trans HS5.out.2.1, (World.cell?_setCell_other _ _ _ _ (by intro e; injection e; omega)).trans HS5.out.2.2⟩))
      refine hK.out _ _ (HS6.out) ?_
      clear hK K
      try simp only [Act.put, List.setIfInBounds_toArray, List.set_cons_zero, List.set_cons_succ]
      refine wpAnyH_done (by kernel_rfl) ?_ _
      refine noPanic_normal ?_
      go_wp2_with fail
      have hz5 := HT5.out.size
      have hk5 : w5.heap[D7]? = some (.deferred (some [])) := (HT5.out.block D7 (by omega) (fun h => h.elim HMD.out (fun e => by omega))).trans HK4.out
      refine ⟨by simp, .inl ⟨D7, _, rfl, run_takeDeferred (show (w5.setCell ⟨w.heap.size + 1, 0, none⟩ (.int .i64 (markE D2 F (x.next x.n x.area 0)))).heap[D7]? = some (.deferred (some [])) from (Below.heap_setCell _ _ _ _ (by show D7 ≠ w.heap.size + 1; omega)).trans hk5), ?_⟩⟩
      have hfin := rows_fin HH.out (v := .int .i64 (markE D2 F (x.next x.n x.area 0))) (D7 := D7) HST5.out.blk HST5.out.dsk (fun b hb => (HM5.out b hb).elim (fun h => (HM.out b h).imp id (fun h => by omega)) (fun h => .inr (by have h : w4.heap.size ≤ b := h; omega))) (fun b hb => (HR5.out b hb).elim (fun h => (HR.out b h).imp id (fun h => by omega)) (fun h => .inr (by have h : w4.heap.size ≤ b := h; omega)))
        ((T4.out.mono (fun _ _ h => .inl h)).trans HT5.out (fun b hb h => h.imp (fun h => (HM.out b h).resolve_right (by omega)) id)) hk5 (by omega)
        (fun b hb => by
          rcases hb with rfl | rfl
          · exact ⟨fun h => (HM5.out _ h).elim (HN1.out _ (by omega) (by omega)) (fun h => by have h : w4.heap.size ≤ _ := h; omega), fun h => (HR5.out _ h).elim (HN2.out _ (by omega) (by omega)) (fun h => by have h : w4.heap.size ≤ _ := h; omega)⟩
          · exact ⟨fun h => (HM5.out _ h).elim HMD.out (fun h => by have h : w4.heap.size ≤ _ := h; omega), fun h => (HR5.out _ h).elim HRD.out (fun h => by have h : w4.heap.size ≤ _ := h; omega)⟩)
      have hc6 : ((w5.setCell ⟨w.heap.size + 1, 0, none⟩ (.int .i64 (markE D2 F (x.next x.n x.area 0)))).putObj D7 (.deferred none)).cell? ⟨w.heap.size + 1, 0, none⟩ = some (.int .i64 (markE D2 F (x.next x.n x.area 0))) :=
        (World.cell?_of_block (World.putObj_heap_other (by show w.heap.size + 1 ≠ D7; omega))).trans ((HER5.out.set_ 0 _).cell 0)
      unfold RetRows
      rw [HRE2.out, HRF2.out]
      refine ⟨_, ?_, M5, R5, rfl, hfin.1, fun b hb => (HM5.out b hb).elim (fun h => (HM.out b h).imp id (fun h => by omega)) (fun h => .inr (by have h : w4.heap.size ≤ b := h; omega)), fun b hb => (HR5.out b hb).elim (fun h => (HR.out b h).imp id (fun h => by omega)) (fun h => .inr (by have h : w4.heap.size ≤ b := h; omega)), hfin.2⟩
      simp [results, Tryz.results33, go_sem, hc6]
    · have HRE2 := Lib.hid (HRE.out.trans (if_neg h1))
      have HRF2 := Lib.hid (HRF.out.trans (if_neg h1))
      have k1 : (e1 != 0) = true := by simp [h1]
      clear HRE HRF
      have x0 := HI.out.er.cell 0
      have x1 := HI.out.er.frozen 0
      simp at x0
      go_wp2_with (first
        | (go_at_call 52; (with_reducible refine HFL.out.mono ?_); rintro e w4 ⟨rfl, hd4, ht4⟩; have HER4 := Lib.hid (ht4.blk HI.out.er (HN1.out _ (by omega) (by omega))); have y0 := HER4.out.cell 0; have y1 := HER4.out.frozen 0; simp at y0; have HD4 := Lib.hid hd4; have HT4 := Lib.hid ht4; clear hd4 ht4))
      have hz4 := HT4.out.size
      have hk5 : w4.heap[D7]? = some (.deferred (some [])) := (HT4.out.block D7 hD7l HMD.out).trans HK.out
      refine ⟨by simp, .inl ⟨D7, _, rfl, run_takeDeferred (show (w4.setCell ⟨w.heap.size + 1, 0, none⟩ (.int .i64 e1)).heap[D7]? = some (.deferred (some [])) from (Below.heap_setCell _ _ _ _ (by show D7 ≠ w.heap.size + 1; omega)).trans hk5), ?_⟩⟩
      have hfin := rows_fin HH.out (v := .int .i64 e1) (D7 := D7) (HT4.out.blk HI.out.blk HMS.out) HD4.out (fun b hb => (HM.out b hb).imp id (fun h => by omega)) (fun b hb => (HR.out b hb).imp id (fun h => by omega)) ((HI.out.tr.mono (fun _ _ h => .inl h)).trans HT4.out (fun b hb h => .inl ((HM.out b h).resolve_right (by omega)))) hk5 (by omega)
        (fun b hb => by
          rcases hb with rfl | rfl
          · exact ⟨HN1.out _ (by omega) (by omega), HN2.out _ (by omega) (by omega)⟩
          · exact ⟨HMD.out, HRD.out⟩)
      have hc6 : ((w4.setCell ⟨w.heap.size + 1, 0, none⟩ (.int .i64 e1)).putObj D7 (.deferred none)).cell? ⟨w.heap.size + 1, 0, none⟩ = some (.int .i64 e1) :=
        (World.cell?_of_block (World.putObj_heap_other (by show w.heap.size + 1 ≠ D7; omega))).trans ((HER4.out.set_ 0 _).cell 0)
      unfold RetRows
      rw [HRE2.out, HRF2.out, if_neg h1]
      refine ⟨_, ?_, M, R, rfl, hfin.1, fun b hb => (HM.out b hb).imp id (fun h => by omega), fun b hb => (HR.out b hb).imp id (fun h => by omega), hfin.2⟩
      simp [results, Tryz.results33, go_sem, hc6]
end
end Go.Proofs.YthlijldapoeepaaGreat
