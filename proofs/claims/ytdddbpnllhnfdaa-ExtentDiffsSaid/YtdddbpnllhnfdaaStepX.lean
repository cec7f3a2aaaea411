/- step of the laws of 05: one call of both. -/
import Derived.Test.YtdddbpnllhnfdaaDuoX
namespace Go.Proofs.Ytdddbpnllhnfdaa
set_option linter.unusedVariables false
set_option linter.unusedSimpArgs false
set_option maxRecDepth 100000
open Go.RowKit Go.Shelf

theorem held_start {P : Program} {ops : Array Oper} {Q : Exit → Act → World → Prop} {S : World → Prop} {id : Nat} {a : Act} {w : World} (hm : P.follows .mixedOrders = true)
    (h : wpAnyH P .any ops Q S ops.size (Array.replicate ops.size false) a w.drew) : (Code.region id ops true).wp P Q a w := wp_region_held hm h
theorem IsRef.q_ne {w : World} {r q c : Nat} {L : List (List Int)} {M : Nat → Prop} (h : IsRef w r L q c M) {x : Nat} {t : TypeId} {cs : Array Value} (hb : Blk w x t cs) (hne : 28 ≠ t) : ¬ x = q := fun e => by
  obtain ⟨vs, h3, _⟩ := h.row
  exact own_blk h3 hb hne ((Blo.some_iff _ _).2 e.symm)
/-- Blocks of cells, other than rows of byte slices, are kept. -/
def Kp (W W' : World) : Prop := W.heap.size ≤ W'.heap.size ∧ ∀ x t cs, Blk W x t cs → 28 ≠ t → Blk W' x t cs
theorem Kp.refl (W : World) : Kp W W := ⟨Nat.le_refl _, fun _ _ _ h _ => h⟩
theorem Kp.trans {A B C : World} (h : Kp A B) (k : Kp B C) : Kp A C := ⟨Nat.le_trans h.1 k.1, fun x t cs hb hn => k.2 x t cs (h.2 x t cs hb hn) hn⟩
theorem Kp.below {A B : World} (h : Below A.heap.size A B) : Kp A B := ⟨h.size, fun x t cs hb _ => hb.keep h⟩
theorem Kp.img {A B : World} {F : Nat → Prop} (ht : Tr F A B) (hF : NoCells A F) : Kp A B := ⟨ht.size, fun x t cs hb _ => hb.trc ht hF⟩
theorem Kp.ref {A B : World} {r q c : Nat} {L : List (List Int)} {M : Nat → Prop} (ht : Tr (fun b => b = q) A B) (h : IsRef A r L q c M) : Kp A B := ⟨ht.size, fun x t cs hb hn => ht.blk hb (h.q_ne hb hn)⟩
theorem Kp.turn {A B C : World} {F : Nat → Prop} (h : Kp A B) (ht : Tr F B C) (hF : ∀ b, F b → A.heap.size ≤ b) : Kp A C := ⟨Nat.le_trans h.1 ht.size, fun x t cs hb hn => ht.blk (h.2 x t cs hb hn) (fun hf => by have := hF x hf; have := hb.lt; omega)⟩
def stepL (L : List (List Int)) (y : OpA) : List (List Int) :=
  if y.kind = 0 ∨ y.kind = 1 then writeL L y.lba y.b else if y.kind = 2 then unmapL L y.lba y.n else if y.kind = 3 ∨ y.kind = 4 then changeL L y.l else L
set_option maxHeartbeats 3200000 in
theorem step_unmap {w W : World} {g r : Nat} {L : List (List Int)} (h : Duo w W NoB g r L L) (y : OpA) (hy : y.In w) (hk : y.kind = 2) :
    Calls Try.prog 35 #[.pointer (some ⟨g, 0, none⟩), .pointer (some ⟨r, 0, none⟩), .agg #[.int .i64 y.kind, .int .i64 y.lba, .int .i64 y.n, .slice y.A y.b.length y.c, .slice y.B y.l.length y.d]] W fun e W' => e = .returned (.bool true) ∧ Duo w W' NoB g r (unmapL L y.lba y.n) (unmapL L y.lba y.n) ∧ Kp W W' := by
  have hlb := hy.lb
  have hnb := hy.nb
  clear hy
  rw [hk]
  have hbk : Blk (W.alloc (.cells #[.int .i64 2, .int .i64 y.lba, .int .i64 y.n, .slice y.A y.b.length y.c, .slice y.B y.l.length y.d] 62)) W.heap.size 62 #[.int .i64 2, .int .i64 y.lba, .int .i64 y.n, .slice y.A y.b.length y.c, .slice y.B y.l.length y.d] := Blk.new _ _ _
  have HBK := Lib.hid hbk
  have HD := Lib.hid (h.below (bl_alloc W (.cells #[.int .i64 2, .int .i64 y.lba, .int .i64 y.n, .slice y.A y.b.length y.c, .slice y.B y.l.length y.d] 62)))
  have KP := Lib.hid (Kp.below (bl_alloc W (.cells #[.int .i64 2, .int .i64 y.lba, .int .i64 y.n, .slice y.A y.b.length y.c, .slice y.B y.l.length y.d] 62)))
  have p1 := hbk.cell 1
  have p2 := hbk.cell 2
  clear hbk h
  go_enter Try.func35, Try.ntmps35
  go_wp2_with fail
  generalize hW : W.alloc (.cells #[.int .i64 2, .int .i64 y.lba, .int .i64 y.n, .slice y.A y.b.length y.c, .slice y.B y.l.length y.d] 62) = W1 at HBK HD KP p1 p2 ⊢
  have hs0 : W1.drew.cell? ⟨W.heap.size, 1, none⟩ = some (.int .i64 y.lba) ∧ W1.drew.cell? ⟨W.heap.size, 2, none⟩ = some (.int .i64 y.n) := ⟨p1, p2⟩
  have HS := Lib.hid hs0
  clear hW hs0 p1 p2
  obtain ⟨er, her⟩ : ∃ er, wrongE L.length y.lba y.n = er := ⟨_, rfl⟩
  obtain ⟨B, D, M, hI, hnc, hret⟩ := (HD.out.below (bl_drew W1)).img
  have hun := unmap_any hI y.lba y.n ⟨hlb.1, hlb.2, hnb.1, hnb.2⟩
  rw [her] at hun
  have HUN := Lib.hid hun
  have HNC := Lib.hid hnc
  have HRET := Lib.hid hret
  clear hun hnc hret hI
  refine held_start (S := fun W' => W'.cell? ⟨W.heap.size, 1, none⟩ = some (.int .i64 y.lba) ∧ W'.cell? ⟨W.heap.size, 2, none⟩ = some (.int .i64 y.n)) (by kernel_rfl) ?_
  refine held_take (HS.out) (i := 0) (v := ?_) rfl (by kernel_rfl) (by kernel_rfl) (by kernel_rfl) (fun _ _ _ h => h) (Or.inl ⟨by rfl, ?_⟩) ?_
  rotate_left
  · (intro W hSw; obtain ⟨s1, s2⟩ := hSw; go_simp; try with_reducible rfl)
  try simp only [Act.put, List.setIfInBounds_toArray, List.set_cons_zero, List.set_cons_succ]
  refine held_take (HS.out) (i := 1) (v := ?_) rfl (by kernel_rfl) (by kernel_rfl) (by kernel_rfl) (fun _ _ _ h => h) (Or.inl ⟨by rfl, ?_⟩) ?_
  rotate_left
  · (intro W hSw; obtain ⟨s1, s2⟩ := hSw; go_simp; try with_reducible rfl)
  try simp only [Act.put, List.setIfInBounds_toArray, List.set_cons_zero, List.set_cons_succ]
  refine held_take (HS.out) (i := 2) (v := ?_) rfl (by kernel_rfl) (by kernel_rfl) (by kernel_rfl) (fun _ _ _ h => h) (Or.inl ⟨by rfl, ?_⟩) ?_
  rotate_left
  · (intro W hSw; obtain ⟨s1, s2⟩ := hSw; go_simp; try with_reducible rfl)
  try simp only [Act.put, List.setIfInBounds_toArray, List.set_cons_zero, List.set_cons_succ]
  refine held_take (HS.out) (i := 3) (v := ?_) rfl (by kernel_rfl) (by kernel_rfl) (by kernel_rfl) (fun _ _ _ h => h) (Or.inl ⟨by rfl, ?_⟩) ?_
  rotate_left
  · (intro W hSw; obtain ⟨s1, s2⟩ := hSw; go_simp; try with_reducible rfl)
  try simp only [Act.put, List.setIfInBounds_toArray, List.set_cons_zero, List.set_cons_succ]
  refine held_take (HS.out) (i := 4) (v := ?_) rfl (by kernel_rfl) (by kernel_rfl) (by kernel_rfl) (fun _ _ _ h => h) (Or.inl ⟨by rfl, ?_⟩) ?_
  rotate_left
  · (intro W hSw; obtain ⟨s1, s2⟩ := hSw; go_simp; try with_reducible rfl)
  try simp only [Act.put, List.setIfInBounds_toArray, List.set_cons_zero, List.set_cons_succ]
  refine held_take (HS.out) (i := 6) (v := ?_) rfl (by kernel_rfl) (by kernel_rfl) (by kernel_rfl) (fun _ _ _ h => h) (Or.inl ⟨by rfl, ?_⟩) ?_
  rotate_left
  · (intro W hSw; obtain ⟨s1, s2⟩ := hSw; go_simp; try with_reducible rfl)
  try simp only [Act.put, List.setIfInBounds_toArray, List.set_cons_zero, List.set_cons_succ]
  refine held_take (HS.out) (i := 7) (v := ?_) rfl (by kernel_rfl) (by kernel_rfl) (by kernel_rfl) (fun _ _ _ h => h) (Or.inl ⟨by rfl, ?_⟩) ?_
  rotate_left
  · (intro W hSw; obtain ⟨s1, s2⟩ := hSw; go_simp; try with_reducible rfl)
  try simp only [Act.put, List.setIfInBounds_toArray, List.set_cons_zero, List.set_cons_succ]
  refine held_take (HS.out) (i := 8) (v := ?_) rfl (by kernel_rfl) (by kernel_rfl) (by kernel_rfl) (fun _ _ _ h => h) (Or.inl ⟨by rfl, ?_⟩) ?_
  rotate_left
  · (intro W hSw; obtain ⟨s1, s2⟩ := hSw; go_simp; try with_reducible rfl)
  try simp only [Act.put, List.setIfInBounds_toArray, List.set_cons_zero, List.set_cons_succ]
  refine held_take (HS.out) (i := 9) (v := ?_) rfl (by kernel_rfl) (by kernel_rfl) (by kernel_rfl) (fun _ _ _ h => h) (Or.inl ⟨by rfl, ?_⟩) ?_
  rotate_left
  · (intro W hSw; obtain ⟨s1, s2⟩ := hSw; go_simp; try with_reducible rfl)
  try simp only [Act.put, List.setIfInBounds_toArray, List.set_cons_zero, List.set_cons_succ]
  refine held_take (HS.out) (i := 10) (v := ?_) rfl (by kernel_rfl) (by kernel_rfl) (by kernel_rfl) (fun _ _ _ h => h) (Or.inl ⟨by rfl, ?_⟩) ?_
  rotate_left
  · (intro W hSw; obtain ⟨s1, s2⟩ := hSw; go_simp; try with_reducible rfl)
  try simp only [Act.put, List.setIfInBounds_toArray, List.set_cons_zero, List.set_cons_succ]
  refine held_call (i := 5) (by kernel_rfl) rfl (fun K hK => ?_)
  go_simp
  (go_at_call 32; (with_reducible refine (HUN.out).mono ?_); rintro e w2 hr2; obtain ⟨rfl, hd2, ht2⟩ := HRET.out _ _ _ _ hr2; have HS2 := Lib.hid (show w2.cell? ⟨W.heap.size, 1, none⟩ = some (.int .i64 y.lba) ∧ w2.cell? ⟨W.heap.size, 2, none⟩ = some (.int .i64 y.n) from ⟨cell_trc HS.out.1 ht2 HNC.out, cell_trc HS.out.2 ht2 HNC.out⟩); have HK2 := Lib.hid (HBK.out.drew.trc ht2 HNC.out); have K2 := Lib.hid ((KP.out.trans (Kp.below (bl_drew W1))).trans (Kp.img ht2 HNC.out)); have HD2 := Lib.hid hd2; clear hd2 ht2 hr2)
  refine hK.out _ _ (HS2.out) ?_
  clear hK K
  try simp only [Act.put, List.setIfInBounds_toArray, List.set_cons_zero, List.set_cons_succ]
  refine held_call (i := 11) (by kernel_rfl) rfl (fun K hK => ?_)
  go_simp
  (obtain ⟨q, c, M2, hR, hq, hret2⟩ := HD2.out.ref; have hun2 := runmap_any hR y.lba y.n ⟨hlb.1, hlb.2, hnb.1, hnb.2⟩; rw [her] at hun2; have HUN2 := Lib.hid hun2; have HRET2 := Lib.hid hret2; have HR2 := Lib.hid hR; clear hun2 hret2 hR; go_at_call 60; (with_reducible refine (HUN2.out).mono ?_); rintro e w3 hr3; obtain ⟨rfl, hd3, ht3⟩ := HRET2.out _ _ _ _ hr3; have HS3 := Lib.hid (show w3.cell? ⟨W.heap.size, 1, none⟩ = some (.int .i64 y.lba) ∧ w3.cell? ⟨W.heap.size, 2, none⟩ = some (.int .i64 y.n) from (by have hne := HR2.out.q_ne HK2.out (by decide); exact ⟨(ht3.cell HK2.out.lt hne).trans HS2.out.1, (ht3.cell HK2.out.lt hne).trans HS2.out.2⟩)); have HD3 := Lib.hid hd3; have K3 := Lib.hid (K2.out.trans (Kp.ref ht3 HR2.out)); clear hd3 ht3 hr3)
  refine hK.out _ _ (HS3.out) ?_
  clear hK K
  try simp only [Act.put, List.setIfInBounds_toArray, List.set_cons_zero, List.set_cons_succ]
  refine held_take (HS3.out) (i := 12) (v := ?_) rfl (by kernel_rfl) (by kernel_rfl) (by kernel_rfl) (fun _ _ _ h => h) (Or.inl ⟨by rfl, ?_⟩) ?_
  rotate_left
  · (intro W hSw; obtain ⟨s1, s2⟩ := hSw; go_simp; try with_reducible rfl)
  try simp only [Act.put, List.setIfInBounds_toArray, List.set_cons_zero, List.set_cons_succ]
  refine held_take (HS3.out) (i := 13) (v := ?_) rfl (by kernel_rfl) (by kernel_rfl) (by kernel_rfl) (fun _ _ _ h => h) (Or.inl ⟨by rfl, ?_⟩) ?_
  rotate_left
  · (intro W hSw; obtain ⟨s1, s2⟩ := hSw; go_simp; try with_reducible rfl)
  try simp only [Act.put, List.setIfInBounds_toArray, List.set_cons_zero, List.set_cons_succ]
  refine wpAnyH_done (by kernel_rfl) ?_ _
  go_wp2_with fail
  go_ret
  exact ⟨rfl, HD3.out, K3.out⟩
theorem own_nocells {w w' : World} {base : Nat} {e : TypeId} {size n m c : Nat} {A : Option Addr} {xs : List Value} {F : Nat → Prop} (h : w.ownsRow base e size (.slice A n c) m xs) (ht : Tr F w w') (hF : NoCells w F) : w'.ownsRow base e size (.slice A n c) m xs := own_trc h ht hF
set_option maxHeartbeats 3200000 in
theorem step_write {w W : World} {g r : Nat} {L : List (List Int)} (h : Duo w W NoB g r L L) (y : OpA) (hy : y.In w) (kd : Int) (hk : kd = 0 ∨ kd = 1) :
    Calls Try.prog 35 #[.pointer (some ⟨g, 0, none⟩), .pointer (some ⟨r, 0, none⟩), .agg #[.int .i64 kd, .int .i64 y.lba, .int .i64 y.n, .slice y.A y.b.length y.c, .slice y.B y.l.length y.d]] W fun e W' => e = .returned (.bool true) ∧ Duo w W' NoB g r (writeL L y.lba y.b) (writeL L y.lba y.b) ∧ Kp W W' := by
  have HY := Lib.hid hy
  have hlb := hy.lb
  have hbl := hy.bl
  have hbc := hy.bc
  clear hy
  have hbk : Blk (W.alloc (.cells #[.int .i64 kd, .int .i64 y.lba, .int .i64 y.n, .slice y.A y.b.length y.c, .slice y.B y.l.length y.d] 62)) W.heap.size 62 #[.int .i64 kd, .int .i64 y.lba, .int .i64 y.n, .slice y.A y.b.length y.c, .slice y.B y.l.length y.d] := Blk.new _ _ _
  have HBK := Lib.hid hbk
  have HD := Lib.hid (h.below (bl_alloc W (.cells #[.int .i64 kd, .int .i64 y.lba, .int .i64 y.n, .slice y.A y.b.length y.c, .slice y.B y.l.length y.d] 62)))
  have KP := Lib.hid (Kp.below (bl_alloc W (.cells #[.int .i64 kd, .int .i64 y.lba, .int .i64 y.n, .slice y.A y.b.length y.c, .slice y.B y.l.length y.d] 62)))
  have p0 := hbk.cell 0
  have p3 := hbk.cell 3
  clear hbk h
  have HLENT := Lib.hid (lent_any y.A y.c y.b (W.alloc (.cells #[.int .i64 kd, .int .i64 y.lba, .int .i64 y.n, .slice y.A y.b.length y.c, .slice y.B y.l.length y.d] 62)) (HY.out.rb.below HD.out.bl) hbl)
  obtain ⟨er, her⟩ : ∃ er, writeE L.length y.lba y.b = er := ⟨_, rfl⟩
  have eE : (er == er) = true := by simp
  rcases hk with rfl | rfl
  all_goals
    go_enter Try.func35, Try.ntmps35
    go_wp2_with (first
      | (go_at_call 27; (with_reducible refine (HLENT.out).mono ?_); rintro e w2 ⟨g0, cap, rfl, ho, hb⟩; have O2 := Lib.hid ho; have HB2 := Lib.hid hb; have K2 := Lib.hid (KP.out.trans (Kp.below hb)); have zK2 := KP.out.1; have HD2 := Lib.hid (HD.out.avoid hb (Z' := fun x => x = g0) (fun x e => by have h1 := own_ge ho x (by rw [Blo.some_iff]; exact e.symm); have h2 := own_lt ho x (by rw [Blo.some_iff]; exact e.symm); exact ⟨h1, h2⟩)); have HK2 := Lib.hid (HBK.out.keep hb); have q1 := HK2.out.cell 1; have q3 := HK2.out.cell 3; simp at q1 q3; clear ho hb))
    have hcap : y.b.length + 1 ≤ cap := by
      rcases O2.out.2 with ⟨h, _⟩ | ⟨_, _, _, hv, _, _, hc, _⟩
      · cases h
      · injection hv with _ _ e; omega
    have HS := Lib.hid (show w2.drew.cell? ⟨W.heap.size, 1, none⟩ = some (.int .i64 y.lba) ∧ w2.drew.cell? ⟨W.heap.size, 3, none⟩ = some (.slice y.A y.b.length y.c) from ⟨q1, q3⟩)
    clear q1 q3 p0 p3
    obtain ⟨B, D, M, hI, hnc, hret⟩ := (HD2.out.below (bl_drew w2)).img
    have hwr := write_any hI y.lba hlb (some ⟨g0, 0, none⟩) cap y.b (Rd.of_own (own_pre8 (m := [167]) O2.out)).drew HY.out.bb (by omega) hbl
    rw [her] at hwr
    have HWR := Lib.hid hwr
    have HNC := Lib.hid hnc
    have HRET := Lib.hid hret
    clear hwr hnc hret hI
    refine held_start (S := fun W' => W'.cell? ⟨W.heap.size, 1, none⟩ = some (.int .i64 y.lba) ∧ W'.cell? ⟨W.heap.size, 3, none⟩ = some (.slice y.A y.b.length y.c)) (by kernel_rfl) ?_
    refine held_take (HS.out) (i := 0) (v := ?_) rfl (by kernel_rfl) (by kernel_rfl) (by kernel_rfl) (fun _ _ _ h => h) (Or.inl ⟨by rfl, ?_⟩) ?_
    rotate_left
    · (intro W hSw; obtain ⟨s1, s2⟩ := hSw; go_simp; try with_reducible rfl)
    try simp only [Act.put, List.setIfInBounds_toArray, List.set_cons_zero, List.set_cons_succ]
    refine held_take (HS.out) (i := 1) (v := ?_) rfl (by kernel_rfl) (by kernel_rfl) (by kernel_rfl) (fun _ _ _ h => h) (Or.inl ⟨by rfl, ?_⟩) ?_
    rotate_left
    · (intro W hSw; obtain ⟨s1, s2⟩ := hSw; go_simp; try with_reducible rfl)
    try simp only [Act.put, List.setIfInBounds_toArray, List.set_cons_zero, List.set_cons_succ]
    refine held_take (HS.out) (i := 2) (v := ?_) rfl (by kernel_rfl) (by kernel_rfl) (by kernel_rfl) (fun _ _ _ h => h) (Or.inl ⟨by rfl, ?_⟩) ?_
    rotate_left
    · (intro W hSw; obtain ⟨s1, s2⟩ := hSw; go_simp; try with_reducible rfl)
    try simp only [Act.put, List.setIfInBounds_toArray, List.set_cons_zero, List.set_cons_succ]
    refine held_take (HS.out) (i := 3) (v := ?_) rfl (by kernel_rfl) (by kernel_rfl) (by kernel_rfl) (fun _ _ _ h => h) (Or.inl ⟨by rfl, ?_⟩) ?_
    rotate_left
    · (intro W hSw; obtain ⟨s1, s2⟩ := hSw; go_simp; try with_reducible rfl)
    try simp only [Act.put, List.setIfInBounds_toArray, List.set_cons_zero, List.set_cons_succ]
    refine held_take (HS.out) (i := 5) (v := ?_) rfl (by kernel_rfl) (by kernel_rfl) (by kernel_rfl) (fun _ _ _ h => h) (Or.inl ⟨by rfl, ?_⟩) ?_
    rotate_left
    · (intro W hSw; obtain ⟨s1, s2⟩ := hSw; go_simp; try with_reducible rfl)
    try simp only [Act.put, List.setIfInBounds_toArray, List.set_cons_zero, List.set_cons_succ]
    refine held_take (HS.out) (i := 6) (v := ?_) rfl (by kernel_rfl) (by kernel_rfl) (by kernel_rfl) (fun _ _ _ h => h) (Or.inl ⟨by rfl, ?_⟩) ?_
    rotate_left
    · (intro W hSw; obtain ⟨s1, s2⟩ := hSw; go_simp; try with_reducible rfl)
    try simp only [Act.put, List.setIfInBounds_toArray, List.set_cons_zero, List.set_cons_succ]
    refine held_take (HS.out) (i := 7) (v := ?_) rfl (by kernel_rfl) (by kernel_rfl) (by kernel_rfl) (fun _ _ _ h => h) (Or.inl ⟨by rfl, ?_⟩) ?_
    rotate_left
    · (intro W hSw; obtain ⟨s1, s2⟩ := hSw; go_simp; try with_reducible rfl)
    try simp only [Act.put, List.setIfInBounds_toArray, List.set_cons_zero, List.set_cons_succ]
    refine held_take (HS.out) (i := 8) (v := ?_) rfl (by kernel_rfl) (by kernel_rfl) (by kernel_rfl) (fun _ _ _ h => h) (Or.inl ⟨by rfl, ?_⟩) ?_
    rotate_left
    · (intro W hSw; obtain ⟨s1, s2⟩ := hSw; go_simp; try with_reducible rfl)
    try simp only [Act.put, List.setIfInBounds_toArray, List.set_cons_zero, List.set_cons_succ]
    refine held_take (HS.out) (i := 9) (v := ?_) rfl (by kernel_rfl) (by kernel_rfl) (by kernel_rfl) (fun _ _ _ h => h) (Or.inl ⟨by rfl, ?_⟩) ?_
    rotate_left
    · (intro W hSw; obtain ⟨s1, s2⟩ := hSw; go_simp; try with_reducible rfl)
    try simp only [Act.put, List.setIfInBounds_toArray, List.set_cons_zero, List.set_cons_succ]
    refine held_call (i := 4) (by kernel_rfl) rfl (fun K hK => ?_)
    go_simp
    (go_at_call 31; (with_reducible refine (HWR.out).mono ?_); rintro e w3 hr2; obtain ⟨rfl, hd2, ht2⟩ := HRET.out _ _ _ _ hr2; have HS2 := Lib.hid (show w3.cell? ⟨W.heap.size, 1, none⟩ = some (.int .i64 y.lba) ∧ w3.cell? ⟨W.heap.size, 3, none⟩ = some (.slice y.A y.b.length y.c) from ⟨cell_trc HS.out.1 ht2 HNC.out, cell_trc HS.out.2 ht2 HNC.out⟩); have HK3 := Lib.hid (HK2.out.drew.trc ht2 HNC.out); have O3 := Lib.hid (own_trc (ownsRow_base (base' := 0) O2.out (Nat.zero_le _)) (Tr.trans (Tr.of_below (bl_drew w2)) ht2 (fun _ _ h => h)) HNC.out); have HD3 := Lib.hid hd2; have K3 := Lib.hid ((K2.out.trans (Kp.below (bl_drew w2))).trans (Kp.img ht2 HNC.out)); clear hd2 ht2 hr2)
    refine hK.out _ _ (HS2.out) ?_
    clear hK K
    try simp only [Act.put, List.setIfInBounds_toArray, List.set_cons_zero, List.set_cons_succ]
    refine held_call (i := 10) (by kernel_rfl) rfl (fun K hK => ?_)
    go_simp
    (obtain ⟨q, c, M2, hR, hq, hret2⟩ := HD3.out.ref; have hwr2 := rwrite_any (w0 := w) hR y.lba hlb y.A y.c y.b HY.out.rb HD3.out.bl hq HY.out.bb hbc hbl; rw [her] at hwr2; have HWR2 := Lib.hid hwr2; have HRET2 := Lib.hid hret2; have HR2 := Lib.hid hR; clear hwr2 hret2 hR; go_at_call 47; (with_reducible refine (HWR2.out).mono ?_); rintro e w4 hr3; obtain ⟨rfl, hd3, ht3⟩ := HRET2.out _ _ _ _ hr3; have HS3 := Lib.hid (show w4.cell? ⟨W.heap.size, 1, none⟩ = some (.int .i64 y.lba) ∧ w4.cell? ⟨W.heap.size, 3, none⟩ = some (.slice y.A y.b.length y.c) from (by have hne := HR2.out.q_ne HK3.out (by decide); exact ⟨(ht3.cell HK3.out.lt hne).trans HS2.out.1, (ht3.cell HK3.out.lt hne).trans HS2.out.2⟩)); have O4 := Lib.hid (own_tr O3.out ht3 (fun b hb e => by obtain ⟨vs, h3, _⟩ := HR2.out.row; exact own_two_ne h3 O3.out (by decide) ((Blo.some_iff _ _).2 e.symm) hb)); have HD4 := Lib.hid hd3; have K4 := Lib.hid (K3.out.trans (Kp.ref ht3 HR2.out)); clear hd3 ht3 hr3)
    refine hK.out _ _ (HS3.out) ?_
    clear hK K
    try simp only [Act.put, List.setIfInBounds_toArray, List.set_cons_zero, List.set_cons_succ]
    refine held_take (HS3.out) (i := 11) (v := ?_) rfl (by kernel_rfl) (by kernel_rfl) (by kernel_rfl) (fun _ _ _ h => h) (Or.inl ⟨by rfl, ?_⟩) ?_
    rotate_left
    · (intro W hSw; obtain ⟨s1, s2⟩ := hSw; go_simp; try with_reducible rfl)
    try simp only [Act.put, List.setIfInBounds_toArray, List.set_cons_zero, List.set_cons_succ]
    refine held_take (HS3.out) (i := 12) (v := ?_) rfl (by kernel_rfl) (by kernel_rfl) (by kernel_rfl) (fun _ _ _ h => h) (Or.inl ⟨by rfl, ?_⟩) ?_
    rotate_left
    · (intro W hSw; obtain ⟨s1, s2⟩ := hSw; go_simp; try with_reducible rfl)
    try simp only [Act.put, List.setIfInBounds_toArray, List.set_cons_zero, List.set_cons_succ]
    refine held_take (HS3.out) (i := 13) (v := ?_) rfl (by kernel_rfl) (by kernel_rfl) (by kernel_rfl) (fun _ _ _ h => h) (Or.inl ⟨by rfl, ?_⟩) ?_
    rotate_left
    · (intro W hSw; obtain ⟨s1, s2⟩ := hSw; go_simp; try with_reducible rfl)
    try simp only [Act.put, List.setIfInBounds_toArray, List.set_cons_zero, List.set_cons_succ]
    refine held_take (HS3.out) (i := 14) (v := ?_) rfl (by kernel_rfl) (by kernel_rfl) (by kernel_rfl) (fun _ _ _ h => h) (Or.inl ⟨by rfl, ?_⟩) ?_
    rotate_left
    · (intro W hSw; obtain ⟨s1, s2⟩ := hSw; go_simp; try with_reducible rfl)
    try simp only [Act.put, List.setIfInBounds_toArray, List.set_cons_zero, List.set_cons_succ]
    refine held_take (HS3.out) (i := 15) (v := ?_) rfl (by kernel_rfl) (by kernel_rfl) (by kernel_rfl) (fun _ _ _ h => h) (Or.inl ⟨by rfl, ?_⟩) ?_
    rotate_left
    · (intro W hSw; obtain ⟨s1, s2⟩ := hSw; go_simp; try with_reducible rfl)
    try simp only [Act.put, List.setIfInBounds_toArray, List.set_cons_zero, List.set_cons_succ]
    refine held_call (i := 16) (by kernel_rfl) rfl (fun K hK => ?_)
    go_simp
    (go_at_call 29; (with_reducible refine (kept_any y.A y.c g0 cap y.b w4 (HY.out.rb.below HD4.out.bl) (Rd.of_own O4.out) hcap hbl).mono ?_); rintro e w5 ⟨rfl, rfl⟩)
    refine hK.out _ _ (HS3.out) ?_
    clear hK K
    try simp only [Act.put, List.setIfInBounds_toArray, List.set_cons_zero, List.set_cons_succ]
    refine held_take (HS3.out) (i := 17) (v := ?_) rfl (by kernel_rfl) (by kernel_rfl) (by kernel_rfl) (fun _ _ _ h => h) (Or.inl ⟨by rfl, ?_⟩) ?_
    rotate_left
    · (intro W hSw; obtain ⟨s1, s2⟩ := hSw; go_simp; try with_reducible rfl)
    try simp only [Act.put, List.setIfInBounds_toArray, List.set_cons_zero, List.set_cons_succ]
    refine held_take (HS3.out) (i := 18) (v := ?_) rfl (by kernel_rfl) (by kernel_rfl) (by kernel_rfl) (fun _ _ _ h => h) (Or.inl ⟨by rfl, ?_⟩) ?_
    rotate_left
    · (intro W hSw; obtain ⟨s1, s2⟩ := hSw; go_simp; try with_reducible rfl)
    try simp only [Act.put, List.setIfInBounds_toArray, List.set_cons_zero, List.set_cons_succ]
    refine wpAnyH_done (by kernel_rfl) ?_ _
    go_wp2_with (first
      | (go_at_call 26; (with_reducible refine (spoil_any (some ⟨g0, 0, none⟩) y.b.length cap (by8 y.b) _ (own_pre8 (m := [167]) O4.out) hbl).mono ?_); rintro e w6 ⟨rfl, ht⟩; have HD6 := Lib.hid (HD4.out.turn ht (fun b hb => ((Blo.some_iff _ _).1 hb).symm) (fun b hb => Nat.le_trans HD.out.bl.size (own_ge O2.out b hb))); have K6 := Lib.hid (K4.out.turn ht (fun b hb => Nat.le_trans zK2 (own_ge O2.out b hb))); clear ht))
    go_ret
    exact ⟨rfl, HD6.out.forget, K6.out⟩
theorem chrow_cell {w : World} {B0 : Nat} {A : Option Addr} {k : Nat} {l : List ChS} (h : w.ownsRow B0 33 2 (.slice A l.length k) l.length (chCells l)) (i : Nat) (hi : i < l.length) : ∃ g, A = some ⟨g, 0, none⟩ ∧ ∀ j u, l[i].cells[j]? = some u → w.cell? ⟨g, 0 + (i * 2 + j), none⟩ = some u := by
  rcases h.2 with ⟨_, e⟩ | ⟨g, cap, cur, hv, hb, hh, _, _, _, ht⟩
  · omega
  · injection hv with e1 e2 e3
    subst e1
    refine ⟨g, rfl, fun j u hu => ?_⟩
    have hc := chCells_at l i j hi u hu
    rw [Nat.zero_add, cell_of_row w g (i * 2 + j) cur 33 (0, 0) hh]
    rw [← ht] at hc
    rw [List.getElem?_take] at hc
    split at hc
    · simpa using hc
    · cases hc
theorem LentAt.trq {w w' : World} {B0 : Nat} {A : Option Addr} {k : Nat} {l : List ChS} (h : LentAt w B0 A k l) {r q c : Nat} {L : List (List Int)} {M : Nat → Prop} (ht : Tr (fun b => b = q) w w') (hr : IsRef w r L q c M) : LentAt w' B0 A k l := by
  obtain ⟨vs, h3, _⟩ := hr.row
  exact ⟨own_tr h.row ht (fun b hb e => own_two_ne h3 h.row (by decide) ((Blo.some_iff _ _).2 e.symm) hb), fun y hy => own_tr (h.data y hy) ht (fun b hb e => own_two_ne h3 (h.data y hy) (by decide) ((Blo.some_iff _ _).2 e.symm) hb), h.apart, h.ok⟩
set_option maxHeartbeats 3200000 in
theorem step_change {w W : World} {g r : Nat} {L : List (List Int)} (h : Duo w W NoB g r L L) (y : OpA) (hy : y.In w) (hll : y.l.length ≤ 4398046510976) (kd : Int) (hk : kd = 3 ∨ kd = 4) :
    Calls Try.prog 35 #[.pointer (some ⟨g, 0, none⟩), .pointer (some ⟨r, 0, none⟩), .agg #[.int .i64 kd, .int .i64 y.lba, .int .i64 y.n, .slice y.A y.b.length y.c, .slice y.B y.l.length y.d]] W fun e W' => e = .returned (.bool true) ∧ Duo w W' NoB g r (changeL L y.l) (changeL L y.l) ∧ Kp W W' := by
  have HY := Lib.hid hy
  clear hy
  have hbk : Blk (W.alloc (.cells #[.int .i64 kd, .int .i64 y.lba, .int .i64 y.n, .slice y.A y.b.length y.c, .slice y.B y.l.length y.d] 62)) W.heap.size 62 #[.int .i64 kd, .int .i64 y.lba, .int .i64 y.n, .slice y.A y.b.length y.c, .slice y.B y.l.length y.d] := Blk.new _ _ _
  have HBK := Lib.hid hbk
  have HD := Lib.hid (h.below (bl_alloc W (.cells #[.int .i64 kd, .int .i64 y.lba, .int .i64 y.n, .slice y.A y.b.length y.c, .slice y.B y.l.length y.d] 62)))
  have KP := Lib.hid (Kp.below (bl_alloc W (.cells #[.int .i64 kd, .int .i64 y.lba, .int .i64 y.n, .slice y.A y.b.length y.c, .slice y.B y.l.length y.d] 62)))
  have p0 := hbk.cell 0
  have p4 := hbk.cell 4
  clear hbk h
  have HLENT := Lib.hid (lentch_any y.B y.d y.l (W.alloc (.cells #[.int .i64 kd, .int .i64 y.lba, .int .i64 y.n, .slice y.A y.b.length y.c, .slice y.B y.l.length y.d] 62)) hll (HY.out.rl.below HD.out.bl))
  obtain ⟨er, her⟩ : ∃ er, changeE L.length y.l = er := ⟨_, rfl⟩
  have eE : (er == er) = true := by simp
  rcases hk with rfl | rfl
  all_goals
    go_enter Try.func35, Try.ntmps35
    go_wp2_with (first
      | (go_at_call 61; (with_reducible refine (HLENT.out).mono ?_); rintro e w2 ⟨A', k', l', rfl, hkd, ho, hb⟩; rw [World.size_alloc] at ho; have O2 := Lib.hid ho; have HKD := Lib.hid hkd; have HB2 := Lib.hid hb; have K2 := Lib.hid (KP.out.trans (Kp.below hb)); have HD2 := Lib.hid (HD.out.avoid hb (Z' := fun x => W.heap.size + 1 ≤ x ∧ x < w2.heap.size) (fun x e => by simpa using e)); have HK2 := Lib.hid (HBK.out.keep hb); have q4 := HK2.out.cell 4; simp at q4; have HL' := Lib.hid (show l'.length = y.l.length from by have := congrArg List.length hkd; simpa using this); clear ho hb hkd))
    have HS := Lib.hid (show w2.drew.cell? ⟨W.heap.size, 4, none⟩ = some (.slice y.B y.l.length y.d) ∧ w2.drew.cell? ⟨W.heap.size, 4, none⟩ = some (.slice y.B y.l.length y.d) from ⟨q4, q4⟩)
    clear q4 p0 p4
    obtain ⟨B, D, M, hI, hnc, hret⟩ := (HD2.out.below (bl_drew w2)).img
    have hwr := change_any hI A' k' l' (by have := HL'.out; omega) (O2.out.chs.below (bl_drew w2))
    rw [(change_kd HKD.out L).1, (change_kd HKD.out L).2, her] at hwr
    have HWR := Lib.hid hwr
    have HNC := Lib.hid hnc
    have HRET := Lib.hid hret
    clear hwr hnc hret hI
    refine held_start (S := fun W' => W'.cell? ⟨W.heap.size, 4, none⟩ = some (.slice y.B y.l.length y.d) ∧ W'.cell? ⟨W.heap.size, 4, none⟩ = some (.slice y.B y.l.length y.d)) (by kernel_rfl) ?_
    refine held_take (HS.out) (i := 0) (v := ?_) rfl (by kernel_rfl) (by kernel_rfl) (by kernel_rfl) (fun _ _ _ h => h) (Or.inl ⟨by rfl, ?_⟩) ?_
    rotate_left
    · (intro W hSw; obtain ⟨s1, s2⟩ := hSw; go_simp; try with_reducible rfl)
    try simp only [Act.put, List.setIfInBounds_toArray, List.set_cons_zero, List.set_cons_succ]
    refine held_take (HS.out) (i := 1) (v := ?_) rfl (by kernel_rfl) (by kernel_rfl) (by kernel_rfl) (fun _ _ _ h => h) (Or.inl ⟨by rfl, ?_⟩) ?_
    rotate_left
    · (intro W hSw; obtain ⟨s1, s2⟩ := hSw; go_simp; try with_reducible rfl)
    try simp only [Act.put, List.setIfInBounds_toArray, List.set_cons_zero, List.set_cons_succ]
    refine held_take (HS.out) (i := 3) (v := ?_) rfl (by kernel_rfl) (by kernel_rfl) (by kernel_rfl) (fun _ _ _ h => h) (Or.inl ⟨by rfl, ?_⟩) ?_
    rotate_left
    · (intro W hSw; obtain ⟨s1, s2⟩ := hSw; go_simp; try with_reducible rfl)
    try simp only [Act.put, List.setIfInBounds_toArray, List.set_cons_zero, List.set_cons_succ]
    refine held_take (HS.out) (i := 4) (v := ?_) rfl (by kernel_rfl) (by kernel_rfl) (by kernel_rfl) (fun _ _ _ h => h) (Or.inl ⟨by rfl, ?_⟩) ?_
    rotate_left
    · (intro W hSw; obtain ⟨s1, s2⟩ := hSw; go_simp; try with_reducible rfl)
    try simp only [Act.put, List.setIfInBounds_toArray, List.set_cons_zero, List.set_cons_succ]
    refine held_take (HS.out) (i := 5) (v := ?_) rfl (by kernel_rfl) (by kernel_rfl) (by kernel_rfl) (fun _ _ _ h => h) (Or.inl ⟨by rfl, ?_⟩) ?_
    rotate_left
    · (intro W hSw; obtain ⟨s1, s2⟩ := hSw; go_simp; try with_reducible rfl)
    try simp only [Act.put, List.setIfInBounds_toArray, List.set_cons_zero, List.set_cons_succ]
    refine held_call (i := 2) (by kernel_rfl) rfl (fun K hK => ?_)
    go_simp
    (go_at_call 14; (with_reducible refine (HWR.out).mono ?_); rintro e w3 hr2; obtain ⟨rfl, hd2, ht2⟩ := HRET.out _ _ _ _ hr2; have HS2 := Lib.hid (show w3.cell? ⟨W.heap.size, 4, none⟩ = some (.slice y.B y.l.length y.d) ∧ w3.cell? ⟨W.heap.size, 4, none⟩ = some (.slice y.B y.l.length y.d) from ⟨cell_trc HS.out.1 ht2 HNC.out, cell_trc HS.out.2 ht2 HNC.out⟩); have HK3 := Lib.hid (HK2.out.drew.trc ht2 HNC.out); have O3 := Lib.hid (O2.out.trc (Tr.trans (Tr.of_below (bl_drew w2)) ht2 (fun _ _ h => h)) HNC.out); have HD3 := Lib.hid hd2; have K3 := Lib.hid ((K2.out.trans (Kp.below (bl_drew w2))).trans (Kp.img ht2 HNC.out)); clear hd2 ht2 hr2)
    refine hK.out _ _ (HS2.out) ?_
    clear hK K
    try simp only [Act.put, List.setIfInBounds_toArray, List.set_cons_zero, List.set_cons_succ]
    refine held_call (i := 6) (by kernel_rfl) rfl (fun K hK => ?_)
    go_simp
    (obtain ⟨q, c, M2, hR, hq, hret2⟩ := HD3.out.ref; have hwr2 := rchange_any (w0 := w) hR y.B y.d y.l (by omega) HY.out.rl HD3.out.bl hq; rw [her] at hwr2; have HWR2 := Lib.hid hwr2; have HRET2 := Lib.hid hret2; have HR2 := Lib.hid hR; clear hwr2 hret2 hR; go_at_call 62; (with_reducible refine (HWR2.out).mono ?_); rintro e w4 hr3; obtain ⟨rfl, hd3, ht3⟩ := HRET2.out _ _ _ _ hr3; have HS3 := Lib.hid (show w4.cell? ⟨W.heap.size, 4, none⟩ = some (.slice y.B y.l.length y.d) ∧ w4.cell? ⟨W.heap.size, 4, none⟩ = some (.slice y.B y.l.length y.d) from (by have hne := HR2.out.q_ne HK3.out (by decide); exact ⟨(ht3.cell HK3.out.lt hne).trans HS2.out.1, (ht3.cell HK3.out.lt hne).trans HS2.out.2⟩)); have O4 := Lib.hid (O3.out.trq ht3 HR2.out); have HD4 := Lib.hid hd3; have K4 := Lib.hid (K3.out.trans (Kp.ref ht3 HR2.out)); clear hd3 ht3 hr3)
    refine hK.out _ _ (HS3.out) ?_
    clear hK K
    try simp only [Act.put, List.setIfInBounds_toArray, List.set_cons_zero, List.set_cons_succ]
    refine held_take (HS3.out) (i := 7) (v := ?_) rfl (by kernel_rfl) (by kernel_rfl) (by kernel_rfl) (fun _ _ _ h => h) (Or.inl ⟨by rfl, ?_⟩) ?_
    rotate_left
    · (intro W hSw; obtain ⟨s1, s2⟩ := hSw; go_simp; try with_reducible rfl)
    try simp only [Act.put, List.setIfInBounds_toArray, List.set_cons_zero, List.set_cons_succ]
    refine held_take (HS3.out) (i := 8) (v := ?_) rfl (by kernel_rfl) (by kernel_rfl) (by kernel_rfl) (fun _ _ _ h => h) (Or.inl ⟨by rfl, ?_⟩) ?_
    rotate_left
    · (intro W hSw; obtain ⟨s1, s2⟩ := hSw; go_simp; try with_reducible rfl)
    try simp only [Act.put, List.setIfInBounds_toArray, List.set_cons_zero, List.set_cons_succ]
    refine held_take (HS3.out) (i := 9) (v := ?_) rfl (by kernel_rfl) (by kernel_rfl) (by kernel_rfl) (fun _ _ _ h => h) (Or.inl ⟨by rfl, ?_⟩) ?_
    rotate_left
    · (intro W hSw; obtain ⟨s1, s2⟩ := hSw; go_simp; try with_reducible rfl)
    try simp only [Act.put, List.setIfInBounds_toArray, List.set_cons_zero, List.set_cons_succ]
    refine held_take (HS3.out) (i := 10) (v := ?_) rfl (by kernel_rfl) (by kernel_rfl) (by kernel_rfl) (fun _ _ _ h => h) (Or.inl ⟨by rfl, ?_⟩) ?_
    rotate_left
    · (intro W hSw; obtain ⟨s1, s2⟩ := hSw; go_simp; try with_reducible rfl)
    try simp only [Act.put, List.setIfInBounds_toArray, List.set_cons_zero, List.set_cons_succ]
    refine held_take (HS3.out) (i := 11) (v := ?_) rfl (by kernel_rfl) (by kernel_rfl) (by kernel_rfl) (fun _ _ _ h => h) (Or.inl ⟨by rfl, ?_⟩) ?_
    rotate_left
    · (intro W hSw; obtain ⟨s1, s2⟩ := hSw; go_simp; try with_reducible rfl)
    try simp only [Act.put, List.setIfInBounds_toArray, List.set_cons_zero, List.set_cons_succ]
    refine held_call (i := 12) (by kernel_rfl) rfl (fun K hK => ?_)
    go_simp
    (go_at_call 25; (with_reducible refine (samech_true A' k' l' y.B y.d y.l w4 (by have := HL'.out; omega) O4.out.chs (HY.out.rl.below HD4.out.bl) HKD.out).mono ?_); rintro e w5 ⟨rfl, hb⟩; have HS5 := Lib.hid (show w5.cell? ⟨W.heap.size, 4, none⟩ = some (.slice y.B y.l.length y.d) ∧ w5.cell? ⟨W.heap.size, 4, none⟩ = some (.slice y.B y.l.length y.d) from ⟨(hb.cell (cell_block_lt HS3.out.1)).trans HS3.out.1, (hb.cell (cell_block_lt HS3.out.1)).trans HS3.out.1⟩); have O5 := Lib.hid (O4.out.tr (Tr.of_below (F := NoB) hb) (fun _ _ _ h => h)); have HD5 := Lib.hid (HD4.out.below hb); have K5 := Lib.hid (K4.out.trans (Kp.below hb)); clear hb)
    refine hK.out _ _ (HS5.out) ?_
    clear hK K
    try simp only [Act.put, List.setIfInBounds_toArray, List.set_cons_zero, List.set_cons_succ]
    refine held_take (HS5.out) (i := 13) (v := ?_) rfl (by kernel_rfl) (by kernel_rfl) (by kernel_rfl) (fun _ _ _ h => h) (Or.inl ⟨by rfl, ?_⟩) ?_
    rotate_left
    · (intro W hSw; obtain ⟨s1, s2⟩ := hSw; go_simp; try with_reducible rfl)
    try simp only [Act.put, List.setIfInBounds_toArray, List.set_cons_zero, List.set_cons_succ]
    refine held_take (HS5.out) (i := 14) (v := ?_) rfl (by kernel_rfl) (by kernel_rfl) (by kernel_rfl) (fun _ _ _ h => h) (Or.inl ⟨by rfl, ?_⟩) ?_
    rotate_left
    · (intro W hSw; obtain ⟨s1, s2⟩ := hSw; go_simp; try with_reducible rfl)
    try simp only [Act.put, List.setIfInBounds_toArray, List.set_cons_zero, List.set_cons_succ]
    refine wpAnyH_done (by kernel_rfl) ?_ _
    go_wp2_with fail
    have hlb' : l'.length ≤ 4398046510976 := by have := HL'.out; omega
    have hwW : w.heap.size ≤ W.heap.size + 1 := by have := HD.out.bl.size; simpa using this
    go_loopw [11] (fun v Wx => ∃ j : Nat, j ≤ l'.length ∧ v = .int .i64 (j : Int) ∧ Duo w Wx (fun x => W.heap.size + 1 ≤ x ∧ x < w2.heap.size) g r (changeL L y.l) (changeL L y.l) ∧ Wx.ownsRow (W.heap.size + 1) 33 2 (.slice A' l'.length k') l'.length (chCells l') ∧ (∀ i (h : i < l'.length), j ≤ i → Wx.ownsRow (W.heap.size + 1) 5 1 (.slice l'[i].A l'[i].d.length l'[i].c) l'[i].d.length (by8 l'[i].d)) ∧ Kp W Wx) (fun v _ => l'.length - (RowKit.intOf v).toNat)
    case atStart => exact ⟨0, by omega, rfl, HD5.out, O5.out.row, fun i h _ => O5.out.data _ (List.getElem_mem h), K5.out⟩
    case round =>
      obtain ⟨j, hj, rfl, hd, hrow, hdat, hkp⟩ := hrel
      have KW := Lib.hid hkp
      clear hkp
      by_cases hlt : j < l'.length
      · obtain ⟨g', hg', hc⟩ := chrow_cell hrow j hlt
        have x1 := hc 1 _ rfl
        have hdj := hdat j hlt (Nat.le_refl _)
        have h2j := O2.out.data _ (List.getElem_mem hlt)
        have hok := (O2.out.ok _ (List.getElem_mem hlt)).2.2
        have hap := O2.out.apart
        have HLT := Lib.hid hlt
        have HROW := Lib.hid hrow
        have HDAT := Lib.hid hdat
        have HDU := Lib.hid hd
        have HDJ := Lib.hid hdj
        have H2J := Lib.hid h2j
        have HAP := Lib.hid (fun i (h : i < l'.length) (hi : j + 1 ≤ i) => List.pairwise_iff_getElem.1 hap j i hlt h (by omega))
        subst hg'
        clear hrow hdat hd hdj h2j hap hc
        generalize l'[j] = yj at x1 hok HDJ H2J HAP
        rw [← Nat.add_assoc] at x1
        simp only [Nat.zero_add] at x1
        go_wp2_with (first
          | (go_at_call 26; (with_reducible refine (spoil_any yj.A yj.d.length yj.c (by8 yj.d) wr (ownsRow_base HDJ.out (Nat.zero_le _)) hok).mono ?_); rintro e w6 ⟨rfl, ht⟩; have HT6 := Lib.hid ht; clear ht))
        refine ⟨⟨j + 1, HLT.out, by go_num, HDU.out.turn HT6.out (fun b hb => ⟨by have := own_ge H2J.out b hb; omega, own_lt H2J.out b hb⟩) (fun b hb => by have := own_ge H2J.out b hb; omega), own_tr HROW.out HT6.out (fun b hb hb2 => own_two_ne HROW.out HDJ.out (by decide) hb hb2), fun i h hi => own_tr (HDAT.out i h (by omega)) HT6.out (fun b hb hb2 => HAP.out i h hi b hb2 hb), KW.out.turn HT6.out (fun b hb => by have := own_ge H2J.out b hb; omega)⟩, by simp [RowKit.intOf]; have := HLT.out; omega⟩
      · have HDU := Lib.hid hd
        clear hd hrow hdat
        go_wp2_with fail
        go_ret
        exact ⟨rfl, HDU.out.forget, KW.out⟩
set_option maxHeartbeats 1600000 in
theorem step_else {w W : World} {g r : Nat} {L : List (List Int)} (h : Duo w W NoB g r L L) (y : OpA) (kd : Int) (hk : kd ≠ 0 ∧ kd ≠ 1 ∧ kd ≠ 2 ∧ kd ≠ 3 ∧ kd ≠ 4) :
    Calls Try.prog 35 #[.pointer (some ⟨g, 0, none⟩), .pointer (some ⟨r, 0, none⟩), .agg #[.int .i64 kd, .int .i64 y.lba, .int .i64 y.n, .slice y.A y.b.length y.c, .slice y.B y.l.length y.d]] W fun e W' => e = .returned (.bool true) ∧ Duo w W' NoB g r L L ∧ Kp W W' := by
  have HD := Lib.hid (h.below (bl_alloc W (.cells #[.int .i64 kd, .int .i64 y.lba, .int .i64 y.n, .slice y.A y.b.length y.c, .slice y.B y.l.length y.d] 62)))
  have KP := Lib.hid (Kp.below (bl_alloc W (.cells #[.int .i64 kd, .int .i64 y.lba, .int .i64 y.n, .slice y.A y.b.length y.c, .slice y.B y.l.length y.d] 62)))
  have t0 : (kd == 0) = false := by simpa using hk.1
  have t1 : (kd == 1) = false := by simpa using hk.2.1
  have t2 : (kd == 2) = false := by simpa using hk.2.2.1
  have t3 : (kd == 3) = false := by simpa using hk.2.2.2.1
  have t4 : (kd == 4) = false := by simpa using hk.2.2.2.2
  clear hk h
  go_enter Try.func35, Try.ntmps35
  go_wp2_with fail
  go_ret
  exact ⟨rfl, HD.out, KP.out⟩
theorem step_any {w W : World} {g r : Nat} {L : List (List Int)} (h : Duo w W NoB g r L L) (y : OpA) (hy : y.In w) :
    Calls Try.prog 35 #[.pointer (some ⟨g, 0, none⟩), .pointer (some ⟨r, 0, none⟩), .agg #[.int .i64 y.kind, .int .i64 y.lba, .int .i64 y.n, .slice y.A y.b.length y.c, .slice y.B y.l.length y.d]] W fun e W' => e = .returned (.bool true) ∧ Duo w W' NoB g r (stepL L y) (stepL L y) ∧ Kp W W' := by
  unfold stepL
  by_cases h1 : y.kind = 0 ∨ y.kind = 1
  · rw [if_pos h1]; exact step_write h y hy y.kind h1
  · rw [if_neg h1]
    by_cases h2 : y.kind = 2
    · rw [if_pos h2]; exact step_unmap h y hy h2
    · rw [if_neg h2]
      by_cases h3 : y.kind = 3 ∨ y.kind = 4
      · rw [if_pos h3]; exact step_change h y hy hy.ll y.kind h3
      · rw [if_neg h3]; exact step_else h y y.kind (by omega)
end Go.Proofs.Ytdddbpnllhnfdaa
