/- The walk of DiskSafe. -/
import Derived.Test.YtadoclcabkcmeaaDiskRow
import Derived.Test.YtadoclcabkcmeaaSafePlain
import Derived.Test.YtadoclcabkcmeaaExt
import Derived.IntWalk
namespace Go.Proofs.Ytadoclcabkcmeaa
set_option linter.unusedVariables false
open Go.RowKit

theorem infoSl : (Try.prog.info? 29).map (fun i => (i.zero, i.size, i.bytes)) = some (some (.slice none 0 0), 1, 24) := by kernel_rfl
theorem ESl : AppTy Try.prog 34 29 1 24 := AppTy.mk' Try.underlying34 infoSl rfl (by omega)
/-- All that a script's call reads lies below. -/
theorem OpArg.In.noS {w : World} {y : OpArg} {M : Nat → Prop} (h : y.In w) (hM : ∀ b, M b → w.heap.size ≤ b) : (y.o.b ≠ [] → ∀ b, Blo y.A b → ¬ M b) ∧ (y.o.l ≠ [] → ∀ b, Blo y.B b → ¬ M b) := by
  refine ⟨fun hne b hb hm => ?_, fun hne b hb hm => ?_⟩
  · have h1 := h.rb.blo_lt (fun e => hne (by simpa [by8] using e)) b hb
    have h2 := hM b hm
    omega
  · have h1 := h.rl.blo_lt (fun e => hne (by simpa [byI] using e)) b hb
    have h2 := hM b hm
    omega
theorem crash_none_s {w : World} {g : Nat} {D : DS} {M R : Nat → Prop} (hd : IsDisk w g D M R) :
    Calls Try.prog 9 #[.pointer (some ⟨g, 0, none⟩), .slice none 0 0] w (RetW w g M R (newD D.safe) 0) := by
  have := crash_n none 0 0 [] rfl hd Rd.nil (by omega) (fun h => absurd rfl h)
  rwa [crash_none] at this
/-- Bytes of a known length in new memory. -/
def RetS (w : World) (l : List Int) (m : Nat) (e : Ending) (w' : World) : Prop := ∃ b c, e = .returned (.slice (some ⟨b, 0, none⟩) m c) ∧ m ≤ c ∧ c ≤ maxLen ∧ w.heap.size ≤ b ∧ b < w'.heap.size ∧ Rd w' (some ⟨b, 0, none⟩) (by8 l) ∧ Below w.heap.size w w'
theorem retS_of {w : World} {l : List Int} {m : Nat} (hl : l.length = m) (h0 : 0 < m) {e : Ending} {w' : World} (h : ∃ A' c', e = .returned (.slice A' l.length c') ∧ l.length ≤ c' ∧ w'.ownsRow w.heap.size 5 1 (.slice A' l.length c') l.length (by8 l) ∧ Below w.heap.size w w') : RetS w l m e w' := by
  subst hl
  obtain ⟨A', c', he, hc, ho, hb⟩ := h
  obtain ⟨b, rfl⟩ := ownsRow_addr ho h0
  obtain ⟨A2, c2, hv, _, _, hm⟩ := ownsRow_slice ho
  injection hv with _ _ hv
  subst hv
  exact ⟨b, c', he, hc, hm, own_ge ho b rfl, own_lt ho b rfl, Rd.of_own (ownsRow_base ho (Nat.zero_le _)), hb⟩
theorem image_s {w : World} {g : Nat} {D : DS} {M R : Nat → Prop} (m : Nat) (hd : IsDisk w g D M R) (hl : D.safe.length = m) (h0 : 0 < m) : Calls Try.prog 10 #[.pointer (some ⟨g, 0, none⟩)] w (RetS w D.safe m) :=
  (image_any hd).mono fun _ _ h => retS_of hl h0 h
theorem now_s {w : World} {g : Nat} {D : DS} {M R : Nat → Prop} (m : Nat) (hd : IsDisk w g D M R) (hl : D.now.length = m) (h0 : 0 < m) : Calls Try.prog 11 #[.pointer (some ⟨g, 0, none⟩)] w (RetS w D.now m) :=
  (now_any hd).mono fun _ _ h => retS_of hl h0 h
theorem len_safe {D : DS} (ho : D.Ok) (h : D.n = 8) : D.safe.length = 2048 := by rw [ho.len, h]
theorem len_now {D : DS} (ho : D.Ok) (h : D.n = 8) : D.now.length = 2048 := by rw [ho.lnow, h]

/-- Behind the first loop. -/
structure SafeA (w W : World) (g : Nat) (D : DS) (M R : Nat → Prop) : Prop where
  d : IsDisk W g D M R
  n : D.n = 8
  m : ∀ b, M b → w.heap.size ≤ b
  b : Below w.heap.size w W
/-- In the second loop. -/
structure SafeB (w W : World) (g : Nat) (D : DS) (M R : Nat → Prop) (k : Nat) (sts : List (List Int)) (A : Option Addr) (c : Nat) (cells : List Value) : Prop where
  a : SafeA w W g D M R
  few : D.gs.length ≤ k
  cnt : sts.length ≤ k + 1
  pos : 1 ≤ sts.length
  s0 : D.safe ∈ sts
  seen : Seen D sts
  row : W.ownsRow w.heap.size 29 1 (.slice A sts.length c) sts.length cells
  no : ∀ b, Blo A b → ¬ M b
  noR : ∀ b, Blo A b → ¬ R b
  at_ : StsAt W (fun b => w.heap.size ≤ b ∧ b < W.heap.size ∧ ¬ M b ∧ ¬ Blo A b) 2048 sts cells

theorem SafeB.skip {w W : World} {g : Nat} {D : DS} {M R : Nat → Prop} {k : Nat} {sts : List (List Int)} {A : Option Addr} {c : Nat} {cells : List Value} (h : SafeB w W g D M R k sts A c cells) : SafeB w W g D M R (k + 1) sts A c cells :=
  ⟨h.a, by have := h.few; omega, by have := h.cnt; omega, h.pos, h.s0, h.seen, h.row, h.no, h.noR, h.at_⟩
theorem SafeB.start {w w6 w7 : World} {g : Nat} {D : DS} {M R : Nat → Prop} {A7 : Option Addr} {c7 b6 c6 : Nat} {o : Obj} (ha : SafeA w w6 g (newD D.safe) M R) (hc6 : 2048 ≤ c6) (hm6 : c6 ≤ maxLen) (hlo6 : w.heap.size ≤ b6) (hnm : ¬ M b6) (hr6 : Rd w6 (some ⟨b6, 0, none⟩) (by8 D.safe)) (hlt6 : b6 < w6.heap.size)
    (ho7 : w7.ownsRow w.heap.size 29 1 (.slice A7 1 c7) 1 [.slice (some ⟨b6, 0, none⟩) 2048 c6]) (ht7 : Tr (Blo none) (w6.alloc o) w7) (hn7 : NewAt none A7 (w6.alloc o).heap.size) :
    SafeB w w7 g (newD D.safe) M R 0 [D.safe] A7 c7 [.slice (some ⟨b6, 0, none⟩) 2048 c6] := by
  have hb : Below w6.heap.size w6 w7 := bl_chain (bl_alloc _ o) (ht7.below (fun b _ => Blo.none b))
  have hz := hb.size
  have hblo : ∀ b, Blo A7 b → w6.heap.size < b := fun b hb => by
    rcases hn7.blo hb with h | h
    · exact (Blo.none b h).elim
    · simp at h; omega
  refine ⟨⟨ha.d.below hb, ha.n, ha.m, bl_chain ha.b hb⟩, Nat.le_refl 0, by simp, by simp, by simp [newD], (fun x hx => by cases hx), ho7, fun b x hM => ?_, fun b x hR => ?_, ?_⟩
  · have h1 := ha.d.mlt b hM
    have h2 := hblo b x
    omega
  · have h1 := ha.d.rlt b hR
    have h2 := hblo b x
    omega
  · exact ⟨b6, c6, [], rfl, len_safe (D := newD D.safe) ha.d.ok ha.n, ha.d.ok.bs, hc6, hm6, hr6.below hb, ⟨hlo6, by omega, hnm, fun x => by have := hblo b6 x; omega⟩, rfl⟩
theorem SafeB.next {w W w4 w5 w6 : World} {g : Nat} {D D' : DS} {M R M4 R4 : Nat → Prop} {k : Nat} {sts : List (List Int)} {A A6 : Option Addr} {c c6 b5 c5 : Nat} {cells : List Value} {o : Obj} (h : SafeB w W g D M R k sts A c cells)
    (a : Int) (bs : List Int) (hD : D' = writeD D a bs) (hd4 : IsDisk w4 g D' M4 R4) (hm4 : ∀ b, M4 b → M b ∨ W.heap.size ≤ b) (hr4 : ∀ b, R4 b → R b ∨ W.heap.size ≤ b) (ht4 : Tr M W w4)
    (hc5 : 2048 ≤ c5) (hm5 : c5 ≤ maxLen) (hlo5 : w4.heap.size ≤ b5) (hlt5 : b5 < w5.heap.size) (hr5 : Rd w5 (some ⟨b5, 0, none⟩) (by8 D'.now)) (hb5 : Below w4.heap.size w4 w5)
    (ho6 : w6.ownsRow w.heap.size 29 1 (.slice A6 (sts.length + 1) c6) (sts.length + 1) (cells ++ [.slice (some ⟨b5, 0, none⟩) 2048 c5])) (ht6 : Tr (Blo A) (w5.alloc o) w6) (hn6 : NewAt A A6 (w5.alloc o).heap.size) :
    SafeB w w6 g D' M4 R4 (k + 1) (sts ++ [D'.now]) A6 c6 (cells ++ [.slice (some ⟨b5, 0, none⟩) 2048 c5]) := by
  have z1 := h.a.b.size
  have z2 := ht4.size
  have z3 := hb5.size
  have z4 := ht6.size
  simp at z4
  have hb : Below w4.heap.size w4 (w5.alloc o) := bl_chain hb5 (bl_alloc _ _)
  have hA : ∀ b, Blo A b → b < W.heap.size := own_lt h.row
  have noM4 : ∀ b, Blo A b → ¬ M4 b := fun b hb hM => by
    have := hA b hb
    rcases hm4 b hM with x | x
    · exact h.no b hb x
    · omega
  have noR4 : ∀ b, Blo A b → ¬ R4 b := fun b hb hR => by
    have := hA b hb
    rcases hr4 b hR with x | x
    · exact h.noR b hb x
    · omega
  have hn' : D'.n = 8 := by rw [hD, n_write]; exact h.a.n
  have hAg := own_ge h.row
  refine ⟨⟨(hd4.below hb).tr ht6 (fun b hM x => noM4 b x hM) (fun b hR x => noR4 b x hR), hn', fun b x => ?_, ?_⟩, ?_, ?_, ?_, ?_, ?_, ?_, ?_, ?_, ?_⟩
  · rcases hm4 b x with y | y
    · exact h.a.m b y
    · omega
  · exact bl_tr (bl_chain (bl_tr h.a.b ht4 (fun b hb => h.a.m b hb)) hb) ht6 (fun b hb => hAg b hb)
  · rw [hD]; exact few_write h.few a bs
  · rw [List.length_append]; have := h.cnt; simp; omega
  · rw [List.length_append]; simp
  · have := h.s0; rw [hD, safe_write]; exact List.mem_append_left _ this
  · rw [hD]; exact seen_write h.a.d.ok h.seen a bs
  · rw [List.length_append]; exact ho6
  · intro b hb' hM
    rcases hn6.blo hb' with x | x
    · exact noM4 b x hM
    · have := hd4.mlt b hM; simp at x; omega
  · intro b hb' hR
    rcases hn6.blo hb' with x | x
    · exact noR4 b x hR
    · have := hd4.rlt b hR; simp at x; omega
  · have a4 := h.at_.tr (N' := fun b => w.heap.size ≤ b ∧ b < W.heap.size ∧ ¬ M4 b ∧ ¬ Blo A b) ht4 (fun b x => x.2.2.1) (fun b x => ⟨x.1, x.2.1, fun hM => by rcases hm4 b hM with y | y; exact x.2.2.1 y; have := x.2.1; omega, x.2.2.2⟩)
    have a5 := a4.tr (N' := fun b => w.heap.size ≤ b ∧ b < W.heap.size ∧ ¬ M4 b ∧ ¬ Blo A b) (Tr.of_below (F := NoB) hb) (fun _ _ => id) (fun b x => x)
    have a6 := a5.tr (N' := fun b => w.heap.size ≤ b ∧ b < w6.heap.size ∧ ¬ M4 b ∧ ¬ Blo A6 b) ht6 (fun b x => x.2.2.2) (fun b x => ⟨x.1, by have := x.2.1; omega, x.2.2.1, fun y => by
      rcases hn6.blo y with q | q
      · exact x.2.2.2 q
      · have := x.2.1; simp at q; omega⟩)
    refine a6.snoc (len_now hd4.ok hn') hd4.ok.bn hc5 hm5 ((hr5.below (bl_alloc _ o)).tr ht6 (fun ad e x => ?_)) ⟨by omega, by omega, fun hM => by have := hd4.mlt b5 hM; omega, fun x => ?_⟩
    · injection e with e
      subst e
      have := hA _ x
      simp at this
      omega
    · rcases hn6.blo x with q | q
      · have := hA _ q; omega
      · simp at q; omega

/-- Ahead of the last loops. -/
structure SafeC (w W : World) (IS : List Int) (bk c : Nat) (sts : List (List Int)) (A : Option Addr) (c8 : Nat) (cells : List Value) : Prop where
  b : Below w.heap.size w W
  len : IS.length = 2048
  bs : isB IS
  cap : 2048 ≤ c
  most : c ≤ maxLen
  rd : Rd W (some ⟨bk, 0, none⟩) (by8 IS)
  row : W.ownsRow w.heap.size 29 1 (.slice A sts.length c8) sts.length cells
  at_ : StsAt W (fun _ => True) 2048 sts cells
  seen : ∀ n, ∃ st, st ∈ sts ∧ sect n IS = sect n st
  cnt : sts.length ≤ 41
theorem SafeC.below {w W W' : World} {IS : List Int} {b c : Nat} {sts : List (List Int)} {A : Option Addr} {c8 : Nat} {cells : List Value} (h : SafeC w W IS b c sts A c8 cells) (hb : Below W.heap.size W W') : SafeC w W' IS b c sts A c8 cells :=
  ⟨bl_chain h.b hb, h.len, h.bs, h.cap, h.most, h.rd.below hb, own_below (B := 0) h.row hb, h.at_.tr (Tr.of_below (F := NoB) hb) (fun _ _ => id) (fun _ x => x), h.seen, h.cnt⟩
theorem SafeB.crash {w W w11 w12 : World} {g : Nat} {D : DS} {M R M4 R4 : Nat → Prop} {k : Nat} {sts : List (List Int)} {A : Option Addr} {c b12 c12 : Nat} {cells : List Value} {kept : List Int} (h : SafeB w W g D M R k sts A c cells)
    (hd : IsDisk w11 g (crashD D kept) M4 R4) (ht : Tr M W w11) (hc : 2048 ≤ c12) (hm : c12 ≤ maxLen) (hr : Rd w12 (some ⟨b12, 0, none⟩) (by8 (crashD D kept).safe)) (hb : Below w11.heap.size w11 w12) (hl : (crashD D kept).safe.length = 2048) (hk : k ≤ 40) :
    SafeC w w12 (crashD D kept).safe b12 c12 sts A c cells := by
  have z1 := ht.size
  refine ⟨bl_chain (bl_tr h.a.b ht (fun b hb => h.a.m b hb)) hb, hl, hd.ok.bs, hc, hm, hr, own_below (B := 0) (own_tr h.row ht h.no) hb, ?_, fun n => crash_seen h.a.d.ok h.s0 h.seen kept n _ (Nat.le_refl _), by have := h.cnt; omega⟩
  have a1 := h.at_.tr (N' := fun _ => True) ht (fun b x => x.2.2.1) (fun _ _ => trivial)
  exact a1.tr (Tr.of_below (F := NoB) hb) (fun _ _ => id) (fun _ x => x)
theorem crash_len {w : World} {g : Nat} {D : DS} {M R : Nat → Prop} {kept : List Int} (ho : D.Ok) (hn : D.n = 8) : (crashD D kept).safe.length = 2048 := by
  show (crashL kept D.gs D.gs.length D.safe).length = 2048
  rw [crashL_length ho kept (Nat.le_refl _), hn]
theorem SafeB.no3 {w W : World} {g : Nat} {D : DS} {M R : Nat → Prop} {k : Nat} {sts : List (List Int)} {A A3 : Option Addr} {c : Nat} {cells : List Value} {l3 : List Int} (h : SafeB w W g D M R k sts A c cells) (hr : Rd w A3 (byI l3)) : l3 ≠ [] → ∀ b, Blo A3 b → ¬ M b := fun hne b hb hM => by
  have h1 := hr.blo_lt (fun e => hne (by simpa [byI] using e)) b hb
  have h2 := h.a.m b hM
  omega

theorem sect_conv {w : World} {b c n : Nat} {s : List Int} (h : Rd w (some ⟨b, 0, none⟩) (by8 s)) (hl : s.length = 2048) (hc : 2048 ≤ c) (hn : n < 8) :
    ∀ nq, (convert 29 9 (.slice (some ⟨b, n * 256, none⟩) ((n + 1) * 256 - n * 256) (c - n * 256))).run Try.prog (w.drewN nq) = .ok (.string (strOfNums (sect n s))) (w.drewN nq) := fun nq => by
  refine conv8 _ _ ?_ ?_
  · have := (h.drewN nq).mid2 (n := 256) (256 * n)
    rw [Nat.mul_comm n 256]
    exact this
  · unfold sect; rw [List.length_take, List.length_drop]; omega

theorem isB_sect {n : Nat} {s : List Int} (h : isB s) : isB (sect n s) := (h.drop _).take _

set_option maxHeartbeats 8000000 in
set_option maxRecDepth 20000 in
theorem diskSafe_walk (A : Option Addr) (c : Nat) (l : List OpArg) (A2 : Option Addr) (c2 : Nat) (l2 : List OpArg) (A3 : Option Addr) (c3 : Nat) (l3 : List Int) (w : World) (hl : l.length ≤ 140737488351232)
    (hx : ∀ i (h : i < l.length), l[i].In w ∧ ∃ b o, A = some ⟨b, o, none⟩ ∧ ∀ j u, l[i].cells[j]? = some u → w.cell? ⟨b, o + (i * 4 + j), none⟩ = some u) (hl2 : l2.length ≤ 140737488351232)
    (hx2 : ∀ i (h : i < l2.length), l2[i].In w ∧ ∃ b o, A2 = some ⟨b, o, none⟩ ∧ ∀ j u, l2[i].cells[j]? = some u → w.cell? ⟨b, o + (i * 4 + j), none⟩ = some u)
    (hr3 : Rd w A3 (byI l3)) (hc3 : l3.length ≤ c3) (hB3 : ∀ x ∈ l3, -9223372036854775808 ≤ x ∧ x ≤ 9223372036854775807) (hl3 : l3.length ≤ 140737488351232) :
    Calls Try.prog 3 #[.slice A l.length c, .slice A2 l2.length c2, .slice A3 l3.length c3] w fun e w' => e = .returned (.bool true) ∧ Below w.heap.size w w' := by
  have HX := Lib.hid hx
  have HX2 := Lib.hid hx2
  have HR3 := Lib.hid hr3
  clear hx hx2 hr3 hc3 hB3
  have NW : Hid (∀ W, Calls Try.prog 7 #[.int .i64 8] W (RetDisk W (newD (List.replicate (8 * 256) 0)))) := Lib.hid fun W => new_of 8 8 rfl W (by omega) (by omega)
  go_enter Try.func3, Try.ntmps3
  go_wp2_with (first
    | (go_at_call 7; (with_reducible refine (NW.out _).mono ?_); rintro e w1 ⟨g, M, rfl, hd, hm, hb⟩; have HS1 := Lib.hid (SafeA.mk hd (by show (List.replicate (8 * 256) (0 : Int)).length / 256 = 8; rw [List.length_replicate]) hm hb); have HF1 : Hid ((newD (List.replicate (8 * 256) 0)).gs.length ≤ 0) := Lib.hid (by show ([] : List (Nat × List Int)).length ≤ 0; simp); clear hd hm hb))
  go_loopw [9] (fun v w2 => ∃ (k : Nat) (D : DS) (M R : Nat → Prop), k ≤ l.length ∧ k ≤ 40 ∧ v = .int .i64 k ∧ SafeA w w2 g D M R ∧ D.gs.length ≤ k) (fun v _ => 40 - (intOf v).toNat)
  case atStart => exact ⟨0, _, M, NoB, by omega, by omega, rfl, HS1.out, HF1.out⟩
  case round =>
    obtain ⟨k, D, M2, R2, hkl, hk, rfl, hs3, hf3⟩ := hrel
    have HS3 := Lib.hid hs3
    clear hs3
    by_cases hlt : k < l.length ∧ k < 40
    · obtain ⟨h1, h2⟩ := hlt
      obtain ⟨hin, ab, ao, rfl, hce⟩ := HX.out k h1
      have HIN := Lib.hid hin
      have hbl : ab < w.heap.size := cell_block_lt (hce 0 _ rfl)
      have x0 : wr.cell? ⟨ab, ao + k * 4, none⟩ = some (.int .i64 (l[k]).o.kind) := (HS3.out.b.cell hbl).trans (hce 0 _ rfl)
      have x1 : wr.cell? ⟨ab, ao + k * 4 + 1, none⟩ = some (.int .i64 (l[k]).o.n) := (HS3.out.b.cell hbl).trans (hce 1 _ rfl)
      have x2 : wr.cell? ⟨ab, ao + k * 4 + 2, none⟩ = some (.slice (l[k]).A (l[k]).o.b.length (l[k]).c) := (HS3.out.b.cell hbl).trans (hce 2 _ rfl)
      have x3 : wr.cell? ⟨ab, ao + k * 4 + 3, none⟩ = some (.slice (l[k]).B (l[k]).o.l.length (l[k]).d) := (HS3.out.b.cell hbl).trans (hce 3 _ rfl)
      clear hin hce
      generalize l[k] = y at HIN x0 x1 x2 x3
      obtain ⟨hno1, hno2⟩ := HIN.out.noS HS3.out.m
      have HN1 := Lib.hid hno1
      have HN2 := Lib.hid hno2
      have hfew : D.gs.length < 1000000 := by omega
      clear hno1 hno2
      go_wp2_with (first
        | (go_at_call 8; (with_reducible refine (do_any y.A y.B y.c y.d y.o HS3.out.d HIN.out.ok (HIN.out.rb.below HS3.out.b) (HIN.out.rl.below HS3.out.b) HN1.out HN2.out hfew).mono ?_); rintro e w4 ⟨rfl, M4, R4, hd4, hm4, hr4, ht4⟩; have HD4 := Lib.hid hd4; have HM4 := Lib.hid hm4; have HT4 := Lib.hid ht4; clear hd4 hm4 hr4 ht4))
      go_roundw
      case rel =>
        have hz := HS3.out.b.size
        refine ⟨k + 1, doD D y.o, M4, R4, by omega, by omega, by go_num, ⟨HD4.out, ?_, fun b hb => ?_, bl_tr HS3.out.b HT4.out (fun b hb => HS3.out.m b hb)⟩, few_do hf3 _⟩
        · rw [n_do HS3.out.d.ok]; exact HS3.out.n
        · rcases HM4.out b hb with h | h
          · exact HS3.out.m b h
          · omega
      case measure => simp [intOf]; omega
    · have hcase : (k < l.length ∧ k = 40) ∨ k = l.length := by omega
      clear hlt
      obtain ⟨k0, rfl⟩ : ∃ k0, k0 = k := ⟨_, rfl⟩
      rcases hcase with ⟨h1, h2⟩ | h1
      all_goals
        go_wp2_with (first
          | (go_at_call 9; (with_reducible refine (crash_none_s HS3.out.d).mono ?_); rintro e w5 ⟨rfl, M5, R5, hd5, hm5, hr5, ht5⟩; have HS5 := Lib.hid (SafeA.mk hd5 (by have := HS3.out.n; exact this) (fun b hb => by have := hm5 b hb; have hz := HS3.out.b.size; rcases this with h | h; exact HS3.out.m b h; omega) (bl_tr HS3.out.b ht5 (fun b hb => HS3.out.m b hb))); have hlen := len_safe HS5.out.d.ok HS5.out.n; have HL5 := Lib.hid hlen; clear hd5 hm5 hr5 ht5 hlen)
          | (go_at_call 10; (with_reducible refine (image_s 2048 HS5.out.d HL5.out (by omega)).mono ?_); rintro e w6 ⟨b6, c6, rfl, hc6, hm6, hlo6, hlt6, hr6, hb6⟩; have HR6 := Lib.hid hr6; have HB6 := Lib.hid hb6; have HA6 := Lib.hid (SafeA.mk (HS5.out.d.below hb6) HS5.out.n HS5.out.m (bl_chain HS5.out.b hb6)); clear hr6 hb6)
          | (at_builtin; refine wpL_append ESl rfl rfl (ownsRow_emp _ w.heap.size _ _) rfl (Rd.new1 w6 29 _) rfl (by simp) (by simp [Value.oneCell']) 1 [.slice (some ⟨b6, 0, none⟩) 2048 c6] rfl rfl (by simp only [maxLen]; omega) (by omega) (by have := HA6.out.b.size; simp; omega) ?_; intro A7 c7 w7 hc7 ho7 ht7 hn7; have HO7 := Lib.hid ho7; have HT7 := Lib.hid ht7; have HN7 := Lib.hid hn7; clear ho7 ht7 hn7))
        have HS7 := Lib.hid (SafeB.start HA6.out hc6 hm6 (by have := HS5.out.b.size; omega) (fun hM => by have := HS5.out.d.mlt _ hM; omega) HR6.out hlt6 HO7.out HT7.out HN7.out)
        clear HO7 HT7 HN7 HR6 HA6 HS3 HS1 HF1 HL5
        go_loopw [11, 12] (fun v11 v w2 => ∃ (k : Nat) (D2 : DS) (M R : Nat → Prop) (sts : List (List Int)) (A8 : Option Addr) (c8 : Nat) (cells : List Value), k ≤ l2.length ∧ k ≤ 40 ∧ v = .int .i64 k ∧ v11 = .slice A8 sts.length c8 ∧ SafeB w w2 g D2 M R k sts A8 c8 cells) (fun _ v _ => 40 - (intOf v).toNat)
        case atStart => exact ⟨0, _, M5, R5, [D.safe], A7, c7, _, by omega, by omega, rfl, rfl, HS7.out⟩
        case round =>
          obtain ⟨k, D2, M8, R8, sts, A8, c8, cells, hkl, hk, rfl, rfl, hs8⟩ := hrel
          have HS8 := Lib.hid hs8
          clear hs8
          by_cases hlt : k < l2.length ∧ k < 40
          · obtain ⟨h1, h2⟩ := hlt
            obtain ⟨hin, ab, ao, rfl, hce⟩ := HX2.out k h1
            have HIN := Lib.hid hin
            have hbl : ab < w.heap.size := cell_block_lt (hce 0 _ rfl)
            have x0 : wr.cell? ⟨ab, ao + k * 4, none⟩ = some (.int .i64 (l2[k]).o.kind) := (HS8.out.a.b.cell hbl).trans (hce 0 _ rfl)
            have x1 : wr.cell? ⟨ab, ao + k * 4 + 1, none⟩ = some (.int .i64 (l2[k]).o.n) := (HS8.out.a.b.cell hbl).trans (hce 1 _ rfl)
            have x2 : wr.cell? ⟨ab, ao + k * 4 + 2, none⟩ = some (.slice (l2[k]).A (l2[k]).o.b.length (l2[k]).c) := (HS8.out.a.b.cell hbl).trans (hce 2 _ rfl)
            have x3 : wr.cell? ⟨ab, ao + k * 4 + 3, none⟩ = some (.slice (l2[k]).B (l2[k]).o.l.length (l2[k]).d) := (HS8.out.a.b.cell hbl).trans (hce 3 _ rfl)
            clear hin hce
            generalize l2[k] = y at HIN x0 x1 x2 x3
            obtain ⟨hno1, hno2⟩ := HIN.out.noS HS8.out.a.m
            have HN1 := Lib.hid hno1
            have HN2 := Lib.hid hno2
            have hfew : D2.gs.length < 1000000 := by have := HS8.out.few; omega
            have hcnt := HS8.out.cnt
            clear hno1 hno2
            by_cases hkind : y.o.kind = 0 ∨ y.o.kind = 1
            · have HW : Hid (doD D2 y.o = writeD D2 y.o.n y.o.b) := Lib.hid (if_pos hkind)
              have hz0 := HS8.out.a.b.size
              have hcases : ((y.o.kind == 0) = true) ∨ ((y.o.kind == 0) = false ∧ (y.o.kind == 1) = true) := by
                rcases hkind with h | h
                · left; simp [h]
                · right; simp [h]
              clear hkind
              rcases hcases with hq0 | ⟨hq0, hq1⟩
              all_goals
                go_wp2_with (first
                  | (go_at_call 8; (with_reducible refine (do_any y.A y.B y.c y.d y.o HS8.out.a.d HIN.out.ok (HIN.out.rb.below HS8.out.a.b) (HIN.out.rl.below HS8.out.a.b) HN1.out HN2.out hfew).mono ?_); rintro e w4 ⟨rfl, M4, R4, hd4, hm4, hr4, ht4⟩; have hln := len_now hd4.ok (by rw [HW.out, n_write]; exact HS8.out.a.n); have HLN := Lib.hid hln; have HD4 := Lib.hid hd4; have HM4 := Lib.hid hm4; have HR4 := Lib.hid hr4; have HT4 := Lib.hid ht4; clear hd4 hm4 hr4 ht4 hln)
                  | (go_at_call 11; (with_reducible refine (now_s 2048 HD4.out HLN.out (by omega)).mono ?_); rintro e w9 ⟨b9, c9, rfl, hc9, hm9, hlo9, hlt9, hr9, hb9⟩; have HR9 := Lib.hid hr9; have HB9 := Lib.hid hb9; have hz4 := HT4.out.size; have hz9 := hb9.size; have HO9 := Lib.hid (own_below (B := 0) (own_tr HS8.out.row HT4.out HS8.out.no) hb9); clear hr9 hb9)
                  | (at_builtin; refine wpL_append ESl rfl rfl (HO9.out.alloc _) rfl (Rd.new1 w9 29 _) rfl (by simp) (by simp [Value.oneCell']) (sts.length + 1) (cells ++ [.slice (some ⟨b9, 0, none⟩) 2048 c9]) rfl rfl (by simp only [maxLen]; omega) (by omega) (by simp; omega) ?_; intro A10 c10 w10 hc10 ho10 ht10 hn10; have HO10 := Lib.hid ho10; have HT10 := Lib.hid ht10; have HN10 := Lib.hid hn10; clear ho10 ht10 hn10))
                go_roundw
                case rel =>
                  refine ⟨k + 1, _, M4, R4, sts ++ [(doD D2 y.o).now], A10, c10, _, by omega, by omega, by go_num, ?_, SafeB.next HS8.out _ _ HW.out HD4.out HM4.out HR4.out HT4.out hc9 hm9 hlo9 hlt9 HR9.out HB9.out HO10.out HT10.out HN10.out⟩
                  rw [List.length_append]; rfl
                case measure => simp [intOf]; omega
            · have hb0 : (y.o.kind == 0 || y.o.kind == 1) = false := by simpa using hkind
              have hb1 : (y.o.kind == 0) = false := by simp; omega
              have hb2 : (y.o.kind == 1) = false := by simp; omega
              clear hkind
              go_wp2_with fail
              go_roundw
              case rel => exact ⟨k + 1, D2, M8, R8, sts, A8, c8, cells, by omega, by omega, by go_num, rfl, HS8.out.skip⟩
              case measure => simp [intOf]; omega
          · have hcase : (k < l2.length ∧ k = 40) ∨ k = l2.length := by omega
            clear hlt
            have HL8 := Lib.hid (crash_len (w := wr) (g := g) (M := M8) (R := R8) (kept := l3) HS8.out.a.d.ok HS8.out.a.n)
            obtain ⟨k1, rfl⟩ : ∃ k1, k1 = k := ⟨_, rfl⟩
            obtain ⟨wo, rfl⟩ : ∃ wo : World, wo = wr := ⟨_, rfl⟩
            rcases hcase with ⟨h1, h2⟩ | h1
            all_goals
              go_wp2_with (first
                | (go_at_call 9; (with_reducible refine (crash_any A3 c3 l3 HS8.out.a.d (HR3.out.below HS8.out.a.b) hl3 (HS8.out.no3 HR3.out)).mono ?_); rintro e w11 ⟨rfl, M11, R11, hd, hm, hr, ht⟩; have HD11 := Lib.hid hd; have HT11 := Lib.hid ht; clear hd hm hr ht)
                | (go_at_call 10; (with_reducible refine (image_s 2048 HD11.out HL8.out (by omega)).mono ?_); rintro e w12 ⟨b12, c12, rfl, hc12, hm12, hlo12, hlt12, hr12, hb12⟩; have HC := Lib.hid (SafeB.crash HS8.out HD11.out HT11.out hc12 hm12 hr12 hb12 HL8.out (by omega)); clear hr12 hb12))
              clear HD11 HT11 HS8 HL8 HS7 HX HX2 HB6 HS5
              generalize (crashD D2 l3).safe = IS at HC
              have hmx := HC.out.most
              have hcnt := HC.out.cnt
              simp only [maxLen] at hmx
              go_loopw [15] (fun v w2 => ∃ (n : Nat), n ≤ 8 ∧ v = .int .i64 n ∧ Below w12.heap.size w12 w2) (fun v _ => 8 - (intOf v).toNat)
              case atStart => exact ⟨0, by omega, rfl, Below.refl _ _⟩
              case round =>
                obtain ⟨n, hn, rfl, hb13⟩ := hrel
                have HB13 := Lib.hid hb13
                clear hb13
                by_cases hlt : n < 8
                · go_wp2_with fail
                  obtain ⟨wo3, rfl⟩ : ∃ wo : World, wo = wr := ⟨_, rfl⟩
                  go_loopw [16, 17] (fun v16 v w2 => ∃ (k : Nat), k ≤ sts.length ∧ v = .int .i64 k ∧ v16 = .bool (okSt IS n sts k) ∧ Below w12.heap.size w12 w2) (fun _ v _ => sts.length - (intOf v).toNat)
                  case atStart => exact ⟨0, by omega, rfl, rfl, HB13.out⟩
                  case round =>
                    obtain ⟨k, hk, rfl, rfl, hb14⟩ := hrel
                    have HC14 := Lib.hid (HC.out.below hb14)
                    have HB14 := Lib.hid hb14
                    clear hb14
                    by_cases hgo : k < sts.length
                    · by_cases hok : okSt IS n sts k = true
                      · go_wp2_with fail
                        go_roundw
                        case rel => exact ⟨n + 1, by omega, by go_num, HB14.out⟩
                        case measure => simp [intOf]; omega
                      · have hok2 : okSt IS n sts k = false := by simpa using hok
                        clear hok
                        have HOK := Lib.hid hok2
                        obtain ⟨bk, ck, hck, hl1, hB1, hc1, hm1, hrd1, _⟩ := HC14.out.at_.get k hgo
                        simp only [maxLen] at hm1
                        obtain ⟨gA, rfl⟩ := ownsRow_addr HC14.out.row (by omega)
                        have hcell : wr.cell? ⟨gA, k, none⟩ = some (.slice (some ⟨bk, 0, none⟩) 2048 ck) := by
                          rw [HC14.out.row.cellAt k (by have := HC14.out.at_.length; omega)]; exact hck
                        have cv1 := sect_conv HC14.out.rd HC14.out.len hc12 hlt
                        have cv2 := sect_conv hrd1 hl1 hc1 hlt
                        have q1 : IntKind.i64.wrap ((n : Int) * 256) = (n : Int) * 256 := IntWalk.i64_in _ (by omega)
                        have q2 : IntKind.i64.wrap ((n : Int) + 1) = (n : Int) + 1 := IntWalk.i64_in _ (by omega)
                        have q3 : IntKind.i64.wrap (((n : Int) + 1) * 256) = ((n : Int) + 1) * 256 := IntWalk.i64_in _ (by omega)
                        have p1 : 0 ≤ (n : Int) * 256 := by omega
                        have p2 : 0 ≤ ((n : Int) + 1) * 256 := by omega
                        have p3 : ((n : Int) * 256).toNat = n * 256 := by omega
                        have p4 : (((n : Int) + 1) * 256).toNat = (n + 1) * 256 := by omega
                        clear hck hl1 hrd1
                        go_wp2_with fail
                        go_quiet (fail)
                        go_wp2_with fail
                        go_roundw
                        case rel =>
                          refine ⟨k + 1, by omega, by go_num, ?_, bl_chain HB14.out ⟨rfl, rfl, rfl, Nat.le_refl _, fun _ _ => rfl⟩⟩
                          rw [okSt_succ hgo, HOK.out, str_eqB (isB_sect HC14.out.bs) (isB_sect hB1), Bool.false_or]
                        case measure => simp [intOf]; omega
                    · have hok : okSt IS n sts k = true := by
                        rw [show k = sts.length from by omega]
                        exact okSt_all (HC14.out.seen n)
                      go_wp2_with fail
                      go_roundw
                      case rel => exact ⟨n + 1, by omega, by go_num, HB14.out⟩
                      case measure => simp [intOf]; omega
                · have hn8 : n = 8 := by omega
                  clear hlt
                  go_wp2_with (first
                    | (go_at_call 12; (with_reducible refine (known_any _).mono ?_); rintro e w15 ⟨rfl, hb⟩; have HB15 := Lib.hid hb; clear hb))
                  go_ret
                  exact ⟨by rfl, bl_chain (bl_chain HC.out.b HB13.out) HB15.out⟩
end Go.Proofs.Ytadoclcabkcmeaa
