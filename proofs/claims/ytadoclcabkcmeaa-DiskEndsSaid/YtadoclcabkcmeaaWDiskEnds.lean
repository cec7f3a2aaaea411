/- The walk of DiskEnds. -/
import Derived.Test.YtadoclcabkcmeaaDiskRow
import Derived.Test.YtadoclcabkcmeaaDiskPlain
import Derived.Test.YtadoclcabkcmeaaExt
import Derived.Lib.SlBytesConst
namespace Go.Proofs.Ytadoclcabkcmeaa
set_option linter.unusedVariables false
open Go.RowKit

/-- All that a script's call reads lies below. -/
theorem OpArg.In.no {w : World} {y : OpArg} {M : Nat → Prop} (h : y.In w) (hM : ∀ b, M b → w.heap.size ≤ b) : (y.o.b ≠ [] → ∀ b, Blo y.A b → ¬ M b) ∧ (y.o.l ≠ [] → ∀ b, Blo y.B b → ¬ M b) := by
  refine ⟨fun hne b hb hm => ?_, fun hne b hb hm => ?_⟩
  · have h1 := h.rb.blo_lt (fun e => hne (by simpa [by8] using e)) b hb
    have h2 := hM b hm
    omega
  · have h1 := h.rl.blo_lt (fun e => hne (by simpa [byI] using e)) b hb
    have h2 := hM b hm
    omega

theorem infoInt : (Try.prog.info? 3).map (fun i => (i.zero, i.size, i.bytes)) = some (some (.int .i64 0), 1, 8) := by kernel_rfl
theorem run_makeIn (n : Nat) (hn : n ≤ 17592186044416) (w : World) :
    (Instr.makeSlice 23 (.int .i64 (n : Int)) (.int .i64 (n : Int))).run Try.prog w = .ok (.slice (some ⟨w.heap.size, 0, none⟩) n n) (w.alloc (.cells (Array.replicate n (.int .i64 0)) 3)) := by
  obtain ⟨i0, hi, hz0, hz1, hz2⟩ := info_parts infoInt
  have hr := run_make (P := Try.prog) w 23 3 i0 _ Try.underlying23 hi hz0 .i64 .i64 n n (by omega) (by omega) (by rw [hz2]; omega) (by omega)
  simp only [Int.toNat_natCast] at hr
  rw [hr, hz1, Nat.mul_one]
  congr 4
  apply Array.ext'
  rw [show (Value.int IntKind.i64 0).cells = #[.int .i64 0] from rfl, toList_madeCells_one]
  simp
theorem own_zerosI (w : World) (n : Nat) (hn : n ≤ maxLen) : (w.alloc (.cells (Array.replicate n (.int .i64 0)) 3)).ownsRow w.heap.size 3 1 (.slice (some ⟨w.heap.size, 0, none⟩) n n) n (byI (List.replicate n 0)) := by
  have h := World.ownsRow_lit (w := w) (e := 3) (size := 1) (base := w.heap.size) (Array.replicate n (.int .i64 0)) n (Nat.le_refl _) hn (by simp)
  rw [Array.toList_replicate] at h
  rw [byI, List.map_replicate]
  exact h
def fillM (n k : Nat) : List Int := List.replicate k (-1) ++ List.replicate (n - k) 0
theorem fillM_set {n k : Nat} (h : k < n) : (byI (fillM n k)).set k (.int .i64 (-1)) = byI (fillM n (k + 1)) := by
  unfold fillM byI
  rw [show n - k = (n - (k + 1)) + 1 from by omega, List.replicate_succ, List.map_append, List.map_append, List.set_append_right _ _ (by simp)]
  rw [List.length_map, List.length_replicate, Nat.sub_self]
  rw [List.replicate_succ', List.map_append, List.append_assoc]
  rfl
theorem fillM_all (n : Nat) : fillM n n = List.replicate n (-1) := by unfold fillM; simp
theorem fillM_none (n : Nat) : fillM n 0 = List.replicate n 0 := by unfold fillM; simp
theorem fillM_length {n k : Nat} (h : k ≤ n) : (fillM n k).length = n := by unfold fillM; simp; omega

/-- Four disks apart. -/
structure Ends (w : World) (base : Nat) (g dc dn df : Nat) (D C N F : DS) (M Mc Mn Mf R Rc Rn Rf : Nat → Prop) : Prop where
  dd : IsDisk w g D M R
  dc : IsDisk w dc C Mc Rc
  dn : IsDisk w dn N Mn Rn
  df : IsDisk w df F Mf Rf
  d : ∀ b, (M b ∨ R b) → ¬ Mc b ∧ ¬ Mn b ∧ ¬ Mf b
  cd : ∀ b, (Mc b ∨ Rc b) → ¬ Mn b ∧ ¬ Mf b
  nd : ∀ b, (Mn b ∨ Rn b) → ¬ Mc b ∧ ¬ Mf b
  fd : ∀ b, (Mf b ∨ Rf b) → ¬ Mc b ∧ ¬ Mn b
  c : ∀ b, Mc b → base ≤ b
  n : ∀ b, Mn b → base ≤ b
  f : ∀ b, Mf b → base ≤ b
section
variable {w w' : World} {base g dc dn df : Nat} {D C N F C' : DS} {M Mc Mn Mf R Rc Rn Rf M' R' : Nat → Prop}
theorem Ends.below (h : Ends w base g dc dn df D C N F M Mc Mn Mf R Rc Rn Rf) (hb : Below w.heap.size w w') : Ends w' base g dc dn df D C N F M Mc Mn Mf R Rc Rn Rf :=
  ⟨h.dd.below hb, h.dc.below hb, h.dn.below hb, h.df.below hb, h.d, h.cd, h.nd, h.fd, h.c, h.n, h.f⟩
theorem ends_7 {w5 w6 w7 : World} (hd : IsDisk w g D M R) (hdc : IsDisk w5 dc D Mc R) (hmc : ∀ b, Mc b → w.heap.size ≤ b) (hbc : Below w.heap.size w w5) (hdn : IsDisk w6 dn D Mn R) (hmn : ∀ b, Mn b → w5.heap.size ≤ b) (hbn : Below w5.heap.size w5 w6)
    (hdf : IsDisk w7 df D Mf R) (hmf : ∀ b, Mf b → w6.heap.size ≤ b) (hbf : Below w6.heap.size w6 w7) : Ends w7 w.heap.size g dc dn df D D D D M Mc Mn Mf R R R R := by
  have s1 := hbc.size
  have s2 := hbn.size
  have s3 := hbf.size
  have lM := hd.mlt
  have lR := hd.rlt
  have lc := hdc.mlt
  have ln := hdn.mlt
  have hR : ∀ b, R b → ¬ Mc b ∧ ¬ Mn b ∧ ¬ Mf b := fun b hb => by
    have := lR b hb
    exact ⟨fun h => by have := hmc b h; omega, fun h => by have := hmn b h; omega, fun h => by have := hmf b h; omega⟩
  refine ⟨hd.below (bl_chain hbc (bl_chain hbn hbf)), hdc.below (bl_chain hbn hbf), hdn.below hbf, hdf, ?_, ?_, ?_, ?_, hmc, fun b h => by have := hmn b h; omega, fun b h => by have := hmf b h; omega⟩
  · rintro b (hb | hb)
    · have := lM b hb
      exact ⟨fun h => by have := hmc b h; omega, fun h => by have := hmn b h; omega, fun h => by have := hmf b h; omega⟩
    · exact hR b hb
  · rintro b (hb | hb)
    · have := lc b hb
      exact ⟨fun h => by have := hmn b h; omega, fun h => by have := hmf b h; omega⟩
    · exact (hR b hb).2
  · rintro b (hb | hb)
    · have := ln b hb
      have := hmn b hb
      exact ⟨fun h => by have := lc b h; omega, fun h => by have := hmf b h; omega⟩
    · exact ⟨(hR b hb).1, (hR b hb).2.2⟩
  · rintro b (hb | hb)
    · have := hmf b hb
      exact ⟨fun h => by have := lc b h; omega, fun h => by have := ln b h; omega⟩
    · exact ⟨(hR b hb).1, (hR b hb).2.1⟩
theorem Ends.crash_c (h : Ends w base g dc dn df D C N F M Mc Mn Mf R Rc Rn Rf) (hd : IsDisk w' dc C' M' R') (hm : ∀ b, M' b → Mc b ∨ w.heap.size ≤ b) (hr : ∀ b, R' b → Rc b ∨ w.heap.size ≤ b) (ht : Tr Mc w w') :
    Ends w' (min base w.heap.size) g dc dn df D C' N F M M' Mn Mf R R' Rn Rf := by
  have lM := h.dd.mlt
  have lR := h.dd.rlt
  have ln := h.dn.mlt
  have lf := h.df.mlt
  have lnr := h.dn.rlt
  have lfr := h.df.rlt
  refine ⟨h.dd.tr ht (fun b x => (h.d b (.inl x)).1) (fun b x => (h.d b (.inr x)).1), hd, h.dn.tr ht (fun b x => (h.nd b (.inl x)).1) (fun b x => (h.nd b (.inr x)).1), h.df.tr ht (fun b x => (h.fd b (.inl x)).1) (fun b x => (h.fd b (.inr x)).1), ?_, ?_, ?_, ?_, ?_, fun b x => by have := h.n b x; omega, fun b x => by have := h.f b x; omega⟩
  · intro b hb
    refine ⟨fun x => ?_, (h.d b hb).2⟩
    rcases hm b x with x | x
    · exact (h.d b hb).1 x
    · rcases hb with hb | hb
      · have := lM b hb; omega
      · have := lR b hb; omega
  · rintro b (hb | hb)
    · rcases hm b hb with x | x
      · exact h.cd b (.inl x)
      · exact ⟨fun y => by have := ln b y; omega, fun y => by have := lf b y; omega⟩
    · rcases hr b hb with x | x
      · exact h.cd b (.inr x)
      · exact ⟨fun y => by have := ln b y; omega, fun y => by have := lf b y; omega⟩
  · intro b hb
    refine ⟨fun x => ?_, (h.nd b hb).2⟩
    rcases hm b x with x | x
    · exact (h.nd b hb).1 x
    · rcases hb with hb | hb
      · have := ln b hb; omega
      · have := lnr b hb; omega
  · intro b hb
    refine ⟨fun x => ?_, (h.fd b hb).2⟩
    rcases hm b x with x | x
    · exact (h.fd b hb).1 x
    · rcases hb with hb | hb
      · have := lf b hb; omega
      · have := lfr b hb; omega
  · intro b hb
    rcases hm b hb with x | x
    · have := h.c b x; omega
    · omega
theorem Ends.swap (h : Ends w base g dc dn df D C N F M Mc Mn Mf R Rc Rn Rf) : Ends w base g dn dc df D N C F M Mn Mc Mf R Rn Rc Rf :=
  ⟨h.dd, h.dn, h.dc, h.df, fun b x => ⟨(h.d b x).2.1, (h.d b x).1, (h.d b x).2.2⟩, fun b x => h.nd b x, fun b x => h.cd b x, fun b x => ⟨(h.fd b x).2, (h.fd b x).1⟩, h.n, h.c, h.f⟩
theorem Ends.swap2 (h : Ends w base g dc dn df D C N F M Mc Mn Mf R Rc Rn Rf) : Ends w base g df dn dc D F N C M Mf Mn Mc R Rf Rn Rc :=
  ⟨h.dd, h.df, h.dn, h.dc, fun b x => ⟨(h.d b x).2.2, (h.d b x).2.1, (h.d b x).1⟩, fun b x => ⟨(h.fd b x).2, (h.fd b x).1⟩, fun b x => ⟨(h.nd b x).2, (h.nd b x).1⟩, fun b x => ⟨(h.cd b x).2, (h.cd b x).1⟩, h.f, h.n, h.c⟩
theorem Ends.crash_n (h : Ends w base g dc dn df D C N F M Mc Mn Mf R Rc Rn Rf) (hd : IsDisk w' dn C' M' R') (hm : ∀ b, M' b → Mn b ∨ w.heap.size ≤ b) (hr : ∀ b, R' b → Rn b ∨ w.heap.size ≤ b) (ht : Tr Mn w w') :
    Ends w' (min base w.heap.size) g dc dn df D C C' F M Mc M' Mf R Rc R' Rf := (h.swap.crash_c hd hm hr ht).swap
theorem Ends.crash_f (h : Ends w base g dc dn df D C N F M Mc Mn Mf R Rc Rn Rf) (hd : IsDisk w' df C' M' R') (hm : ∀ b, M' b → Mf b ∨ w.heap.size ≤ b) (hr : ∀ b, R' b → Rf b ∨ w.heap.size ≤ b) (ht : Tr Mf w w') :
    Ends w' (min base w.heap.size) g dc dn df D C N C' M Mc Mn M' R Rc Rn R' := (h.swap2.crash_c hd hm hr ht).swap2
end
theorem crash_alls {w : World} {g : Nat} {D : DS} {M R : Nat → Prop} (hd : IsDisk w g D M R) (hg : D.Good) (hf : D.gs.length ≤ 100) {b : Nat} (hr : Rd w (some ⟨b, 0, none⟩) (byI (List.replicate 100 (-1)))) (hb : ¬ M b) :
    Calls Try.prog 9 #[.pointer (some ⟨g, 0, none⟩), .slice (some ⟨b, 0, none⟩) 100 100] w (RetW w g M R (newD D.now) 0) := by
  have := crash_n (some ⟨b, 0, none⟩) 100 100 (List.replicate 100 (-1)) List.length_replicate hd hr (by omega) (fun _ b' hb' hM => hb (by have h := (Blo.some_iff _ _).1 hb'; simp at h; rw [h]; exact hM))
  rwa [crash_all hd.ok hg 100 hf] at this
theorem crash_none_any {w : World} {g : Nat} {D : DS} {M R : Nat → Prop} (hd : IsDisk w g D M R) :
    Calls Try.prog 9 #[.pointer (some ⟨g, 0, none⟩), .slice none 0 0] w (RetW w g M R (newD D.safe) 0) := by
  have := crash_n none 0 0 [] rfl hd Rd.nil (by omega) (fun h => absurd rfl h)
  rwa [crash_none] at this
theorem ends_all {w w7 : World} {b0 b : Nat} (h : w.ownsRow b0 3 1 (.slice (some ⟨b, 0, none⟩) 100 100) 100 (byI (List.replicate 100 (-1)))) (hb : Below w.heap.size w w7) : Rd w7 (some ⟨b, 0, none⟩) (byI (List.replicate 100 (-1))) :=
  Rd.of_own (ownsRow_base (own_below (B := 0) h hb) (Nat.zero_le _))
theorem ends_no {w : World} {b0 b : Nat} {xs : List Value} {M : Nat → Prop} (h : w.ownsRow b0 3 1 (.slice (some ⟨b, 0, none⟩) 100 100) 100 xs) (hM : ∀ b, M b → w.heap.size ≤ b) : ¬ M b := fun hb => by
  have h1 := own_lt h b rfl
  have h2 := hM b hb
  omega

theorem pending_of {w : World} {g : Nat} {D : DS} {M R : Nat → Prop} (z : Int) (hd : IsDisk w g D M R) (hz : (D.gs.length : Int) = z) : Calls Try.prog 23 #[.pointer (some ⟨g, 0, none⟩)] w fun e w' => e = .returned (.int .i64 z) ∧ w = w' := by
  subst hz
  exact pending_any hd
theorem dead_of {w : World} {g : Nat} {D : DS} {M R : Nat → Prop} (b : Bool) (hd : IsDisk w g D M R) (hb : D.dead = b) : Calls Try.prog 24 #[.pointer (some ⟨g, 0, none⟩)] w fun e w' => e = .returned (.bool b) ∧ w = w' := by
  subst hb
  exact dead_any hd
theorem write_dead {w : World} {g : Nat} {D : DS} {M R : Nat → Prop} (A : Option Addr) (n c : Nat) (a : Int) (hd : IsDisk w g D M R) (hdead : D.dead = true) (hn : n ≤ 140737488351232) :
    Calls Try.prog 22 #[.pointer (some ⟨g, 0, none⟩), .int .i64 a, .slice A n c] w fun e w' => e = .returned (.int .i64 21) ∧ w = w' := by
  obtain ⟨bs, cs, bn, cn, Al, cl, cells, h⟩ := hd
  have c4 := h.blk.cell 4
  simp at c4
  rw [hdead] at c4
  clear h
  go_enter Try.func22, Try.ntmps22
  go_wp2_with fail
  go_ret
  exact ⟨by rfl, rfl⟩
theorem flush_cases (D : DS) : ∃ X E, (flushD D = X ∧ flushE D = E) ∧ ((E = 0 ∧ X.safe = D.now ∧ X.gs = []) ∨ ((E = 20 ∨ E = 21) ∧ X.dead = true ∧ X.safe = D.safe ∧ X.now = D.now)) := by
  refine ⟨_, _, ⟨rfl, rfl⟩, ?_⟩
  unfold flushD flushE
  by_cases h1 : D.dead = true
  · rw [if_pos h1, if_pos h1]
    exact .inr ⟨.inr rfl, h1, rfl, rfl⟩
  · rw [if_neg h1, if_neg h1]
    by_cases h2 : D.failing = true
    · rw [if_pos h2, if_pos h2]
      exact .inr ⟨.inl rfl, rfl, rfl, rfl⟩
    · rw [if_neg h2, if_neg h2]
      exact .inl ⟨rfl, rfl, rfl⟩
theorem ext_conv {w : World} {A : Option Addr} {c : Nat} {l : List Int} {b : Nat} (h : w.ownsRow b 5 1 (.slice A l.length c) l.length (by8 l)) :
    ∀ W, Ext w W → (convert 29 9 (.slice A l.length c)).run Try.prog W = .ok (.string (strOfNums l)) W := fun W hW =>
  conv8 _ c ((Rd.of_own (ownsRow_base h (Nat.zero_le _))).below hW) rfl
theorem IsDisk.drew_ {w : World} {g : Nat} {D : DS} {M R : Nat → Prop} (h : IsDisk w g D M R) : IsDisk w.drew g D M R := h.below (bl_drew w)
theorem image_of {w : World} {g : Nat} {D : DS} {M R : Nat → Prop} (l : List Int) (hd : IsDisk w g D M R) (hl : D.safe = l) : Calls Try.prog 10 #[.pointer (some ⟨g, 0, none⟩)] w fun e w' => ∃ A' c', e = .returned (.slice A' l.length c') ∧ l.length ≤ c' ∧ w'.ownsRow w.heap.size 5 1 (.slice A' l.length c') l.length (by8 l) ∧ Below w.heap.size w w' := by
  subst hl
  exact image_any hd
theorem now_of {w : World} {g : Nat} {D : DS} {M R : Nat → Prop} (l : List Int) (hd : IsDisk w g D M R) (hl : D.now = l) : Calls Try.prog 11 #[.pointer (some ⟨g, 0, none⟩)] w fun e w' => ∃ A' c', e = .returned (.slice A' l.length c') ∧ l.length ≤ c' ∧ w'.ownsRow w.heap.size 5 1 (.slice A' l.length c') l.length (by8 l) ∧ Below w.heap.size w w' := by
  subst hl
  exact now_any hd
theorem DS.Ok.load {D : DS} (h : D.Ok) : loadOk D.safe := by
  have h1 := h.pos
  have h2 := h.most
  have h3 := h.len
  unfold loadOk
  omega

set_option maxHeartbeats 8000000 in
set_option maxRecDepth 20000 in
theorem diskEnds_walk (A : Option Addr) (c : Nat) (l : List OpArg) (w : World) (hl : l.length ≤ 140737488351232)
    (hx : ∀ i (h : i < l.length), l[i].In w ∧ ∃ b o, A = some ⟨b, o, none⟩ ∧ ∀ j u, l[i].cells[j]? = some u → w.cell? ⟨b, o + (i * 4 + j), none⟩ = some u) :
    Calls Try.prog 5 #[.slice A l.length c] w fun e w' => e = .returned (.bool true) ∧ Below w.heap.size w w' := by
  have HX := Lib.hid hx
  clear hx
  have NW : Hid (∀ W, Calls Try.prog 7 #[.int .i64 6] W (RetDisk W (newD (List.replicate (6 * 256) 0)))) := Lib.hid fun W => new_of 6 6 rfl W (by omega) (by omega)
  have hmk : ∀ W, (Instr.makeSlice 23 (.int .i64 100) (.int .i64 100)).run Try.prog W = .ok (.slice (some ⟨W.heap.size, 0, none⟩) 100 100) (W.alloc (.cells (Array.replicate 100 (.int .i64 0)) 3)) := run_makeIn 100 (by omega)
  go_enter Try.func5, Try.ntmps5
  go_wp2_with (first
    | (go_at_call 7; (with_reducible refine (NW.out _).mono ?_); rintro e w1 ⟨g, M, rfl, hd, hm, hb⟩; have HD1 := Lib.hid hd; have HM1 := Lib.hid hm; have HB1 := Lib.hid hb; clear hd hm hb))
  clear hmk
  go_loopw [6] (fun v w2 => ∃ k : Nat, k ≤ 100 ∧ v = .int .i64 k ∧ w2.ownsRow w1.heap.size 3 1 (.slice (some ⟨w1.heap.size, 0, none⟩) 100 100) 100 (byI (fillM 100 k)) ∧ Below w1.heap.size w1 w2) (fun v _ => 100 - (intOf v).toNat)
  case atStart => exact ⟨0, by omega, rfl, by rw [fillM_none]; exact own_zerosI w1 100 (by simp only [maxLen]; omega), bl_alloc _ _⟩
  case round =>
    obtain ⟨k, hk, rfl, ho2, hb2⟩ := hrel
    have HO2 := Lib.hid ho2
    have HB2 := Lib.hid hb2
    clear ho2 hb2
    by_cases hlt : k < 100
    · obtain ⟨v0, hc⟩ : ∃ v0, wr.cell? ⟨w1.heap.size, k, none⟩ = some v0 := ⟨_, by
        rw [HO2.out.cellAt k (by omega)]; exact List.getElem?_eq_getElem (by rw [byI_length, fillM_length hk]; omega)⟩
      have hf : wr.frozen? ⟨w1.heap.size, k, none⟩ = false := HO2.out.frozenAt k
      go_wp2_with fail
      go_roundw
      case rel =>
        obtain ⟨s1, s2⟩ := own_stored HO2.out k (.int .i64 (-1))
        rw [fillM_set hlt] at s1
        exact ⟨k + 1, by omega, by go_num, s1, bl_tr HB2.out s2 (fun b hb => by have := (Blo.some_iff _ _).1 hb; simp at this; omega)⟩
      case measure => simp [intOf]; omega
    · have hk3 : k = 100 := by omega
      have hal := HO2.out
      rw [hk3, fillM_all] at hal
      clear hk3
      obtain ⟨k0, rfl⟩ : ∃ k0, k0 = k := ⟨_, rfl⟩
      have HAL := Lib.hid hal
      have HW1 := Lib.hid (HD1.out.mlt)
      clear hal HO2
      have hgb := HB1.out.size
      go_wp2_with fail
      obtain ⟨wo, rfl⟩ : ∃ wo : World, wo = wr := ⟨_, rfl⟩
      go_loopw [7] (fun v w2 => ∃ (k : Nat) (D : DS) (M R : Nat → Prop), k ≤ l.length ∧ k ≤ 60 ∧ v = .int .i64 k ∧ IsDisk w2 g D M R ∧ D.Good ∧ D.gs.length ≤ k ∧ (∀ b, M b → w.heap.size ≤ b) ∧ ¬ M w1.heap.size ∧ w2.ownsRow w1.heap.size 3 1 (.slice (some ⟨w1.heap.size, 0, none⟩) 100 100) 100 (byI (List.replicate 100 (-1))) ∧ Below w.heap.size w w2) (fun v _ => 60 - (intOf v).toNat)
      case atStart => exact ⟨0, _, M, NoB, by omega, by omega, rfl, HD1.out.below HB2.out, good_new _, by show ([] : List (Nat × List Int)).length ≤ 0; simp, HM1.out, fun h => by have := HW1.out _ h; omega, HAL.out, bl_chain HB1.out HB2.out⟩
      case round =>
        obtain ⟨k, D, M2, R2, hkl, hk, rfl, hd3, hg3, hf3, hm3, hn3, ho3, hb3⟩ := hrel
        have HD3 := Lib.hid hd3
        have HG3 := Lib.hid hg3
        have HM3 := Lib.hid hm3
        have HN3 := Lib.hid hn3
        have HO3 := Lib.hid ho3
        have HB3 := Lib.hid hb3
        clear hd3 hg3 hm3 hn3 ho3 hb3
        by_cases hlt : k < l.length ∧ k < 60
        · obtain ⟨h1, h2⟩ := hlt
          obtain ⟨hin, ab, ao, rfl, hce⟩ := HX.out k h1
          have HIN := Lib.hid hin
          have hbl : ab < w.heap.size := cell_block_lt (hce 0 _ rfl)
          have x0 : wr.cell? ⟨ab, ao + k * 4, none⟩ = some (.int .i64 (l[k]).o.kind) := (HB3.out.cell hbl).trans (hce 0 _ rfl)
          have x1 : wr.cell? ⟨ab, ao + k * 4 + 1, none⟩ = some (.int .i64 (l[k]).o.n) := (HB3.out.cell hbl).trans (hce 1 _ rfl)
          have x2 : wr.cell? ⟨ab, ao + k * 4 + 2, none⟩ = some (.slice (l[k]).A (l[k]).o.b.length (l[k]).c) := (HB3.out.cell hbl).trans (hce 2 _ rfl)
          have x3 : wr.cell? ⟨ab, ao + k * 4 + 3, none⟩ = some (.slice (l[k]).B (l[k]).o.l.length (l[k]).d) := (HB3.out.cell hbl).trans (hce 3 _ rfl)
          clear hin hce
          generalize l[k] = y at HIN x0 x1 x2 x3
          have hno := HIN.out.no HM3.out
          obtain ⟨hno1, hno2⟩ := hno
          have HN1 := Lib.hid hno1
          have HN2 := Lib.hid hno2
          have hfew : D.gs.length < 1000000 := by omega
          clear hno1 hno2
          go_wp2_with (first
            | (go_at_call 8; (with_reducible refine (do_any y.A y.B y.c y.d y.o HD3.out HIN.out.ok (HIN.out.rb.below HB3.out) (HIN.out.rl.below HB3.out) HN1.out HN2.out hfew).mono ?_); rintro e w4 ⟨rfl, M4, R4, hd4, hm4, hr4, ht4⟩; have HD4 := Lib.hid hd4; have HM4 := Lib.hid hm4; have HT4 := Lib.hid ht4; clear hd4 hm4 hr4 ht4))
          go_roundw
          case rel =>
            have hz := HB3.out.size
            have hz1 := HB1.out.size
            have hlt4 := own_lt HO3.out w1.heap.size rfl
            refine ⟨k + 1, doD D y.o, M4, R4, by omega, by omega, by go_num, HD4.out, good_do HG3.out _, few_do hf3 _, fun b hb => ?_, fun hb => ?_, own_tr HO3.out HT4.out (fun b hb hM => ?_), bl_tr HB3.out HT4.out (fun b hb => HM3.out b hb)⟩
            · rcases HM4.out b hb with h | h
              · exact HM3.out b h
              · omega
            · rcases HM4.out _ hb with h | h
              · exact HN3.out h
              · omega
            · have := (Blo.some_iff _ _).1 hb
              simp at this
              subst this
              exact HN3.out hM
          case measure => simp [intOf]; omega
        · have hcase : (k < l.length ∧ k = 60) ∨ k = l.length := by omega
          clear hlt
          rcases hcase with ⟨h1, h2⟩ | h1
          all_goals
            go_wp2_with (first
              | (go_at_call 21; (with_reducible refine (copy_any HD3.out).mono ?_); rintro e w5 ⟨dc, Mc, rfl, hd, hm, hb⟩; have HDC := Lib.hid hd; have HMC := Lib.hid hm; have HBC := Lib.hid hb; clear hd hm hb)
              | (go_at_call 21; (with_reducible refine (copy_any (HD3.out.below HBC.out)).mono ?_); rintro e w6 ⟨dn, Mn, rfl, hd, hm, hb⟩; have HDN := Lib.hid hd; have HMN := Lib.hid hm; have HBN := Lib.hid hb; clear hd hm hb)
              | (go_at_call 21; (with_reducible refine (copy_any (HD3.out.below (bl_chain HBC.out HBN.out))).mono ?_); rintro e w7 ⟨df, Mf, rfl, hd, hm, hb⟩; have HS7 := Lib.hid (ends_7 HD3.out HDC.out HMC.out HBC.out HDN.out HMN.out HBN.out hd hm hb); have HB7 := Lib.hid (bl_chain HBC.out (bl_chain HBN.out hb)); clear hd hm hb)
              | (go_at_call 9; (with_reducible refine (crash_alls HS7.out.dc HG3.out (by omega) (ends_all HO3.out HB7.out) (ends_no HO3.out HS7.out.c)).mono ?_); rintro e w8 ⟨rfl, Mc8, Rc8, hd8, hm8, hr8, ht8⟩; have HS8 := Lib.hid (HS7.out.crash_c hd8 hm8 hr8 ht8); have BW8 := Lib.hid (bl_tr (bl_chain HB3.out HB7.out) ht8 (fun b hb => by have := HS7.out.c b hb; have := HB3.out.size; omega)); clear hd8 hm8 hr8 ht8)
              | (go_at_call 9; (with_reducible refine (crash_none_any HS8.out.dn).mono ?_); rintro e w9 ⟨rfl, Mn9, Rn9, hd9, hm9, hr9, ht9⟩; have HS9 := Lib.hid (HS8.out.crash_n hd9 hm9 hr9 ht9); have BW9 := Lib.hid (bl_tr BW8.out ht9 (fun b hb => by have := HS8.out.n b hb; have := HB3.out.size; have := HB7.out.size; have := BW8.out.size; omega)); clear hd9 hm9 hr9 ht9)
              | (go_at_call 10; (with_reducible refine (image_of D.safe HS9.out.dd rfl).mono ?_); rintro e w10 ⟨AI, cI, rfl, hci, ho, hb⟩; have HOI := Lib.hid ho; have BL10 := Lib.hid hb; clear ho hb)
              | (go_at_call 15; (with_reducible refine (load_ok AI cI D.safe _ (Rd.of_own (ownsRow_base HOI.out (Nat.zero_le _))) HD3.out.ok.bs HD3.out.ok.load).mono ?_); rintro e w11 ⟨gl, Ml, rfl, hd, hm, hb⟩; have HDL := Lib.hid hd; have BL11 := Lib.hid (bl_chain BL10.out hb); clear hd hm hb))
            have BL11d := Lib.hid (BL11.out.drew)
            have PZ : Hid (((newD D.now).gs.length : Int) = 0) := Lib.hid rfl
            have DZ : Hid ((newD D.safe).dead = false) := Lib.hid rfl
            refine ext_start (by kernel_rfl) ?_
            refine ext_take (i := 0) (v := ?_) rfl (by kernel_rfl) (by kernel_rfl) (by kernel_rfl) (fun _ _ _ h => h) (Or.inl ⟨by rfl, ?_⟩) ?_
            rotate_left
            · (intro W hSw; go_simp; try with_reducible rfl)
            try simp only [Act.put, List.setIfInBounds_toArray, List.set_cons_zero, List.set_cons_succ]
            refine ext_take (i := 1) (v := ?_) rfl (by kernel_rfl) (by kernel_rfl) (by kernel_rfl) (fun _ _ _ h => h) (Or.inl ⟨by rfl, ?_⟩) ?_
            rotate_left
            · (intro W hSw; go_simp; try with_reducible rfl)
            try simp only [Act.put, List.setIfInBounds_toArray, List.set_cons_zero, List.set_cons_succ]
            refine ext_take (i := 2) (v := ?_) rfl (by kernel_rfl) (by kernel_rfl) (by kernel_rfl) (fun _ _ _ h => h) (Or.inl ⟨by rfl, ?_⟩) ?_
            rotate_left
            · (intro W hSw; go_simp; try with_reducible rfl)
            try simp only [Act.put, List.setIfInBounds_toArray, List.set_cons_zero, List.set_cons_succ]
            refine ext_take (i := 3) (v := ?_) rfl (by kernel_rfl) (by kernel_rfl) (by kernel_rfl) (fun _ _ _ h => h) (Or.inl ⟨by rfl, ?_⟩) ?_
            rotate_left
            · (intro W hSw; go_simp; try with_reducible rfl)
            try simp only [Act.put, List.setIfInBounds_toArray, List.set_cons_zero, List.set_cons_succ]
            refine ext_take (i := 4) (v := ?_) rfl (by kernel_rfl) (by kernel_rfl) (by kernel_rfl) (fun _ _ _ h => h) (Or.inl ⟨by rfl, ?_⟩) ?_
            rotate_left
            · (intro W hSw; go_simp; try with_reducible rfl)
            try simp only [Act.put, List.setIfInBounds_toArray, List.set_cons_zero, List.set_cons_succ]
            refine ext_take (i := 5) (v := ?_) rfl (by kernel_rfl) (by kernel_rfl) (by kernel_rfl) (fun _ _ _ h => h) (Or.inl ⟨by rfl, ?_⟩) ?_
            rotate_left
            · (intro W hSw; go_simp; try with_reducible rfl)
            try simp only [Act.put, List.setIfInBounds_toArray, List.set_cons_zero, List.set_cons_succ]
            refine ext_take (i := 6) (v := ?_) rfl (by kernel_rfl) (by kernel_rfl) (by kernel_rfl) (fun _ _ _ h => h) (Or.inl ⟨by rfl, ?_⟩) ?_
            rotate_left
            · (intro W hSw; go_simp; try with_reducible rfl)
            try simp only [Act.put, List.setIfInBounds_toArray, List.set_cons_zero, List.set_cons_succ]
            refine ext_take (i := 7) (v := ?_) rfl (by kernel_rfl) (by kernel_rfl) (by kernel_rfl) (fun _ _ _ h => h) (Or.inl ⟨by rfl, ?_⟩) ?_
            rotate_left
            · (intro W hSw; go_simp; try with_reducible rfl)
            try simp only [Act.put, List.setIfInBounds_toArray, List.set_cons_zero, List.set_cons_succ]
            refine ext_take (i := 10) (v := ?_) rfl (by kernel_rfl) (by kernel_rfl) (by kernel_rfl) (fun _ _ _ h => h) (Or.inl ⟨by rfl, ?_⟩) ?_
            rotate_left
            · (intro W hSw; go_simp; try with_reducible rfl)
            try simp only [Act.put, List.setIfInBounds_toArray, List.set_cons_zero, List.set_cons_succ]
            refine ext_call (i := 8) (by kernel_rfl) rfl (fun K hK => ?_)
            go_simp
            (first | (go_at_call 10; (with_reducible refine (image_of D.now (HS9.out.dc.below BL11d.out) rfl).mono ?_); rintro e w12 ⟨A12, c12, rfl, hc12, ho, hb⟩; have k12 := ext_conv ho; have X12 := Lib.hid hb; have BL12 := Lib.hid (bl_chain BL11d.out hb); clear ho hb))
            refine hK.out _ _ (X12.out) ?_
            clear hK K
            try simp only [Act.put, List.setIfInBounds_toArray, List.set_cons_zero, List.set_cons_succ]
            refine ext_take (i := 9) (v := ?_) rfl (by kernel_rfl) (by kernel_rfl) (by kernel_rfl) (fun _ _ _ h => h) (Or.inl ⟨by rfl, ?_⟩) ?_
            rotate_left
            · (intro W hSw; go_simp; try with_reducible rfl)
            try simp only [Act.put, List.setIfInBounds_toArray, List.set_cons_zero, List.set_cons_succ]
            refine ext_call (i := 11) (by kernel_rfl) rfl (fun K hK => ?_)
            go_simp
            (first | (go_at_call 11; (with_reducible refine (now_of D.now (HS9.out.dd.below BL12.out) rfl).mono ?_); rintro e w13 ⟨A13, c13, rfl, hc13, ho, hb⟩; have k13 := ext_conv ho; have X13 := Lib.hid hb; have BX13 := Lib.hid (bl_chain X12.out hb); have BL13 := Lib.hid (bl_chain BL12.out hb); clear ho hb k12))
            refine hK.out _ _ (X13.out) ?_
            clear hK K
            try simp only [Act.put, List.setIfInBounds_toArray, List.set_cons_zero, List.set_cons_succ]
            refine ext_take (i := 12) (v := ?_) rfl (by kernel_rfl) (by kernel_rfl) (by kernel_rfl) (fun _ _ _ h => h) (Or.inl ⟨by rfl, ?_⟩) ?_
            rotate_left
            · (intro W hSw; go_simp; try with_reducible rfl)
            try simp only [Act.put, List.setIfInBounds_toArray, List.set_cons_zero, List.set_cons_succ]
            refine ext_take (i := 13) (v := ?_) rfl (by kernel_rfl) (by kernel_rfl) (by kernel_rfl) (fun _ _ _ h => h) (Or.inl ⟨by rfl, ?_⟩) ?_
            rotate_left
            · (intro W hSw; go_simp; try with_reducible rfl)
            try simp only [Act.put, List.setIfInBounds_toArray, List.set_cons_zero, List.set_cons_succ]
            refine ext_take (i := 14) (v := ?_) rfl (by kernel_rfl) (by kernel_rfl) (by kernel_rfl) (fun _ _ _ h => h) (Or.inl ⟨by rfl, ?_⟩) ?_
            rotate_left
            · (intro W hSw; go_simp; try with_reducible rfl)
            try simp only [Act.put, List.setIfInBounds_toArray, List.set_cons_zero, List.set_cons_succ]
            refine ext_take (i := 15) (v := ?_) rfl (by kernel_rfl) (by kernel_rfl) (by kernel_rfl) (fun _ _ _ h => h) (Or.inl ⟨by rfl, ?_⟩) ?_
            rotate_left
            · (intro W hSw; go_simp; try with_reducible rfl)
            try simp only [Act.put, List.setIfInBounds_toArray, List.set_cons_zero, List.set_cons_succ]
            refine ext_take (i := 16) (v := ?_) rfl (by kernel_rfl) (by kernel_rfl) (by kernel_rfl) (fun _ _ _ h => h) (Or.inl ⟨by rfl, ?_⟩) ?_
            rotate_left
            · (intro W hSw; go_simp; try with_reducible rfl)
            try simp only [Act.put, List.setIfInBounds_toArray, List.set_cons_zero, List.set_cons_succ]
            refine ext_take (i := 19) (v := ?_) rfl (by kernel_rfl) (by kernel_rfl) (by kernel_rfl) (fun _ _ _ h => h) (Or.inl ⟨by rfl, ?_⟩) ?_
            rotate_left
            · (intro W hSw; go_simp; try with_reducible rfl)
            try simp only [Act.put, List.setIfInBounds_toArray, List.set_cons_zero, List.set_cons_succ]
            refine ext_call (i := 17) (by kernel_rfl) rfl (fun K hK => ?_)
            go_simp
            (first | (go_at_call 11; (with_reducible refine (now_of D.safe (HS9.out.dn.below BL13.out) rfl).mono ?_); rintro e w14 ⟨A14, c14, rfl, hc14, ho, hb⟩; have k14 := ext_conv ho; have X14 := Lib.hid hb; have BX14 := Lib.hid (bl_chain BX13.out hb); have BL14 := Lib.hid (bl_chain BL13.out hb); clear ho hb k13))
            refine hK.out _ _ (X14.out) ?_
            clear hK K
            try simp only [Act.put, List.setIfInBounds_toArray, List.set_cons_zero, List.set_cons_succ]
            refine ext_take (i := 18) (v := ?_) rfl (by kernel_rfl) (by kernel_rfl) (by kernel_rfl) (fun _ _ _ h => h) (Or.inl ⟨by rfl, ?_⟩) ?_
            rotate_left
            · (intro W hSw; go_simp; try with_reducible rfl)
            try simp only [Act.put, List.setIfInBounds_toArray, List.set_cons_zero, List.set_cons_succ]
            refine ext_call (i := 20) (by kernel_rfl) rfl (fun K hK => ?_)
            go_simp
            (first | (go_at_call 11; (with_reducible refine (now_of D.safe (HDL.out.drew_.below BX14.out) rfl).mono ?_); rintro e w15 ⟨A15, c15, rfl, hc15, ho, hb⟩; have k15 := ext_conv ho; have X15 := Lib.hid hb; have BL15 := Lib.hid (bl_chain BL14.out hb); clear ho hb k14))
            refine hK.out _ _ (X15.out) ?_
            clear hK K
            try simp only [Act.put, List.setIfInBounds_toArray, List.set_cons_zero, List.set_cons_succ]
            refine ext_take (i := 21) (v := ?_) rfl (by kernel_rfl) (by kernel_rfl) (by kernel_rfl) (fun _ _ _ h => h) (Or.inl ⟨by rfl, ?_⟩) ?_
            rotate_left
            · (intro W hSw; go_simp; try with_reducible rfl)
            try simp only [Act.put, List.setIfInBounds_toArray, List.set_cons_zero, List.set_cons_succ]
            refine ext_take (i := 22) (v := ?_) rfl (by kernel_rfl) (by kernel_rfl) (by kernel_rfl) (fun _ _ _ h => h) (Or.inl ⟨by rfl, ?_⟩) ?_
            rotate_left
            · (intro W hSw; go_simp; try with_reducible rfl)
            try simp only [Act.put, List.setIfInBounds_toArray, List.set_cons_zero, List.set_cons_succ]
            refine ext_take (i := 23) (v := ?_) rfl (by kernel_rfl) (by kernel_rfl) (by kernel_rfl) (fun _ _ _ h => h) (Or.inl ⟨by rfl, ?_⟩) ?_
            rotate_left
            · (intro W hSw; go_simp; try with_reducible rfl)
            try simp only [Act.put, List.setIfInBounds_toArray, List.set_cons_zero, List.set_cons_succ]
            refine ext_take (i := 24) (v := ?_) rfl (by kernel_rfl) (by kernel_rfl) (by kernel_rfl) (fun _ _ _ h => h) (Or.inl ⟨by rfl, ?_⟩) ?_
            rotate_left
            · (intro W hSw; go_simp; try with_reducible rfl)
            try simp only [Act.put, List.setIfInBounds_toArray, List.set_cons_zero, List.set_cons_succ]
            refine ext_take (i := 25) (v := ?_) rfl (by kernel_rfl) (by kernel_rfl) (by kernel_rfl) (fun _ _ _ h => h) (Or.inl ⟨by rfl, ?_⟩) ?_
            rotate_left
            · (intro W hSw; go_simp; try with_reducible rfl)
            try simp only [Act.put, List.setIfInBounds_toArray, List.set_cons_zero, List.set_cons_succ]
            refine ext_take (i := 28) (v := ?_) rfl (by kernel_rfl) (by kernel_rfl) (by kernel_rfl) (fun _ _ _ h => h) (Or.inl ⟨by rfl, ?_⟩) ?_
            rotate_left
            · (intro W hSw; go_simp; try with_reducible rfl)
            try simp only [Act.put, List.setIfInBounds_toArray, List.set_cons_zero, List.set_cons_succ]
            refine ext_call (i := 26) (by kernel_rfl) rfl (fun K hK => ?_)
            go_simp
            (first | (go_at_call 10; (with_reducible refine (image_of D.safe (HS9.out.dn.below BL15.out) rfl).mono ?_); rintro e w16 ⟨A16, c16, rfl, hc16, ho, hb⟩; have k16 := ext_conv ho; have X16 := Lib.hid hb; have BL16 := Lib.hid (bl_chain BL15.out hb); clear ho hb k15))
            refine hK.out _ _ (X16.out) ?_
            clear hK K
            try simp only [Act.put, List.setIfInBounds_toArray, List.set_cons_zero, List.set_cons_succ]
            refine ext_take (i := 27) (v := ?_) rfl (by kernel_rfl) (by kernel_rfl) (by kernel_rfl) (fun _ _ _ h => h) (Or.inl ⟨by rfl, ?_⟩) ?_
            rotate_left
            · (intro W hSw; go_simp; try with_reducible rfl)
            try simp only [Act.put, List.setIfInBounds_toArray, List.set_cons_zero, List.set_cons_succ]
            refine ext_call (i := 29) (by kernel_rfl) rfl (fun K hK => ?_)
            go_simp
            (first | (go_at_call 10; (with_reducible refine (image_of D.safe (HS9.out.dd.below BL16.out) rfl).mono ?_); rintro e w17 ⟨A17, c17, rfl, hc17, ho, hb⟩; have k17 := ext_conv ho; have X17 := Lib.hid hb; have BL17 := Lib.hid (bl_chain BL16.out hb); clear ho hb k16))
            refine hK.out _ _ (X17.out) ?_
            clear hK K
            try simp only [Act.put, List.setIfInBounds_toArray, List.set_cons_zero, List.set_cons_succ]
            refine ext_take (i := 30) (v := ?_) rfl (by kernel_rfl) (by kernel_rfl) (by kernel_rfl) (fun _ _ _ h => h) (Or.inl ⟨by rfl, ?_⟩) ?_
            rotate_left
            · (intro W hSw; go_simp; try with_reducible rfl)
            try simp only [Act.put, List.setIfInBounds_toArray, List.set_cons_zero, List.set_cons_succ]
            refine ext_take (i := 31) (v := ?_) rfl (by kernel_rfl) (by kernel_rfl) (by kernel_rfl) (fun _ _ _ h => h) (Or.inl ⟨by rfl, ?_⟩) ?_
            rotate_left
            · (intro W hSw; go_simp; try with_reducible rfl)
            try simp only [Act.put, List.setIfInBounds_toArray, List.set_cons_zero, List.set_cons_succ]
            refine ext_take (i := 32) (v := ?_) rfl (by kernel_rfl) (by kernel_rfl) (by kernel_rfl) (fun _ _ _ h => h) (Or.inl ⟨by rfl, ?_⟩) ?_
            rotate_left
            · (intro W hSw; go_simp; try with_reducible rfl)
            try simp only [Act.put, List.setIfInBounds_toArray, List.set_cons_zero, List.set_cons_succ]
            refine ext_take (i := 33) (v := ?_) rfl (by kernel_rfl) (by kernel_rfl) (by kernel_rfl) (fun _ _ _ h => h) (Or.inl ⟨by rfl, ?_⟩) ?_
            rotate_left
            · (intro W hSw; go_simp; try with_reducible rfl)
            try simp only [Act.put, List.setIfInBounds_toArray, List.set_cons_zero, List.set_cons_succ]
            refine ext_take (i := 34) (v := ?_) rfl (by kernel_rfl) (by kernel_rfl) (by kernel_rfl) (fun _ _ _ h => h) (Or.inl ⟨by rfl, ?_⟩) ?_
            rotate_left
            · (intro W hSw; go_simp; try with_reducible rfl)
            try simp only [Act.put, List.setIfInBounds_toArray, List.set_cons_zero, List.set_cons_succ]
            refine ext_call (i := 35) (by kernel_rfl) rfl (fun K hK => ?_)
            go_simp
            (first | (go_at_call 23; (with_reducible refine (pending_of 0 (HS9.out.dc.below BL17.out) PZ.out).mono ?_); rintro e w' ⟨rfl, rfl⟩))
            refine hK.out _ _ (Below.refl _ _) ?_
            clear hK K
            try simp only [Act.put, List.setIfInBounds_toArray, List.set_cons_zero, List.set_cons_succ]
            refine ext_take (i := 36) (v := ?_) rfl (by kernel_rfl) (by kernel_rfl) (by kernel_rfl) (fun _ _ _ h => h) (Or.inl ⟨by rfl, ?_⟩) ?_
            rotate_left
            · (intro W hSw; go_simp; try with_reducible rfl)
            try simp only [Act.put, List.setIfInBounds_toArray, List.set_cons_zero, List.set_cons_succ]
            refine ext_take (i := 37) (v := ?_) rfl (by kernel_rfl) (by kernel_rfl) (by kernel_rfl) (fun _ _ _ h => h) (Or.inl ⟨by rfl, ?_⟩) ?_
            rotate_left
            · (intro W hSw; go_simp; try with_reducible rfl)
            try simp only [Act.put, List.setIfInBounds_toArray, List.set_cons_zero, List.set_cons_succ]
            refine ext_take (i := 38) (v := ?_) rfl (by kernel_rfl) (by kernel_rfl) (by kernel_rfl) (fun _ _ _ h => h) (Or.inl ⟨by rfl, ?_⟩) ?_
            rotate_left
            · (intro W hSw; go_simp; try with_reducible rfl)
            try simp only [Act.put, List.setIfInBounds_toArray, List.set_cons_zero, List.set_cons_succ]
            refine ext_take (i := 39) (v := ?_) rfl (by kernel_rfl) (by kernel_rfl) (by kernel_rfl) (fun _ _ _ h => h) (Or.inl ⟨by rfl, ?_⟩) ?_
            rotate_left
            · (intro W hSw; go_simp; try with_reducible rfl)
            try simp only [Act.put, List.setIfInBounds_toArray, List.set_cons_zero, List.set_cons_succ]
            refine ext_call (i := 40) (by kernel_rfl) rfl (fun K hK => ?_)
            go_simp
            (first | (go_at_call 24; (with_reducible refine (dead_of false (HS9.out.dn.below BL17.out) DZ.out).mono ?_); rintro e w' ⟨rfl, rfl⟩))
            refine hK.out _ _ (Below.refl _ _) ?_
            clear hK K
            try simp only [Act.put, List.setIfInBounds_toArray, List.set_cons_zero, List.set_cons_succ]
            refine ext_take (i := 41) (v := ?_) rfl (by kernel_rfl) (by kernel_rfl) (by kernel_rfl) (fun _ _ _ h => h) (Or.inl ⟨by rfl, ?_⟩) ?_
            rotate_left
            · (intro W hSw; go_simp; try with_reducible rfl)
            try simp only [Act.put, List.setIfInBounds_toArray, List.set_cons_zero, List.set_cons_succ]
            refine wpAnyH_done (by kernel_rfl) ?_ _
            obtain ⟨X, E, hXE, hXc⟩ := flush_cases D
            have HF := Lib.hid (show Calls Try.prog 25 #[.pointer (some ⟨df, 0, none⟩)] w17 (RetD w17 df X Mf R2 E) from by
              have h := flush_any (HS9.out.df.below BL17.out)
              rw [hXE.1, hXE.2] at h
              exact h)
            clear hXE
            rcases hXc with ⟨hE, hs, hg⟩ | ⟨hE, hdead, hs, hn⟩
            · subst hE
              have HSX := Lib.hid hs
              have HGX := Lib.hid (show X.gs.length = 0 by rw [hg]; rfl)
              clear hs hg
              go_wp2_with (first
                | (go_at_call 25; (with_reducible refine HF.out.mono ?_); rintro e w18 ⟨rfl, hd, ht⟩; have HS18 := Lib.hid ((HS9.out.below BL17.out).crash_f hd (fun b h => .inl h) (fun b h => .inl h) ht); have BW18 := Lib.hid (bl_tr (bl_chain BW9.out BL17.out) ht (fun b hb => by have := HS9.out.f b hb; have := HB3.out.size; have := HB7.out.size; have := BW8.out.size; have := BW9.out.size; omega)); clear hd ht))
              have HGX := Lib.hid (show (X.gs.length : Int) = 0 by rw [HGX.out]; rfl)
              refine ext_start (by kernel_rfl) ?_
              refine ext_take (i := 0) (v := ?_) rfl (by kernel_rfl) (by kernel_rfl) (by kernel_rfl) (fun _ _ _ h => h) (Or.inl ⟨by rfl, ?_⟩) ?_
              rotate_left
              · (intro W hSw; go_simp; try with_reducible rfl)
              try simp only [Act.put, List.setIfInBounds_toArray, List.set_cons_zero, List.set_cons_succ]
              refine ext_take (i := 3) (v := ?_) rfl (by kernel_rfl) (by kernel_rfl) (by kernel_rfl) (fun _ _ _ h => h) (Or.inl ⟨by rfl, ?_⟩) ?_
              rotate_left
              · (intro W hSw; go_simp; try with_reducible rfl)
              try simp only [Act.put, List.setIfInBounds_toArray, List.set_cons_zero, List.set_cons_succ]
              refine ext_call (i := 1) (by kernel_rfl) rfl (fun K hK => ?_)
              go_simp
              (first | (go_at_call 10; (with_reducible refine (image_of D.now (HS18.out.df.drew_) HSX.out).mono ?_); rintro e w19 ⟨A19, c19, rfl, hc19, ho, hb⟩; have k19 := ext_conv ho; have X19 := Lib.hid hb; clear ho hb))
              refine hK.out _ _ (X19.out) ?_
              clear hK K
              try simp only [Act.put, List.setIfInBounds_toArray, List.set_cons_zero, List.set_cons_succ]
              refine ext_take (i := 2) (v := ?_) rfl (by kernel_rfl) (by kernel_rfl) (by kernel_rfl) (fun _ _ _ h => h) (Or.inl ⟨by rfl, ?_⟩) ?_
              rotate_left
              · (intro W hSw; go_simp; try with_reducible rfl)
              try simp only [Act.put, List.setIfInBounds_toArray, List.set_cons_zero, List.set_cons_succ]
              refine ext_call (i := 4) (by kernel_rfl) rfl (fun K hK => ?_)
              go_simp
              (first | (go_at_call 11; (with_reducible refine (now_of D.now (HS18.out.dd.drew_.below X19.out) rfl).mono ?_); rintro e w20 ⟨A20, c20, rfl, hc20, ho, hb⟩; have k20 := ext_conv ho; have X20 := Lib.hid hb; clear ho hb k19))
              refine hK.out _ _ (X20.out) ?_
              clear hK K
              try simp only [Act.put, List.setIfInBounds_toArray, List.set_cons_zero, List.set_cons_succ]
              refine ext_take (i := 5) (v := ?_) rfl (by kernel_rfl) (by kernel_rfl) (by kernel_rfl) (fun _ _ _ h => h) (Or.inl ⟨by rfl, ?_⟩) ?_
              rotate_left
              · (intro W hSw; go_simp; try with_reducible rfl)
              try simp only [Act.put, List.setIfInBounds_toArray, List.set_cons_zero, List.set_cons_succ]
              refine ext_take (i := 6) (v := ?_) rfl (by kernel_rfl) (by kernel_rfl) (by kernel_rfl) (fun _ _ _ h => h) (Or.inl ⟨by rfl, ?_⟩) ?_
              rotate_left
              · (intro W hSw; go_simp; try with_reducible rfl)
              try simp only [Act.put, List.setIfInBounds_toArray, List.set_cons_zero, List.set_cons_succ]
              refine ext_take (i := 7) (v := ?_) rfl (by kernel_rfl) (by kernel_rfl) (by kernel_rfl) (fun _ _ _ h => h) (Or.inl ⟨by rfl, ?_⟩) ?_
              rotate_left
              · (intro W hSw; go_simp; try with_reducible rfl)
              try simp only [Act.put, List.setIfInBounds_toArray, List.set_cons_zero, List.set_cons_succ]
              refine ext_take (i := 8) (v := ?_) rfl (by kernel_rfl) (by kernel_rfl) (by kernel_rfl) (fun _ _ _ h => h) (Or.inl ⟨by rfl, ?_⟩) ?_
              rotate_left
              · (intro W hSw; go_simp; try with_reducible rfl)
              try simp only [Act.put, List.setIfInBounds_toArray, List.set_cons_zero, List.set_cons_succ]
              refine ext_call (i := 9) (by kernel_rfl) rfl (fun K hK => ?_)
              go_simp
              (first | (go_at_call 23; (with_reducible refine (pending_of 0 (HS18.out.df.drew_.below (bl_chain X19.out X20.out)) HGX.out).mono ?_); rintro e w' ⟨rfl, rfl⟩))
              refine hK.out _ _ (Below.refl _ _) ?_
              clear hK K
              try simp only [Act.put, List.setIfInBounds_toArray, List.set_cons_zero, List.set_cons_succ]
              refine ext_take (i := 10) (v := ?_) rfl (by kernel_rfl) (by kernel_rfl) (by kernel_rfl) (fun _ _ _ h => h) (Or.inl ⟨by rfl, ?_⟩) ?_
              rotate_left
              · (intro W hSw; go_simp; try with_reducible rfl)
              try simp only [Act.put, List.setIfInBounds_toArray, List.set_cons_zero, List.set_cons_succ]
              refine ext_take (i := 11) (v := ?_) rfl (by kernel_rfl) (by kernel_rfl) (by kernel_rfl) (fun _ _ _ h => h) (Or.inl ⟨by rfl, ?_⟩) ?_
              rotate_left
              · (intro W hSw; go_simp; try with_reducible rfl)
              try simp only [Act.put, List.setIfInBounds_toArray, List.set_cons_zero, List.set_cons_succ]
              refine ext_take (i := 12) (v := ?_) rfl (by kernel_rfl) (by kernel_rfl) (by kernel_rfl) (fun _ _ _ h => h) (Or.inl ⟨by rfl, ?_⟩) ?_
              rotate_left
              · (intro W hSw; go_simp; try with_reducible rfl)
              try simp only [Act.put, List.setIfInBounds_toArray, List.set_cons_zero, List.set_cons_succ]
              refine ext_call (i := 13) (by kernel_rfl) rfl (fun K hK => ?_)
              go_simp
              (first | (go_at_call 12; (with_reducible refine (known_any _).mono ?_); rintro e w21 ⟨rfl, hb⟩; have X21 := Lib.hid hb; clear hb))
              refine hK.out _ _ (X21.out) ?_
              clear hK K
              try simp only [Act.put, List.setIfInBounds_toArray, List.set_cons_zero, List.set_cons_succ]
              refine ext_take (i := 14) (v := ?_) rfl (by kernel_rfl) (by kernel_rfl) (by kernel_rfl) (fun _ _ _ h => h) (Or.inl ⟨by rfl, ?_⟩) ?_
              rotate_left
              · (intro W hSw; go_simp; try with_reducible rfl)
              try simp only [Act.put, List.setIfInBounds_toArray, List.set_cons_zero, List.set_cons_succ]
              refine ext_take (i := 15) (v := ?_) rfl (by kernel_rfl) (by kernel_rfl) (by kernel_rfl) (fun _ _ _ h => h) (Or.inl ⟨by rfl, ?_⟩) ?_
              rotate_left
              · (intro W hSw; go_simp; try with_reducible rfl)
              try simp only [Act.put, List.setIfInBounds_toArray, List.set_cons_zero, List.set_cons_succ]
              refine wpAnyH_done (by kernel_rfl) ?_ _
              go_wp2_with fail
              go_ret
              exact ⟨by rfl, bl_chain (bl_chain (bl_chain BW18.out.drew X19.out) X20.out) X21.out⟩
            · have HDX := Lib.hid hdead
              have HSX := Lib.hid hs
              have HNX := Lib.hid hn
              clear hdead hs hn
              rcases hE with rfl | rfl
              all_goals
                go_wp2_with (first
                  | (go_at_call 25; (with_reducible refine HF.out.mono ?_); rintro e w18 ⟨rfl, hd, ht⟩; have HS18 := Lib.hid ((HS9.out.below BL17.out).crash_f hd (fun b h => .inl h) (fun b h => .inl h) ht); have BW18 := Lib.hid (bl_tr (bl_chain BW9.out BL17.out) ht (fun b hb => by have := HS9.out.f b hb; have := HB3.out.size; have := HB7.out.size; have := BW8.out.size; have := BW9.out.size; omega)); clear hd ht))
                refine ext_start (by kernel_rfl) ?_
                refine ext_take (i := 0) (v := ?_) rfl (by kernel_rfl) (by kernel_rfl) (by kernel_rfl) (fun _ _ _ h => h) (Or.inl ⟨by rfl, ?_⟩) ?_
                rotate_left
                · (intro W hSw; go_simp; try with_reducible rfl)
                try simp only [Act.put, List.setIfInBounds_toArray, List.set_cons_zero, List.set_cons_succ]
                refine ext_call (i := 1) (by kernel_rfl) rfl (fun K hK => ?_)
                go_simp
                (first | (go_at_call 24; (with_reducible refine (dead_of true HS18.out.df.drew_ HDX.out).mono ?_); rintro e w' ⟨rfl, rfl⟩))
                refine hK.out _ _ (Below.refl _ _) ?_
                clear hK K
                try simp only [Act.put, List.setIfInBounds_toArray, List.set_cons_zero, List.set_cons_succ]
                refine ext_take (i := 2) (v := ?_) rfl (by kernel_rfl) (by kernel_rfl) (by kernel_rfl) (fun _ _ _ h => h) (Or.inl ⟨by rfl, ?_⟩) ?_
                rotate_left
                · (intro W hSw; go_simp; try with_reducible rfl)
                try simp only [Act.put, List.setIfInBounds_toArray, List.set_cons_zero, List.set_cons_succ]
                refine ext_take (i := 3) (v := ?_) rfl (by kernel_rfl) (by kernel_rfl) (by kernel_rfl) (fun _ _ _ h => h) (Or.inl ⟨by rfl, ?_⟩) ?_
                rotate_left
                · (intro W hSw; go_simp; try with_reducible rfl)
                try simp only [Act.put, List.setIfInBounds_toArray, List.set_cons_zero, List.set_cons_succ]
                refine ext_take (i := 6) (v := ?_) rfl (by kernel_rfl) (by kernel_rfl) (by kernel_rfl) (fun _ _ _ h => h) (Or.inl ⟨by rfl, ?_⟩) ?_
                rotate_left
                · (intro W hSw; go_simp; try with_reducible rfl)
                try simp only [Act.put, List.setIfInBounds_toArray, List.set_cons_zero, List.set_cons_succ]
                refine ext_call (i := 4) (by kernel_rfl) rfl (fun K hK => ?_)
                go_simp
                (first | (go_at_call 10; (with_reducible refine (image_of D.safe HS18.out.df.drew_ HSX.out).mono ?_); rintro e w19 ⟨A19, c19, rfl, hc19, ho, hb⟩; have k19 := ext_conv ho; have X19 := Lib.hid hb; clear ho hb))
                refine hK.out _ _ (X19.out) ?_
                clear hK K
                try simp only [Act.put, List.setIfInBounds_toArray, List.set_cons_zero, List.set_cons_succ]
                refine ext_take (i := 5) (v := ?_) rfl (by kernel_rfl) (by kernel_rfl) (by kernel_rfl) (fun _ _ _ h => h) (Or.inl ⟨by rfl, ?_⟩) ?_
                rotate_left
                · (intro W hSw; go_simp; try with_reducible rfl)
                try simp only [Act.put, List.setIfInBounds_toArray, List.set_cons_zero, List.set_cons_succ]
                refine ext_call (i := 7) (by kernel_rfl) rfl (fun K hK => ?_)
                go_simp
                (first | (go_at_call 10; (with_reducible refine (image_of D.safe (HS18.out.dd.drew_.below X19.out) rfl).mono ?_); rintro e w20 ⟨A20, c20, rfl, hc20, ho, hb⟩; have k20 := ext_conv ho; have X20 := Lib.hid hb; have Y20 := Lib.hid (bl_chain X19.out hb); clear ho hb k19))
                refine hK.out _ _ (X20.out) ?_
                clear hK K
                try simp only [Act.put, List.setIfInBounds_toArray, List.set_cons_zero, List.set_cons_succ]
                refine ext_take (i := 8) (v := ?_) rfl (by kernel_rfl) (by kernel_rfl) (by kernel_rfl) (fun _ _ _ h => h) (Or.inl ⟨by rfl, ?_⟩) ?_
                rotate_left
                · (intro W hSw; go_simp; try with_reducible rfl)
                try simp only [Act.put, List.setIfInBounds_toArray, List.set_cons_zero, List.set_cons_succ]
                refine ext_take (i := 9) (v := ?_) rfl (by kernel_rfl) (by kernel_rfl) (by kernel_rfl) (fun _ _ _ h => h) (Or.inl ⟨by rfl, ?_⟩) ?_
                rotate_left
                · (intro W hSw; go_simp; try with_reducible rfl)
                try simp only [Act.put, List.setIfInBounds_toArray, List.set_cons_zero, List.set_cons_succ]
                refine ext_take (i := 10) (v := ?_) rfl (by kernel_rfl) (by kernel_rfl) (by kernel_rfl) (fun _ _ _ h => h) (Or.inl ⟨by rfl, ?_⟩) ?_
                rotate_left
                · (intro W hSw; go_simp; try with_reducible rfl)
                try simp only [Act.put, List.setIfInBounds_toArray, List.set_cons_zero, List.set_cons_succ]
                refine ext_take (i := 11) (v := ?_) rfl (by kernel_rfl) (by kernel_rfl) (by kernel_rfl) (fun _ _ _ h => h) (Or.inl ⟨by rfl, ?_⟩) ?_
                rotate_left
                · (intro W hSw; go_simp; try with_reducible rfl)
                try simp only [Act.put, List.setIfInBounds_toArray, List.set_cons_zero, List.set_cons_succ]
                refine ext_take (i := 12) (v := ?_) rfl (by kernel_rfl) (by kernel_rfl) (by kernel_rfl) (fun _ _ _ h => h) (Or.inl ⟨by rfl, ?_⟩) ?_
                rotate_left
                · (intro W hSw; go_simp; try with_reducible rfl)
                try simp only [Act.put, List.setIfInBounds_toArray, List.set_cons_zero, List.set_cons_succ]
                refine ext_take (i := 15) (v := ?_) rfl (by kernel_rfl) (by kernel_rfl) (by kernel_rfl) (fun _ _ _ h => h) (Or.inl ⟨by rfl, ?_⟩) ?_
                rotate_left
                · (intro W hSw; go_simp; try with_reducible rfl)
                try simp only [Act.put, List.setIfInBounds_toArray, List.set_cons_zero, List.set_cons_succ]
                refine ext_call (i := 13) (by kernel_rfl) rfl (fun K hK => ?_)
                go_simp
                (first | (go_at_call 11; (with_reducible refine (now_of D.now (HS18.out.df.drew_.below Y20.out) HNX.out).mono ?_); rintro e w21 ⟨A21, c21, rfl, hc21, ho, hb⟩; have k21 := ext_conv ho; have X21 := Lib.hid hb; have Y21 := Lib.hid (bl_chain Y20.out hb); clear ho hb k20))
                refine hK.out _ _ (X21.out) ?_
                clear hK K
                try simp only [Act.put, List.setIfInBounds_toArray, List.set_cons_zero, List.set_cons_succ]
                refine ext_take (i := 14) (v := ?_) rfl (by kernel_rfl) (by kernel_rfl) (by kernel_rfl) (fun _ _ _ h => h) (Or.inl ⟨by rfl, ?_⟩) ?_
                rotate_left
                · (intro W hSw; go_simp; try with_reducible rfl)
                try simp only [Act.put, List.setIfInBounds_toArray, List.set_cons_zero, List.set_cons_succ]
                refine ext_call (i := 16) (by kernel_rfl) rfl (fun K hK => ?_)
                go_simp
                (first | (go_at_call 11; (with_reducible refine (now_of D.now (HS18.out.dd.drew_.below Y21.out) rfl).mono ?_); rintro e w22 ⟨A22, c22, rfl, hc22, ho, hb⟩; have k22 := ext_conv ho; have X22 := Lib.hid hb; have Y22 := Lib.hid (bl_chain Y21.out hb); have HDF22 := Lib.hid (fun o => (HS18.out.df.drew_.below (bl_chain Y21.out hb)).below (bl_alloc _ o)); clear ho hb k21))
                refine hK.out _ _ (X22.out) ?_
                clear hK K
                try simp only [Act.put, List.setIfInBounds_toArray, List.set_cons_zero, List.set_cons_succ]
                refine ext_take (i := 17) (v := ?_) rfl (by kernel_rfl) (by kernel_rfl) (by kernel_rfl) (fun _ _ _ h => h) (Or.inl ⟨by rfl, ?_⟩) ?_
                rotate_left
                · (intro W hSw; go_simp; try with_reducible rfl)
                try simp only [Act.put, List.setIfInBounds_toArray, List.set_cons_zero, List.set_cons_succ]
                refine ext_take (i := 18) (v := ?_) rfl (by kernel_rfl) (by kernel_rfl) (by kernel_rfl) (fun _ _ _ h => h) (Or.inl ⟨by rfl, ?_⟩) ?_
                rotate_left
                · (intro W hSw; go_simp; try with_reducible rfl)
                try simp only [Act.put, List.setIfInBounds_toArray, List.set_cons_zero, List.set_cons_succ]
                refine ext_take (i := 19) (v := ?_) rfl (by kernel_rfl) (by kernel_rfl) (by kernel_rfl) (fun _ _ _ h => h) (Or.inl ⟨by rfl, ?_⟩) ?_
                rotate_left
                · (intro W hSw; go_simp; try with_reducible rfl)
                try simp only [Act.put, List.setIfInBounds_toArray, List.set_cons_zero, List.set_cons_succ]
                refine ext_take (i := 20) (v := ?_) rfl (by kernel_rfl) (by kernel_rfl) (by kernel_rfl) (fun _ _ _ h => h) (Or.inl ⟨by rfl, ?_⟩) ?_
                rotate_left
                · (intro W hSw; go_simp; try with_reducible rfl)
                try simp only [Act.put, List.setIfInBounds_toArray, List.set_cons_zero, List.set_cons_succ]
                refine ext_take (i := 21) (v := ?_) rfl (by kernel_rfl) (by kernel_rfl) (by kernel_rfl) (fun _ _ _ h => h) (Or.inl ⟨by rfl, ?_⟩) ?_
                rotate_left
                · (intro W hSw; go_simp; try with_reducible rfl)
                try simp only [Act.put, List.setIfInBounds_toArray, List.set_cons_zero, List.set_cons_succ]
                refine ext_call0 (w0 := w22) (i := 22) (by kernel_rfl) rfl (fun K hK => ?_)
                go_simp
                refine hK.out _ _ (bl_alloc _ _) ?_
                clear hK K
                try simp only [Act.put, List.setIfInBounds_toArray, List.set_cons_zero, List.set_cons_succ]
                refine ext_call0 (w0 := w22) (i := 23) (by kernel_rfl) rfl (fun K hK => ?_)
                have kc := fun (w : World) (C : Array Value) (n c : Nat) => Lib.run_convert_bytes_const (P := Try.prog) w 29 5 C n c Try.underlying29 Try.underlying5
                go_simp
                clear kc
                refine hK.out _ _ (bl_alloc _ _) ?_
                clear hK K
                refine ext_rebase (bl_alloc _ _) ?_
                try simp only [Act.put, List.setIfInBounds_toArray, List.set_cons_zero, List.set_cons_succ]
                refine ext_call (i := 24) (by kernel_rfl) rfl (fun K hK => ?_)
                go_simp
                (first | (go_at_call 22; (with_reducible refine (write_dead _ _ _ _ (HDF22.out _) HDX.out (by omega)).mono ?_); rintro e w' ⟨rfl, rfl⟩))
                refine hK.out _ _ (Below.refl _ _) ?_
                clear hK K
                try simp only [Act.put, List.setIfInBounds_toArray, List.set_cons_zero, List.set_cons_succ]
                refine ext_take (i := 25) (v := ?_) rfl (by kernel_rfl) (by kernel_rfl) (by kernel_rfl) (fun _ _ _ h => h) (Or.inl ⟨by rfl, ?_⟩) ?_
                rotate_left
                · (intro W hSw; go_simp; try with_reducible rfl)
                try simp only [Act.put, List.setIfInBounds_toArray, List.set_cons_zero, List.set_cons_succ]
                refine ext_take (i := 26) (v := ?_) rfl (by kernel_rfl) (by kernel_rfl) (by kernel_rfl) (fun _ _ _ h => h) (Or.inl ⟨by rfl, ?_⟩) ?_
                rotate_left
                · (intro W hSw; go_simp; try with_reducible rfl)
                try simp only [Act.put, List.setIfInBounds_toArray, List.set_cons_zero, List.set_cons_succ]
                refine ext_take (i := 27) (v := ?_) rfl (by kernel_rfl) (by kernel_rfl) (by kernel_rfl) (fun _ _ _ h => h) (Or.inl ⟨by rfl, ?_⟩) ?_
                rotate_left
                · (intro W hSw; go_simp; try with_reducible rfl)
                try simp only [Act.put, List.setIfInBounds_toArray, List.set_cons_zero, List.set_cons_succ]
                refine ext_take (i := 28) (v := ?_) rfl (by kernel_rfl) (by kernel_rfl) (by kernel_rfl) (fun _ _ _ h => h) (Or.inl ⟨by rfl, ?_⟩) ?_
                rotate_left
                · (intro W hSw; go_simp; try with_reducible rfl)
                try simp only [Act.put, List.setIfInBounds_toArray, List.set_cons_zero, List.set_cons_succ]
                refine ext_call (i := 29) (by kernel_rfl) rfl (fun K hK => ?_)
                go_simp
                (first | (go_at_call 25; (with_reducible refine (flush_dead (HDF22.out _) HDX.out).mono ?_); rintro e w' ⟨rfl, rfl⟩))
                refine hK.out _ _ (Below.refl _ _) ?_
                clear hK K
                try simp only [Act.put, List.setIfInBounds_toArray, List.set_cons_zero, List.set_cons_succ]
                refine ext_take (i := 30) (v := ?_) rfl (by kernel_rfl) (by kernel_rfl) (by kernel_rfl) (fun _ _ _ h => h) (Or.inl ⟨by rfl, ?_⟩) ?_
                rotate_left
                · (intro W hSw; go_simp; try with_reducible rfl)
                try simp only [Act.put, List.setIfInBounds_toArray, List.set_cons_zero, List.set_cons_succ]
                refine ext_take (i := 31) (v := ?_) rfl (by kernel_rfl) (by kernel_rfl) (by kernel_rfl) (fun _ _ _ h => h) (Or.inl ⟨by rfl, ?_⟩) ?_
                rotate_left
                · (intro W hSw; go_simp; try with_reducible rfl)
                try simp only [Act.put, List.setIfInBounds_toArray, List.set_cons_zero, List.set_cons_succ]
                refine ext_take (i := 32) (v := ?_) rfl (by kernel_rfl) (by kernel_rfl) (by kernel_rfl) (fun _ _ _ h => h) (Or.inl ⟨by rfl, ?_⟩) ?_
                rotate_left
                · (intro W hSw; go_simp; try with_reducible rfl)
                try simp only [Act.put, List.setIfInBounds_toArray, List.set_cons_zero, List.set_cons_succ]
                refine ext_call (i := 33) (by kernel_rfl) rfl (fun K hK => ?_)
                go_simp
                (first | (go_at_call 12; (with_reducible refine (known_any _).mono ?_); rintro e w23 ⟨rfl, hb⟩; have X23 := Lib.hid hb; clear hb))
                refine hK.out _ _ (X23.out) ?_
                clear hK K
                try simp only [Act.put, List.setIfInBounds_toArray, List.set_cons_zero, List.set_cons_succ]
                refine ext_take (i := 34) (v := ?_) rfl (by kernel_rfl) (by kernel_rfl) (by kernel_rfl) (fun _ _ _ h => h) (Or.inl ⟨by rfl, ?_⟩) ?_
                rotate_left
                · (intro W hSw; go_simp; try with_reducible rfl)
                try simp only [Act.put, List.setIfInBounds_toArray, List.set_cons_zero, List.set_cons_succ]
                refine ext_take (i := 35) (v := ?_) rfl (by kernel_rfl) (by kernel_rfl) (by kernel_rfl) (fun _ _ _ h => h) (Or.inl ⟨by rfl, ?_⟩) ?_
                rotate_left
                · (intro W hSw; go_simp; try with_reducible rfl)
                try simp only [Act.put, List.setIfInBounds_toArray, List.set_cons_zero, List.set_cons_succ]
                refine wpAnyH_done (by kernel_rfl) ?_ _
                go_wp2_with fail
                go_ret
                exact ⟨by rfl, bl_chain (bl_chain (bl_chain BW18.out.drew Y22.out) (bl_alloc _ _)) X23.out⟩
end Go.Proofs.Ytadoclcabkcmeaa
