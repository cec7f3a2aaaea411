/- Contracts of the reference's disk: Write, Flush. -/
import Derived.Test.YtadoclcabkcmeaaRef3
namespace Go.Proofs.Ytadoclcabkcmeaa
set_option linter.unusedVariables false
open Go.RowKit

/-- An error is answered; the reference's disk behind the call. -/
def RetR (w : World) (g : Nat) (M R : Nat → Prop) (D : DS) (err : Int) (e : Ending) (w' : World) : Prop :=
  e = .returned (.int .i64 err) ∧ ∃ M' R', IsRef w' g D M' R' ∧ (∀ b, M' b → M b ∨ w.heap.size ≤ b) ∧ (∀ b, R' b → R b ∨ w.heap.size ≤ b) ∧ Tr M w w'
theorem Blk.far_tr {w w' : World} {g : Nat} {t : TypeId} {cs : Array Value} {F : Nat → Prop} (h : Blk w g t cs) (ht : Tr F w w') (hn : ¬ F g) : Blk w' g t cs := ht.blk h hn
theorem Blk.four {w : World} {g : Nat} {t : TypeId} {a0 a1 a2 a3 : Value} (h : Blk w g t #[a0, a1, a2, a3]) (i : Nat) (v : Value) : Blk (w.setCell ⟨g, i, none⟩ v) g t (#[a0, a1, a2, a3].setIfInBounds i v) := h.set_ i v

section
variable {g : Nat} {D : DS} {M R : Nat → Prop} {w : World}
theorem RetR.same {w' : World} {err : Int} (hd : IsRef w g D M R) (hb : Below w.heap.size w w') : RetR w g M R D err (.returned (.int .i64 err)) w' :=
  ⟨rfl, M, R, hd.below hb, fun b x => .inl x, fun b x => .inl x, Tr.of_below hb⟩
theorem ref_put {w1 wA : World} {bs cs : Nat} {cells : List Value} {Al A' : Option Addr} {cl c' : Nat} {lcells : List Value} (h : RAt w g D M R bs cs cells Al cl lcells) {a : Nat} {l : List Int} {b1 c1 : Nat} {scells : List Value} {o : Obj} (hB : isB l) (hw : wrongD D.n a (secs l) = false)
    (ho1 : w1.ownsRow w.heap.size 29 1 (.slice (some ⟨b1, 0, none⟩) (secs l) c1) (secs l) scells) (ha1 : StsAt w1 (fun b => w.heap.size ≤ b ∧ b < w1.heap.size ∧ ¬ Blo (some ⟨b1, 0, none⟩) b) 256 (chunks (secs l) (pad l)) scells) (hb1 : Below w.heap.size w w1)
    (hoA : wA.ownsRow 0 70 2 (.slice A' (D.gs.length + 1) c') (D.gs.length + 1) (lcells ++ [.int .i64 a, .slice (some ⟨b1, 0, none⟩) (secs l) c1])) (htA : Tr (Blo Al) (w1.alloc o) wA) (hnA : NewAt Al A' (w1.alloc o).heap.size) (hfew : D.gs.length < 1000000) :
    RetR w g M R (D.put a (pad l)) 0 (.returned (.int .i64 0)) (wA.setCell ⟨g, 1, none⟩ (.slice A' (D.gs.length + 1) c')) := by
  obtain ⟨w1', w2', w3', w4'⟩ := wrongD_no hw
  have hb' : Below w.heap.size w (w1.alloc o) := bl_chain hb1 (bl_alloc _ _)
  have z1 := hb1.size
  have z2 := htA.size
  simp at z2
  have hgw := h.mlt g h.mg
  have hg1 := own_ge ho1 b1 rfl
  have hg2 := own_lt ho1 b1 rfl
  have hAl := own_lt h.row
  have gne : ¬ Blo Al g := own_blk h.row h.blk (by decide)
  have bsne : ¬ Blo Al bs := fun hb => own_two_ne h.row h.safe (by decide) (b := bs) hb rfl
  have bsg : bs ≠ g := fun e => own_blk h.safe h.blk (by decide) (by rw [e]; rfl)
  have tg : Tr (fun b => b = g) wA (wA.setCell ⟨g, 1, none⟩ (.slice A' (D.gs.length + 1) c')) := (Tr.refl (fun b => b = g) wA).setCell (p := ⟨g, 1, none⟩) (fun _ => rfl) _
  have hA' : ∀ b, Blo A' b → b ≠ g := fun b hb e => by
    subst e
    rcases hnA.blo hb with x | x
    · exact gne x
    · simp at x; omega
  have hRl : ∀ b, R b → ¬ Blo Al b := fun b hb hx => h.rm b hb (h.ml b hx)
  have hRg : ∀ b, R b → b ≠ g := fun b hb e => h.rm b hb (e ▸ h.mg)
  have hNl : ∀ b, (w.heap.size ≤ b ∧ b < w1.heap.size) → ¬ Blo Al b := fun b hb hx => by have := hAl b hx; omega
  refine ⟨rfl, fun b => M b ∨ Blo A' b, fun b => R b ∨ (w.heap.size ≤ b ∧ b < w1.heap.size), ⟨bs, cs, cells, A', c', lcells ++ [.int .i64 a, .slice (some ⟨b1, 0, none⟩) (secs l) c1], put_ok h.ok (pad_isB hB) (by omega) (pad_length l) (by omega), good_put h.good a (pad l), ?_, ?_, ?_, ?_, ?_, .inl h.mg, .inl h.ms, fun b hb => .inr hb, ?_, ?_, ?_, ?_⟩, ?_, ?_, ?_⟩
  · have := (((h.blk.keep hb').far_tr htA gne).set_ 1 (.slice A' (D.gs.length + 1) c'))
    show Blk _ g _ #[.slice (some ⟨bs, 0, none⟩) D.n cs, .slice A' (D.gs ++ [(a, pad l)]).length c', .bool D.failing, .bool D.dead]
    rw [List.length_append]
    exact this
  · exact own_tr (own_tr (own_below (B := 0) h.safe hb') htA (fun b hb hx => bsne (by have := (Blo.some_iff _ _).1 hb; simp at this; rw [this]; exact hx))) tg (fun b hb e => bsg (by have := (Blo.some_iff _ _).1 hb; simp at this; omega))
  · exact (((h.sat.below hb').tr (N' := R) htA hRl (fun _ x => x)).tr tg hRg (fun b x => .inl x))
  · show (wA.setCell _ _).ownsRow 0 _ 2 (.slice A' (D.gs ++ [(a, pad l)]).length c') (D.gs ++ [(a, pad l)]).length _
    rw [List.length_append]
    exact own_tr hoA tg hA'
  · have g1 := ((h.gat.tr (S := R) (Tr.of_below (F := NoB) hb') (fun _ _ => id) (fun _ x => x)).tr (S := R) htA hRl (fun _ x => x)).tr (S := fun b => R b ∨ (w.heap.size ≤ b ∧ b < w1.heap.size)) tg hRg (fun b x => .inl x)
    have s1 := ((ha1.below (bl_alloc _ o)).tr (N' := fun b => w.heap.size ≤ b ∧ b < w1.heap.size) htA (fun b x => hNl b ⟨x.1, x.2.1⟩) (fun b x => ⟨x.1, x.2.1⟩)).tr (N' := fun b => R b ∨ (w.heap.size ≤ b ∧ b < w1.heap.size)) tg (fun b x e => by have := x.1; omega) (fun b x => .inr x)
    have r1 := (((Rd.of_own (ownsRow_base ho1 (Nat.zero_le _))).below (bl_alloc _ o)).tr htA (fun ad e => by injection e with e; subst e; exact hNl b1 ⟨hg1, hg2⟩)).tr tg (fun ad e => by injection e with e; subst e; simp; omega)
    exact g1.snoc (pad_length l) r1 s1 (.inr ⟨hg1, hg2⟩)
  · rintro b (hb | ⟨hb, hb2⟩) (hm | hm)
    · exact h.rm b hb hm
    · rcases hnA.blo hm with x | x
      · exact hRl b hb x
      · have := h.rlt b hb; simp at x; omega
    · have := h.mlt b hm; omega
    · rcases hnA.blo hm with x | x
      · exact hNl b ⟨hb, hb2⟩ x
      · simp at x; omega
  · show (D.gs ++ [(a, pad l)]).length ≤ 1000000
    rw [List.length_append]; simp; omega
  · rintro b (hb | hb)
    · have := h.mlt b hb; simp [World.setCell]; omega
    · have := own_lt hoA b hb; simp [World.setCell]; omega
  · rintro b (hb | hb)
    · have := h.rlt b hb; simp [World.setCell]; omega
    · simp [World.setCell]; omega
  · rintro b (hb | hb)
    · exact .inl hb
    · rcases hnA.blo hb with x | x
      · exact .inl (h.ml b x)
      · right; simp at x; omega
  · rintro b (hb | hb)
    · exact .inl hb
    · exact .inr hb.1
  · exact ((Tr.of_below (F := M) hb').trans htA (fun b hb x => h.ml b x)).setCell (fun _ => h.mg) _

set_option maxHeartbeats 1600000 in
theorem rwrite_any (A : Option Addr) (c : Nat) (l : List Int) (a : Int) (hd : IsRef w g D M R) (hr : Rd w A (by8 l)) (hB : isB l) (hl : l.length ≤ 140737488351232) (hfew : D.gs.length < 1000000) (ha : -9223372036854775808 ≤ a ∧ a ≤ 9223372036854775807) :
    Calls Try.prog 32 #[.pointer (some ⟨g, 0, none⟩), .int .i64 a, .slice A l.length c] w (RetR w g M R (writeD D a l) (writeE D a l)) := by
  have HD := Lib.hid hd
  obtain ⟨bs, cs, cells, Al, cl, lcells, h⟩ := hd
  have c0 := h.blk.cell 0
  have c3 := h.blk.cell 3
  simp at c0 c3
  have HH := Lib.hid h
  have HR := Lib.hid hr
  have HB := Lib.hid hB
  have hmost := h.ok.most
  have hpos := h.ok.pos
  clear h hr hB
  by_cases h1 : D.dead = true
  · have e1 : writeD D a l = D := if_pos h1
    have e2 : writeE D a l = 21 := if_pos h1
    rw [e1, e2]
    clear e1 e2
    rw [h1] at c3
    clear h1
    go_enter Try.func32, Try.ntmps32
    go_wp2_with fail
    go_ret
    exact RetR.same HD.out (Below.refl _ _)
  · have e1 : writeD D a l = if wrongD D.n a (secs l) = true then D else D.put a.toNat (pad l) := if_neg h1
    have e2 : writeE D a l = if wrongD D.n a (secs l) = true then 1 else 0 := if_neg h1
    rw [e1, e2]
    clear e1 e2
    have h1' : D.dead = false := by simpa using h1
    rw [h1'] at c3
    clear h1 h1'
    by_cases h2 : (D.n : Int) * 256 < l.length
    · have hw : wrongD D.n a (secs l) = true := decide_eq_true (by unfold secs; omega)
      rw [if_pos hw, if_pos hw]
      clear hw
      go_enter Try.func32, Try.ntmps32
      go_wp2_with fail
      go_ret
      exact RetR.same HD.out (Below.refl _ _)
    · have hl2 : l.length ≤ 1048576 := by omega
      have hsq : secs l ≤ 4096 := by unfold secs; omega
      by_cases hw : wrongD D.n a (secs l) = true
      · rw [if_pos hw, if_pos hw]
        have HW := Lib.hid hw
        clear hw
        go_enter Try.func32, Try.ntmps32
        go_wp2_with (first
          | (go_at_call 31; (with_reducible refine (sectors_any A l.length c l w rfl HR.out HB.out hl2).mono ?_); rintro e w1 ⟨A1, c1, scells, rfl, hc1, ho1, ha1, hb1⟩; have HB1 := Lib.hid hb1; clear ho1 ha1 hb1)
          | (go_at_call 40; (with_reducible refine (there_any a (secs l) (HD.out.below HB1.out) (by omega)).mono ?_); rintro e w2 ⟨rfl, rfl⟩; rw [HW.out]))
        go_ret
        exact RetR.same HD.out HB1.out
      · have hw' : wrongD D.n a (secs l) = false := by simpa using hw
        rw [if_neg hw, if_neg hw]
        have HW := Lib.hid hw'
        obtain ⟨g1, g2, g3, g4⟩ := wrongD_no hw'
        have hfew2 := hfew
        obtain ⟨m, rfl⟩ := Int.eq_ofNat_of_zero_le g1
        clear hw hw'
        go_enter Try.func32, Try.ntmps32
        go_wp2_with (first
          | (go_at_call 31; (with_reducible refine (sectors_any A l.length c l w rfl HR.out HB.out hl2).mono ?_); rintro e w1 ⟨A1, c1, scells, rfl, hc1, ho1, ha1, hb1⟩; (obtain ⟨b1, rfl⟩ := ownsRow_addr ho1 (by omega)); have k1 := (HH.out.blk.keep hb1).cell 1; simp at k1; have HO1 := Lib.hid ho1; have HA1 := Lib.hid ha1; have HB1 := Lib.hid hb1; clear ho1 ha1 hb1)
          | (go_at_call 40; (with_reducible refine (there_any _ (secs l) (HD.out.below HB1.out) (by omega)).mono ?_); rintro e w2 ⟨rfl, rfl⟩; rw [HW.out])
          | (at_builtin; refine wpL_append ERG rfl rfl ((own_below (B := 0) HH.out.row HB1.out).alloc _) rfl (Rd.newN w1 70 #[.int .i64 m, .slice (some ⟨b1, 0, none⟩) (secs l) c1]) rfl (by simp) (by intro u hu; simp at hu; rcases hu with rfl | rfl <;> rfl) (D.gs.length + 1) (lcells ++ [.int .i64 m, .slice (some ⟨b1, 0, none⟩) (secs l) c1]) rfl rfl (by simp only [maxLen]; omega) (by omega) (by simp) ?_; intro A5 c5 w5 hc5 ho5 ht5 hn5; have k5 := (((HH.out.blk.keep HB1.out).alloc (.cells #[.int .i64 m, .slice (some ⟨b1, 0, none⟩) (secs l) c1] 70)).far_tr ht5 (own_blk HH.out.row HH.out.blk (by decide))); have y1 := k5.cell 1; have y2 := k5.frozen 1; simp at y1; have HO5 := Lib.hid ho5; have HT5 := Lib.hid ht5; have HN5 := Lib.hid hn5; clear ho5 ht5 hn5 k5))
        go_ret
        exact ref_put HH.out HB.out HW.out HO1.out HA1.out HB1.out HO5.out HT5.out HN5.out hfew2
end
end Go.Proofs.Ytadoclcabkcmeaa
