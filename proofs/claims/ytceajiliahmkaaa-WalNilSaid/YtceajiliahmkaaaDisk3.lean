/- Contract of the program's package disk: Write. -/
import Derived.Test.YtceajiliahmkaaaDisk2
set_option maxRecDepth 100000
namespace Go.Proofs.Ytceajiliahmkaaa
set_option linter.unusedVariables false
open Go.RowKit

theorem infoG : (Try.prog.info? 86).map (fun i => (i.zero, i.size, i.bytes)) = some (some (.agg #[.int .i64 0, .slice none 0 0]), 2, 32) := by kernel_rfl
theorem EG : AppTy Try.prog 82 86 2 32 := AppTy.mk' Try.underlying82 infoG rfl (by omega)

theorem put_at {g : Nat} {D : DS} {M R : Nat → Prop} {w w4 : World} {bs cs bn cn : Nat} {Al : Option Addr} {cl : Nat} {cells : List Value} (h : DAt w g D M R bs cs bn cn Al cl cells)
    {zb : Nat} {a k : Nat} {p : List Int} {A3 : Option Addr} {c3 : Nat} (hz1 : w.heap.size ≤ zb) (hz2 : zb < w4.heap.size) (hA : ∀ b, Blo A3 b → (Blo Al b ∨ w.heap.size ≤ b) ∧ b ≠ zb)
    (hblk : Blk w4 g 84 #[.slice (some ⟨bs, 0, none⟩) D.safe.length cs, .slice (some ⟨bn, 0, none⟩) D.now.length cn, .slice A3 (D.gs.length + 1) c3, .bool D.failing, .bool D.dead])
    (hnow : w4.ownsRow 0 5 1 (.slice (some ⟨bn, 0, none⟩) D.now.length cn) D.now.length (splice (by8 D.now) (256 * a) (by8 p)))
    (hrow : w4.ownsRow 0 86 2 (.slice A3 (D.gs.length + 1) c3) (D.gs.length + 1) (cells ++ [.int .i64 a, .slice (some ⟨zb, 0, none⟩) p.length p.length]))
    (hzr : Rd w4 (some ⟨zb, 0, none⟩) (by8 p)) (hp : isB p) (hk : 1 ≤ k) (hl : p.length = 256 * k) (hfit : a + k ≤ D.n) (hfew : D.gs.length < 1000000)
    (tt : Tr (fun b => Blo Al b ∨ b = g ∨ b = bn) w w4) :
    ∃ M' R', IsDisk w4 g (D.put a p) M' R' ∧ (∀ b, M' b → M b ∨ w.heap.size ≤ b) ∧ (∀ b, R' b → R b ∨ w.heap.size ≤ b) ∧ Tr M w w4 := by
  have hFM : ∀ b, (Blo Al b ∨ b = g ∨ b = bn) → M b := by
    rintro b (hb | rfl | rfl)
    · exact h.ml b hb
    · exact h.mg
    · exact h.mn
  have hll : (splice D.now (256 * a) p).length = D.now.length := length_splice _ _ _ (by rw [h.ok.lnow]; omega)
  have hn3 : ∀ b, Blo A3 b → b < w4.heap.size := own_lt hrow
  refine ⟨fun b => M b ∨ Blo A3 b, fun b => R b ∨ b = zb, ⟨bs, cs, bn, cn, A3, c3, cells ++ [.int .i64 a, .slice (some ⟨zb, 0, none⟩) p.length p.length], ⟨put_ok h.ok hp hk hl hfit, ?_, ?_, ?_, ?_, ?_, h.ne, .inl h.mg, .inl h.ms, .inl h.mn, fun b hb => .inr hb, ?_, ?_, ?_, ?_⟩⟩, ?_, ?_, tt.mono (fun b _ hb => hFM b hb)⟩
  · have e : #[Value.slice (some ⟨bs, 0, none⟩) (D.put a p).safe.length cs, .slice (some ⟨bn, 0, none⟩) (D.put a p).now.length cn, .slice A3 (D.put a p).gs.length c3, .bool (D.put a p).failing, .bool (D.put a p).dead] = #[.slice (some ⟨bs, 0, none⟩) D.safe.length cs, .slice (some ⟨bn, 0, none⟩) D.now.length cn, .slice A3 (D.gs.length + 1) c3, .bool D.failing, .bool D.dead] := by
      simp [DS.put, hll]
    rw [e]
    exact hblk
  · refine own_tr h.safe tt (fun b hb => ?_)
    have hb' := (Blo.some_iff _ _).1 hb
    subst hb'
    rintro (h' | h' | h')
    · exact own_two_ne h.row h.safe (by decide) h' hb
    · exact h.ne1 h'
    · exact h.ne h'
  · rw [by8_splice] at hnow
    show w4.ownsRow 0 5 1 (.slice (some ⟨bn, 0, none⟩) (splice D.now (256 * a) p).length cn) (splice D.now (256 * a) p).length (by8 (splice D.now (256 * a) p))
    rw [hll]
    exact hnow
  · show w4.ownsRow 0 86 2 (.slice A3 (D.gs ++ [(a, p)]).length c3) (D.gs ++ [(a, p)]).length _
    rw [List.length_append]
    exact hrow
  · exact GAt.snoc hzr (.inr rfl) ((h.gat.tr tt (fun b hb x => h.rm b hb (hFM b x))).mono (fun b hb => .inl hb))
  · rintro b (hb | rfl) hM
    · rcases hM with hM | hM
      · exact h.rm b hb hM
      · rcases (hA b hM).1 with h' | h'
        · exact h.rm b hb (h.ml b h')
        · have := h.rlt b hb; omega
    · rcases hM with hM | hM
      · have := h.mlt b hM; omega
      · exact (hA b hM).2 rfl
  · show (D.gs ++ [(a, p)]).length ≤ 1000000
    simp
    omega
  · rintro b (hb | hb)
    · exact Nat.lt_of_lt_of_le (h.mlt b hb) tt.size
    · exact hn3 b hb
  · rintro b (hb | rfl)
    · exact Nat.lt_of_lt_of_le (h.rlt b hb) tt.size
    · exact hz2
  · rintro b (hb | hb)
    · exact .inl hb
    · rcases (hA b hb).1 with h' | h'
      · exact .inl (h.ml b h')
      · exact .inr h'
  · rintro b (hb | rfl)
    · exact .inl hb
    · exact .inr hz1

section
variable {g : Nat} {D : DS} {M R : Nat → Prop} {w : World}

set_option maxHeartbeats 1600000 in
theorem write_ok (A : Option Addr) (c : Nat) (l : List Int) (a : Nat) (hd : IsDisk w g D M R) (hr : Rd w A (by8 l)) (hB : isB l) (hl : l.length ≤ 1048576) (h1 : D.dead = false) (h2 : wrongD D.n a (secs l) = false) (hfew : D.gs.length < 1000000) :
    Calls Try.prog 39 #[.pointer (some ⟨g, 0, none⟩), .int .i64 a, .slice A l.length c] w fun e w' => e = .returned (.int .i64 0) ∧
      ∃ M' R', IsDisk w' g (D.put a (pad l)) M' R' ∧ (∀ b, M' b → M b ∨ w.heap.size ≤ b) ∧ (∀ b, R' b → R b ∨ w.heap.size ≤ b) ∧ Tr M w w' := by
  obtain ⟨bs, cs, bn, cn, Al, cl, cells, h⟩ := hd
  have hw1 : ∀ W, IsDisk W g D M R → Calls Try.prog 56 #[.pointer (some ⟨g, 0, none⟩), .int .i64 a, .int .i64 (secs l)] W fun e w' => e = .returned (.bool false) ∧ W = w' := fun W hW => by
    have := wrong_any a (secs l) hW (by obtain ⟨q1, q2, q3, q4⟩ := wrongD_no h2; have := h.ok.most; omega)
    rwa [h2] at this
  obtain ⟨q1, q2, q3, q4⟩ := wrongD_no h2
  have HW1 := Lib.hid (hw1 w ⟨bs, cs, bn, cn, Al, cl, cells, h⟩)
  have hsecs : ((l.length : Int) + 256 - 1) / 256 = (secs l : Int) := by unfold secs; omega
  have hsecs2 : ((l.length : Int) + 255) / 256 = (secs l : Int) := by unfold secs; omega
  have hmost := h.ok.most
  have hs2 : secs l ≤ 4096 := by omega
  have c0 := h.blk.cell 0
  have c1 := h.blk.cell 1
  have c2 := h.blk.cell 2
  have c4 := h.blk.cell 4
  simp at c0 c1 c2 c4
  rw [h1] at c4
  have HH := Lib.hid h
  have HR := Lib.hid hr
  have hmk := run_make8n (secs l * 256) (by omega)
  have hcast : ((secs l * 256 : Nat) : Int) = (secs l : Int) * 256 := by omega
  rw [hcast] at hmk
  have OZ := Lib.hid ((own_zeros w (secs l * 256) (by simp only [maxLen]; omega)).alloc (.cells #[.int .i64 a, .slice (some ⟨w.heap.size, 0, none⟩) (secs l * 256) (secs l * 256)] 86))
  have RZ := Lib.hid (hr.below (bl_chain (bl_alloc w (.cells (Array.replicate (secs l * 256) (.int .u8 0)) 5)) (bl_alloc _ (.cells #[.int .i64 a, .slice (some ⟨w.heap.size, 0, none⟩) (secs l * 256) (secs l * 256)] 86))))
  have LZ : Hid ((by8 l).length = Nat.min l.length (secs l * 256)) := Lib.hid (by rw [by8_length]; unfold secs; exact (Nat.min_eq_left (by omega)).symm)
  have FZ : Hid (0 + (by8 l).length ≤ secs l * 256) := Lib.hid (by rw [by8_length]; unfold secs; omega)
  clear h hr hw1 h2 hcast
  go_enter Try.func39, Try.ntmps39
  go_wp2_with (first
    | (go_at_call 56; (with_reducible refine HW1.out.mono ?_); rintro e w1 ⟨rfl, rfl⟩)
    | (with_reducible refine wpL_copy (off := 0) (cs := by8 l) Try.underlying33 sizes rfl rfl OZ.out rfl rfl (fun _ => rfl) RZ.out LZ.out FZ.out (by8_one _) ?_; intro w2 ho2 ht2; have HO2 := Lib.hid ho2; have HT2 := Lib.hid ht2; clear ho2 ht2))
  have hb2 : Below w.heap.size w w2 := bl_tr (bl_chain (bl_alloc w _) (bl_alloc _ _)) HT2.out (fun x hx => by have := (Blo.some_iff _ _).1 hx; simp at this; omega)
  have hgl := HH.out.blk.lt
  have hbk2 := HH.out.blk.keep hb2
  have d2 := hbk2.cell 2
  have e2 := hbk2.frozen 2
  have d1 := hbk2.cell 1
  simp at d2 d1
  have hgv : Blk w2 (w.heap.size + 1) 86 #[.int .i64 a, .slice (some ⟨w.heap.size, 0, none⟩) (secs l * 256) (secs l * 256)] := HT2.out.blk (Blk.newAt _ _ _ _ (by simp)) (fun hx => by have := (Blo.some_iff _ _).1 hx; simp at this)
  have v0 := hgv.cell 0
  have v1 := hgv.cell 1
  simp at v0 v1
  have hlt2 : w.heap.size + 1 < w2.heap.size := hgv.lt
  have ROW2 := Lib.hid (own_below (B := 0) HH.out.row hb2)
  have HB2 := Lib.hid hb2
  have HBK2 := Lib.hid hbk2
  have HGV := Lib.hid hgv
  have HGAT := Lib.hid (HH.out.gat)
  clear hb2 hbk2 hgv c0 c1 c2 c4
  have hg2 : g < w2.heap.size := by omega
  have CL : Hid (cells.length = D.gs.length * 2) := Lib.hid HH.out.gat.length
  have hrm := HH.out.mlt
  have HMLT := Lib.hid hrm
  clear hrm
  have PAD : Hid (Rd w2 (some ⟨w.heap.size, 0, none⟩) (by8 (pad l))) := Lib.hid (by
    have := Rd.of_own HO2.out
    rwa [by8_splice, pad_splice] at this)
  have PL : Hid ((pad l).length = 256 * secs l) := Lib.hid (pad_length l)
  have LC : Hid ((by8 (pad l)).length = Nat.min (secs l * 256) (256 * secs l)) := Lib.hid (by rw [by8_length, pad_length, Nat.mul_comm]; exact (Nat.min_self _).symm)
  have FC : Hid (256 * a + (by8 (pad l)).length ≤ D.now.length) := Lib.hid (by rw [by8_length, pad_length, HH.out.ok.lnow]; omega)
  have hcn : cn ≤ 9223372036854775807 := by
    obtain ⟨A, c, hv, hc, _, hm⟩ := ownsRow_slice HH.out.now
    injection hv with _ _ hv
    simp only [maxLen] at hm
    omega
  have hcn2 : (a + secs l) * 256 ≤ cn := by
    obtain ⟨A, c, hv, hc, _, hm⟩ := ownsRow_slice HH.out.now
    injection hv with _ _ hv
    have := HH.out.ok.lnow
    omega
  go_region_law (refine stepR_append EG rfl rfl (ROW2.out.alloc _) rfl (Rd.newN w2 86 #[.int .i64 a, .slice (some ⟨w.heap.size, 0, none⟩) (secs l * 256) (secs l * 256)]) rfl (by rfl) (by simp [Value.oneCell']) (D.gs.length + 1) (cells ++ [.int .i64 a, .slice (some ⟨w.heap.size, 0, none⟩) (secs l * 256) (secs l * 256)]) rfl rfl (by simp only [maxLen]; omega) (by omega) (by omega) ?_; intro A3 c3 w3 hc3 ho3 ht3 ha3; have hb3 := ht3.blk ((HBK2.out.alloc _).drew) (fun hb => HH.out.ne3 hb); have d3 := hb3.cell 2; have f3 := hb3.frozen 2; simp at d3; have HO3 := Lib.hid ho3; have HT3 := Lib.hid ht3; have HA3 := Lib.hid ha3; have HBK3 := Lib.hid hb3; clear ho3 ht3 ha3 hb3)
  all_goals
    have hb4 := HBK3.out.set_ 2 (.slice A3 (D.gs.length + 1) c3)
    have e1 := hb4.drew.cell 1
    simp at e1
    have HB4 := Lib.hid hb4
    clear hb4
    have GV4 := Lib.hid (((HT3.out.blk ((HGV.out.alloc _).drew) (fun hb => by have := HMLT.out _ (HH.out.ml _ hb); omega)).far (p := ⟨g, 2, none⟩) (by show w.heap.size + 1 ≠ g; omega) (.slice A3 (D.gs.length + 1) c3)))
    have gv3 := GV4.out.drew.cell 1
    simp at gv3
    have hbn := HMLT.out _ HH.out.mn
    have t23 : Tr (fun b => Blo Al b ∨ b = g) w2 ((w3.setCell ⟨g, 2, none⟩ (.slice A3 (D.gs.length + 1) c3))) := by
      refine Tr.setCell ?_ (fun _ => .inr rfl) _
      refine (((Tr.refl _ w2).alloc (.cells #[.int .i64 a, .slice (some ⟨w.heap.size, 0, none⟩) (secs l * 256) (secs l * 256)] 86)).drew).trans HT3.out (fun b _ hb => .inl hb)
    have NOW3 := Lib.hid (own_tr (own_below (B := 0) HH.out.now HB2.out) t23 (fun b hb => by
      rintro (h | h)
      · exact own_two_ne HH.out.row HH.out.now (by decide) h hb
      · exact HH.out.ne2 (((Blo.some_iff _ _).1 hb).trans h)))
    have PAD3 := Lib.hid (PAD.out.tr t23 (fun ad e => by
      injection e with e
      subst e
      rintro (h | h)
      · have := HMLT.out _ (HH.out.ml _ h); simp at this
      · simp at h; omega))
    have T23 := Lib.hid t23
    clear t23
    go_wp2_with fail
    go_region_held3 (fun w' => w'.cell? ⟨g, 1, none⟩ = some (.slice (some ⟨bn, 0, none⟩) D.now.length cn) ∧ w'.cell? ⟨w.heap.size + 1, 1, none⟩ = some (.slice (some ⟨w.heap.size, 0, none⟩) (secs l * 256) (secs l * 256))) (go_keep) ((first
      | (refine stepR_copy (off := 256 * a) (cs := by8 (pad l)) Try.underlying33 sizes rfl rfl (by exact NOW3.out) rfl rfl (fun _ => rfl) (by exact PAD3.out) LC.out FC.out (by8_one _) ?_; intro w4 ho4 ht4; have e4 := (ht4.blk HB4.out.drew (fun hb => HH.out.ne2 ((Blo.some_iff _ _).1 hb))).cell 1; have v4 := (ht4.blk GV4.out.drew (fun hb => by have := (Blo.some_iff _ _).1 hb; simp at this; omega)).cell 1; simp at e4 v4; have HO4 := Lib.hid ho4; have HT4 := Lib.hid ht4; clear ho4 ht4)
      | (go_at_call 45; (with_reducible refine (part_any bn _ cn a (secs l) _ _ rfl rfl _ (by omega) hcn2 (by omega) hcn).mono ?_); rintro e w' ⟨rfl, rfl⟩)))
    go_wp2_with fail
    go_ret
    refine ⟨by rfl, ?_⟩
    have ht4 : Tr (fun b => b = bn) (w3.setCell ⟨g, 2, none⟩ (.slice A3 (D.gs.length + 1) c3)) w4 := ((Tr.refl _ _).drew).trans HT4.out (fun b _ hb => (((Blo.some_iff _ _).1 hb).symm : b = bn))
    have hsc : Tr (fun b => b = g) w3 (w3.setCell ⟨g, 2, none⟩ (.slice A3 (D.gs.length + 1) c3)) := Tr.setCell (F := fun b => b = g) (p := ⟨g, 2, none⟩) (Tr.refl _ w3) (fun _ => rfl) _
    have hs4 := HT4.out.size
    refine put_at (zb := w.heap.size) (k := secs l) (A3 := A3) (c3 := c3) HH.out (Nat.le_refl _) ?_ ?_ (HT4.out.blk HB4.out.drew (fun hb => HH.out.ne2 ((Blo.some_iff _ _).1 hb))) HO4.out ?_ ?_ (pad_isB hB) (by omega) PL.out (by omega) hfew ?_
    · have := HT3.out.size; have := HT4.out.size; simp [World.setCell] at *; omega
    · intro b hb
      have hb' := HA3.out.blo hb
      simp at hb'
      have hm : ∀ b, Blo Al b → b < w.heap.size := fun b hb => HMLT.out _ (HH.out.ml _ hb)
      rcases hb' with hb' | hb'
      · have := hm b hb'; exact ⟨.inl hb', by omega⟩
      · exact ⟨.inr (by omega), by omega⟩
    · rw [show (pad l).length = secs l * 256 from by rw [PL.out, Nat.mul_comm]]
      refine own_tr (own_tr HO3.out hsc (fun b hb hg => ?_)) ht4 (fun b hb hb' => ?_)
      · exact own_blk HO3.out HBK3.out (by decide) (show Blo A3 g from hg ▸ hb)
      · rcases HA3.out.blo hb with h' | h'
        · exact own_two_ne HH.out.row HH.out.now (by decide) h' ((Blo.some_iff _ _).2 (Eq.symm hb'))
        · simp at h'
          omega
    · refine PAD3.out.tr ht4 (fun ad e => ?_)
      injection e with e
      subst e
      show ¬ w.heap.size = bn
      omega
    · refine ((Tr.of_below HB2.out).trans T23.out (fun b _ hb => ?_)).trans ht4 (fun b _ hb => .inr (.inr hb))
      rcases hb with hb | hb
      · exact .inl hb
      · exact .inr (.inl hb)
end
end Go.Proofs.Ytceajiliahmkaaa
