/- Layer 4: unseal. -/
import Derived.Test.YtceajiliahmkaaaWalC
namespace Go.Proofs.Ytceajiliahmkaaa
set_option linter.unusedVariables false
set_option linter.unusedSimpArgs false
set_option maxRecDepth 100000
open Go.RowKit

def unsL (n : Nat) (l : List Int) : List Int := (List.range n).map fun i => wrap64 (unb ((l.drop (4 + 8 * i)).take 8))
theorem unsL_length (n : Nat) (l : List Int) : (unsL n l).length = n := by simp [unsL]
theorem unsL_succ (n : Nat) (l : List Int) : unsL (n + 1) l = unsL n l ++ [wrap64 (unb ((l.drop (4 + 8 * n)).take 8))] := by simp [unsL, List.range_succ]
/-- The row as far as it is filled. -/
def unsA (n k : Nat) (l : List Int) : Array Value := (i64s (unsL k l ++ List.replicate (n - k) 0)).toArray
theorem unsA_set {n k : Nat} (l : List Int) (h : k < n) : (unsA n k l).setIfInBounds k (.int .i64 (wrap64 (unb ((l.drop (4 + 8 * k)).take 8)))) = unsA n (k + 1) l := by
  unfold unsA
  rw [unsL_succ, List.setIfInBounds_toArray]
  congr 1
  obtain ⟨m, hm⟩ : ∃ m, n - k = m + 1 := ⟨n - k - 1, by omega⟩
  rw [hm, show n - (k + 1) = m by omega, List.replicate_succ]
  simp only [i64s, List.map_append, List.map_cons, List.map_nil, List.append_assoc, List.cons_append, List.nil_append]
  rw [List.set_append_right _ _ (by simp [unsL_length])]
  simp [unsL_length]
theorem infoI64 : (Try.prog.info? 2).map (fun i => (i.zero, i.size, i.bytes)) = some (some (.int .i64 0), 1, 8) := by kernel_rfl
theorem run_makeI (n : Nat) (hn : n ≤ 65536) (w : World) :
    (Instr.makeSlice 95 (.int .i64 (n : Int)) (.int .i64 (n : Int))).run Try.prog w = .ok (.slice (some ⟨w.heap.size, 0, none⟩) n n) (w.alloc (.cells (Array.replicate n (.int .i64 0)) 2)) := by
  obtain ⟨i0, hi, hz0, hz1, hz2⟩ := info_parts infoI64
  have hr := run_make (P := Try.prog) w 95 2 i0 _ Try.underlying95 hi hz0 .i64 .i64 n n (by omega) (by omega) (by rw [hz2]; omega) (by omega)
  simp only [Int.toNat_natCast] at hr
  rw [hr, hz1, Nat.mul_one]
  congr 4
  apply Array.ext'
  rw [show (Value.int IntKind.i64 0).cells = #[.int .i64 0] from rfl, toList_madeCells_one]
  simp
theorem unsA_zero (n : Nat) (l : List Int) : Array.replicate n (.int .i64 0) = unsA n 0 l := by
  apply Array.ext'
  simp [unsA, unsL, i64s]
theorem unsA_size {n k : Nat} (l : List Int) (h : k ≤ n) : (unsA n k l).size = n := by simp [unsA, i64s, unsL_length]; omega
def RetU (w : World) (n : Nat) (l : List Int) (e : Ending) (w' : World) : Prop :=
  ∃ S, e = .returned (.tuple #[.slice (some ⟨S, 0, none⟩) n n, .bool (okL l)]) ∧ Blk w' S 2 (i64s (unsL n l)).toArray ∧ w.heap.size ≤ S ∧ Below w.heap.size w w'
theorem IsRdr.glt {w : World} {t : TypeId} {g : Nat} {l : List Int} {why : Int} {F : Nat → Prop} (h : IsRdr w t g l why F) : g < w.heap.size := by
  obtain ⟨_, _, hb, _⟩ := h
  exact hb.lt
theorem IsRdr.trF {w w' : World} {t : TypeId} {g : Nat} {l : List Int} {why : Int} {F G : Nat → Prop} (h : IsRdr w t g l why F) (ht : Tr G w w') (hg : ¬ G g) (hF : ∀ b, F b → ¬ G b) : IsRdr w' t g l why F := by
  obtain ⟨A, c, hb, hr, h1, h2, h3, h4⟩ := h
  exact ⟨A, c, ht.blk hb hg, hr.tr ht (fun ad e hf => hF _ (h4 ad.block (by rw [e]; exact (Blo.some_iff _ _).2 rfl)).2 hf), h1, h2, h3, h4⟩
theorem rdr4 (g : Nat) (l : List Int) (w : World) {F : Nat → Prop} (h : IsRdr w 138 g l 0 F) (h4 : 4 ≤ l.length) (hl : l.length ≤ 100000) (hV0 : 0 ≤ unb (l.take 4)) (hV1 : unb (l.take 4) < 4294967296) :
    Calls Try.prog 65 #[.pointer (some ⟨g, 0, none⟩), .int .i64 4] w fun e w' => e = .returned (.int .i64 (unb (l.take 4))) ∧ IsRdr w' 138 g (l.drop 4) 0 F ∧ Tr (fun b => b = g) w w' := by
  refine (rdrNum g l 0 4 w (by omega) (by omega) h (by omega)).mono ?_
  rintro e w' ⟨rfl, h1, h2⟩
  have hw64 : wrap64 (unb (l.take 4)) = unb (l.take 4) := by unfold wrap64; omega
  simp only [rdV, rdL, rdE, h4, and_self, if_true, hw64] at h1 ⊢
  exact ⟨trivial, h1, h2⟩
set_option maxHeartbeats 3200000 in
theorem unseal_any (A : Option Addr) (c : Nat) (l : List Int) (w : World) (n : Nat) (hn : n ≤ 4) (hr : Rd w A (by8 l)) (hB : isB l) (hl : l.length ≤ 100000) (h4 : 4 + 8 * n ≤ l.length) (h0 : 4 < l.length) (hc : l.length ≤ c) (hm : c ≤ maxLen) :
    Calls Try.prog 50 #[.slice A l.length c, .int .i64 (n : Int)] w (RetU w n l) := by
  have hU := crc_u (l.drop 4)
  have hU0 := hU.1
  have hU1 := hU.2
  have hV := unb_range hB 4 (by omega)
  have hV0 := hV.1
  have hV1 : unb (l.take 4) < 4294967296 := by simpa using hV.2
  have HR := Lib.hid hr
  have HE : Hid (okL l = decide (unb (l.take 4) = crc (l.drop 4))) := Lib.hid rfl
  have HBB := Lib.hid hB
  have hmk := run_makeI n (by omega)
  clear hr hV hU
  obtain ⟨m, hm4⟩ : ∃ m, l.length = m + 4 := ⟨l.length - 4, by omega⟩
  obtain ⟨k, rfl⟩ : ∃ k, c = k + 4 := ⟨c - 4, by omega⟩
  have hA : ∃ ad, A = some ad := by
    obtain ⟨ad, h, _⟩ := HR.out.at_ (k := 0) (by rw [by8_length]; omega)
    exact ⟨ad, h⟩
  obtain ⟨ad, rfl⟩ := hA
  have HR4 := Lib.hid (HR.out.cut (k := 4) (cap := k + 4) (by rw [by8_length]; omega) (by rw [by8_length]; omega))
  have hk0 : ¬ (k + 4 = 4) := by omega
  have HD : Hid ((l.drop 4).length = m) := Lib.hid (by rw [List.length_drop]; omega)
  have HRD : Hid (Rd w (some (ad.add 4)) (by8 (l.drop 4))) := Lib.hid (by
    have h := HR4.out
    rw [if_neg hk0, by8_drop] at h
    exact h)
  have HB4 := Lib.hid (hB.drop 4)
  have hnr := newReader_any (some ad) (k + 4) l w HR.out hB (by omega)
  have hnum := fun (g : Nat) (W : World) (F : Nat → Prop) (h : IsRdr W 138 g l 0 F) => rdr4 g l W h (by omega) (by omega) hV0 hV1
  have HNUM := Lib.hid hnum
  have HLL := Lib.hid (show 4 + 8 * n ≤ l.length ∧ l.length ≤ 100000 from ⟨h4, hl⟩)
  rw [hm4] at hnr ⊢
  have HNR := Lib.hid hnr
  have HS : Hid (∀ W, Below w.heap.size w W → Calls Try.prog 57 #[.slice (some (ad.add 4)) m k] W fun e w' => e = .returned (.int .u32 (crc (l.drop 4))) ∧ W = w') := Lib.hid (fun W hW => by
    have h := sum_any (some (ad.add 4)) k (l.drop 4) W (HRD.out.below hW) HB4.out (by rw [HD.out]; omega)
    rw [HD.out] at h
    exact h)
  clear hnr hnum hB
  generalize hu : unb (l.take 4) = u at hV0 hV1 HE HNUM
  generalize hcr : crc (l.drop 4) = r at hU0 hU1 HE HS
  have HM4 := Lib.hid hm4
  clear hu hcr hm4 h4 h0 hl
  go_enter Try.func50, Try.ntmps50
  go_wp2_with (first
    | (go_at_call 64; (with_reducible refine HNR.out.mono ?_); rintro e w1 ⟨g, rfl, hq1, hg1, hb1⟩; have hgl := IsRdr.glt hq1; have HQ1 := Lib.hid hq1; have HG1 := Lib.hid hg1; have HB1 := Lib.hid hb1; clear hq1 hb1)
    | (go_at_call 65; (with_reducible refine (HNUM.out g _ _ HQ1.out).mono ?_); rintro e w2 ⟨rfl, hq2, ht2⟩; have HQ2 := Lib.hid hq2; have HB2 := Lib.hid (bl_tr HB1.out ht2 (fun b hb => hb ▸ HG1.out)); have hz2 := ht2.size; clear hq2 ht2))
  go_loopw [9, 18] (fun _ v W => ∃ j : Nat, j ≤ n ∧ v = .int .i64 (j : Int) ∧ IsRdr W 138 g (l.drop (4 + 8 * j)) 0 (fun b => w.heap.size ≤ b ∧ b < w1.heap.size) ∧ Blk W w2.heap.size 2 (unsA n j l) ∧ Below w.heap.size w W) (fun _ v _ => n - (intOf v).toNat)
  case atStart =>
    have hbl := bl_alloc w2 (.cells (Array.replicate n (.int .i64 0)) 2)
    refine ⟨0, by omega, rfl, HQ2.out.tr hbl, ?_, bl_chain HB2.out hbl⟩
    rw [← unsA_zero]
    exact Blk.new _ _ _
  case round =>
    obtain ⟨j, hj, rfl, hq, hb, hw⟩ := hrel
    have HQ := Lib.hid hq
    have HW := Lib.hid hw
    have HBK := Lib.hid hb
    clear hq hw
    by_cases hlt : j < n
    · have z1 : decide ((j : Int) < (n : Int)) = true := decide_eq_true (by omega)
      have hnum8 := rdr8 g (l.drop (4 + 8 * j)) wr HQ.out (by rw [List.length_drop]; have := HLL.out; omega) (by rw [List.length_drop]; have := HLL.out; omega)
      rw [List.drop_drop, show 4 + 8 * j + 8 = 4 + 8 * (j + 1) by omega] at hnum8
      have HN8 := Lib.hid hnum8
      obtain ⟨v, hv⟩ : ∃ v, wrap64 (unb ((l.drop (4 + 8 * j)).take 8)) = v := ⟨_, rfl⟩
      have HV := Lib.hid hv
      rw [hv] at HN8
      have hg2 : ¬ w2.heap.size = g := by omega
      have hn9 : Calls Try.prog 65 #[.pointer (some ⟨g, 0, none⟩), .int .i64 8] wr fun e w3 => e = .returned (.int .i64 v) ∧ IsRdr w3 138 g (l.drop (4 + 8 * (j + 1))) 0 (fun b => w.heap.size ≤ b ∧ b < w1.heap.size) ∧ Blk w3 w2.heap.size 2 (unsA n j l) ∧ Below w.heap.size w w3 := by
        refine HN8.out.mono ?_
        rintro e w3 ⟨rfl, hq3, ht3⟩
        exact ⟨rfl, hq3, ht3.blk HBK.out hg2, bl_tr HW.out ht3 (fun b hb => hb ▸ HG1.out)⟩
      have HN9 := Lib.hid hn9
      obtain ⟨vo, hvo⟩ : ∃ vo, (unsA n j l)[j]? = some vo := ⟨_, Array.getElem?_eq_getElem (by rw [unsA_size l (by omega)]; omega)⟩
      have HVO := Lib.hid hvo
      clear hnum8 hv hb hn9 HN8 hvo
      go_wp2_with (first
        | (go_at_call 65; (with_reducible refine HN9.out.mono ?_); rintro e w3 ⟨rfl, hq3, hb3, hw3⟩; have f3 := hb3.frozen j; have c3 := hb3.cell j; rw [HVO.out] at c3; have HQ3 := Lib.hid hq3; have HB3 := Lib.hid hb3; have HW3 := Lib.hid hw3; clear hq3 hb3 hw3))
      go_roundw
      case measure => simp [intOf]; omega
      case rel =>
        have ts : Tr (fun b => b = w2.heap.size) w3 (w3.setCell ⟨w2.heap.size, j, none⟩ (.int .i64 v)) := (Tr.refl (fun b => b = w2.heap.size) w3).setCell (p := ⟨w2.heap.size, j, none⟩) (fun _ => rfl) _
        have hbs := HB3.out.set_ j (.int .i64 v)
        rw [← HV.out, unsA_set l hlt, HV.out] at hbs
        have hzw := HB2.out.size
        exact ⟨j + 1, by omega, by go_num, HQ3.out.trF ts (fun e => hg2 e.symm) (fun b hb e => by omega), hbs, bl_tr HW3.out ts (fun b hb => by omega)⟩
    · have z1 : decide ((j : Int) < (n : Int)) = false := decide_eq_false (by omega)
      obtain rfl : j = n := by omega
      have hfin : unsA j j l = (i64s (unsL j l)).toArray := by unfold unsA; simp
      rw [hfin] at HBK hb
      have HF := Lib.hid hb
      clear hb hfin
      by_cases hur : u = r
      · have HOK : Hid (okL l = true) := Lib.hid (by rw [HE.out]; exact decide_eq_true hur)
        subst hur
        clear HE
        go_wp2_with (first
          | (go_at_call 57; (refine (HS.out _ HW.out).mono ?_); rintro e w4 ⟨rfl, rfl⟩))
        go_ret2
        have hzw := HB2.out.size
        exact ⟨w2.heap.size, by rw [HOK.out]; rfl, HF.out, by omega, HW.out⟩
      · have HOK : Hid (okL l = false) := Lib.hid (by rw [HE.out]; exact decide_eq_false hur)
        have hb0 : (u == r) = false := by simpa using hur
        clear HE hur
        go_wp2_with (first
          | (go_at_call 57; (refine (HS.out _ HW.out).mono ?_); rintro e w4 ⟨rfl, rfl⟩))
        go_ret2
        have hzw := HB2.out.size
        exact ⟨w2.heap.size, by rw [HOK.out]; rfl, HF.out, by omega, HW.out⟩
end Go.Proofs.Ytceajiliahmkaaa
