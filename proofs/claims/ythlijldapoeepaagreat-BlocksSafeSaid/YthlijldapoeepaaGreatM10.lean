/- The reference's image: how it lies in memory; New, in, Unmap, Write. -/
import Derived.Test.YthlijldapoeepaaGreatM9
import Derived.Test.YthlijldapoeepaaGreatM5
namespace Go.Proofs.YthlijldapoeepaaGreat
set_option linter.unusedVariables false
set_option linter.unusedSimpArgs false
set_option maxRecDepth 100000
open Go.RowKit Go.Shelf

/-- A row of rows of bytes. -/
structure IsRef (w : World) (r : Nat) (L : List (List Int)) (q c : Nat) (M : Nat → Prop) : Prop where
  ok : ImgOk L
  blk : Blk w r 75 #[.slice (some ⟨q, 0, none⟩) L.length c]
  row : ∃ vs, w.ownsRow 0 52 1 (.slice (some ⟨q, 0, none⟩) L.length c) L.length vs ∧ ∀ i v, vs[i]? = some v → ∃ A k, v = .slice A (bk L i).length k ∧ Rd w A (by8 (bk L i)) ∧ ∀ b, Blo A b → M b ∧ b ≠ q ∧ b ≠ r
  mr : M r
  mq : M q
  ne : r ≠ q
  mlt : ∀ b, M b → b < w.heap.size
section
variable {w w' : World} {r q c : Nat} {L : List (List Int)} {M F : Nat → Prop}
theorem IsRef.tr (h : IsRef w r L q c M) (ht : Tr F w w') (hF : ∀ b, M b → ¬ F b) : IsRef w' r L q c M := by
  obtain ⟨h1, h2, ⟨vs, h3, h4⟩, h5, h6, h7, h8⟩ := h
  refine ⟨h1, ht.blk h2 (hF r h5), ⟨vs, own_tr h3 ht (fun b hb => by rw [Blo.some_iff] at hb; exact hb ▸ hF q h6), fun i v hv => ?_⟩, h5, h6, h7, fun b hb => Nat.lt_of_lt_of_le (h8 b hb) ht.size⟩
  obtain ⟨A, k, e, hr, hm⟩ := h4 i v hv
  exact ⟨A, k, e, hr.tr ht (fun ad ea hf => hF _ (hm ad.block (by subst ea; exact (Blo.some_iff _ _).2 rfl)).1 hf), hm⟩
theorem IsRef.below (h : IsRef w r L q c M) (hb : Below w.heap.size w w') : IsRef w' r L q c M := h.tr (Tr.of_below (F := NoB) hb) (fun _ _ x => x)
theorem IsRef.len (h : IsRef w r L q c M) : L.length ≤ c ∧ c ≤ maxLen := by
  obtain ⟨vs, h3, _⟩ := h.row
  rcases h3.2 with ⟨h, _⟩ | ⟨g, cap, cur, hv, _, _, a, b, _⟩
  · cases h
  · injection hv with _ _ e; subst e; exact ⟨a, b⟩
theorem IsRef.cell (h : IsRef w r L q c M) (i : Nat) (hi : i < L.length) : ∃ A k, w.cell? ⟨q, i, none⟩ = some (.slice A (bk L i).length k) ∧ Rd w A (by8 (bk L i)) := by
  obtain ⟨vs, h3, h4⟩ := h.row
  have hl := h3.1
  have hi2 : i < vs.length := by omega
  obtain ⟨A, k, e, hr, _⟩ := h4 i vs[i] (List.getElem?_eq_getElem hi2)
  refine ⟨A, k, ?_, hr⟩
  rw [h3.cellAt i (by omega), List.getElem?_eq_getElem hi2, e]
theorem IsRef.frozen (h : IsRef w r L q c M) (i : Nat) : w.frozen? ⟨q, i, none⟩ = false := by
  obtain ⟨vs, h3, _⟩ := h.row
  exact h3.frozenAt i
/-- A block is set: its row is read in the world ahead. -/
theorem IsRef.set_ (h : IsRef w r L q c M) (i : Nat) (hi : i < L.length) {x : List Int} (hx : x = [] ∨ isBl x) {A : Option Addr} {k : Nat} (hr : Rd w A (by8 x)) (hA : ∀ b, Blo A b → M b ∧ b ≠ q ∧ b ≠ r) : IsRef (w.setCell ⟨q, i, none⟩ (.slice A x.length k)) r (L.set i x) q c M := by
  obtain ⟨h1, h2, ⟨vs, h3, h4⟩, h5, h6, h7, h8⟩ := h
  obtain ⟨s1, s2⟩ := own_stored h3 i (.slice A x.length k)
  refine ⟨h1.set_ i hx, by rw [List.length_set]; exact h2.far h7 _, ⟨vs.set i (.slice A x.length k), by rw [List.length_set]; exact s1, fun j v hv => ?_⟩, h5, h6, h7, fun b hb => Nat.lt_of_lt_of_le (h8 b hb) s2.size⟩
  rw [bk_set L i hi]
  rw [List.getElem?_set] at hv
  by_cases e : i = j
  · subst e
    rw [if_pos rfl] at hv
    split at hv
    · injection hv with hv
      subst hv
      rw [if_pos rfl]
      exact ⟨A, k, rfl, hr.tr s2 (fun ad ea hf => (hA ad.block (by subst ea; exact (Blo.some_iff _ _).2 rfl)).2.1 (by rw [Blo.some_iff] at hf; exact hf.symm)), hA⟩
    · cases hv
  · rw [if_neg e] at hv
    rw [if_neg (Ne.symm e)]
    obtain ⟨A', k', e', hr', hm'⟩ := h4 j v hv
    exact ⟨A', k', e', hr'.tr s2 (fun ad ea hf => (hm' ad.block (by subst ea; exact (Blo.some_iff _ _).2 rfl)).2.1 (by rw [Blo.some_iff] at hf; exact hf.symm)), hm'⟩
theorem IsRef.mono (h : IsRef w r L q c M) {M' : Nat → Prop} (hM : ∀ b, M b → M' b) (hlt : ∀ b, M' b → b < w.heap.size) : IsRef w r L q c M' := by
  obtain ⟨h1, h2, ⟨vs, h3, h4⟩, h5, h6, h7, h8⟩ := h
  exact ⟨h1, h2, ⟨vs, h3, fun i v hv => by obtain ⟨A, k, e, hr, hm⟩ := h4 i v hv; exact ⟨A, k, e, hr, fun b hb => ⟨hM b (hm b hb).1, (hm b hb).2⟩⟩⟩, hM r h5, hM q h6, h7, hlt⟩
end
end Go.Proofs.YthlijldapoeepaaGreat

/- The reference's image: New, in, Unmap, Write. -/

namespace Go.Proofs.YthlijldapoeepaaGreat
set_option linter.unusedVariables false
set_option linter.unusedSimpArgs false
set_option maxRecDepth 100000
open Go.RowKit Go.Shelf

theorem infoS : (Tryz.prog.info? 52).map (fun i => (i.zero, i.size, i.bytes)) = some (some (.slice none 0 0), 1, 24) := by kernel_rfl
theorem run_makeS (n : Nat) (hn : n ≤ 256) (w : World) :
    (Instr.makeSlice 73 (.int .i64 n) (.int .i64 n)).run Tryz.prog w = .ok (.slice (some ⟨w.heap.size, 0, none⟩) n n) (w.alloc (.cells (Array.replicate n (.slice none 0 0)) 52)) := by
  obtain ⟨i0, hi, hz0, hz1, hz2⟩ := info_parts infoS
  have hr := run_make (P := Tryz.prog) w 73 52 i0 _ Tryz.underlying73 hi hz0 .i64 .i64 n n (by omega) (by omega) (by rw [hz2]; omega) (by omega)
  simp only [Int.toNat_natCast] at hr
  rw [hr, hz1, Nat.mul_one]
  congr 4
  apply Array.ext'
  rw [show (Value.slice none 0 0).cells = #[.slice none 0 0] from rfl, toList_madeCells_one]
  simp
def RetRef (w : World) (L : List (List Int)) (e : Ending) (w' : World) : Prop := ∃ r q c M, e = .returned (.tuple #[.pointer (some ⟨r, 0, none⟩), .int .i64 0]) ∧ IsRef w' r L q c M ∧ (∀ b, M b → w.heap.size ≤ b) ∧ Below w.heap.size w w'
theorem rnew_ok (n : Nat) (w : World) (h1 : 1 ≤ n) (h2 : n ≤ 256) : Calls Tryz.prog 9 #[.int .i64 n] w (RetRef w (emptyL n)) := by
  have hmk := run_makeS n h2
  go_enter Tryz.func9, Tryz.ntmps9
  go_wp2_with fail
  go_ret2
  have hle : (emptyL n).length = n := by simp [emptyL]
  have ho := World.ownsRow_lit (w := w) (e := 52) (size := 1) (base := 0) (Array.replicate n (.slice none 0 0)) n (Nat.zero_le _) (by simp only [maxLen]; omega) (by simp)
  refine ⟨w.heap.size + 1, w.heap.size, n, fun b => b = w.heap.size ∨ b = w.heap.size + 1, rfl, ⟨emptyL_ok h1 h2, ?_, ⟨_, by rw [hle]; exact own_below (B := 0) ho (bl_alloc _ _), fun i v hv => ?_⟩, .inr rfl, .inl rfl, by omega, fun b hb => by simp; omega⟩, fun b hb => by omega, bl_chain (bl_alloc w _) (bl_alloc _ _)⟩
  · rw [hle]
    simpa using Blk.new (w.alloc (.cells (Array.replicate n (.slice none 0 0)) 52)) 75 #[.slice (some ⟨w.heap.size, 0, none⟩) n n]
  · rw [bk_empty]
    have : v = .slice none 0 0 := by
      rw [Array.toList_replicate, List.getElem?_replicate] at hv
      split at hv
      · injection hv with hv; exact hv.symm
      · cases hv
    exact ⟨none, 0, this, Rd.nil, fun b hb => absurd hb (Blo.none b)⟩
section
variable {w : World} {r q c : Nat} {L : List (List Int)} {M : Nat → Prop}
/-- What a writer of a reference's image leaves. -/
def RetRS (w : World) (r : Nat) (L : List (List Int)) (q c : Nat) (M : Nat → Prop) (err : Int) (e : Ending) (w' : World) : Prop := ∃ M', e = .returned (.int .i64 err) ∧ IsRef w' r L q c M' ∧ (∀ b, M' b → M b ∨ w.heap.size ≤ b) ∧ Tr (fun b => b = q) w w'
end
end Go.Proofs.YthlijldapoeepaaGreat

/- The reference's image: Unmap, Write, Right, Change. -/

namespace Go.Proofs.YthlijldapoeepaaGreat
set_option linter.unusedVariables false
set_option linter.unusedSimpArgs false
set_option maxRecDepth 100000
open Go.RowKit Go.Shelf

section
variable {w : World} {r q c : Nat} {L : List (List Int)} {M : Nat → Prop}
end
end Go.Proofs.YthlijldapoeepaaGreat

/- The reference's image: Right, Change. -/

namespace Go.Proofs.YthlijldapoeepaaGreat
set_option linter.unusedVariables false
set_option linter.unusedSimpArgs false
set_option maxRecDepth 100000
open Go.RowKit Go.Shelf

section
variable {w w0 : World} {r q c : Nat} {L : List (List Int)} {M : Nat → Prop}
set_option maxHeartbeats 3200000 in
theorem rright_any (h : IsRef w r L q c M) (A : Option Addr) (k : Nat) (l : List ChS) (hl : l.length ≤ 140737488351232) (hA : ChsAt w0 A l) (hb0 : Below w0.heap.size w0 w) :
    Calls Tryz.prog 67 #[.pointer (some ⟨r, 0, none⟩), .slice A l.length k] w fun e w' => e = .returned (.bool (chRight L.length l)) ∧ Below w.heap.size w w' := by
  have HH := Lib.hid h
  have HA := Lib.hid (hA.below hb0)
  have h256 := h.ok.hi
  clear h hA
  go_enter Tryz.func67, Tryz.ntmps67
  go_wp2_with fail
  go_loopw [5] (fun v w2 => ∃ j : Nat, j ≤ l.length ∧ v = .int .i64 j ∧ chRight L.length (l.take j) = true ∧ Below w.heap.size w w2) (fun v _ => l.length - (RowKit.intOf v).toNat)
  case atStart => exact ⟨0, by omega, rfl, rfl, Below.refl _ _⟩
  case round =>
    obtain ⟨j, hj, rfl, hr, hb⟩ := hrel
    have HR := Lib.hid hr
    have HB := Lib.hid hb
    clear hr hb
    by_cases hlt : j < l.length
    · obtain ⟨hin, b, o, rfl, hc⟩ := HA.out j hlt
      have x0 := (HB.out.cell (cell_block_lt (hc 0 _ rfl))).trans (hc 0 _ rfl)
      have x1 := (HB.out.cell (cell_block_lt (hc 1 _ rfl))).trans (hc 1 _ rfl)
      have HNH := Lib.hid (show ∀ hk : chOk L.length l[j] = false, chRight L.length l = false from fun hk => chRight_no j hlt hk)
      have HYH := Lib.hid (show ∀ hk : chOk L.length l[j] = true, chRight L.length (l.take (j + 1)) = true from fun hk => chRight_take HR.out hlt hk)
      clear hc
      have hlb := hin.lb
      have hln := hin.len
      clear hin
      generalize l[j] = y at HNH HYH x0 x1 hlb hln
      have c0 : wr.cell? ⟨r, 0, none⟩ = some (.slice (some ⟨q, 0, none⟩) L.length c) := (HH.out.below HB.out).blk.cell 0
      simp only [Nat.add_zero] at x0
      rw [← Nat.add_assoc] at x1
      have HQ := Lib.hid (show ∀ a b : Int, ¬ a = b → (a != b) = true from fun a b h => by simpa using h)
      have HQT := Lib.hid (show ∀ a b : Int, a = b → (a != b) = false from fun a b h => by simpa using h)
      have hcs : y.lba < 0 ∨ (0 ≤ y.lba ∧ (L.length : Int) ≤ y.lba) ∨ (0 ≤ y.lba ∧ y.lba < L.length ∧ y.d.length = 0) ∨ (0 ≤ y.lba ∧ y.lba < L.length ∧ y.d.length ≠ 0 ∧ y.d.length = 64) ∨ (0 ≤ y.lba ∧ y.lba < L.length ∧ y.d.length ≠ 0 ∧ y.d.length ≠ 64) := by omega
      rcases hcs with h1 | ⟨h1, h2⟩ | ⟨h1, h2, h3⟩ | ⟨h1, h2, h3, h4⟩ | ⟨h1, h2, h3, h4⟩
      · have HE := Lib.hid (HNH.out (decide_eq_false (by omega)))
        go_wp2_with fail
        go_quiet (fail)
        go_wp2_with fail
        go_ret
        exact ⟨by rw [HE.out]; rfl, bl_chain HB.out (bl_drewN _ _)⟩
      · have HE := Lib.hid (HNH.out (decide_eq_false (by omega)))
        have t1 : decide (y.lba < 0) = false := decide_eq_false (by omega)
        have t2 : decide ((L.length : Int) ≤ y.lba) = true := decide_eq_true (by omega)
        clear h1 h2
        go_wp2_with fail
        go_quiet (fail)
        go_wp2_with fail
        go_ret
        exact ⟨by rw [HE.out]; rfl, bl_chain HB.out (bl_drewN _ _)⟩
      · have HE := Lib.hid (HYH.out (decide_eq_true (by omega)))
        have t1 : decide (y.lba < 0) = false := decide_eq_false (by omega)
        have t2 : decide ((L.length : Int) ≤ y.lba) = false := decide_eq_false (by omega)
        have t3 : ((y.d.length : Int) != 0) = false := HQT.out _ _ (by omega)
        clear h1 h2 h3
        go_wp2_with fail
        go_quiet (fail)
        go_wp2_with fail
        exact ⟨⟨j + 1, by omega, by go_num, HE.out, bl_chain HB.out (bl_drewN _ _)⟩, by simp [RowKit.intOf]; omega⟩
      · have HE := Lib.hid (HYH.out (decide_eq_true (by omega)))
        have t1 : decide (y.lba < 0) = false := decide_eq_false (by omega)
        have t2 : decide ((L.length : Int) ≤ y.lba) = false := decide_eq_false (by omega)
        have t3 : ((y.d.length : Int) != 0) = true := HQ.out _ _ (by omega)
        have t4 : ((y.d.length : Int) != 64) = false := HQT.out _ _ (by omega)
        clear h1 h2 h3 h4
        go_wp2_with fail
        go_quiet (fail)
        go_wp2_with fail
        exact ⟨⟨j + 1, by omega, by go_num, HE.out, bl_chain HB.out (bl_drewN _ _)⟩, by simp [RowKit.intOf]; omega⟩
      · have HE := Lib.hid (HNH.out (decide_eq_false (by omega)))
        have t1 : decide (y.lba < 0) = false := decide_eq_false (by omega)
        have t2 : decide ((L.length : Int) ≤ y.lba) = false := decide_eq_false (by omega)
        have t3 : ((y.d.length : Int) != 0) = true := HQ.out _ _ (by omega)
        have t4 : ((y.d.length : Int) != 64) = true := HQ.out _ _ (by omega)
        clear h1 h2 h3 h4
        go_wp2_with fail
        go_quiet (fail)
        go_wp2_with fail
        go_ret
        exact ⟨by rw [HE.out]; rfl, bl_chain HB.out (bl_drewN _ _)⟩
    · have hall : chRight L.length l = true := by
        have := HR.out
        rwa [List.take_of_length_le (by omega)] at this
      have HALL := Lib.hid hall
      clear hall
      go_wp2_with fail
      go_ret
      exact ⟨by rw [HALL.out]; rfl, HB.out⟩
theorem cell_far {W : World} {p a : Addr} {v : Value} (h : W.cell? p = some v) (hne : p.block ≠ a.block) (u : Value) : (W.setCell a u).cell? p = some v := (World.cell?_of_block (Below.heap_setCell W a u p.block hne)).trans h
set_option maxHeartbeats 3200000 in
theorem rchange_any (h : IsRef w r L q c M) (A : Option Addr) (k : Nat) (l : List ChS) (hl : l.length ≤ 140737488351232) (hA : ChsAt w0 A l) (hb0 : Below w0.heap.size w0 w) (hq0 : w0.heap.size ≤ q) :
    Calls Tryz.prog 68 #[.pointer (some ⟨r, 0, none⟩), .slice A l.length k] w (RetRS w r (changeL L l) q c M (changeE L.length l)) := by
  have hright := rright_any h A k l hl hA hb0
  have HH := Lib.hid h
  have HA := Lib.hid (show ∀ W, Tr (fun x => x = q) w W → ChsAt W A l from fun W hW => hA.below (hb0.trans (hW.to_below hb0.size (fun x e => by rw [e]; exact hq0))))
  have HA0 := Lib.hid (show ∀ i (h : i < l.length) b o, A = some ⟨b, o, none⟩ → b ≠ q from fun i h b o e => by
    obtain ⟨_, b', o', e', hc⟩ := hA i h
    have := cell_block_lt (hc 0 _ rfl)
    rw [e] at e'
    injection e' with e'
    injection e' with e1
    simp at this
    omega)
  have h256 := h.ok.hi
  clear h hA
  by_cases hr : chRight L.length l = true
  · have HE : Hid (changeL L l = chTo L l ∧ changeE L.length l = 0) := Lib.hid ⟨if_pos hr, if_pos hr⟩
    rw [HE.out.1, HE.out.2]
    rw [hr] at hright
    have HRT := Lib.hid hright
    have HALL := Lib.hid hr
    clear hright hr
    go_enter Tryz.func68, Tryz.ntmps68
    go_wp2_with (first
      | (go_at_call 67; (with_reducible refine (HRT.out).mono ?_); rintro e w1 ⟨rfl, hb⟩; have HB1 := Lib.hid hb; clear hb))
    go_loopw [5, 6] (fun v _ w2 => ∃ j : Nat, j ≤ l.length ∧ v = .int .i64 (j : Int) ∧ (∃ M', IsRef w2 r (chTo L (l.take j)) q c M' ∧ ∀ x, M' x → M x ∨ w.heap.size ≤ x) ∧ Tr (fun x => x = q) w w2) (fun v _ _ => l.length - (RowKit.intOf v).toNat)
    case atStart => exact ⟨0, by omega, rfl, ⟨M, HH.out.below HB1.out, fun x h => .inl h⟩, Tr.of_below HB1.out⟩
    case round =>
      obtain ⟨j, hj, rfl, ⟨M', ho, hM⟩, ht⟩ := hrel
      by_cases hlt : j < l.length
      · obtain ⟨hin, b, o, rfl, hc⟩ := HA.out wr ht j hlt
        have hbq := HA0.out j hlt b o rfl
        have x0 := hc 0 _ rfl
        have x1 := hc 1 _ rfl
        have hok := of_decide_eq_true (chRight_at HALL.out j hlt)
        have HS := Lib.hid (chTo_snoc L l j hlt)
        clear hc
        have hlb := hin.lb
        have HRD := Lib.hid hin.rd
        have HIB := Lib.hid hin.b
        clear hin
        generalize l[j] = y at HS x0 x1 hlb hok HRD HIB
        simp only [Nat.add_zero] at x0
        rw [← Nat.add_assoc] at x1
        obtain ⟨z, hz⟩ := Int.eq_ofNat_of_zero_le hok.1
        have c0 : wr.cell? ⟨r, 0, none⟩ = some (.slice (some ⟨q, 0, none⟩) L.length c) := by
          have := ho.blk.cell 0
          rw [chTo_length] at this
          exact this
        have hzl : z < L.length := by omega
        have hrq := ho.ne
        have HBD := Lib.hid (show y.d = [] ∨ isBl y.d from by
          rcases hok.2.2 with h0 | h64
          · exact .inl (List.eq_nil_of_length_eq_zero h0)
          · exact .inr ⟨h64, HIB.out⟩)
        have hdl : y.d.length ≤ 64 := by omega
        have HZ := Lib.hid (show y.lba.toNat = z by omega)
        rw [hz] at x0
        have b1 : (z : Int) < (L.length : Int) := by omega
        have HO := Lib.hid ho
        have HM := Lib.hid hM
        have HT := Lib.hid ht
        clear ho hM ht hz hok hlb
        obtain ⟨dn, hdn⟩ : ∃ dn, y.d.length = dn := ⟨_, rfl⟩
        rw [hdn] at x1 hdl
        have HDN := Lib.hid hdn
        clear hdn
        go_wp2_with fail
        go_region_held3 (fun w' => w'.cell? ⟨r, 0, none⟩ = some (.slice (some ⟨q, 0, none⟩) L.length c) ∧ w'.cell? ⟨b, o + j * 2, none⟩ = some (.int .i64 z) ∧ w'.cell? ⟨b, o + j * 2 + 1, none⟩ = some (.slice y.A dn y.c)) (first | (go_keep; done) | exact ⟨cell_far z0 hrq _, cell_far z1 hbq _, cell_far z2 hbq _⟩) ((refine stepR_append E8 rfl rfl (ownsRow_emp wr.drew wr.heap.size _ _) rfl HRD.out.drew rfl (by rw [by8_length, HDN.out]; simp) (by8_one _) dn (by8 y.d) (by simp) (by simp) (by simp only [maxLen]; omega) (by omega) (Nat.le_refl _) ?_; intro A3 c3 w3 hc3 ho3 ht3 _; have hb3 : Below wr.drew.heap.size wr.drew w3 := ht3.below (fun b _ h => Blo.none b h); have z0 := (hb3.cell (cell_block_lt c0)).trans c0; have z1 := (hb3.cell (cell_block_lt x0)).trans x0; have z2 := (hb3.cell (cell_block_lt x1)).trans x1; have xf := ((HO.out.below (bl_drew wr)).below hb3).frozen z; obtain ⟨A4, k4, xq, _⟩ := ((HO.out.below (bl_drew wr)).below hb3).cell z (by rw [chTo_length]; omega); have HO3 := Lib.hid ho3; have HB3 := Lib.hid hb3; clear ho3 ht3 hb3))
        go_wp2_with fail
        have hB3 : wr.heap.size ≤ w3.heap.size := HB3.out.size
        have hI := ((HO.out.below (bl_drew wr)).below HB3.out).mono (M' := fun x => M' x ∨ Blo A3 x) (fun x h => .inl h) (fun x h => by
          rcases h with h | h
          · exact Nat.lt_of_lt_of_le (HO.out.mlt x h) hB3
          · exact own_lt HO3.out x h)
        have hI2 := hI.set_ z (by rw [chTo_length]; omega) HBD.out (A := A3) (k := c3) (Rd.of_own HO3.out) (fun x hx => ⟨.inr hx, by have := own_ge HO3.out x hx; have := HO.out.mlt q HO.out.mq; omega, by have := own_ge HO3.out x hx; have := HO.out.mlt r HO.out.mr; omega⟩)
        rw [HDN.out] at hI2
        have hI3 : IsRef (w3.setCell ⟨q, z, none⟩ (.slice A3 dn c3)) r (chTo L (l.take (j + 1))) q c (fun x => M' x ∨ Blo A3 x) := by
          rw [HS.out, HZ.out]
          exact hI2
        refine ⟨⟨j + 1, by omega, by go_num, ⟨_, hI3, fun x hx => ?_⟩, ((HT.out.drew).then_below HB3.out).setCell (p := ⟨q, z, none⟩) (fun _ => rfl) _⟩, by simp [RowKit.intOf]; omega⟩
        rcases hx with hx | hx
        · exact HM.out x hx
        · exact .inr (Nat.le_trans HT.out.size (own_ge HO3.out x hx))
      · have HO := Lib.hid ho
        have HM := Lib.hid hM
        have HT := Lib.hid ht
        clear ho hM ht
        go_wp2_with fail
        go_ret
        have := HO.out
        rw [List.take_of_length_le (by omega)] at this
        exact ⟨M', rfl, this, HM.out, HT.out⟩
  · have HE : Hid (changeL L l = L ∧ changeE L.length l = 1) := Lib.hid ⟨if_neg hr, if_neg hr⟩
    rw [HE.out.1, HE.out.2]
    rw [Bool.eq_false_iff.2 hr] at hright
    have HRT := Lib.hid hright
    clear hright hr
    go_enter Tryz.func68, Tryz.ntmps68
    go_wp2_with (first
      | (go_at_call 67; (with_reducible refine (HRT.out).mono ?_); rintro e w1 ⟨rfl, hb⟩; have HB1 := Lib.hid hb; clear hb))
    go_ret
    exact ⟨M, rfl, HH.out.below HB1.out, fun b hb => .inl hb, Tr.of_below HB1.out⟩
end
end Go.Proofs.YthlijldapoeepaaGreat

/- The reference: SameChanges of two lists that are alike. -/

namespace Go.Proofs.YthlijldapoeepaaGreat
set_option linter.unusedVariables false
set_option linter.unusedSimpArgs false
set_option maxRecDepth 100000
open Go.RowKit Go.Shelf

def ChS.kd (y : ChS) : Int × List Int := (y.lba, y.d)
set_option maxHeartbeats 3200000 in
theorem samech_true (A : Option Addr) (k : Nat) (l : List ChS) (A2 : Option Addr) (k2 : Nat) (l2 : List ChS) (w : World) (hl : l.length ≤ 140737488351232) (h1 : ChsAt w A l) (h2 : ChsAt w A2 l2) (he : l.map ChS.kd = l2.map ChS.kd) :
    Calls Tryz.prog 37 #[.slice A l.length k, .slice A2 l2.length k2] w fun e w' => e = .returned (.bool true) ∧ Below w.heap.size w w' := by
  have hlen : l.length = l2.length := by have := congrArg List.length he; simpa using this
  have H1 := Lib.hid h1
  have H2 := Lib.hid h2
  have HE := Lib.hid (show ∀ i (h : i < l.length) (h' : i < l2.length), l[i].lba = l2[i].lba ∧ l[i].d = l2[i].d from fun i h h' => by
    have : (l.map ChS.kd)[i]? = (l2.map ChS.kd)[i]? := by rw [he]
    rw [List.getElem?_map, List.getElem?_map, List.getElem?_eq_getElem h, List.getElem?_eq_getElem h'] at this
    simpa [ChS.kd] using this)
  have HL := Lib.hid hlen
  rw [← hlen]
  clear h1 h2 he hlen
  go_enter Tryz.func37, Tryz.ntmps37
  go_wp2_with fail
  go_loopw [5] (fun v w2 => ∃ j : Nat, j ≤ l.length ∧ v = .int .i64 (j : Int) ∧ Below w.heap.size w w2) (fun v _ => l.length - (RowKit.intOf v).toNat)
  case atStart => exact ⟨0, by omega, rfl, Below.refl _ _⟩
  case round =>
    obtain ⟨j, hj, rfl, hb⟩ := hrel
    have HB := Lib.hid hb
    clear hb
    by_cases hlt : j < l.length
    · have hlt2 : j < l2.length := by have := HL.out; omega
      obtain ⟨hin, b, o, rfl, hc⟩ := (H1.out.below HB.out) j hlt
      obtain ⟨hin2, b2, o2, rfl, hc2⟩ := (H2.out.below HB.out) j hlt2
      obtain ⟨e1, e2⟩ := HE.out j hlt hlt2
      have x0 := hc 0 _ rfl
      have x1 := hc 1 _ rfl
      have y0 := hc2 0 _ rfl
      have y1 := hc2 1 _ rfl
      simp only [Nat.add_zero] at x0 y0
      rw [← Nat.add_assoc] at x1 y1
      clear hc hc2
      have r1 := hin.rd
      have r2 := hin2.rd
      clear hin hin2
      generalize l[j] = y at e1 e2 x0 x1 r1
      generalize l2[j] = y2 at e1 e2 y0 y1 r2
      rw [← e1] at y0
      rw [← e2] at y1 r2
      obtain ⟨dn, hdn⟩ : ∃ dn, y.d.length = dn := ⟨_, rfl⟩
      obtain ⟨S, hS⟩ : ∃ S, strOfNums y.d = S := ⟨_, rfl⟩
      have c1 : ∀ n, (convert 52 9 (.slice y.A dn y.c)).run Tryz.prog (wr.drewN n) = .ok (.string S) (wr.drewN n) := fun n => by rw [← hS]; exact conv8 dn y.c (r1.drewN n) hdn
      have c2 : ∀ n, (convert 52 9 (.slice y2.A dn y2.c)).run Tryz.prog (wr.drewN n) = .ok (.string S) (wr.drewN n) := fun n => by rw [← hS]; exact conv8 dn y2.c (r2.drewN n) hdn
      rw [hdn] at x1 y1
      have eS : (S.toList == S.toList) = true := by simp
      have eS2 : (S.toList != S.toList) = false := by simp
      generalize y.lba = z at x0 y0 e1
      clear e1 e2 r1 r2 hdn hS
      go_wp2_with fail
      go_quiet (fail)
      go_wp2_with fail
      exact ⟨⟨j + 1, by omega, by go_num, bl_chain HB.out (bl_drewN _ _)⟩, by simp [RowKit.intOf]; omega⟩
    · go_wp2_with fail
      go_ret
      exact ⟨rfl, HB.out⟩
end Go.Proofs.YthlijldapoeepaaGreat

/- The reference: LentChanges. -/

namespace Go.Proofs.YthlijldapoeepaaGreat
set_option linter.unusedVariables false
set_option linter.unusedSimpArgs false
set_option maxRecDepth 100000
open Go.RowKit Go.Shelf

theorem infoCh : (Tryz.prog.info? 54).map (fun i => (i.zero, i.size, i.bytes)) = some (some (.agg #[.int .i64 0, .slice none 0 0]), 2, 32) := by kernel_rfl
theorem ECh : AppTy Tryz.prog 38 54 2 32 := AppTy.mk' Tryz.underlying38 infoCh rfl (by omega)
/-- The cells of changes. -/
def chCells (l : List ChS) : List Value := l.flatMap ChS.cells
theorem chCells_length : ∀ l : List ChS, (chCells l).length = l.length * 2
  | [] => rfl
  | y :: l => by
    show (y.cells ++ chCells l).length = _
    rw [List.length_append, chCells_length l]
    simp [ChS.cells]
    omega
theorem chCells_at : ∀ (l : List ChS) (i j : Nat) (h : i < l.length) (u : Value), l[i].cells[j]? = some u → (chCells l)[i * 2 + j]? = some u
  | y :: l, 0, j, h, u, hu => by
    show (y.cells ++ chCells l)[0 * 2 + j]? = _
    rw [List.getElem?_append_left (by have := (List.getElem?_eq_some_iff.1 hu).1; simpa using this)]
    simpa using hu
  | y :: l, i + 1, j, h, u, hu => by
    show (y.cells ++ chCells l)[(i + 1) * 2 + j]? = _
    rw [List.getElem?_append_right (by simp [ChS.cells]; omega)]
    have := chCells_at l i j (by simpa using h) u (by simpa using hu)
    rw [← this]
    congr 1
    simp [ChS.cells]
    omega
/-- Changes in memory of their own, from B0 on. -/
structure LentAt (w : World) (B0 : Nat) (A : Option Addr) (c : Nat) (l : List ChS) : Prop where
  row : w.ownsRow B0 54 2 (.slice A l.length c) l.length (chCells l)
  data : ∀ y ∈ l, w.ownsRow B0 5 1 (.slice y.A y.d.length y.c) y.d.length (by8 y.d)
  apart : l.Pairwise (fun a b => ∀ x, Blo a.A x → ¬ Blo b.A x)
  ok : ∀ y ∈ l, (-9223372036854775808 ≤ y.lba ∧ y.lba ≤ 9223372036854775807) ∧ isB y.d ∧ y.d.length ≤ 140737488351232
theorem LentAt.chs {w : World} {B0 : Nat} {A : Option Addr} {c : Nat} {l : List ChS} (h : LentAt w B0 A c l) : ChsAt w A l := fun i hi => by
  have hm := List.getElem_mem hi
  obtain ⟨o1, o2, o3⟩ := h.ok _ hm
  refine ⟨⟨o1, Rd.of_own (h.data _ hm), o2, o3⟩, ?_⟩
  rcases h.row.2 with ⟨_, e⟩ | ⟨g, cap, cur, hv, hb, hh, _, _, _, ht⟩
  · omega
  · injection hv with e1 e2 e3
    subst e1
    refine ⟨g, 0, rfl, fun j u hu => ?_⟩
    have hc := chCells_at l i j hi u hu
    rw [Nat.zero_add, cell_of_row w g (i * 2 + j) cur 54 (0, 0) hh]
    rw [← ht] at hc
    rw [List.getElem?_take] at hc
    split at hc
    · simpa using hc
    · cases hc
theorem LentAt.tr {w w' : World} {F : Nat → Prop} {B0 : Nat} {A : Option Addr} {c : Nat} {l : List ChS} (h : LentAt w B0 A c l) (ht : Tr F w w') (hF : ∀ b, B0 ≤ b → b < w.heap.size → ¬ F b) : LentAt w' B0 A c l :=
  ⟨own_tr h.row ht (fun b hb => hF b (own_ge h.row b hb) (own_lt h.row b hb)), fun y hy => own_tr (h.data y hy) ht (fun b hb => hF b (own_ge (h.data y hy) b hb) (own_lt (h.data y hy) b hb)), h.apart, h.ok⟩
theorem Rd.cellx {w w' : World} (hb : Below w.heap.size w w') {p : Addr} {v : Value} (h : w.cell? p = some v) : w'.cell? p = some v := (hb.cell (cell_block_lt h)).trans h
theorem LentAt.trc {w w' : World} {F : Nat → Prop} {B0 : Nat} {A : Option Addr} {c : Nat} {l : List ChS} (h : LentAt w B0 A c l) (ht : Tr F w w') (hF : NoCells w F) : LentAt w' B0 A c l :=
  ⟨own_trc h.row ht hF, fun y hy => own_trc (h.data y hy) ht hF, h.apart, h.ok⟩
theorem chRight_kd (n : Nat) : ∀ (l l' : List ChS), l'.map ChS.kd = l.map ChS.kd → chRight n l' = chRight n l
  | [], [], _ => rfl
  | [], _ :: _, h => by simp at h
  | _ :: _, [], h => by simp at h
  | y :: l, y' :: l', h => by
    simp only [List.map_cons, List.cons.injEq] at h
    have h1 : y'.lba = y.lba ∧ y'.d = y.d := by simpa [ChS.kd] using h.1
    show (chOk n y' && chRight n l') = (chOk n y && chRight n l)
    rw [chRight_kd n l l' h.2]
    unfold chOk
    rw [h1.1, h1.2]
theorem chTo_kd : ∀ (l l' : List ChS) (L : List (List Int)), l'.map ChS.kd = l.map ChS.kd → chTo L l' = chTo L l
  | [], [], _, _ => rfl
  | [], _ :: _, _, h => by simp at h
  | _ :: _, [], _, h => by simp at h
  | y :: l, y' :: l', L, h => by
    simp only [List.map_cons, List.cons.injEq] at h
    have h1 : y'.lba = y.lba ∧ y'.d = y.d := by simpa [ChS.kd] using h.1
    show chTo (L.set y'.lba.toNat y'.d) l' = chTo (L.set y.lba.toNat y.d) l
    rw [h1.1, h1.2, chTo_kd l l' _ h.2]
theorem change_kd {l l' : List ChS} (h : l'.map ChS.kd = l.map ChS.kd) (L : List (List Int)) : changeL L l' = changeL L l ∧ changeE L.length l' = changeE L.length l := by
  unfold changeL changeE
  rw [chRight_kd _ l l' h, chTo_kd l l' L h]
  exact ⟨rfl, rfl⟩
set_option maxHeartbeats 3200000 in
theorem lentch_any (A : Option Addr) (k : Nat) (l : List ChS) (w : World) (hl : l.length ≤ 4398046510976) (hA : ChsAt w A l) :
    Calls Tryz.prog 35 #[.slice A l.length k] w fun e w' => ∃ A' k' l', e = .returned (.slice A' l'.length k') ∧ l'.map ChS.kd = l.map ChS.kd ∧ LentAt w' w.heap.size A' k' l' ∧ Below w.heap.size w w' := by
  have HA := Lib.hid hA
  clear hA
  go_enter Tryz.func35, Tryz.ntmps35
  go_wp2_with fail
  go_loopw [3, 4, 5] (fun v v2 _ W => ∃ j : Nat, ∃ A' k' l', j ≤ l.length ∧ v2 = .int .i64 (j : Int) ∧ v = .slice A' l'.length k' ∧ l'.map ChS.kd = (l.take j).map ChS.kd ∧ LentAt W w.heap.size A' k' l' ∧ Below w.heap.size w W) (fun _ v _ _ => l.length - (RowKit.intOf v).toNat)
  case atStart => exact ⟨0, none, 0, [], by omega, rfl, rfl, rfl, ⟨ownsRow_emp _ _ _ _, fun y hy => (by cases hy), List.Pairwise.nil, fun y hy => (by cases hy)⟩, Below.refl _ _⟩
  case round =>
    obtain ⟨j, A', k', l', hj, rfl, rfl, hk, hL, hb⟩ := hrel
    have HL := Lib.hid hL
    have HB := Lib.hid hb
    have HK := Lib.hid hk
    have hll : l'.length = j := by have := congrArg List.length hk; simp at this; omega
    clear hL hb hk
    by_cases hlt : j < l.length
    · obtain ⟨hin, b, o, rfl, hc⟩ := (HA.out.below HB.out) j hlt
      have x0 := hc 0 _ rfl
      have x1 := hc 1 _ rfl
      simp only [Nat.add_zero] at x0
      rw [← Nat.add_assoc] at x1
      have HTK := Lib.hid (show l.take (j + 1) = l.take j ++ [l[j]] from List.take_succ_eq_append_getElem hlt)
      have HIN := Lib.hid hin
      clear hc hin
      generalize l[j] = y at x0 x1 HTK HIN
      have hyl := HIN.out.len
      have HRD := Lib.hid (HIN.out.rd.below (bl_alloc wr (.cells #[.int .i64 y.lba, .slice none 0 0] 54)))
      have y1 := (Rd.cellx (bl_alloc wr (.cells #[.int .i64 y.lba, .slice none 0 0] 54)) x1)
      have hcb : Blk (wr.alloc (.cells #[.int .i64 y.lba, .slice none 0 0] 54)) wr.heap.size 54 #[.int .i64 y.lba, .slice none 0 0] := Blk.new _ _ _
      have z1 : (wr.alloc (.cells #[.int .i64 y.lba, .slice none 0 0] 54)).cell? ⟨wr.heap.size, 1, none⟩ = some (.slice none 0 0) := hcb.cell 1
      have HL1 := Lib.hid (HL.out.tr (Tr.of_below (F := NoB) (bl_alloc wr (.cells #[.int .i64 y.lba, .slice none 0 0] 54))) (fun _ _ _ h => h))
      have HB1 := Lib.hid (bl_chain HB.out (bl_alloc wr (.cells #[.int .i64 y.lba, .slice none 0 0] 54)))
      have HCB := Lib.hid hcb
      have HBW := Lib.hid (bl_alloc wr (.cells #[.int .i64 y.lba, .slice none 0 0] 54))
      have hsz1 : wr.heap.size + 1 = (wr.alloc (.cells #[.int .i64 y.lba, .slice none 0 0] 54)).heap.size := by simp
      obtain ⟨dn, hdn⟩ : ∃ dn, y.d.length = dn := ⟨_, rfl⟩
      rw [hdn] at x1 y1 hyl
      have HDN := Lib.hid hdn
      clear hcb hdn
      go_wp2_with fail
      generalize hW : wr.alloc (.cells #[.int .i64 y.lba, .slice none 0 0] 54) = W1 at HRD y1 z1 HL1 HB1 HCB HBW hsz1 ⊢
      clear hW x0 x1
      have hzz := HB.out.size
      go_region_law (refine stepR_append E8 rfl rfl (ownsRow_emp W1.drew W1.heap.size _ _) rfl HRD.out.drew rfl (by rw [by8_length, HDN.out]; simp) (by8_one _) dn (by8 y.d) (by simp) (by simp) (by simp only [maxLen]; omega) (by omega) (Nat.le_refl _) ?_; intro A3 c3 w3 hc3 ho3 ht3 _; have hb3 : Below W1.drew.heap.size W1.drew w3 := ht3.below (fun b _ h => Blo.none b h); have hk3 := HCB.out.drew.keep hb3; have z3 := hk3.cell 1; have f3 := hk3.frozen 1; simp at z3; have HO3 := Lib.hid ho3; have HB3 := Lib.hid hb3; have HK3 := Lib.hid hk3; clear ho3 ht3 hb3 hk3)
      all_goals
        have hk4 := HK3.out.set_ 1 (.slice A3 dn c3)
        have T4 : Tr (fun x => x = wr.heap.size) wr (w3.setCell ⟨wr.heap.size, 1, none⟩ (.slice A3 dn c3)) := (((Tr.of_below (F := fun x => x = wr.heap.size) HBW.out).drew).then_below HB3.out).setCell (p := ⟨wr.heap.size, 1, none⟩) (fun _ => rfl) _
        have hL4 := HL.out.tr T4 (fun b _ h e => by omega)
        have ho4 := own_tr HO3.out ((Tr.refl (fun x => x = wr.heap.size) w3).setCell (p := ⟨wr.heap.size, 1, none⟩) (fun _ => rfl) (.slice A3 dn c3)) (fun b hx hq => own_blk HO3.out HK3.out (by decide) (hq ▸ hx))
        have hb4 : Below w.heap.size w (w3.setCell ⟨wr.heap.size, 1, none⟩ (.slice A3 dn c3)) := HB.out.trans (T4.to_below HB.out.size (fun b e => by rw [e]; exact hzz))
        generalize w3.setCell ⟨wr.heap.size, 1, none⟩ (.slice A3 dn c3) = W4 at hk4 hL4 ho4 hb4 T4 ⊢
        have u0 : W4.cell? ⟨wr.heap.size, 0, none⟩ = some (.int .i64 y.lba) := hk4.cell 0
        have u1 : W4.cell? ⟨wr.heap.size, 1, none⟩ = some (.slice A3 dn c3) := hk4.cell 1
        have HK4 := Lib.hid hk4
        have HL4 := Lib.hid hL4
        have HO4 := Lib.hid ho4
        have HB4 := Lib.hid hb4
        have hrow := hL4.row
        rw [hll] at hrow
        have HROW := Lib.hid hrow
        have hz4 := hb4.size
        clear hk4 hL4 ho4 hb4 hrow z1 y1
        obtain ⟨l2, hl2⟩ : ∃ l2, l' ++ [(⟨A3, c3, y.lba, y.d⟩ : ChS)] = l2 := ⟨_, rfl⟩
        have hcells : chCells l' ++ [.int .i64 y.lba, .slice A3 dn c3] = chCells l2 := by
          rw [← hl2, chCells, chCells, List.flatMap_append]
          simp [ChS.cells, HDN.out]
        have HL2 := Lib.hid hl2
        have HCE := Lib.hid hcells
        clear hl2 hcells
        go_wp2_with (first
          | (at_builtin; refine wpL_append ECh rfl rfl (HROW.out.alloc _) rfl (Rd.newN W4 54 #[.int .i64 y.lba, .slice A3 dn c3]) rfl (by rfl) (by simp [Value.oneCell']) (j + 1) (chCells l2) rfl HCE.out (by simp only [maxLen]; omega) (by omega) (by simp; omega) ?_; intro A5 c5 w5 hc5 ho5 ht5 _; have HO5 := Lib.hid ho5; have HT5 := Lib.hid ht5; clear ho5 ht5)
          | go_in)
        have hl2n : l2.length = j + 1 := by rw [← HL2.out]; simp [hll]
        have hfar : ∀ (y' : ChS), (w4 : World) → w4 = W4.alloc (.cells #[.int .i64 y.lba, .slice A3 dn c3] 54) → ∀ B1, w4.ownsRow B1 5 1 (.slice y'.A y'.d.length y'.c) y'.d.length (by8 y'.d) → w5.ownsRow B1 5 1 (.slice y'.A y'.d.length y'.c) y'.d.length (by8 y'.d) := fun y' w4 e B1 h => by
          subst e
          exact own_tr h HT5.out (fun b hx hq => own_two_ne (HROW.out.alloc _) h (by decide) hq hx)
        refine ⟨⟨j + 1, A5, c5, l2, by omega, by go_num, by rw [hl2n], ?_, ⟨?_, ?_, ?_, ?_⟩, ?_⟩, by simp [RowKit.intOf]; omega⟩
        · rw [HTK.out, List.map_append, ← HK.out, ← HL2.out, List.map_append]
          rfl
        · rw [hl2n]; exact HO5.out
        · intro y' hy'
          rw [← HL2.out] at hy'
          rcases List.mem_append.1 hy' with hy' | hy'
          · exact hfar y' _ rfl _ ((HL4.out.data y' hy').alloc _)
          · obtain rfl := List.mem_singleton.1 hy'
            refine hfar _ _ rfl _ (World.ownsRow.alloc ?_ _)
            show W4.ownsRow w.heap.size 5 1 (.slice A3 y.d.length c3) y.d.length (by8 y.d)
            rw [HDN.out]
            exact ownsRow_base HO4.out (by omega)
        · rw [← HL2.out, List.pairwise_append]
          refine ⟨HL4.out.apart, List.pairwise_singleton _ _, fun a' ha' b' hb' x hx hx2 => ?_⟩
          obtain rfl := List.mem_singleton.1 hb'
          have e1 := own_lt (HL.out.data a' ha') x hx
          have e2 := own_ge HO3.out x hx2
          omega
        · intro y' hy'
          rw [← HL2.out] at hy'
          rcases List.mem_append.1 hy' with hy' | hy'
          · exact HL4.out.ok y' hy'
          · obtain rfl := List.mem_singleton.1 hy'
            exact ⟨HIN.out.lb, HIN.out.b, HIN.out.len⟩
        · exact (bl_chain HB4.out (bl_alloc W4 _)).trans (HT5.out.to_below (B := w.heap.size) (by simp; omega) (fun b hb => own_ge HROW.out b hb))
    · go_wp2_with fail
      go_ret
      exact ⟨A', k', l', rfl, by rw [HK.out, List.take_of_length_le (by omega)], HL.out, HB.out⟩
end Go.Proofs.YthlijldapoeepaaGreat

/- The reference's store (06): a copy of an image; next, Apply, Replace, Copy. -/

namespace Go.Proofs.YthlijldapoeepaaGreat
set_option linter.unusedVariables false
set_option linter.unusedSimpArgs false
set_option maxRecDepth 100000
open Go.RowKit Go.Shelf

theorem ES : AppTy Tryz.prog 73 52 1 24 := AppTy.mk' Tryz.underlying73 infoS rfl (by decide)
def RCopyM (r q : Nat) (M : Nat → Prop) (r' q' : Nat) : Nat → Prop := fun b => (M b ∧ b ≠ q ∧ b ≠ r) ∨ b = r' ∨ b = q'
def RetRCopy (w : World) (r q : Nat) (L : List (List Int)) (M : Nat → Prop) (e : Ending) (w' : World) : Prop := ∃ r' q' c', e = .returned (.pointer (some ⟨r', 0, none⟩)) ∧ w.heap.size ≤ r' ∧ w.heap.size ≤ q' ∧ IsRef w' r' L q' c' (RCopyM r q M r' q') ∧ Below w.heap.size w w'
section
variable {w : World} {r q c : Nat} {L : List (List Int)} {M : Nat → Prop}
theorem IsRef.c0 (h : IsRef w r L q c M) : w.cell? ⟨r, 0, none⟩ = some (.slice (some ⟨q, 0, none⟩) L.length c) := h.blk.cell 0
set_option maxHeartbeats 1600000 in
theorem rcopy_any (h : IsRef w r L q c M) : Calls Tryz.prog 45 #[.pointer (some ⟨r, 0, none⟩)] w (RetRCopy w r q L M) := by
  have h256 := h.ok.hi
  have hlo := h.ok.lo
  obtain ⟨vs, hrow, hvs⟩ := h.row
  have h1 : ∀ u ∈ vs, u.oneCell' = true := fun u hu => by
    obtain ⟨i, hi, rfl⟩ := List.getElem_of_mem hu
    obtain ⟨A, k, e, _⟩ := hvs i _ (List.getElem?_eq_getElem hi)
    rw [e]; rfl
  have hvl : vs.length = L.length * 1 := hrow.1
  have HH := Lib.hid h
  have HV := Lib.hid hvs
  have HW := Lib.hid (bl_alloc w (.cells #[.slice none 0 0] 75))
  have HB := Lib.hid (Blk.new w 75 #[.slice none 0 0])
  have HR := Lib.hid (Rd.of_own (own_below hrow (bl_alloc w (.cells #[.slice none 0 0] 75)) (B := 0)))
  have hc0 := (h.below (bl_alloc w (.cells #[.slice none 0 0] 75))).c0
  have HZ : Hid ((w.alloc (.cells #[.slice none 0 0] 75)).heap.size = w.heap.size + 1) := Lib.hid (by simp)
  clear h hrow hvs
  go_enter Tryz.func45, Tryz.ntmps45
  go_wp2_with fail
  generalize w.alloc (.cells #[.slice none 0 0] 75) = W1 at HW HB HR hc0 HZ ⊢
  have y0 := HB.out.cell 0
  have f0 := HB.out.frozen 0
  simp at y0
  go_region_law (refine stepR_append ES rfl rfl (ownsRow_emp W1.drew w.heap.size _ _) rfl (by exact HR.out.drew) rfl hvl h1 L.length vs (by simp) (by simp) (by simp only [maxLen]; omega) (by omega) (by have := HW.out.size; show w.heap.size ≤ W1.heap.size; omega) ?_; intro A3 c3 w3 hc3 ho3 ht3 ha3; have hb3 := ht3.blk HB.out.drew (fun h => Blo.none _ h); have z0 := hb3.cell 0; have g0 := hb3.frozen 0; simp at z0; have HO3 := Lib.hid ho3; have HT3 := Lib.hid ht3; have HB3 := Lib.hid hb3; clear ho3 ht3 ha3 hb3)
  all_goals
    go_wp2_with fail
    go_ret
    obtain ⟨A', c', e, _, h0, _⟩ := ownsRow_slice HO3.out
    injection e with e1 _ e2
    subst e1
    subst e2
    rcases h0 with h0 | ⟨q', rfl⟩
    · omega
    have hq1 := own_ge HO3.out q' rfl
    have hq2 := own_lt HO3.out q' rfl
    have hqr : q' ≠ w.heap.size := by
      rintro rfl
      rcases HO3.out.2 with ⟨h1, _⟩ | ⟨g, cap, cur, hv, _, hh, _⟩
      · cases h1
      · injection hv with hv
        injection hv with hv
        injection hv with hv
        subst hv
        have := HB3.out
        unfold Blk at this
        rw [this] at hh
        injection hh with hh
        injection hh with _ hh
        revert hh
        decide
    have hb3 : Below w.heap.size w w3 := (HW.out).trans (((bl_drew W1).mono HW.out.size).trans ((HT3.out.to_below (B := w.heap.size) (by have := HW.out.size; show w.heap.size ≤ W1.heap.size; omega) (fun b hb => (Blo.none b hb).elim))))
    have t4 : Tr (fun b => b = w.heap.size) w3 (w3.setCell ⟨w.heap.size, 0, none⟩ (.slice (some ⟨q', 0, none⟩) L.length c3)) := (Tr.refl (fun b => b = w.heap.size) w3).setCell (p := ⟨w.heap.size, 0, none⟩) (fun _ => rfl) _
    have hb4 : Below w.heap.size w (w3.setCell ⟨w.heap.size, 0, none⟩ (.slice (some ⟨q', 0, none⟩) L.length c3)) := bl_tr hb3 t4 (fun b e => by omega)
    have hmlt := HH.out.mlt
    have hz3 := hb3.size
    have hz4 : w3.heap.size ≤ (w3.setCell ⟨w.heap.size, 0, none⟩ (.slice (some ⟨q', 0, none⟩) L.length c3)).heap.size := t4.size
    refine ⟨w.heap.size, q', c3, rfl, Nat.le_refl _, hq1, ⟨HH.out.ok, HB3.out.set_ 0 _, ⟨vs, ownsRow_tr (ownsRow_base HO3.out (Nat.zero_le _)) t4 (fun g hg e => by have hg2 : some q' = some g := hg; injection hg2 with hg2; exact hqr (hg2.trans e)), fun i v hv => ?_⟩, .inr (.inl rfl), .inr (.inr rfl), Ne.symm hqr, fun b hb => ?_⟩, hb4⟩
    · obtain ⟨A, k, e, hrd, hA⟩ := HV.out i v hv
      refine ⟨A, k, e, hrd.below hb4, fun b hb => ?_⟩
      obtain ⟨a1, a2, a3⟩ := hA b hb
      have := hmlt b a1
      exact ⟨.inl ⟨a1, a2, a3⟩, by omega, by omega⟩
    · rcases hb with h | rfl | rfl
      · have := hmlt b h.1; omega
      · have := HW.out.size; have := HB3.out.lt; omega
      · omega
end
end Go.Proofs.YthlijldapoeepaaGreat

/- The writer's numbers of eight bytes. -/

namespace Go.Proofs.YthlijldapoeepaaGreat
set_option linter.unusedVariables false
set_option linter.unusedSimpArgs false
set_option maxRecDepth 100000
open Go.RowKit

set_option maxHeartbeats 400000 in
theorem num8 (B g : Nat) (l : List Int) (n : Int) (w : World) (hB : B ≤ w.heap.size) (hw : IsWriter w B g l 0) (hl : l.length ≤ 140737488351232) (h0 : 0 ≤ n) (h1 : n < 9223372036854775808) :
    Calls Tryz.prog 71 #[.pointer (some ⟨g, 0, none⟩), .int .i64 8, .int .i64 n] w fun e w' => e = .returned (.tuple #[]) ∧ IsWriter w' B g (l ++ be 8 n) 0 ∧ Below B w w' := by
  obtain ⟨A, c, hb, ho, hg, hc⟩ := hw
  have c0 := hb.cell 0
  have c1 := hb.cell 1
  have f0 := hb.frozen 0
  have f1 := hb.frozen 1
  simp at c0 c1
  have HO := Lib.hid ho
  clear ho
  go_enter Tryz.func71, Tryz.ntmps71
  go_wp2_with (first | (go_at_call 90; refine (number_any n _ (by omega) (by omega)).mono ?_; rintro e w1 ⟨rfl, hb1⟩))
  have hz1 := hb1.size
  have hglt := hb.lt
  have hbk1 := hb.keep hb1
  have c01 := hbk1.cell 0
  have c11 := hbk1.cell 1
  have f01 := hbk1.frozen 0
  simp at c01 c11
  have HO1 := Lib.hid (own_below HO.out hb1 (B := 0))
  have hg1 : g < w1.heap.size := by omega
  have k4 : IntKind.i64.wrap 0 = 0 := by rfl
  go_region_law (refine stepR_append E8 rfl rfl ((HO1.out.alloc _)) rfl (Rd.newAt w1 w1.heap.size _ (by8 [beB n 0, beB n 1, beB n 2, beB n 3, beB n 4, beB n 5, beB n 6, beB n 7]) _ 0 rfl rfl) rfl (by rfl) (by8_one _) (l.length + 8) _ rfl rfl (by simp only [maxLen]; omega) (by omega) (by simp; omega) ?_; intro A2 c2 w2 hc2 ho2 ht2 ha2; have hb2 := ht2.blk (Blk.drew (hbk1.alloc _)) (own_blk HO1.out hbk1 (by decide)); have c02 := hb2.cell 0; have f02 := hb2.frozen 0; simp at c02; have HO2 := Lib.hid ho2; have HT2 := Lib.hid ht2; have HA2 := Lib.hid ha2; have HB2 := Lib.hid hb2; clear ho2 ht2 ha2 hb2)
  all_goals
    go_wp2_with fail
    go_end0
    refine ⟨rfl, ⟨A2, c2, ?_, ?_, hg, ?_⟩, ?_⟩
    · have := HB2.out.set_ 0 (.slice A2 (l.length + 8) c2)
      rw [List.length_append, be_length]
      exact this
    · rw [List.length_append, be_length, be8, by8_append]
      exact own_tr HO2.out ((Tr.refl (fun b => b = g) _).setCell (fun _ => rfl) _) (fun b hx hq => own_blk HO2.out HB2.out (by decide) (hq ▸ hx))
    · rw [List.length_append, be_length]; exact hc2
    · have t1 : Tr (fun b => B ≤ b) w w1 := Tr.of_below hb1
      have t2 := (t1.alloc (.cells #[.int .u8 (beB n 0), .int .u8 (beB n 1), .int .u8 (beB n 2), .int .u8 (beB n 3), .int .u8 (beB n 4), .int .u8 (beB n 5), .int .u8 (beB n 6), .int .u8 (beB n 7)] 143)).drew
      have t3 := (t2.trans HT2.out (fun b _ h => own_ge HO1.out b h)).setCell (p := ⟨g, 0, none⟩) (fun _ => hg) (.slice A2 (l.length + 8) c2)
      exact t3.to_below hB (fun _ h => h)

end Go.Proofs.YthlijldapoeepaaGreat
