/- Layer 6: the rows that changes touch, as an iterator's value. -/
import Derived.Test.YthlijldapoeepaaBlk6
import Derived.Test.YthlijldapoeepaaShelfB06
import Derived.Test.YthlijldapoeepaaChunk64
import Derived.Lib.SlKeysI
import Derived.Maps.OwnIn
namespace Go.Proofs.Ythlijldapoeepaa
set_option linter.unusedVariables false
set_option linter.unusedSimpArgs false
set_option maxRecDepth 100000
open Go.RowKit Go.Shelf

def touches (l : List ChS) (k : Nat) : Bool := l.any (fun y => decide (y.lba / 3 = (k : Int)))
/-- The rows that changes touch, rising. -/
def rowsT (l : List ChS) : List Nat := (List.range 86).filter (touches l)
def iz (l : List Nat) : List Value := l.map (fun (k : Nat) => Value.int .i64 (k : Int))
def izs (l : List Nat) : List Int := l.map (fun (k : Nat) => (k : Int))
theorem rowsT_sorted (l : List ChS) : (rowsT l).Pairwise (· < ·) := List.pairwise_lt_range.filter _
theorem rowsT_lt {l : List ChS} {k : Nat} (h : k ∈ rowsT l) : k < 86 := by
  have := (List.mem_filter.1 h).1
  simpa using this
theorem rowsT_mem {l : List ChS} {k : Nat} : k ∈ rowsT l ↔ k < 86 ∧ ∃ y ∈ l, y.lba / 3 = (k : Int) := by
  unfold rowsT touches
  rw [List.mem_filter, List.mem_range, List.any_eq_true]
  simp
theorem rowsT_length (l : List ChS) : (rowsT l).length ≤ 86 := by
  have := List.length_filter_le (touches l) (List.range 86)
  simpa [rowsT] using this
theorem izs_sorted (l : List ChS) : (izs (rowsT l)).Pairwise (· < ·) := by
  unfold izs
  rw [List.pairwise_map]
  exact (rowsT_sorted l).imp (fun h => by omega)
theorem iz_izs (l : List Nat) : (izs l).map (Value.int .i64) = iz l := by simp [izs, iz]

/-- How a bool reads in a map. -/
def rB : Value → Option (DataW Unit × List MemPlace)
  | .bool b => some (.lit (.bool b), [])
  | _ => none

/-- Which rows the first changes touch, as a map. -/
def TouchD (l : List ChS) (D : DataW Unit) : Prop := ∀ z : Int, Maps.has D (lk z) = decide (∃ y ∈ l, y.lba / 3 = z)
theorem TouchD.put {w : World} {b n : Nat} {l : List ChS} {D : DataW Unit} (h : TouchD l D) (ho : w.ownsMap Try.prog 3 rB b n D) (y : ChS) (hy : -9223372036854775808 ≤ y.lba / 3 ∧ y.lba / 3 ≤ 9223372036854775807) (d : DataW Unit) :
    TouchD (l ++ [y]) (D.put (lk (y.lba / 3)) d) := by
  intro z
  by_cases e : z = y.lba / 3
  · subst e
    rw [Maps.has_put_same ho.isMap (isKey _ hy)]
    symm
    exact decide_eq_true ⟨y, by simp, rfl⟩
  · rw [Maps.has_put_other (lk_ne e), h]
    apply decide_eq_decide.2
    constructor
    · rintro ⟨x, hx, e2⟩; exact ⟨x, by simp [hx], e2⟩
    · rintro ⟨x, hx, e2⟩
      rcases List.mem_append.1 hx with hx | hx
      · exact ⟨x, hx, e2⟩
      · simp at hx; subst hx; exact absurd e2.symm e
theorem TouchD.perm {w : World} {b n : Nat} {l : List ChS} {D : DataW Unit} (h : TouchD l D) (ho : w.ownsMap Try.prog 3 rB b n D) (hin : ∀ y ∈ l, 0 ≤ y.lba ∧ y.lba < 256) : (izs (rowsT l)).Perm (Go.intKeys D) := by
  refine Go.CollectedI.perm (left := fun _ => false) ⟨(izs_sorted l).imp (fun h e => by omega), fun x => ?_⟩ ho keyI Try.underlying3 (fun _ => rfl)
  show x ∈ izs (rowsT l) ↔ Maps.has D (lk x) = true ∧ _
  rw [h, decide_eq_true_iff]
  unfold izs
  rw [List.mem_map]
  constructor
  · rintro ⟨k, hk, rfl⟩
    obtain ⟨_, y, hy, e⟩ := rowsT_mem.1 hk
    exact ⟨⟨y, hy, e⟩, rfl⟩
  · rintro ⟨⟨y, hy, e⟩, _⟩
    have := hin y hy
    exact ⟨x.toNat, rowsT_mem.2 ⟨by omega, y, hy, by omega⟩, by omega⟩

theorem Try.sortsB (m : Nat) : AnyZI.SortsIn Try.prog Try.sortedL_ren Fence.wide m :=
  ⟨fun blk off cap ss W hH hblk hsz => callsIn_wide.2 (calls_of_every_depth fun D => AnyS.slices_Sort_int_in Try.sortL D blk off cap ss W hH hblk hsz),
   fun p cap W => callsIn_wide.2 (Any.slices_Sort_int_none Try.sortL p cap W)⟩
theorem keysB_call (B : Nat) (W : World) : Calls Try.prog 63 #[.map (some B)] W fun e w' => e = .returned (.func (.func 70) #[] #[.pointer (some ⟨W.heap.size, 0, none⟩)]) ∧ w' = W.alloc (.cells #[.map (some B)] 110) :=
  callsIn_wide.1 (AnyZI.keys_in Try.keysBL Fence.wide 5 trivial rfl (some B) W)
theorem sortedB_call {w : World} {B n : Nat} {l : List ChS} {D : DataW Unit} (ho : w.ownsMap Try.prog 3 rB B n D) (h : TouchD l D) (hin : ∀ y ∈ l, 0 ≤ y.lba ∧ y.lba < 256) :
    Calls Try.prog 62 #[.func (.func 70) #[] #[.pointer (some ⟨w.heap.size, 0, none⟩)]] (w.alloc (.cells #[.map (some B)] 110)) fun e w' => ∃ A c m, e = .returned (.slice A m c) ∧ m = (rowsT l).length ∧ w'.ownsRow w.heap.size 3 1 (.slice A m c) m (iz (rowsT l)) ∧ Below w.heap.size w w' := by
  have hp := h.perm ho hin
  have hbl := ho.lt
  have hsz : Maps.size D ≤ 86 := by
    have e := hp.length_eq
    have h1 : (izs (rowsT l)).length ≤ 86 := by unfold izs; rw [List.length_map]; exact rowsT_length l
    have h2 : (Go.intKeys D).length = Maps.size D := by
      obtain ⟨es, rfl⟩ := ho.isMap
      simp [Go.intKeys, Maps.size]
    omega
  have hseq : SeqGives Fence.wide 2 Try.prog 70 #[.pointer (some ⟨w.heap.size, 0, none⟩)] encZ (fun ss => ss.Perm (Go.intKeys D)) (Maps.size D) (w.alloc (.cells #[.map (some B)] 110)) :=
    AnyZI.keys_gives (ρ := Try.keysBL_ren) { Try.keysBL with } Fence.wide _ trivial rfl (by omega) w.heap.size B n D _ (by simp) (by simp) (ho.alloc _)
  have hs := callsIn_wide.1 (AnyZI.sorted_in Try.sortedL Fence.wide 5 trivial trivial trivial trivial rfl (by omega) (Try.sortsB _) (enters_of Try.func69 (by kernel_rfl) rfl) 70 #[.pointer (some ⟨w.heap.size, 0, none⟩)] trivial (enters_of Try.func70 (by kernel_rfl) rfl) _ (Maps.size D) (by simp only [maxLen]; omega) (by omega) _ hseq)
  refine hs.mono ?_
  rintro e w' ⟨v, ss, rfl, hpp, hrow, _, hb⟩
  have hp2 : ss.Perm (izs (rowsT l)) := hpp.trans hp.symm
  have hsort : ss.mergeSort (fun x y => decide (x ≤ y)) = izs (rowsT l) := by
    have h1 := Go.mergeSort_of_perm_i hp2
    have h2 : (izs (rowsT l)).mergeSort Go.leI = izs (rowsT l) := List.mergeSort_of_pairwise ((izs_sorted l).imp (fun h => by simp only [Go.leI, decide_eq_true_eq]; omega))
    exact h1.trans h2
  have hlen : ss.length = (rowsT l).length := by rw [hp2.length_eq]; simp [izs]
  rw [hsort, hlen, iz_izs] at hrow
  obtain ⟨m, hm⟩ : ∃ m, (rowsT l).length = m := ⟨_, rfl⟩
  rw [hm] at hrow
  obtain ⟨A, c, rfl, _, _⟩ := ownsRow_slice hrow
  exact ⟨A, c, m, rfl, hm.symm, ownsRow_base hrow (by simp), bl_chain (bl_alloc w _) hb⟩
theorem values_call (A : Option Addr) (n c : Nat) (w : World) : Calls Try.prog 61 #[.slice A n c] w fun e w' =>
    e = .returned (.func (.func 67) #[] #[.pointer (some ⟨w.heap.size, 0, none⟩)]) ∧ w' = w.alloc (.cells #[.slice A n c] 34) := by
  go_enter Try.func61, Try.ntmps61
  go_wp2_with fail
  go_ret
  exact ⟨rfl, rfl⟩
/-- What changed hands back: the iterator's box, its row. -/
structure RowsAt (w0 w : World) (bx : Nat) (ks : List Nat) (A : Option Addr) (c : Nat) : Prop where
  box : Blk w bx 34 #[.slice A ks.length c]
  row : w.ownsRow w0.heap.size 3 1 (.slice A ks.length c) ks.length (iz ks)
  new : w0.heap.size ≤ bx
set_option maxHeartbeats 1600000 in
theorem changed_any (A : Option Addr) (c : Nat) (l : List ChS) (w : World) (hl : ChsAt w A l) (h64 : l.length ≤ 64) (hin : ∀ y ∈ l, 0 ≤ y.lba ∧ y.lba < 256) :
    Calls Try.prog 47 #[.slice A l.length c] w fun e w' => ∃ A' c' box, e = .returned (.func (.func 67) #[] #[.pointer (some ⟨box, 0, none⟩)]) ∧ RowsAt w w' box (rowsT l) A' c' ∧ Below w.heap.size w w' := by
  have HL := Lib.hid hl
  have HIN := Lib.hid hin
  clear hl hin
  have hmm := @run_makeMap Try.prog
  go_enter Try.func47, Try.ntmps47
  go_wp2_with fail
  go_loopw [5, 9] (fun _ v W => ∃ k : Nat, k ≤ l.length ∧ v = .int .i64 (k : Int) ∧ (∃ D, W.ownsMap Try.prog 3 rB w.heap.size k D ∧ TouchD (l.take k) D) ∧ Below w.heap.size w W) (fun _ v _ => l.length - (intOf v).toNat)
  case atStart => exact ⟨0, by omega, rfl, ⟨.map [], World.ownsMap_made w _ _ _, fun z => by simp [Maps.has]⟩, bl_alloc _ _⟩
  case round =>
    obtain ⟨k, hk, rfl, ⟨D, ho, ht⟩, hb⟩ := hrel
    have HO := Lib.hid ho
    have HT := Lib.hid ht
    have HB := Lib.hid hb
    clear ho ht hb
    by_cases hlt : k < l.length
    · obtain ⟨hy, b, o, rfl, hc⟩ := HL.out k hlt
      have x0 := (HB.out.cell (cell_block_lt (hc 0 _ rfl))).trans (hc 0 _ rfl)
      have x1 := (HB.out.cell (cell_block_lt (hc 1 _ rfl))).trans (hc 1 _ rfl)
      have hyy := HIN.out _ (List.getElem_mem hlt)
      have HS := Lib.hid (List.take_succ_eq_append_getElem hlt)
      clear hc hy
      generalize l[k] = y at x0 x1 hyy HS
      simp only [Nat.add_zero] at x0
      rw [← Nat.add_assoc] at x1
      obtain ⟨p, hp⟩ := Int.eq_ofNat_of_zero_le hyy.1
      have HP := Lib.hid hp
      rw [hp] at x0
      have hp2 : p < 256 := by omega
      have hdv : Int.tdiv (p : Int) 3 = (p : Int) / 3 := Int.tdiv_eq_ediv_of_nonneg (by omega)
      have HK : Hid (keyOf Try.prog 3 (.int .i64 ((p : Int) / 3)) = some (lk ((p : Int) / 3))) := Lib.hid (keyOfI (by omega))
      clear hp hyy
      go_wp2_with (at_mapUpdate; go_loud (refine wpList_mapUpdate_own _ rfl _ _ _ 110 rfl 3 4 keyI Try.underlying110 _ w.heap.size k _ rfl (by exact HO.out.alloc _) (by unfold maxLen; omega) _ _ (lk ((p : Int) / 3)) rfl rfl HK.out (.lit (.bool true)) [] rfl ?_); intro w1 ho1 hg1; have HO1 := Lib.hid ho1; have HG1 := Lib.hid hg1; clear ho1 hg1)
      go_roundw
      case measure => simp [intOf]; omega
      case rel =>
        refine ⟨k + 1, by omega, by go_num, ⟨_, HO1.out, ?_⟩, ?_⟩
        · rw [HS.out]
          have h := HT.out.put HO.out y (by rw [HP.out]; omega) (.lit (.bool true))
          rw [HP.out] at h
          exact h
        · exact bl_tr (HB.out.trans ((bl_alloc wr _).mono HB.out.size)) (tr_map HG1.out) (fun b hb => by omega)
    · obtain rfl : k = l.length := by omega
      have HTT : Hid (TouchD l D) := Lib.hid (by have := HT.out; rwa [List.take_length] at this)
      go_wp2_with (first
        | (go_at_call 63; (with_reducible refine (keysB_call w.heap.size wr).mono ?_); rintro e w' ⟨rfl, rfl⟩)
        | (go_at_call 62; (with_reducible refine (sortedB_call HO.out HTT.out HIN.out).mono ?_); rintro e w2 ⟨A2, c2, m2, rfl, hm2, ho2, hb2⟩; have HO2 := Lib.hid ho2; have HB2 := Lib.hid hb2; have HM2 := Lib.hid hm2; clear ho2 hb2 hm2)
        | (go_at_call 61; (with_reducible refine (values_call _ _ _ _).mono ?_); rintro e w3 ⟨rfl, rfl⟩))
      go_ret
      have hz := HB.out.size
      have hz2 := HB2.out.size
      have hm := HM2.out
      subst hm
      refine ⟨A2, c2, w2.heap.size, rfl, ⟨Blk.new w2 _ _, ownsRow_base (HO2.out.alloc _) hz, by omega⟩, HB.out.trans ((HB2.out.mono hz).trans ((bl_alloc w2 _).mono (by omega)))⟩

theorem Two.rd {a b : Nat} {A B : World} (h : Two a b A B) {Ad : Option Addr} {xs : List Value} (hA : xs ≠ [] → Ad = some ⟨b, 0, none⟩) (k : Rd A Ad xs) : Rd B Ad xs := fun j u hj => by
  obtain ⟨ad, e, hc⟩ := k j u hj
  refine ⟨ad, e, ?_⟩
  have hx : xs ≠ [] := by rintro rfl; simp at hj
  rw [hA hx] at e
  injection e with e
  subst e
  exact (World.cell?_of_block (a := (⟨b, 0, none⟩ : Addr).add j) (by rw [block_of_add]; exact h.2)).trans hc
attribute [local go_sem] Oper.semAt_some
set_option maxHeartbeats 2000000 in
theorem values_in (n lp Bs b len c : Nat) (A : Option Addr) (ks : List Nat) (hlen : ks.length = len) (hA : iz ks ≠ [] → A = some ⟨b, 0, none⟩) (hc : len ≤ c) (hl : len ≤ 140737488355328) (J Jx : List Nat → World → Prop) (hab : ∀ pre W, J pre W → J pre W.drew)
    (hY : ∀ pre x W, J pre W → pre.length < len → YieldAt Fence.wide (n - 1) Try.prog lp #[.int .i64 ((ks[idx len x]?.getD 0 : Nat) : Int)] W fun e W' =>
      (e = .returned (.bool true) ∧ J (pre ++ [x]) W' ∧ Two Bs b W W') ∨ (e = .returned (.bool false) ∧ Jx (pre ++ [x]) W'))
    (W : World) (hs : Blk W Bs 34 #[.slice A len c]) (hn : Rd W A (iz ks)) (h0 : J [] W) :
    CallsIn Fence.wide n Try.prog 67 #[.func (.yield lp) #[] #[], .pointer (some ⟨Bs, 0, none⟩)] W fun e W' => (∃ v, e = .returned v) ∧
      ((∃ ys, ys = List.range len ∧ J ys W') ∨ (∃ pre, True ∧ Jx pre W')) := by
  refine callsIn_of_wp Try.func67 rfl trivial ?_ rfl
  simp only [Try.ntmps67, List.size_toArray, List.length_cons, List.length_nil, Nat.reduceAdd, Nat.reduceSub, Array.replicate_succ, Array.replicate_zero, List.push_toArray, List.append_toArray, List.nil_append, List.cons_append]
  have cs := hs.cell 0
  simp at cs
  have HS := Lib.hid hs
  have HN := Lib.hid hn
  have HLN := Lib.hid hlen
  clear hs hn
  gi_wp2
  clear cs
  gi_loopw [4, 7] (fun _ i wr => ∃ k : Nat, k ≤ len ∧ i = .int .i64 (k : Int) ∧ J (List.range k) wr ∧ Rd wr A (iz ks))
    (fun _ i _ => len - (intOf i).toNat)
  case atStart => exact ⟨0, by omega, rfl, h0, HN.out⟩
  case round =>
    obtain ⟨k, hk, rfl, hJ, h1⟩ := hrel
    have H1 := Lib.hid h1
    clear h1
    by_cases hlt : k < len
    · obtain ⟨fn, tmps, assign, body, hy, hR⟩ := hY (List.range k) k wr hJ (by simpa using hlt)
      rw [idx_of hlt] at hy
      have hkl : k < (iz ks).length := by unfold iz; rw [List.length_map, HLN.out]; exact hlt
      obtain ⟨ad, e, hc1⟩ := H1.out k _ (List.getElem?_eq_getElem hkl)
      have hAe := hA (by intro e2; rw [e2] at hkl; simp at hkl)
      rw [hAe] at e
      injection e with e
      subst e
      rw [add_lit, Nat.zero_add] at hc1
      have hval : (iz ks)[k]'hkl = .int .i64 ((ks[k]?.getD 0 : Nat) : Int) := by
        have hk2 : k < ks.length := by rw [HLN.out]; exact hlt
        simp [iz, List.getElem?_eq_getElem hk2]
      rw [hval] at hc1
      clear hval
      obtain ⟨q, hq⟩ : ∃ q, ks[k]?.getD 0 = q := ⟨_, rfl⟩
      rw [hq] at hc1 hy
      clear hq
      subst hAe
      gi_wp2
      refine ⟨fun h => (by cases h), ?_⟩
      refine hR.mono ?_
      rintro e W3 (⟨rfl, hJ3, hk3⟩ | ⟨rfl, hJx3⟩)
      · have G1 := Lib.hid (hk3.rd (fun _ => rfl) H1.out)
        have HJ3 := Lib.hid hJ3
        clear hJ3 hk3
        gi_wp2
        exact ⟨⟨k + 1, by omega, by go_num, by rw [List.range_succ]; exact HJ3.out, G1.out⟩, by simp [intOf]; omega⟩
      · gi_wp2
        refine bodyPost_ret (results_none rfl _ _ _) rfl ?_
        exact ⟨⟨_, rfl⟩, .inr ⟨_, trivial, hJx3⟩⟩
    · obtain rfl : k = len := by omega
      gi_wp2
      go_end0
      exact ⟨⟨_, rfl⟩, .inl ⟨_, rfl, hJ⟩⟩
theorem values_stops (Bs b len c : Nat) (A : Option Addr) (ks : List Nat) (hlen : ks.length = len) (hA : iz ks ≠ [] → A = some ⟨b, 0, none⟩) (hc : len ≤ c) (hl : len ≤ 140737488355328) (w : World) (hs : Blk w Bs 34 #[.slice A len c]) (hn : Rd w A (iz ks)) :
    SeqStopsK Fence.wide 9 Try.prog 67 #[.pointer (some ⟨Bs, 0, none⟩)] (fun x => #[.int .i64 ((ks[idx len x]?.getD 0 : Nat) : Int)]) (Two Bs b) (fun ys => ys = List.range len) (fun _ => True) len w := fun l J Jx W hW hab _ hY h0 =>
  values_in 9 l Bs b len c A ks hlen hA hc hl J Jx (fun pre W1 h => hab pre W1 W1.drew none h ⟨rfl, rfl, rfl, Nat.le_refl _, fun _ _ _ => rfl⟩ (fun r e => by cases e)) hY W (hs.keep hW) (hn.below hW) h0
end Go.Proofs.Ythlijldapoeepaa
