/- State.Bytes: a state as bytes. -/
import Derived.Test.YtlkdglhbncnkhaaRegsIt
import Derived.Test.YtlkdglhbncnkhaaRangeOwn
import Derived.Test.YtlkdglhbncnkhaaWords
namespace Go.Proofs.Ytlkdglhbncnkhaa
set_option linter.unusedVariables false
open Go.RowKit Go.Shelf

attribute [local go_sem] Oper.semAt_some

def maskTo (s : RS) : Nat → Int
  | 0 => 0
  | k + 1 => if s.fen k = true then maskTo s k + 2 ^ k else maskTo s k
theorem maskTo_range (s : RS) : ∀ k, 0 ≤ maskTo s k ∧ maskTo s k < 2 ^ k
  | 0 => by simp [maskTo]
  | k + 1 => by
    have := maskTo_range s k
    have e : (2 : Int) ^ (k + 1) = 2 ^ k + 2 ^ k := by rw [Int.pow_succ]; omega
    have : (0 : Int) < 2 ^ k := Int.pow_pos (by omega)
    unfold maskTo
    split <;> omega
def entB (zs : List Int) (i : Fin 16) : List Int := be 1 (i.val : Int) ++ be 8 (zs[i.val]?.getD 0)
def headB (s : RS) : List Int := be 4 s.gen ++ be 1 (s.holder + 1) ++ be 1 s.kind
def bytesL (s : RS) : List Int := headB s ++ be 2 (maskTo s 16) ++ be 1 ((nz s.keys 16).length : Int) ++ (nz s.keys 16).flatMap (entB s.keys)
theorem entB_length (zs : List Int) (i : Fin 16) : (entB zs i).length = 9 := by simp [entB, be_length]
theorem headB_length (s : RS) : (headB s).length = 6 := by simp [headB, be_length]
theorem ents_length (zs : List Int) (l : List (Fin 16)) : (l.flatMap (entB zs)).length = 9 * l.length := by
  induction l with
  | nil => rfl
  | cons a l ih => simp [entB_length] at ih ⊢; omega

/-- Bytes under way: the state at g, the writer at G, its pointer's cell at P. -/
structure BW (w W : World) (G P g : Nat) (s : RS) (l : List Int) : Prop where
  st : IsRS W g s
  wr : IsWriter W w.heap.size G l 0
  cp : Blk W P 68 #[.pointer (some ⟨G, 0, none⟩)]
  b : Below w.heap.size w W
  gl : g < w.heap.size
  pl : w.heap.size ≤ P
section
variable {w W W' : World} {G P g : Nat} {s : RS} {l : List Int}
theorem IsWriter.blk_lt {B : Nat} (h : IsWriter W B G l 0) : G < W.heap.size := by
  obtain ⟨A, c, hb, _⟩ := h
  exact hb.lt
theorem blk_keep {b : Nat} {t : TypeId} {cs cs' : Array Value} (hG : Blk W G 80 cs') (h : Blk W b t cs) (ht : Tr (WF W G) W W') (h8 : t ≠ 5) (hw : t ≠ 80) : Blk W' b t cs := by
  refine ht.blk h (fun hF => ?_)
  rcases hF with rfl | ⟨cs2, hF⟩
  · have := hG.symm.trans h
    injection this with this
    injection this with _ e
    exact hw e.symm
  · have := hF.symm.trans h
    injection this with this
    injection this with _ e
    exact h8 e.symm
theorem BW.num (h : BW w W G P g s l) {l' : List Int} (hw : IsWriter W' w.heap.size G l' 0) (hb : Below w.heap.size W W') (ht : Tr (WF W G) W W') : BW w W' G P g s l' := by
  obtain ⟨A, c, hG, _⟩ := h.wr
  exact ⟨⟨h.st.ok, blk_keep hG h.st.blk ht (by decide) (by decide)⟩, hw, blk_keep hG h.cp ht (by decide) (by decide), h.b.trans hb, h.gl, h.pl⟩
theorem IsWriter.keep {B : Nat} (h : IsWriter W B G l 0) (hb : Below W.heap.size W W') : IsWriter W' B G l 0 := by
  obtain ⟨A, c, hG, ho, h1, h2⟩ := h
  exact ⟨A, c, hG.keep hb, own_below (B := 0) ho hb, h1, h2⟩
theorem BW.turned (h : BW w W G P g s l) {row : Option Nat} {B : Nat} (hg : W.grownBy W' row) (hr : ∀ r, row = some r → B ≤ r ∧ ∃ o : Obj, W.heap[r]? = some o ∧ o.isCells = false) (hB : w.heap.size ≤ B) : BW w W' G P g s l :=
  have ht := turned_of hg hr
  ⟨⟨h.st.ok, h.st.blk.turned ht⟩, h.wr.turned ht, h.cp.turned ht, h.b.grown hg h.b.size (fun k e => Nat.le_trans hB (hr k e).1), h.gl, h.pl⟩
theorem BW.setC (h : BW w W G P g s l) {C : Nat} {cs : Array Value} (hC : Blk W C 2 cs) (hc : w.heap.size ≤ C) (u : Value) : BW w (W.setCell ⟨C, 0, none⟩ u) G P g s l := by
  obtain ⟨A, c, hG, ho, h1, h2⟩ := h.wr
  refine ⟨⟨h.st.ok, h.st.blk.far (p := ⟨C, 0, none⟩) (Blk.ne_ h.st.blk hC (by decide)) _⟩, ⟨A, c, hG.far (p := ⟨C, 0, none⟩) (Blk.ne_ hG hC (by decide)) _, ?_, h1, h2⟩, h.cp.far (p := ⟨C, 0, none⟩) (Blk.ne_ h.cp hC (by decide)) _, h.b.setCell (p := ⟨C, 0, none⟩) hc _, h.gl, h.pl⟩
  exact own_tr ho ((Tr.refl (fun b => b = C) _).setCell (fun _ => rfl) _) (fun b hx hq => own_blk ho hC (by decide) (hq ▸ hx))
theorem BW.blkC (h : BW w W G P g s l) {C : Nat} {cs : Array Value} (hC : Blk W C 2 cs) (ht : Tr (WF W G) W W') : Blk W' C 2 cs := by
  obtain ⟨A, c, hG, _⟩ := h.wr
  exact blk_keep hG hC ht (by decide) (by decide)
theorem heap_keep {D : Nat} {o : Obj} (h : W.heap[D]? = some o) (hb : Below W.heap.size W W') : W'.heap[D]? = some o := (hb.block D (Array.getElem?_eq_some_iff.1 h).1).trans h
theorem BW.below (h : BW w W G P g s l) (hb : Below W.heap.size W W') : BW w W' G P g s l :=
  ⟨h.st.below hb, h.wr.keep hb, h.cp.keep hb, h.b.trans (hb.mono h.b.size), h.gl, h.pl⟩
end

def fenA (s : RS) : Array Value := (s.fenced.map Value.bool).toArray
theorem fenA_size {s : RS} (h : s.Ok) : (fenA s).size = 16 := by simp [fenA, h.lf]
theorem infoB16 : (Try.prog.info? 55).map (·.size) = some 16 := by kernel_rfl
theorem loadFen {w : World} {g : Nat} {s : RS} (h : IsRS w g s) : ∀ (j : Nat) (v : Value), (fenA s)[j]? = some v → w.cell? ((⟨g, 16, none⟩ : Addr).add j) = some v := fun j v hv => by
  rw [add_lit]
  have hj : j < 16 := by
    have := (Array.getElem?_eq_some_iff.1 hv).1
    rw [fenA_size h.ok] at this
    exact this
  rw [h.cfen hj, ← hv]
  simp only [fenA, List.getElem?_toArray, List.getElem?_map]
  unfold RS.fen
  rw [List.getElem?_eq_getElem (by rw [h.ok.lf]; exact hj)]
  rfl
theorem index_fen {s : RS} (h : s.Ok) {k : Nat} (hk : k < 16) (w : World) : (Instr.index 55 (.agg (fenA s)) (.int .i64 k)).run Try.prog w = .ok (.bool (s.fen k)) w := by
  have h1 : (0 : Int) ≤ (k : Int) ∧ (k : Int) < 16 := by omega
  have hsz : (sizeOf 4).run Try.prog w = .ok 1 w := by kernel_rfl
  have hv : (fenA s)[k]? = some (.bool (s.fen k)) := by
    simp only [fenA, List.getElem?_toArray, List.getElem?_map]
    unfold RS.fen
    rw [List.getElem?_eq_getElem (by rw [h.lf]; exact hk)]
    rfl
  simp [Instr.index, asIntOf, run_underlying Try.underlying55, h1, hsz, part, isAgg, run_underlying Try.underlying4, hv]
  intro hx
  omega
theorem or_bit (m : Int) (k : Nat) (hk : k < 16) (h0 : 0 ≤ m) (h1 : m < 2 ^ k) : bits .or .i64 m (wrap64 (2 ^ k)) = m + 2 ^ k := by
  obtain ⟨M, rfl⟩ := Int.eq_ofNat_of_zero_le h0
  have hM : M < 2 ^ k := by exact_mod_cast h1
  have h2 : (2 : Nat) ^ k ≤ 2 ^ 15 := Nat.pow_le_pow_right (by omega) (by omega)
  have e2 : (2 : Int) ^ k = ((2 ^ k : Nat) : Int) := by simp
  have e1 : wrap64 (2 ^ k) = ((2 ^ k : Nat) : Int) := by
    rw [e2]
    unfold wrap64
    omega
  rw [e1, e2]
  have hor : M ||| 2 ^ k = M + 2 ^ k := by
    have := Nat.two_pow_add_eq_or_of_lt hM 1
    rw [Nat.mul_one] at this
    rw [Nat.or_comm, ← this, Nat.add_comm]
  generalize 2 ^ k = p at *
  show IntKind.i64.wrap ((BitVec.ofInt 64 (M : Int) ||| BitVec.ofInt 64 (p : Int)).toNat : Int) = _
  rw [BitVec.toNat_or, ofInt_u64 M (by omega), ofInt_u64 p (by omega), hor, IntKind.wrap_i64]
  omega

theorem u64_round' (x : Int) (h0 : 0 ≤ x) (h1 : x < 18446744073709551616) : IntKind.u64.wrap (wrap64 x) = x := by
  have e : IntKind.u64.wrap (wrap64 x) = (wrap64 x) % 18446744073709551616 := by rfl
  rw [e]
  unfold wrap64
  omega
theorem u64_small (x : Int) (h0 : 0 ≤ x) (h1 : x < 9223372036854775808) : IntKind.u64.wrap x = x := by
  have e : IntKind.u64.wrap x = x % 18446744073709551616 := by rfl
  omega

set_option maxRecDepth 100000 in
set_option maxHeartbeats 1000000 in
theorem bytes_any {g : Nat} {s : RS} {w : World} (h : IsRS w g s) : Calls Try.prog 15 #[.pointer (some ⟨g, 0, none⟩)] w fun e w' =>
    ∃ A c, e = .returned (.slice A (bytesL s).length c) ∧ (bytesL s).length ≤ c ∧ w'.ownsRow w.heap.size 5 1 (.slice A (bytesL s).length c) (bytesL s).length (by8 (bytesL s)) ∧ Below w.heap.size w w' := by
  have HH := Lib.hid h
  have HS := Lib.hid h.ok.small
  have HG := Lib.hid h.ok.gen
  clear h
  refine (callsIn_wide (n := 9)).1 (callsIn_of_wp_marks Try.func15 rfl trivial ?_ rfl)
  refine wpIn_wide.2 ?_
  simp only [Try.ntmps15, List.size_toArray, List.length_cons, List.length_nil, Nat.reduceAdd, Nat.reduceSub, Array.replicate_succ, Array.replicate_zero, List.push_toArray, List.append_toArray, List.nil_append, List.cons_append]
  go_wp2_with (first
    | (go_at_call 28; (with_reducible refine (newWriter_any _).mono ?_); rintro e w1 ⟨rfl, hw1, hb1⟩; have HW1 := Lib.hid hw1; have HB1 := Lib.hid hb1; clear hw1 hb1))
  have hbw : BW w (w1.alloc (.cells #[.pointer (some ⟨w.heap.size, 0, none⟩)] 68)) w.heap.size w1.heap.size g s [] :=
    ⟨(HH.out.below HB1.out).below (bl_alloc _ _), HW1.out.keep (bl_alloc _ _), Blk.new _ _ _, HB1.out.trans ((bl_alloc _ _).mono HB1.out.size), HH.out.lt, HB1.out.size⟩
  obtain ⟨W0, hW0⟩ : ∃ W0, w1.alloc (.cells #[.pointer (some ⟨w.heap.size, 0, none⟩)] 68) = W0 := ⟨_, rfl⟩
  obtain ⟨P, hP⟩ : ∃ P, w1.heap.size = P := ⟨_, rfl⟩
  obtain ⟨G, hG⟩ : ∃ G, w.heap.size = G := ⟨_, rfl⟩
  have HGG := Lib.hid hG
  rw [hP] at hbw ⊢
  rw [hG] at hW0 hbw ⊢
  rw [hW0] at hbw ⊢
  clear hW0 hP hG HW1 HB1
  have F0 := Lib.hid (hbw.below (bl_drew W0))
  obtain ⟨hg0, hg1⟩ := HG.out
  have HWG : Hid (IntKind.i64.wrap s.gen = s.gen) := Lib.hid (by rw [IntKind.wrap_i64]; omega)
  have S0 : W0.drew.cell? ⟨P, 0, none⟩ = some (.pointer (some ⟨G, 0, none⟩)) ∧ W0.drew.cell? ⟨g, 34, none⟩ = some (.int .u32 s.gen) := ⟨F0.out.cp.cell 0, F0.out.st.cgen⟩
  go_region_held3 (fun W' => W'.cell? ⟨P, 0, none⟩ = some (.pointer (some ⟨G, 0, none⟩)) ∧ W'.cell? ⟨g, 34, none⟩ = some (.int .u32 s.gen)) (assumption)
    ((go_at_call 29; (with_reducible refine (numK4 w.heap.size G [] (IntKind.i64.wrap s.gen) s.gen _ F0.out.b.size F0.out.wr (by simp) hg0 hg1 (fun _ => by rw [HWG.out]; exact ⟨hg0, hg1⟩) (by rw [HWG.out]; exact u64_small _ hg0 (by omega))).mono ?_); rintro e w2 ⟨rfl, hw, hb, hk, ht⟩; have T0 : w2.cell? ⟨P, 0, none⟩ = some (.pointer (some ⟨G, 0, none⟩)) ∧ w2.cell? ⟨g, 34, none⟩ = some (.int .u32 s.gen) := ⟨(F0.out.num hw hb ht).cp.cell 0, (F0.out.num hw hb ht).st.cgen⟩; have F1 := Lib.hid ((F0.out.num hw hb ht).below (bl_drew _)); clear hw hb hk ht))
  clear S0 T0 F0
  go_wp2_with fail
  obtain ⟨hk0, hk1, hh0, hh1⟩ := HS.out
  have HWH : Hid (IntKind.i64.wrap (s.holder + 1) = s.holder + 1) := Lib.hid (by rw [IntKind.wrap_i64]; omega)
  have S1 : w2.drew.cell? ⟨P, 0, none⟩ = some (.pointer (some ⟨G, 0, none⟩)) ∧ w2.drew.cell? ⟨g, 32, none⟩ = some (.int .i64 s.holder) := ⟨F1.out.cp.cell 0, F1.out.st.chold⟩
  go_region_held3 (fun W' => W'.cell? ⟨P, 0, none⟩ = some (.pointer (some ⟨G, 0, none⟩)) ∧ W'.cell? ⟨g, 32, none⟩ = some (.int .i64 s.holder)) (assumption)
    ((go_at_call 29; (with_reducible refine (numK1 w.heap.size G _ (IntKind.i64.wrap (s.holder + 1)) (s.holder + 1) _ F1.out.b.size F1.out.wr (by simp [be_length]) (by omega) (by omega) (fun _ => by rw [HWH.out]; exact ⟨by omega, by omega⟩) (by rw [HWH.out]; exact u64_small _ (by omega) (by omega))).mono ?_); rintro e w3 ⟨rfl, hw, hb, hk, ht⟩; have T1 : w3.cell? ⟨P, 0, none⟩ = some (.pointer (some ⟨G, 0, none⟩)) ∧ w3.cell? ⟨g, 32, none⟩ = some (.int .i64 s.holder) := ⟨(F1.out.num hw hb ht).cp.cell 0, (F1.out.num hw hb ht).st.chold⟩; have F2 := Lib.hid ((F1.out.num hw hb ht).below (bl_drew _)); clear hw hb hk ht))
  clear S1 T1 F1
  go_wp2_with fail
  have S2 : w3.drew.cell? ⟨P, 0, none⟩ = some (.pointer (some ⟨G, 0, none⟩)) ∧ w3.drew.cell? ⟨g, 33, none⟩ = some (.int .i64 s.kind) := ⟨F2.out.cp.cell 0, F2.out.st.ckind⟩
  go_region_held3 (fun W' => W'.cell? ⟨P, 0, none⟩ = some (.pointer (some ⟨G, 0, none⟩)) ∧ W'.cell? ⟨g, 33, none⟩ = some (.int .i64 s.kind)) (assumption)
    ((go_at_call 29; (with_reducible refine (numK1 w.heap.size G _ s.kind s.kind _ F2.out.b.size F2.out.wr (by simp [be_length]) (by omega) (by omega) (fun _ => ⟨by omega, by omega⟩) (u64_small _ (by omega) (by omega))).mono ?_); rintro e w4 ⟨rfl, hw, hb, hk, ht⟩; have T2 : w4.cell? ⟨P, 0, none⟩ = some (.pointer (some ⟨G, 0, none⟩)) ∧ w4.cell? ⟨g, 33, none⟩ = some (.int .i64 s.kind) := ⟨(F2.out.num hw hb ht).cp.cell 0, (F2.out.num hw hb ht).st.ckind⟩; have F3 := Lib.hid (F2.out.num hw hb ht); clear hw hb hk ht))
  clear S2 T2 F2
  have LF := Lib.hid (fun o => loadFen (F3.out.st.below (bl_alloc w4 o)))
  have HSZ := Lib.hid (fenA_size HH.out.ok)
  go_wp2_with (refine wpL_loadArr (ty := 55) rfl rfl rfl (LF.out _) Try.underlying55 rfl (by rw [HSZ.out]; exact infoB16) ?_)
  have hb4 := F3.out.below (bl_alloc w4 (.cells #[.int .i64 0] 2))
  have hc4 : Blk (w4.alloc (.cells #[.int .i64 0] 2)) w4.heap.size 2 #[.int .i64 0] := Blk.new _ _ _
  obtain ⟨W5, hW5⟩ : ∃ W5, w4.alloc (.cells #[.int .i64 0] 2) = W5 := ⟨_, rfl⟩
  obtain ⟨C, hC⟩ : ∃ C, w4.heap.size = C := ⟨_, rfl⟩
  have HCw : Hid (w.heap.size ≤ C) := Lib.hid (by rw [← hC]; exact F3.out.b.size)
  rw [hC] at hc4 ⊢
  rw [hW5] at hb4 hc4 ⊢
  have F5 := Lib.hid hb4
  have C5 := Lib.hid hc4
  clear hW5 hC hb4 hc4 F3 LF HWG HWH
  go_loopw [4, 39] (fun u v w2 => ∃ (k : Nat), k ≤ 16 ∧ v = .int .i64 k ∧ u = .int .i64 (maskTo s k) ∧ W5 = w2) (fun _ v _ => 16 - (intOf v).toNat)
  case atStart => exact ⟨0, by omega, rfl, rfl, rfl⟩
  case round =>
    obtain ⟨k, hk, rfl, rfl, rfl⟩ := hrel
    by_cases hlt : k < 16
    · have hi := fun w => index_fen HH.out.ok hlt w
      obtain ⟨m, hm⟩ : ∃ m, maskTo s k = m := ⟨_, rfl⟩
      have HM := Lib.hid hm
      have hmr := maskTo_range s k
      rw [hm] at hmr ⊢
      cases hf : s.fen k
      · rw [hf] at hi
        have HF := Lib.hid hf
        clear hf
        go_wp2_with fail
        go_roundw
        case rel => exact ⟨k + 1, by omega, by go_num, by simp [maskTo, HF.out, HM.out], trivial⟩
        case measure => simp [intOf]; omega
      · rw [hf] at hi
        have HF := Lib.hid hf
        clear hf
        go_wp2_with fail
        go_roundw
        case rel => exact ⟨k + 1, by omega, by go_num, by simp [maskTo, HF.out, HM.out, or_bit m k hlt hmr.1 hmr.2], trivial⟩
        case measure => simp [intOf]; omega
    · obtain rfl : k = 16 := by omega
      clear hk hlt
      go_wp2_with (first
        | (go_at_call 30; (with_reducible refine (regs_any F5.out.st).mono ?_); rintro e w6 ⟨rfl, hk6, hb6⟩; have F6 := Lib.hid (F5.out.below hb6); have C6 := Lib.hid (C5.out.keep hb6); have K6 := Lib.hid hk6; clear hk6 hb6))
      have F6h : Hid (BW w w6 G P g s (headB s)) := Lib.hid F6.out
      clear F6 F5 C5
      refine range_own2 (n₀ := w.heap.size) (v := fun x : Fin 16 => .int .i64 (x.val : Int)) (u := fun x : Fin 16 => .int .u64 (s.keys[x.val]?.getD 0)) (gf := 40) (lb := #[.pointer (some ⟨W5.heap.size, 0, none⟩)]) rfl (enters_of Try.func40 (by kernel_rfl) rfl) (regs_stops 9 _ w.heap.size s.keys HH.out.ok.lk w6 K6.out) F6h.out.b.size
        (fun pre W => BW w W G P g s (headB s) ∧ Blk W C 2 #[.int .i64 (pre.length : Int)])
        (fun pre A B row hs hg hr => ⟨hs.1.turned hg hr F6h.out.b.size, hs.2.turned (turned_of hg hr)⟩)
        ⟨F6h.out, C6.out⟩
        (fun T x => (T.setIfInBounds 51 (.int .i64 (x.val : Int))).setIfInBounds 52 (.int .u64 (s.keys[x.val]?.getD 0))) ?assign ?body ?done
      case assign =>
        intro l x W K hK
        simp only [List.setIfInBounds_toArray, List.set_cons_zero, List.set_cons_succ] at hK ⊢
        gi_wp2
        exact hK
      case body =>
        rintro l pre x W ⟨hF, hC⟩ hN
        have cC := hC.cell 0
        have fC := hC.frozen 0
        simp at cC
        simp only [List.setIfInBounds_toArray, List.set_cons_zero, List.set_cons_succ]
        gi_wp2
        refine ⟨KeepsOthers.setCell _ _ _, (Below.refl _ W).setCell (p := ⟨C, 0, none⟩) HCw.out _, hF.setC hC HCw.out _, ?_⟩
        have := hC.set_ 0 (.int .i64 (((pre ++ [x]).length : Nat) : Int))
        simpa using this
      case done =>
        rintro D xs W7 hD rfl ⟨hF, hC⟩ hK
        have cC := hC.cell 0
        simp at cC
        have cP := hF.cp.cell 0
        simp at cP
        obtain ⟨hm0, hm1⟩ := maskTo_range s 16
        have hn16 := nz_length s.keys 16
        have F7 := Lib.hid hF
        have C7 := Lib.hid hC
        have K7 := Lib.hid hK
        have HZ6 := Lib.hid (show w.heap.size ≤ D from Nat.le_trans F6h.out.b.size hD)
        clear hF hC hK F6h C6 K6
        go_wp2_with (first
          | (go_at_call 29; (with_reducible refine (numK2 w.heap.size G (headB s) (maskTo s 16) (maskTo s 16) _ F7.out.b.size F7.out.wr (by rw [headB_length]; omega) hm0 (by omega) (fun _ => ⟨hm0, by omega⟩) (u64_small _ hm0 (by omega))).mono ?_); rintro e w8 ⟨rfl, hw, hb, hk, ht⟩; have F8 := Lib.hid (F7.out.num hw hb ht); have C8 := Lib.hid (F7.out.blkC C7.out ht); have K8 := Lib.hid (hk.same D _ K7.out rfl); have cP8 := F8.out.cp.cell 0; have cC8 := C8.out.cell 0; simp at cP8 cC8; clear hw hb hk ht)
          | (go_at_call 29; (with_reducible refine (numK1 w.heap.size G (headB s ++ be 2 (maskTo s 16)) ((nz s.keys 16).length : Int) ((nz s.keys 16).length : Int) _ F8.out.b.size F8.out.wr (by simp [headB_length, be_length]) (by omega) (by omega) (fun _ => ⟨by omega, by omega⟩) (u64_small _ (by omega) (by omega))).mono ?_); rintro e w9 ⟨rfl, hw, hb, hk, ht⟩; have F9 := Lib.hid (F8.out.num hw hb ht); have K9 := Lib.hid (hk.same D _ K8.out rfl); clear hw hb hk ht)
          | (go_at_call 30; (with_reducible refine (regs_any F9.out.st).mono ?_); rintro e w10 ⟨rfl, hk6, hb6⟩; have F10 := Lib.hid (F9.out.below hb6); have K10 := Lib.hid (heap_keep K9.out hb6); have R10 := Lib.hid hk6; clear hk6 hb6))
        obtain ⟨l2, hl2⟩ : ∃ l2, headB s ++ be 2 (maskTo s 16) ++ be 1 ((nz s.keys 16).length : Int) = l2 := ⟨_, rfl⟩
        have hl9 : l2.length = 9 := by rw [← hl2]; simp [headB_length, be_length]
        rw [hl2] at F10
        have HL2 := Lib.hid hl2
        clear hl2
        refine range_own2 (n₀ := w.heap.size) (v := fun x : Fin 16 => .int .i64 (x.val : Int)) (u := fun x : Fin 16 => .int .u64 (s.keys[x.val]?.getD 0)) (gf := 40) (lb := #[.pointer (some ⟨w9.heap.size, 0, none⟩)]) rfl (enters_of Try.func40 (by kernel_rfl) rfl) (regs_stops 9 _ w.heap.size s.keys HH.out.ok.lk w10 R10.out) F10.out.b.size
          (fun pre W => BW w W G P g s (l2 ++ pre.flatMap (entB s.keys)) ∧ W.heap[D]? = some (.deferred (some [])))
          (fun pre A B row hs hg hr => ⟨hs.1.turned hg hr F10.out.b.size, (hg.block D (Array.getElem?_eq_some_iff.1 hs.2).1 (fun e => by have h1 := (hr D e.symm).1; have h2 := (Array.getElem?_eq_some_iff.1 K10.out).1; omega)).trans hs.2⟩)
          ⟨by simpa using F10.out, K10.out⟩
          (fun T x => (((T.setIfInBounds 63 (.int .i64 (x.val : Int))).setIfInBounds 64 (.int .u64 (s.keys[x.val]?.getD 0))).setIfInBounds 8 (.int .i64 (x.val : Int))).setIfInBounds 9 (.int .u64 (s.keys[x.val]?.getD 0))) ?assign2 ?body2 ?done2
        case assign2 =>
          intro l x W K hK
          simp only [List.setIfInBounds_toArray, List.set_cons_zero, List.set_cons_succ] at hK ⊢
          gi_wp2
          exact hK
        case body2 =>
          rintro l pre x W ⟨hF, hK⟩ hN
          have hx16 := x.isLt
          obtain ⟨y, hy⟩ : ∃ y, s.keys[x.val]?.getD 0 = y := ⟨_, rfl⟩
          have hyU := HH.out.ok.keyU x.val
          unfold RS.key at hyU
          rw [hy] at hyU ⊢
          obtain ⟨i, hi⟩ : ∃ i : Nat, x.val = i := ⟨_, rfl⟩
          rw [hi] at hx16 ⊢
          have HY := Lib.hid hy
          have HI := Lib.hid hi
          clear hy hi
          have cP := hF.cp.cell 0
          simp at cP
          have hlen : (l2 ++ pre.flatMap (entB s.keys)).length = 9 + 9 * pre.length := by rw [List.length_append, hl9, ents_length]
          have FW := Lib.hid hF
          have KW := Lib.hid hK
          clear hF hK
          simp only [List.setIfInBounds_toArray, List.set_cons_zero, List.set_cons_succ]
          gi_wp2
          refine ⟨trivial, ?_⟩
          with_reducible refine (numR1 l 7 w.heap.size G (l2 ++ pre.flatMap (entB s.keys)) (i : Int) (i : Int) W FW.out.b.size FW.out.wr (by omega) (by omega) (by omega) (fun _ => ⟨by omega, by omega⟩) (u64_small _ (by omega) (by omega))).mono ?_
          rintro e w12 ⟨rfl, hw, hb, hk, ht⟩
          have F12 := Lib.hid (FW.out.num hw hb ht)
          have cP12 := F12.out.cp.cell 0
          simp at cP12
          have K12 := Lib.hid (hk.same D _ KW.out rfl)
          have HK12 := Lib.hid hk
          have HB12 := Lib.hid hb
          have hlen2 : (l2 ++ pre.flatMap (entB s.keys) ++ be 1 (i : Int)).length = 10 + 9 * pre.length := by rw [List.length_append, hlen, be_length]; omega
          clear hw hb hk ht
          gi_wp2
          refine ⟨trivial, ?_⟩
          with_reducible refine (numR8 l 7 w.heap.size G _ (wrap64 y) y w12 F12.out.b.size F12.out.wr (by omega) hyU.1 hyU.2 (fun h => absurd h (by omega)) (u64_round' y hyU.1 hyU.2)).mono ?_
          rintro e w13 ⟨rfl, hw, hb, hk, ht⟩
          have F13 := Lib.hid (F12.out.num hw hb ht)
          have K13 := Lib.hid (hk.same D _ K12.out rfl)
          have HK13 := Lib.hid (HK12.out.trans hk)
          have HB13 := Lib.hid (HB12.out.trans hb)
          clear hw hb hk ht
          gi_wp2
          refine ⟨HK13.out, HB13.out, ?_, K13.out⟩
          have hy' : s.keys[i]?.getD 0 = y := by rw [← HI.out]; exact HY.out
          have e : l2 ++ (pre ++ [x]).flatMap (entB s.keys) = l2 ++ pre.flatMap (entB s.keys) ++ be 1 (i : Int) ++ be 8 y := by
            simp only [List.flatMap_append, List.flatMap_cons, List.flatMap_nil, List.append_nil, entB, HI.out, hy', List.append_assoc]
          rw [e]
          exact F13.out
        case done2 =>
          rintro D2 xs W11 hD2 rfl ⟨hF, hK1⟩ hK2
          have hbl : l2 ++ (nz s.keys 16).flatMap (entB s.keys) = bytesL s := by rw [← HL2.out]; rfl
          rw [hbl] at hF
          have cP := hF.cp.cell 0
          simp at cP
          have FE := Lib.hid hF
          have KA := Lib.hid hK1
          have KB := Lib.hid hK2
          have HLN := Lib.hid (show (bytesL s).length ≤ 140737488351232 by rw [← hbl, List.length_append, hl9, ents_length]; omega)
          clear hF hK1 hK2 hbl
          go_wp2_with (first
            | (go_at_call 31; (with_reducible refine (end_any w.heap.size G (bytesL s) _ FE.out.wr HLN.out).mono ?_); rintro e w14 ⟨A, c, rfl, hc, ho, hb⟩; have F14 := Lib.hid (FE.out.below hb); have KA2 := Lib.hid (heap_keep KA.out hb); have KB2 := Lib.hid (heap_keep KB.out hb); have HO := Lib.hid ho; have HZ := Lib.hid hb.size; clear ho hb))
          have hDD : D < w10.heap.size := (Array.getElem?_eq_some_iff.1 K10.out).1
          have hD1 : (w14.putObj D2 (.deferred none)).heap[D]? = some (.deferred (some [])) := (World.putObj_heap_other (by omega)).trans KA2.out
          have hz2 : w.heap.size ≤ D2 := Nat.le_trans F10.out.b.size hD2
          refine ⟨by simp, .inl ⟨D2, _, rfl, run_takeDeferred KB2.out, ⟨by simp, .inl ⟨D, _, rfl, run_takeDeferred hD1, ?_⟩⟩⟩⟩
          exact ⟨_, results_tmp rfl _ _ _, A, c, rfl, hc, ownsRow_putObj (ownsRow_putObj (ownsRow_base HO.out FE.out.b.size) _ KB2.out rfl) _ hD1 rfl, (F14.out.b.trans (belowK_b (w := w) (Nat.le_refl _) w14 D2 _ _ hz2 KB2.out rfl rfl)).trans (belowK_b (w := w) (Nat.le_refl _) _ D _ _ HZ6.out hD1 rfl rfl)⟩

end Go.Proofs.Ytlkdglhbncnkhaa
