/- Contracts of sense: States. -/
import Derived.Test.YtifhlkfdmnkhoaaSense10
import Derived.Test.YtifhlkfdmnkhoaaGetN
import Derived.Test.YtifhlkfdmnkhoaaChunk12
import Derived.Test.YtifhlkfdmnkhoaaInRound
import Derived.Test.YtifhlkfdmnkhoaaTurned
namespace Go.Proofs.Ytifhlkfdmnkhoaa
set_option linter.unusedVariables false
set_option linter.unusedSimpArgs false
open Go.RowKit Go.Shelf

attribute [local go_sem] Oper.semAt_some

/-- The first bytes of k pieces of twelve behind the first four. -/
def heads (l : List Int) (k : Nat) : List Int := (List.range k).map fun i => l[4 + 12 * i]?.getD 0
def stF (l : List Int) : Nat := (l.length - 4) / 12
def stOk (l : List Int) : Bool := decide (l.length = 4 + 12 * stF l) && portsOk (heads l (stF l)) && decide (l = portsM (heads l (stF l)))
def stE (l : List Int) : Int := if l.length < 4 then 10 else if ((l.length : Int) - 4 < unb (l.take 4)) then 10 else if stOk l = true then 0 else 11
def stL (l : List Int) : List Int := if stE l = 0 then heads l (stF l) else []
theorem heads_length (l : List Int) (k : Nat) : (heads l k).length = k := by simp [heads]
theorem heads_snoc (l : List Int) (k : Nat) : heads l (k + 1) = heads l k ++ [l[4 + 12 * k]?.getD 0] := by simp [heads, List.range_succ]
theorem portsM_length (ss : List Int) : (portsM ss).length = 4 + 12 * ss.length := by unfold portsM; rw [List.length_append, be_length, portRs_length]
/-- By all pieces, the last one short or not. -/
theorem st_all (l : List Int) (h4 : 4 ≤ l.length) : (portsE (heads l (many12 (l.length - 4))) = 0 ∧ l = portsL (heads l (many12 (l.length - 4)))) ↔ stOk l = true := by
  constructor
  · rintro ⟨h1, h2⟩
    have hok : portsOk (heads l (many12 (l.length - 4))) = true := by
      unfold portsE at h1
      unfold portsOk
      split at h1
      · rename_i h5
        split at h1
        · rename_i h6; simp [h5, h6]
        · simp at h1
      · simp at h1
    have e : portsL (heads l (many12 (l.length - 4))) = portsM (heads l (many12 (l.length - 4))) := if_pos hok
    rw [e] at h2
    have hl : l.length = 4 + 12 * many12 (l.length - 4) := by have := congrArg List.length h2; rwa [portsM_length, heads_length] at this
    have hf : stF l = many12 (l.length - 4) := by unfold stF; omega
    unfold stOk
    rw [hf]
    simp [hok, ← h2, ← hl]
  · intro h
    unfold stOk at h
    simp only [Bool.and_eq_true, decide_eq_true_eq] at h
    obtain ⟨⟨h1, h2⟩, h3⟩ := h
    have hf : many12 (l.length - 4) = stF l := by unfold many12; omega
    rw [hf]
    refine ⟨?_, h3.trans (if_pos h2).symm⟩
    unfold portsOk at h2
    simp only [Bool.and_eq_true, decide_eq_true_eq] at h2
    unfold portsE
    rw [if_pos h2.1, if_pos h2.2]
/-- By whole pieces, six at most. -/
theorem st_six (l : List Int) (h4 : 4 ≤ l.length) : (portsE (heads l (min 6 (stF l))) = 0 ∧ portsL (heads l (min 6 (stF l))) = l) ↔ stOk l = true := by
  constructor
  · rintro ⟨h1, h2⟩
    have hok : portsOk (heads l (min 6 (stF l))) = true := by
      unfold portsE at h1
      unfold portsOk
      split at h1
      · rename_i h5
        split at h1
        · rename_i h6; simp [h5, h6]
        · simp at h1
      · simp at h1
    have h5 : min 6 (stF l) ≤ 5 := by
      have := hok
      unfold portsOk at this
      simp only [Bool.and_eq_true, decide_eq_true_eq, heads_length] at this
      exact this.1
    have hm : min 6 (stF l) = stF l := by omega
    have e : portsL (heads l (min 6 (stF l))) = portsM (heads l (min 6 (stF l))) := if_pos hok
    rw [e] at h2
    rw [hm] at h2 hok
    have hl : l.length = 4 + 12 * stF l := by have := congrArg List.length h2; rw [portsM_length, heads_length] at this; exact this.symm
    unfold stOk
    simp [hok, h2, ← hl]
  · intro h
    unfold stOk at h
    simp only [Bool.and_eq_true, decide_eq_true_eq] at h
    obtain ⟨⟨h1, h2⟩, h3⟩ := h
    have h5 : stF l ≤ 5 := by
      have := h2
      unfold portsOk at this
      simp only [Bool.and_eq_true, decide_eq_true_eq, heads_length] at this
      exact this.1
    have hm : min 6 (stF l) = stF l := by omega
    rw [hm]
    refine ⟨?_, (if_pos h2).trans h3.symm⟩
    unfold portsOk at h2
    simp only [Bool.and_eq_true, decide_eq_true_eq] at h2
    unfold portsE
    rw [if_pos h2.1, if_pos h2.2]
theorem portsE_ok {ss : List Int} (h : portsE ss = 0) : portsOk ss = true := by
  unfold portsE at h
  unfold portsOk
  split at h
  · rename_i h5
    split at h
    · rename_i h6; simp [h5, h6]
    · simp at h
  · simp at h
theorem portRs_get (ss : List Int) : ∀ k i, i < k → (portRs ss k)[12 * i]? = some (ss[i]?.getD 0)
  | 0, i, h => by omega
  | k + 1, i, h => by
    rw [portRs]
    by_cases e : i < k
    · rw [List.getElem?_append_left (by rw [portRs_length]; omega)]
      exact portRs_get ss k i e
    · obtain rfl : i = k := by omega
      rw [List.getElem?_append_right (by rw [portRs_length]; exact Nat.le_refl _), portRs_length, Nat.sub_self]
      rfl
theorem st_back {ss : List Int} (h : portsE ss = 0) : stE (portsL ss) = 0 ∧ stL (portsL ss) = ss := by
  have hok := portsE_ok h
  have e : portsL ss = portsM ss := if_pos hok
  have h5 : ss.length ≤ 5 := by
    have := hok
    unfold portsOk at this
    simp only [Bool.and_eq_true, decide_eq_true_eq] at this
    exact this.1
  have hf : stF (portsM ss) = ss.length := by unfold stF; rw [portsM_length]; omega
  have hh : heads (portsM ss) ss.length = ss := by
    apply List.ext_getElem?
    intro i
    unfold heads
    rw [List.getElem?_map]
    by_cases hi : i < ss.length
    · rw [List.getElem?_range hi]
      simp only [Option.map_some]
      unfold portsM
      rw [List.getElem?_append_right (by rw [be_length]; omega), be_length, show 4 + 12 * i - 4 = 12 * i from by omega, portRs_get ss _ i hi]
      simp [List.getElem?_eq_getElem hi]
    · rw [List.getElem?_eq_none (by simpa using hi), List.getElem?_eq_none (by omega)]
      rfl
  have hu : unb ((portsM ss).take 4) = 12 * (ss.length : Int) := by
    unfold portsM
    rw [List.take_left' (be_length 4 _)]
    obtain hl | hl | hl | hl | hl | hl : ss.length = 0 ∨ ss.length = 1 ∨ ss.length = 2 ∨ ss.length = 3 ∨ ss.length = 4 ∨ ss.length = 5 := by omega
    all_goals (rw [hl]; rfl)
  have hso : stOk (portsM ss) = true := by
    unfold stOk
    rw [hf, hh]
    simp [portsM_length, hok]
  have h0 : stE (portsL ss) = 0 := by
    rw [e]
    unfold stE
    rw [if_neg (by rw [portsM_length]; omega), if_neg (by rw [hu, portsM_length]; omega), if_pos hso]
  refine ⟨h0, ?_⟩
  unfold stL
  rw [if_pos h0, e, hf, hh]
theorem ports_n (A : Option Addr) (c n : Nat) (ss : List Int) (w : World) (hr : Rd w A (i64s ss)) (hs : ss.length = n) (hn : n ≤ 140737488351232) : Calls Try.prog 26 #[.slice A n c] w (Ret8 w (portsL ss) (portsE ss)) := by
  subst hs
  exact ports_any A c ss w hr hn
theorem rports_n (A : Option Addr) (c n : Nat) (ss : List Int) (w : World) (hr : Rd w A (i64s ss)) (hs : ss.length = n) (hn : n ≤ 140737488351232) : Calls Try.prog 27 #[.slice A n c] w (Ret8 w (portsL ss) (portsE ss)) := by
  subst hs
  exact rports_any A c ss w hr hn
theorem results_tmp2' {fn : Func} {t u : Tmp} (h : fn.results = #[.tmp t, .tmp u]) (tmps : Array Value) (P : Program) (w : World) :
    (results fn tmps).run P w = .ok (.tuple #[tmps.getD t undef, tmps.getD u undef]) w := by simp [results, h]
def RetI (w : World) (l : List Int) (err : Int) (e : Ending) (w' : World) : Prop := ∃ A c, e = .returned (.tuple #[.slice A l.length c, .int .i64 err]) ∧ Rd w' A (i64s l) ∧ Below w.heap.size w w'
theorem infoI : (Try.prog.info? 3).map (fun i => (i.zero, i.size, i.bytes)) = some (some (.int .i64 0), 1, 8) := by kernel_rfl
theorem EI : AppTy Try.prog 44 3 1 8 := AppTy.mk' Try.underlying44 infoI rfl (by omega)
theorem st_end {w W W3 : World} {B n c2 c3 : Nat} {A2 A3 : Option Addr} {xs : List Int} {y : Int} {o : Obj} (h1 : Blk W w.heap.size 44 #[.slice A2 n c2]) (h2 : W.ownsRow B 3 1 (.slice A2 n c2) n (i64s xs)) (h3 : Below w.heap.size w W) (hB : w.heap.size + 3 ≤ B) (hBW : B ≤ W.heap.size)
    (ho : W3.ownsRow B 3 1 (.slice A3 (n + 1) c3) (n + 1) (i64s xs ++ [.int .i64 y])) (ht' : Tr (Blo A2) (W.alloc o).drew W3) :
    KeepsOthers W (W3.setCell ⟨w.heap.size, 0, none⟩ (.slice A3 (n + 1) c3)) ∧ Two (w.heap.size + 1) (w.heap.size + 1 + 1) W (W3.setCell ⟨w.heap.size, 0, none⟩ (.slice A3 (n + 1) c3)) ∧
      Blk (W3.setCell ⟨w.heap.size, 0, none⟩ (.slice A3 (n + 1) c3)) w.heap.size 44 #[.slice A3 (n + 1) c3] ∧ (W3.setCell ⟨w.heap.size, 0, none⟩ (.slice A3 (n + 1) c3)).ownsRow B 3 1 (.slice A3 (n + 1) c3) (n + 1) (i64s (xs ++ [y])) ∧
      Below w.heap.size w (W3.setCell ⟨w.heap.size, 0, none⟩ (.slice A3 (n + 1) c3)) ∧ B ≤ (W3.setCell ⟨w.heap.size, 0, none⟩ (.slice A3 (n + 1) c3)).heap.size := by
  have ht : Tr (Blo A2) (W.alloc o) W3 := ⟨ht'.os, ht'.tape, ht'.output, ht'.size, ht'.block⟩
  have hA : ∀ b, Blo A2 b → B ≤ b := own_ge h2
  have hA3 : ∀ b, Blo A3 b → B ≤ b := own_ge ho
  have t1 : Tr (fun b => b = w.heap.size ∨ Blo A2 b) W (W3.setCell ⟨w.heap.size, 0, none⟩ (.slice A3 (n + 1) c3)) :=
    (((Tr.refl (fun b => b = w.heap.size ∨ Blo A2 b) W).alloc o).trans ht (fun b _ h => .inr h)).setCell (p := ⟨w.heap.size, 0, none⟩) (fun _ => .inl rfl) _
  have hb3 := ht.blk (h1.alloc o) (fun h => by have := hA _ h; omega)
  have hz := ht.size
  simp at hz
  refine ⟨keeps_tr t1 (fun b hF o' ho' => ?_), ⟨t1.block _ (by omega) (fun h => ?_), t1.block _ (by omega) (fun h => ?_)⟩, ?_, ?_, ?_, ?_⟩
  · rcases hF with rfl | hF
    · have := h1.symm.trans ho'
      injection this with this
      subst this
      rfl
    · exact own_cellsB h2 hF ho'
  · rcases h with h | h
    · omega
    · have := hA _ h; omega
  · rcases h with h | h
    · omega
    · have := hA _ h; omega
  · exact hb3.set_ 0 _
  · have e : i64s xs ++ [.int .i64 y] = i64s (xs ++ [y]) := by simp [i64s]
    rw [← e]
    exact own_tr ho ((Tr.refl (fun b => b = w.heap.size) _).setCell (fun _ => rfl) _) (fun b hx hq => by have := hA3 b hx; omega)
  · exact bl_tr h3 t1 (fun b h => by
      rcases h with h | h
      · omega
      · have := hA b h; omega)
  · simp; omega

set_option maxRecDepth 100000 in
set_option maxHeartbeats 2000000 in
theorem states_any (b off c : Nat) (A : Option Addr) (l : List Int) (w : World) (hr : Rd w (some ⟨b, off, none⟩) (by8 l)) (hb : b < w.heap.size) (hB : isB l) (hl : l.length ≤ 140737488355328) (hc : l.length ≤ c) :
    Calls Try.prog 28 #[.slice (some ⟨b, off, none⟩) l.length c] w (RetI w (stL l) (stE l)) := by
  have HR := Lib.hid hr
  have HB := Lib.hid hB
  clear hr hB
  have HG := Lib.hid (get4_any (some ⟨b, off, none⟩) c l w HR.out HB.out hl hc)
  by_cases h4 : l.length < 4
  · have HF : Hid (stE l = 10 ∧ stL l = []) := Lib.hid (by
      have h10 : stE l = 10 := if_pos h4
      exact ⟨h10, by unfold stL; rw [h10]; rfl⟩)
    have hg := HG.out
    rw [show getV 4 l = 0 from if_pos h4, show getE 4 l = 1 from if_pos h4] at hg
    have HG4 := Lib.hid hg
    clear hg HG
    go_enter Try.func28, Try.ntmps28
    go_wp2_with (first
      | (go_at_call 37; (with_reducible refine (HG4.out).mono ?_); rintro e w' ⟨rfl, rfl⟩))
    go_ret2
    rw [HF.out.1, HF.out.2]
    exact ⟨none, 0, rfl, Rd.nil, Below.refl _ _⟩
  · by_cases hn : (l.length : Int) - 4 < unb (l.take 4)
    · have HF : Hid (stE l = 10 ∧ stL l = []) := Lib.hid (by
        have h10 : stE l = 10 := (if_neg h4).trans (if_pos hn)
        exact ⟨h10, by unfold stL; rw [h10]; rfl⟩)
      have hg := HG.out
      rw [show getV 4 l = unb (l.take 4) from if_neg h4, show getE 4 l = 0 from if_neg h4] at hg
      obtain ⟨N, hN⟩ : ∃ N, unb (l.take 4) = N := ⟨_, rfl⟩
      rw [hN] at hg hn
      have hN0 : 0 ≤ N ∧ N < 4294967296 := by rw [← hN]; have := unb_range HB.out 4 (by omega); simpa using this
      have hwN : wrap64 N = N := by unfold wrap64; omega
      have i1 : (4 : Int) ≤ (l.length : Int) := by omega
      have HG4 := Lib.hid hg
      clear hg HG hN
      go_enter Try.func28, Try.ntmps28
      go_wp2_with (first
        | (go_at_call 37; (with_reducible refine (HG4.out).mono ?_); rintro e w' ⟨rfl, rfl⟩))
      go_ret2
      rw [HF.out.1, HF.out.2]
      exact ⟨none, 0, rfl, Rd.nil, Below.refl _ _⟩
    · have HE : Hid (getV 4 l = unb (l.take 4) ∧ getE 4 l = 0) := Lib.hid ⟨if_neg h4, if_neg h4⟩
      have hg := HG.out
      rw [HE.out.1, HE.out.2] at hg
      obtain ⟨N, hN⟩ : ∃ N, unb (l.take 4) = N := ⟨_, rfl⟩
      have HM' := Lib.hid hN
      rw [hN] at hg hn
      have HG4 := Lib.hid hg
      have hN0 : 0 ≤ N ∧ N < 4294967296 := by rw [← hN]; have := unb_range HB.out 4 (by omega); simpa using this
      have HN := Lib.hid hN
      have hwN : wrap64 N = N := by unfold wrap64; omega
      have i1 : (4 : Int) ≤ (l.length : Int) := by omega
      have i2 : (4 : Int) ≤ (c : Int) := by omega
      obtain ⟨A1, hif⟩ : ∃ A1, (if c = 4 then (some ⟨b, off, none⟩ : Option Addr) else some ⟨b, off + 4, none⟩) = A1 := ⟨_, rfl⟩
      have HA1 : Hid (0 < l.length - 4 → A1 = some ⟨b, off + 4, none⟩) := Lib.hid (fun h => by rw [← hif, if_neg (by omega)])
      clear hg hN HG
      refine (callsIn_wide (n := 10)).1 (callsIn_of_wp_marks Try.func28 rfl trivial ?_ rfl)
      refine wpIn_wide.2 ?_
      simp only [Try.ntmps28, List.size_toArray, List.length_cons, List.length_nil, Nat.reduceAdd, Nat.reduceSub, Array.replicate_succ, Array.replicate_zero, List.push_toArray, List.append_toArray, List.nil_append, List.cons_append]
      go_wp2_with (first
        | (go_at_call 37; (with_reducible refine (HG4.out).mono ?_); rintro e w' ⟨rfl, rfl⟩)
        | (go_at_call 38; (with_reducible refine (chunk12_any _ _ _ _).mono ?_); rintro e w2 ⟨rfl, hb1, hb2, hbl⟩; have K1 := Lib.hid hb1; have K2 := Lib.hid hb2; have BX := Lib.hid ((Blk.new w 44 #[.slice none 0 0]).keep hbl); have B2 := Lib.hid (bl_chain (bl_alloc w _) hbl); clear hb1 hb2 hbl))
      clear hif
      obtain ⟨M, hM⟩ : ∃ M, many12 (l.length - 4) = M := ⟨_, rfl⟩
      have hz2 : w.heap.size + 3 ≤ w2.heap.size := by have := K2.out.lt; simp at this; omega
      have HM := Lib.hid hM
      simp only [World.size_alloc] at K1 K2 ⊢
      refine range_ownK1 (Kp := Two (w.heap.size + 1) (w.heap.size + 1 + 1)) (v := fun x => piece12 b (off + 4) (l.length - 4) (idx (many12 (l.length - 4)) x)) (gf := 45) (lb := #[.pointer (some ⟨w.heap.size + 1, 0, none⟩), .pointer (some ⟨w.heap.size + 1 + 1, 0, none⟩)]) rfl (enters_of Try.func45 (by kernel_rfl) rfl)
        (chunk12_stops _ _ b (off + 4) (l.length - 4) (c - 4) A1 HA1.out (by omega) (by omega) w2 K1.out K2.out) two_t (two_b (by omega) (by omega))
        (fun pre W => ∃ A2 c2, Blk W w.heap.size 44 #[.slice A2 pre.length c2] ∧ W.ownsRow w2.heap.size 3 1 (.slice A2 pre.length c2) pre.length (i64s (pre.map fun x => l[4 + 12 * idx (many12 (l.length - 4)) x]?.getD 0)) ∧ Below w.heap.size w W ∧ w2.heap.size ≤ W.heap.size)
        (fun pre A B row ⟨A2, c2, h1, h2, h3, h5⟩ hg hr => ⟨A2, c2, h1.turn (turn_of hg hr), own_turn h2 (turn_of hg hr), below_turn h3 h3.size hg hr (by omega), Nat.le_trans h5 hg.size⟩)
        ⟨none, 0, BX.out, ownsRow_emp _ _ _ _, B2.out, Nat.le_refl _⟩
        (fun T x => (T.setIfInBounds 28 (piece12 b (off + 4) (l.length - 4) (idx (many12 (l.length - 4)) x))).setIfInBounds 7 (piece12 b (off + 4) (l.length - 4) (idx (many12 (l.length - 4)) x))) ?assign ?body ?done
      case assign =>
        intro l x W K hK
        simp only [List.setIfInBounds_toArray, List.set_cons_zero, List.set_cons_succ] at hK ⊢
        gi_wp2
        exact hK
      case body =>
        rintro lr pre x W ⟨A2, c2, h1, h2, h3, h5⟩ hN
        have hi := idx_lt (x := x) (show 0 < many12 (l.length - 4) by omega)
        obtain ⟨i, hix⟩ : ∃ i, idx (many12 (l.length - 4)) x = i := ⟨_, rfl⟩
        rw [hix] at hi ⊢
        have hil : 12 * i < l.length - 4 := by unfold many12 at hi; omega
        have hcp : W.cell? ⟨b, off + 4 + 12 * i, none⟩ = some (.int .u8 (l[4 + 12 * i]?.getD 0)) := by
          rw [h3.cell (p := ⟨b, off + 4 + 12 * i, none⟩) hb]
          obtain ⟨ad, e, hc⟩ := HR.out (4 + 12 * i) (.int .u8 (l[4 + 12 * i]?.getD 0)) (by simp [by8, List.getElem?_eq_getElem (show 4 + 12 * i < l.length by omega)])
          injection e with e
          subst e
          rw [add_lit] at hc
          rw [← hc, Nat.add_assoc]
        have hx := HB.out (l[4 + 12 * i]?.getD 0) (by rw [List.getElem?_eq_getElem (show 4 + 12 * i < l.length by omega)]; exact List.getElem_mem _)
        obtain ⟨y, hy⟩ : ∃ y, l[4 + 12 * i]?.getD 0 = y := ⟨_, rfl⟩
        rw [hy] at hcp hx
        obtain ⟨m, hm⟩ : ∃ m, min 12 (l.length - 4 - 12 * i) = m := ⟨_, rfl⟩
        have hm0 : 0 < m := by omega
        have hwy : IntKind.i64.wrap y = y := IntWalk.i64_in _ (by omega)
        have c1 := h1.cell 0
        have f1 := h1.frozen 0
        simp at c1
        have hbw : b < W.heap.size := by have := h3.size; omega
        have hzw := h3.size
        have hw0 : w.heap.size < W.heap.size := h1.lt
        unfold piece12
        rw [hm]
        have H1 := Lib.hid h1
        have H2 := Lib.hid h2
        have H3 := Lib.hid h3
        have HY := Lib.hid hy
        have HIX := Lib.hid hix
        have hpl : pre.length < 140737488355328 / 12 + 1 := by unfold many12 at hN; omega
        clear h1 h2 h3 hy hix hm hM
        simp only [List.setIfInBounds_toArray, List.set_cons_zero, List.set_cons_succ]
        gi_wp2
        refine in_any_start (by kernel_rfl) (by decide) (by rintro ⟨a, w, h⟩; exact h) ?_
        refine wpAny_take (i := 1) (v := ?_) rfl (by kernel_rfl) (by kernel_rfl) (by kernel_rfl) (fun _ _ _ h => h) (Or.inl ⟨by rfl, ?_⟩) ?_
        rotate_left
        · (intro W; go_simp; try with_reducible rfl)
        try simp only [Act.put, List.setIfInBounds_toArray, List.set_cons_zero, List.set_cons_succ]
        refine wpAny_take (i := 2) (v := ?_) rfl (by kernel_rfl) (by kernel_rfl) (by kernel_rfl) (fun _ _ _ h => h) (Or.inl ⟨by rfl, ?_⟩) ?_
        rotate_left
        · (intro W; go_simp; try with_reducible rfl)
        try simp only [Act.put, List.setIfInBounds_toArray, List.set_cons_zero, List.set_cons_succ]
        refine wpAny_ready (rs := [0, 3]) (by kernel_rfl) (by simp) ?_
        refine AllReady.cons rfl (fun K hK => ?_) ?_
        · go_simp
          refine hK _ _ ?_
          clear hK K
          try simp only [Act.put, List.setIfInBounds_toArray, List.set_cons_zero, List.set_cons_succ]
          refine wpAny_ready (rs := [3]) (by kernel_rfl) (by simp) ?_
          refine AllReady.cons rfl (fun K hK => ?_) ?_
          · go_simp
            refine hK _ _ ?_
            clear hK K
            try simp only [Act.put, List.setIfInBounds_toArray, List.set_cons_zero, List.set_cons_succ]
            refine wpAny_take (i := 4) (v := ?_) rfl (by kernel_rfl) (by kernel_rfl) (by kernel_rfl) (fun _ _ _ h => h) (Or.inl ⟨by rfl, ?_⟩) ?_
            rotate_left
            · (intro W; go_simp; try with_reducible rfl)
            try simp only [Act.put, List.setIfInBounds_toArray, List.set_cons_zero, List.set_cons_succ]
            refine wpAny_ready (rs := [5]) (by kernel_rfl) (by simp) ?_
            refine AllReady.cons rfl (fun K hK => ?_) ?_
            · go_simp
              refine hK _ _ ?_
              clear hK K
              try simp only [Act.put, List.setIfInBounds_toArray, List.set_cons_zero, List.set_cons_succ]
              refine wpAny_ready (rs := [6]) (by kernel_rfl) (by simp) ?_
              refine AllReady.cons rfl (fun K hK => ?_) ?_
              · (refine stepR_append EI rfl rfl (H2.out.alloc _) rfl (Rd.new1 W _ (.int .i64 y)) rfl (by simp) (by simp [Value.oneCell']) (pre.length + 1) _ rfl rfl (by simp only [maxLen]; omega) (by omega) (by simp; omega) ?_; intro A3 c3 W3 hc3 ho3 ht3 _; have hb3 := ht3.blk (Blk.drew (H1.out.alloc _)) (own_blk H2.out H1.out (by decide)); have c03 := hb3.cell 0; have f03 := hb3.frozen 0; simp at c03; have HO3 := Lib.hid ho3; have HT3 := Lib.hid ht3; clear ho3 ht3 hb3)
                refine hK _ _ ?_
                clear hK K
                try simp only [Act.put, List.setIfInBounds_toArray, List.set_cons_zero, List.set_cons_succ]
                refine wpAny_ready (rs := [7]) (by kernel_rfl) (by simp) ?_
                refine AllReady.cons rfl (fun K hK => ?_) ?_
                · go_simp
                  refine hK _ _ ?_
                  clear hK K
                  try simp only [Act.put, List.setIfInBounds_toArray, List.set_cons_zero, List.set_cons_succ]
                  refine wpAny_done (by kernel_rfl) ?_ _
                  (obtain ⟨e1, e2, e3, e4, e5, e6⟩ := st_end H1.out H2.out H3.out hz2 h5 HO3.out HT3.out; exact ⟨e1, e2, A3, c3, by simpa using e3, by simpa [HIX.out, HY.out] using e4, e5, e6⟩)
                exact AllReady.nil
              exact AllReady.nil
            exact AllReady.nil
          exact AllReady.nil
        refine AllReady.cons rfl (fun K hK => ?_) ?_
        · go_simp
          refine hK _ _ ?_
          clear hK K
          try simp only [Act.put, List.setIfInBounds_toArray, List.set_cons_zero, List.set_cons_succ]
          refine wpAny_take (i := 4) (v := ?_) rfl (by kernel_rfl) (by kernel_rfl) (by kernel_rfl) (fun _ _ _ h => h) (Or.inl ⟨by rfl, ?_⟩) ?_
          rotate_left
          · (intro W; go_simp; try with_reducible rfl)
          try simp only [Act.put, List.setIfInBounds_toArray, List.set_cons_zero, List.set_cons_succ]
          refine wpAny_ready (rs := [0, 5]) (by kernel_rfl) (by simp) ?_
          refine AllReady.cons rfl (fun K hK => ?_) ?_
          · go_simp
            refine hK _ _ ?_
            clear hK K
            try simp only [Act.put, List.setIfInBounds_toArray, List.set_cons_zero, List.set_cons_succ]
            refine wpAny_ready (rs := [5]) (by kernel_rfl) (by simp) ?_
            refine AllReady.cons rfl (fun K hK => ?_) ?_
            · go_simp
              refine hK _ _ ?_
              clear hK K
              try simp only [Act.put, List.setIfInBounds_toArray, List.set_cons_zero, List.set_cons_succ]
              refine wpAny_ready (rs := [6]) (by kernel_rfl) (by simp) ?_
              refine AllReady.cons rfl (fun K hK => ?_) ?_
              · (refine stepR_append EI rfl rfl (H2.out.alloc _) rfl (Rd.new1 W _ (.int .i64 y)) rfl (by simp) (by simp [Value.oneCell']) (pre.length + 1) _ rfl rfl (by simp only [maxLen]; omega) (by omega) (by simp; omega) ?_; intro A3 c3 W3 hc3 ho3 ht3 _; have hb3 := ht3.blk (Blk.drew (H1.out.alloc _)) (own_blk H2.out H1.out (by decide)); have c03 := hb3.cell 0; have f03 := hb3.frozen 0; simp at c03; have HO3 := Lib.hid ho3; have HT3 := Lib.hid ht3; clear ho3 ht3 hb3)
                refine hK _ _ ?_
                clear hK K
                try simp only [Act.put, List.setIfInBounds_toArray, List.set_cons_zero, List.set_cons_succ]
                refine wpAny_ready (rs := [7]) (by kernel_rfl) (by simp) ?_
                refine AllReady.cons rfl (fun K hK => ?_) ?_
                · go_simp
                  refine hK _ _ ?_
                  clear hK K
                  try simp only [Act.put, List.setIfInBounds_toArray, List.set_cons_zero, List.set_cons_succ]
                  refine wpAny_done (by kernel_rfl) ?_ _
                  (obtain ⟨e1, e2, e3, e4, e5, e6⟩ := st_end H1.out H2.out H3.out hz2 h5 HO3.out HT3.out; exact ⟨e1, e2, A3, c3, by simpa using e3, by simpa [HIX.out, HY.out] using e4, e5, e6⟩)
                exact AllReady.nil
              exact AllReady.nil
            exact AllReady.nil
          refine AllReady.cons rfl (fun K hK => ?_) ?_
          · go_simp
            refine hK _ _ ?_
            clear hK K
            try simp only [Act.put, List.setIfInBounds_toArray, List.set_cons_zero, List.set_cons_succ]
            refine wpAny_ready (rs := [0]) (by kernel_rfl) (by simp) ?_
            refine AllReady.cons rfl (fun K hK => ?_) ?_
            · go_simp
              refine hK _ _ ?_
              clear hK K
              try simp only [Act.put, List.setIfInBounds_toArray, List.set_cons_zero, List.set_cons_succ]
              refine wpAny_ready (rs := [6]) (by kernel_rfl) (by simp) ?_
              refine AllReady.cons rfl (fun K hK => ?_) ?_
              · (refine stepR_append EI rfl rfl (H2.out.alloc _) rfl (Rd.new1 W _ (.int .i64 y)) rfl (by simp) (by simp [Value.oneCell']) (pre.length + 1) _ rfl rfl (by simp only [maxLen]; omega) (by omega) (by simp; omega) ?_; intro A3 c3 W3 hc3 ho3 ht3 _; have hb3 := ht3.blk (Blk.drew (H1.out.alloc _)) (own_blk H2.out H1.out (by decide)); have c03 := hb3.cell 0; have f03 := hb3.frozen 0; simp at c03; have HO3 := Lib.hid ho3; have HT3 := Lib.hid ht3; clear ho3 ht3 hb3)
                refine hK _ _ ?_
                clear hK K
                try simp only [Act.put, List.setIfInBounds_toArray, List.set_cons_zero, List.set_cons_succ]
                refine wpAny_ready (rs := [7]) (by kernel_rfl) (by simp) ?_
                refine AllReady.cons rfl (fun K hK => ?_) ?_
                · go_simp
                  refine hK _ _ ?_
                  clear hK K
                  try simp only [Act.put, List.setIfInBounds_toArray, List.set_cons_zero, List.set_cons_succ]
                  refine wpAny_done (by kernel_rfl) ?_ _
                  (obtain ⟨e1, e2, e3, e4, e5, e6⟩ := st_end H1.out H2.out H3.out hz2 h5 HO3.out HT3.out; exact ⟨e1, e2, A3, c3, by simpa using e3, by simpa [HIX.out, HY.out] using e4, e5, e6⟩)
                exact AllReady.nil
              exact AllReady.nil
            exact AllReady.nil
          exact AllReady.nil
        exact AllReady.nil
      case done =>
        rintro D xs W7 hD rfl ⟨A2, c2, h1, h2, h3, h5⟩ hK
        rw [List.length_range] at h1 h2
        rw [show (List.range (many12 (l.length - 4))).map (fun x => l[4 + 12 * idx (many12 (l.length - 4)) x]?.getD 0) = heads l (many12 (l.length - 4)) from List.map_congr_left (fun x hx => by rw [idx_of (List.mem_range.1 hx)])] at h2
        have hst := st_all l (by omega)
        have hes : stE l = if stOk l = true then 0 else 11 := (if_neg h4).trans (if_neg (by rw [HM'.out]; omega))
        have hlh := heads_length l (many12 (l.length - 4))
        obtain ⟨hs, hhs⟩ : ∃ hs, heads l (many12 (l.length - 4)) = hs := ⟨_, rfl⟩
        obtain ⟨n, hn'⟩ : ∃ n, many12 (l.length - 4) = n := ⟨_, rfl⟩
        have hnb : n ≤ 140737488351232 := by rw [← hn']; unfold many12; omega
        rw [hn'] at hhs h1 h2 hlh hst
        rw [hhs] at hst h2 hlh
        have c1 := h1.cell 0
        simp at c1
        have H1 := Lib.hid h1
        have H2 := Lib.hid h2
        have H3 := Lib.hid h3
        have HK := Lib.hid hK
        have HST := Lib.hid hst
        have HES := Lib.hid hes
        have HHS := Lib.hid hhs
        have HLH := Lib.hid hlh
        have HN' := Lib.hid hn'
        have hDD : D < W7.heap.size := (Array.getElem?_eq_some_iff.1 hK).1
        clear h1 h2 h3 hK hst hes hhs hlh hn' hM
        by_cases hE0 : portsE hs = 0
        · by_cases hq : l = portsL hs
          · have HF : Hid (stE l = 0 ∧ stL l = hs) := Lib.hid (by
              have h0 : stE l = 0 := by rw [HES.out, if_pos (HST.out.1 ⟨hE0, hq⟩)]
              refine ⟨h0, ?_⟩
              have hok := HST.out.1 ⟨hE0, hq⟩
              unfold stOk at hok
              simp only [Bool.and_eq_true, decide_eq_true_eq] at hok
              have hf : stF l = n := by rw [← HN'.out]; unfold many12; omega
              unfold stL
              rw [if_pos h0, hf, HHS.out])
            have hp := ports_n A2 c2 n hs
            rw [hE0] at hp
            have HP := Lib.hid hp
            have HQ := Lib.hid (show eqB l (portsL hs) = true from decide_eq_true hq)
            have hlq : (portsL hs).length ≤ 140737488355328 := by rw [← hq]; exact hl
            have hbox : w.heap.size < W7.heap.size := H1.out.lt
            clear hp hE0 hq
            go_wp2_with (first
              | (go_at_call 26; (with_reducible refine (HP.out W7 (Rd.of_own H2.out) HLH.out hnb).mono ?_); rintro e w8 ⟨A8, c8, rfl, hc8, ho, hb⟩; have B8 := Lib.hid (bl_chain H3.out hb); have Q8 := Lib.hid hb; have K8 := Lib.hid ((hb.block D hDD).trans HK.out); have O8 := Lib.hid ho; clear ho hb)
              | (go_at_call 35; (with_reducible refine (equal_any (some ⟨b, off, none⟩) A8 c c8 l (portsL hs) w8 (HR.out.below B8.out) (Rd.of_own O8.out) hl hlq).mono ?_); rintro e w9 ⟨rfl, hb⟩; rw [HQ.out]; have B9 := Lib.hid (bl_chain B8.out hb); have Q9 := Lib.hid (bl_chain Q8.out hb); have K9 := Lib.hid ((hb.block D (by have := Q8.out.size; omega)).trans K8.out); have c9 := (H1.out.keep (bl_chain Q8.out hb)).cell 0; simp at c9; clear hb))
            refine ⟨by simp, .inl ⟨D, _, rfl, run_takeDeferred K9.out, ?_⟩⟩
            refine ⟨_, results_tmp2' rfl _ _ _, ?_⟩
            rw [HF.out.1, HF.out.2]
            exact ⟨A2, c2, by rw [HLH.out]; rfl, Rd.of_own (ownsRow_putObj (own_below (B := 0) H2.out Q9.out) _ K9.out rfl), B9.out.trans (belowK_b (w := w) (Nat.le_refl _) _ D _ _ (by omega) K9.out rfl rfl)⟩
          · have HF : Hid (stE l = 11 ∧ stL l = []) := Lib.hid (by
              have h11 : stE l = 11 := by rw [HES.out, if_neg (fun h => hq (HST.out.2 h).2)]
              exact ⟨h11, by unfold stL; rw [h11]; rfl⟩)
            have hp := ports_n A2 c2 n hs
            rw [hE0] at hp
            have HP := Lib.hid hp
            have HQ := Lib.hid (show eqB l (portsL hs) = false from decide_eq_false hq)
            have hlq : (portsL hs).length ≤ 140737488355328 := by
              unfold portsL
              split
              · rename_i hpo
                unfold portsOk at hpo
                simp only [Bool.and_eq_true, decide_eq_true_eq] at hpo
                rw [portsM_length]
                omega
              · simp
            clear hp hE0 hq
            go_wp2_with (first
              | (go_at_call 26; (with_reducible refine (HP.out W7 (Rd.of_own H2.out) HLH.out hnb).mono ?_); rintro e w8 ⟨A8, c8, rfl, hc8, ho, hb⟩; have B8 := Lib.hid (bl_chain H3.out hb); have Q8 := Lib.hid hb; have K8 := Lib.hid ((hb.block D hDD).trans HK.out); have O8 := Lib.hid ho; clear ho hb)
              | (go_at_call 35; (with_reducible refine (equal_any (some ⟨b, off, none⟩) A8 c c8 l (portsL hs) w8 (HR.out.below B8.out) (Rd.of_own O8.out) hl hlq).mono ?_); rintro e w9 ⟨rfl, hb⟩; rw [HQ.out]; have B9 := Lib.hid (bl_chain B8.out hb); have K9 := Lib.hid ((hb.block D (by have := Q8.out.size; omega)).trans K8.out); clear hb))
            refine ⟨by simp, .inl ⟨D, _, rfl, run_takeDeferred K9.out, ?_⟩⟩
            refine ⟨_, results_tmp2' rfl _ _ _, ?_⟩
            rw [HF.out.1, HF.out.2]
            exact ⟨none, 0, rfl, Rd.nil, B9.out.trans (belowK_b (w := w) (Nat.le_refl _) _ D _ _ (by omega) K9.out rfl rfl)⟩
        · have HF : Hid (stE l = 11 ∧ stL l = []) := Lib.hid (by
            have h11 : stE l = 11 := by rw [HES.out, if_neg (fun h => hE0 (HST.out.2 h).1)]
            exact ⟨h11, by unfold stL; rw [h11]; rfl⟩)
          obtain ⟨e0, he0⟩ : ∃ e0, portsE hs = e0 := ⟨_, rfl⟩
          have hp := ports_n A2 c2 n hs
          rw [he0] at hp hE0
          have HP := Lib.hid hp
          have hb0 : (e0 != 0) = true := by simpa using hE0
          clear hp he0 hE0
          go_wp2_with (first
            | (go_at_call 26; (with_reducible refine (HP.out W7 (Rd.of_own H2.out) HLH.out hnb).mono ?_); rintro e w8 ⟨A8, c8, rfl, hc8, ho, hb⟩; have B8 := Lib.hid (bl_chain H3.out hb); have K8 := Lib.hid ((hb.block D hDD).trans HK.out); clear ho hb))
          refine ⟨by simp, .inl ⟨D, _, rfl, run_takeDeferred K8.out, ?_⟩⟩
          refine ⟨_, results_tmp2' rfl _ _ _, ?_⟩
          rw [HF.out.1, HF.out.2]
          exact ⟨none, 0, rfl, Rd.nil, B8.out.trans (belowK_b (w := w) (Nat.le_refl _) _ D _ _ (by omega) K8.out rfl rfl)⟩
end Go.Proofs.Ytifhlkfdmnkhoaa
