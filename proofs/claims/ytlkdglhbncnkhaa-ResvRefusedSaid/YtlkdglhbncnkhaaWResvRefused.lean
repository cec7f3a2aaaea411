/- The walk of ResvRefused. -/
import Derived.Test.YtlkdglhbncnkhaaResvRow
import Derived.Test.YtlkdglhbncnkhaaResvPlain3
import Derived.Test.YtlkdglhbncnkhaaBytesR
import Derived.Test.YtlkdglhbncnkhaaExt
import Derived.IntWalk
namespace Go.Proofs.Ytlkdglhbncnkhaa
set_option linter.unusedVariables false
open Go.RowKit

structure RIn (w W : World) (g : Nat) (s : RS) : Prop where
  st : IsRS W g s
  b : Below w.heap.size w W
  g : w.heap.size ≤ g
theorem RIn.below {w W W' : World} {g : Nat} {s : RS} (h : RIn w W g s) (hb : Below W.heap.size W W') : RIn w W' g s := ⟨h.st.below hb, bl_chain h.b hb, h.g⟩
theorem RIn.do_ {w W W' : World} {g : Nat} {s s' : RS} (h : RIn w W g s) (hs : IsRS W' g s') (ht : Tr (fun b => b = g) W W') : RIn w W' g s' :=
  ⟨hs, bl_tr h.b ht (fun b e => by have := h.g; omega), h.g⟩

theorem RIn.set5 {w W : World} {g r : Nat} {s : RS} {cs : Array Value} {v0 v1 v2 v3 v4 : Value} (h : RIn w W g s) (hB : Blk W r 28 cs) (hr : w.heap.size ≤ r) : RIn w (((((W.setCell ⟨r, 0, none⟩ v0).setCell ⟨r, 1, none⟩ v1).setCell ⟨r, 2, none⟩ v2).setCell ⟨r, 3, none⟩ v3).setCell ⟨r, 4, none⟩ v4) g s :=
  ⟨h.st.tr (Tr.five W r v0 v1 v2 v3 v4) (Blk.ne_ h.st.blk hB (by decide)), bl_tr h.b (Tr.five W r v0 v1 v2 v3 v4) (fun b hb => by omega), h.g⟩
theorem own_set5 {W : World} {r base size n m c : Nat} {e : TypeId} {A : Option Addr} {xs : List Value} {cs : Array Value} {v0 v1 v2 v3 v4 : Value} (h : W.ownsRow base e size (.slice A n c) m xs) (hB : Blk W r 28 cs) (he : e ≠ 28) :
    (((((W.setCell ⟨r, 0, none⟩ v0).setCell ⟨r, 1, none⟩ v1).setCell ⟨r, 2, none⟩ v2).setCell ⟨r, 3, none⟩ v3).setCell ⟨r, 4, none⟩ v4).ownsRow base e size (.slice A n c) m xs :=
  own_tr h (Tr.five W r v0 v1 v2 v3 v4) (fun b hx hq => own_blk h hB he (hq ▸ hx))
/-- Whom the notes go to. -/
def NtRd (W : World) (A : Option Addr) (ns : List (Nat × Int)) : Prop := ∀ j (h : j < ns.length), ∃ b, A = some ⟨b, 0, none⟩ ∧ b < W.heap.size ∧ W.cell? ⟨b, j * 2, none⟩ = some (.int .i64 ns[j].1)
theorem NtRd.below {W W' : World} {A : Option Addr} {ns : List (Nat × Int)} (h : NtRd W A ns) (hb : Below W.heap.size W W') : NtRd W' A ns := fun j hj => by
  obtain ⟨b, h1, h2, h3⟩ := h j hj
  exact ⟨b, h1, Nat.lt_of_lt_of_le h2 hb.size, (hb.cell (p := ⟨b, j * 2, none⟩) h2).trans h3⟩
theorem noteCells_get (ns : List (Nat × Int)) : ∀ j (h : j < ns.length), (noteCells ns)[j * 2]? = some (.int .i64 ns[j].1) := by
  induction ns with
  | nil => intro j h; simp at h
  | cons x ns ih =>
    intro j h
    rcases j with _ | j
    · rfl
    · rw [show (j + 1) * 2 = j * 2 + 2 from by omega]
      show (noteCells ns)[j * 2]? = _
      rw [ih j (by simpa using h)]
      rfl
theorem nt_own {W : World} {base c k : Nat} {e : TypeId} {A : Option Addr} {ns : List (Nat × Int)} (h : W.ownsRow base e 2 (.slice A k c) ns.length (noteCells ns)) : NtRd W A ns := fun j hj => by
  obtain ⟨g, cap, hv, _, hlt⟩ := h.form (by omega)
  injection hv with hA
  subst hA
  refine ⟨g, rfl, hlt, ?_⟩
  have := h.cells (g := g) rfl (j * 2) _ (noteCells_get ns j hj)
  rw [add_lit, Nat.zero_add] at this
  exact this
theorem ns_small {ns : List (Nat × Int)} {y : Int} (h : ns.Pairwise (fun a b => a.1 < b.1) ∧ ∀ x ∈ ns, x.1 < 16 ∧ (x.1 : Int) ≠ y) (j : Nat) (hj : j < ns.length) : j < 16 := by
  have hp : ∀ j (hj : j < ns.length), j ≤ ns[j].1 := by
    intro j
    induction j with
    | zero => intro _; omega
    | succ i ih =>
      intro hj
      have h1 := ih (by omega)
      have h2 := List.pairwise_iff_getElem.1 h.1 i (i + 1) (by omega) hj (by omega)
      omega
  have h1 := hp j hj
  have h2 := (h.2 _ (List.getElem_mem hj)).1
  omega
theorem rep_st {W : World} {r : Nat} {o : Rep} (h : Blk W r 28 o.cells) : ∀ W', Ext W W' → W'.cell? ⟨r, 0, none⟩ = some (.int .i64 o.st) := fun W' hW => by
  rw [(h.keep hW).cell]; rfl
theorem ext_conv {w : World} {A : Option Addr} {n c : Nat} {l : List Int} (h : Rd w A (by8 l)) (hl : l.length = n) :
    ∀ W, Ext w W → (convert 26 9 (.slice A n c)).run Try.prog W = .ok (.string (strOfNums l)) W := fun W hW => conv8 n c (h.below hW) hl
theorem ext_on {w w' : World} {P : World → Prop} (h : ∀ W, Ext w W → P W) (hb : Below w.heap.size w w') : ∀ W, Ext w' W → P W := fun W hW => h W (bl_chain hb hW)
theorem nb_below {W w4 : World} {t : TypeId} {cs : Array Value} (hb : Below (W.alloc (.cells cs t)).heap.size (W.alloc (.cells cs t)) w4) : Blk w4 W.heap.size t cs := (Blk.new _ _ _).keep hb
theorem nb_below2 {W w4 : World} {t : TypeId} {cs : Array Value} (hb : Below ((W.alloc (.cells cs t)).drew).heap.size ((W.alloc (.cells cs t)).drew) w4) : Blk w4 W.heap.size t cs := (Blk.drew (Blk.new W t cs)).keep hb
theorem nb_tr {F : Nat → Prop} {W w5 : World} {t : TypeId} {cs : Array Value} (ht : Tr F (W.alloc (.cells cs t)) w5) (hn : ¬ F W.heap.size) : Blk w5 W.heap.size t cs := ht.blk (Blk.new _ _ _) hn
theorem ext_set5 {w W : World} {r : Nat} {v0 v1 v2 v3 v4 : Value} (h : Ext w W) (hr : w.heap.size ≤ r) : Ext w (((((W.setCell ⟨r, 0, none⟩ v0).setCell ⟨r, 1, none⟩ v1).setCell ⟨r, 2, none⟩ v2).setCell ⟨r, 3, none⟩ v3).setCell ⟨r, 4, none⟩ v4) :=
  bl_tr h (Tr.five W r v0 v1 v2 v3 v4) (fun b hb => by omega)
theorem nlt {a b : Nat} (h : a < b) : ¬ (fun x => x = a) b := fun e => absurd e (Nat.ne_of_gt h)
theorem ext_alloc {w W : World} {o : Obj} (h : Ext w W) : Ext w (W.alloc o) := bl_chain h (bl_alloc _ _)

set_option maxHeartbeats 16000000 in
set_option maxRecDepth 20000 in
theorem resvRefused_walk (A : Option Addr) (c : Nat) (l : List ActS) (w : World) (hl : l.length ≤ 140737488351232)
    (hx : ∀ i (h : i < l.length), l[i].Ok ∧ ∃ b o, A = some ⟨b, o, none⟩ ∧ ∀ j u, l[i].cells[j]? = some u → w.cell? ⟨b, o + (i * 5 + j), none⟩ = some u) :
    Calls Try.prog 5 #[.slice A l.length c] w fun e w' => e = .returned (.bool true) ∧ Below w.heap.size w w' := by
  have HX := Lib.hid hx
  clear hx
  go_enter Try.func5, Try.ntmps5
  go_wp2_with (first
    | (go_at_call 7; (with_reducible refine (new_any _).mono ?_); rintro e w1 ⟨rfl, hs, hb⟩; have F1 := Lib.hid (show RIn w w1 w.heap.size newRS from ⟨hs, hb, Nat.le_refl _⟩); clear hs hb))
  go_loopw [4] (fun v w2 => ∃ (k : Nat) (s : RS), k ≤ l.length ∧ k ≤ 80 ∧ v = .int .i64 k ∧ RIn w w2 w.heap.size s) (fun v _ => 80 - (intOf v).toNat)
  case atStart => exact ⟨0, newRS, by omega, by omega, rfl, F1.out⟩
  case round =>
    obtain ⟨k, s, hkl, hk, rfl, hf⟩ := hrel
    have HF := Lib.hid hf
    clear hf F1
    by_cases hlt : k < l.length ∧ k < 80
    · obtain ⟨h1, h2⟩ := hlt
      obtain ⟨hok, ab, ao, rfl, hce⟩ := HX.out k h1
      have HOK := Lib.hid hok
      have hbl : ab < w.heap.size := cell_block_lt (hce 0 _ rfl)
      have x0 : ∀ W, Ext w W → W.cell? ⟨ab, ao + k * 5, none⟩ = some (.int .i64 (l[k]).n) := fun W hW => (hW.cell hbl).trans (hce 0 _ rfl)
      have x1 : ∀ W, Ext w W → W.cell? ⟨ab, ao + k * 5 + 1, none⟩ = some (.int .i64 (l[k]).c.act) := fun W hW => (hW.cell hbl).trans (hce 1 _ rfl)
      have x2 : ∀ W, Ext w W → W.cell? ⟨ab, ao + k * 5 + 1 + 1, none⟩ = some (.int .u64 (l[k]).c.key) := fun W hW => (hW.cell hbl).trans (hce 2 _ rfl)
      have x3 : ∀ W, Ext w W → W.cell? ⟨ab, ao + k * 5 + 1 + 2, none⟩ = some (.int .u64 (l[k]).c.new) := fun W hW => (hW.cell hbl).trans (hce 3 _ rfl)
      have x4 : ∀ W, Ext w W → W.cell? ⟨ab, ao + k * 5 + 1 + 3, none⟩ = some (.int .i64 (l[k]).c.kind) := fun W hW => (hW.cell hbl).trans (hce 4 _ rfl)
      clear hok hce
      generalize l[k] = y at HOK x0 x1 x2 x3 x4
      go_wp2_with (first
        | (go_at_call 15; (with_reducible refine (bytes_any HF.out.st).mono ?_); rintro e w3 ⟨A0, c0, rfl, hc0, ho, hb⟩; have HFD := Lib.hid ((HF.out.below hb).below (bl_drew w3)); have O3 := Lib.hid (own_below (B := 0) ho (bl_drew w3)); have HF3 := Lib.hid (HF.out.below hb); have OW3 := Lib.hid ho; have hgs : w.heap.size < wr.heap.size := HF.out.st.lt; clear ho hb))
      have hz3 : w.heap.size < w3.heap.size := by have := HFD.out.st.lt; simpa using this
      go_upto_region 8 with fail
      go_cut [6, 7] from 12 to 90 (fun v6 v7 wx => ∃ (r : Nat) (A5 : Option Addr) (k5 : Nat), v6 = .pointer (some ⟨r, 0, none⟩) ∧ v7 = .slice A5 (doO s y.n y.c).ns.length k5 ∧ RIn w wx w.heap.size (doO s y.n y.c).s ∧ Rd wx A0 (by8 (bytesL s)) ∧ NtRd wx A5 (doO s y.n y.c).ns ∧ Blk wx r 28 (doO s y.n y.c).r.cells)
      case first =>
        have EB : Ext w w3.drew := HFD.out.b
        go_region_held3 (Ext w) (first | assumption | exact ext_alloc (by assumption) | exact ext_set5 (by assumption) (by omega) | exact ext_set5 (by assumption) (by simp; omega)) (first
          | (go_at_call 8; (first
              | ((with_reducible refine (do_any F4.out.st y.n HOK.out.n y.c HOK.out.c).mono ?_); rintro e w5 ⟨A5, k5, rfl, hs, ho, ht⟩; have F5 := Lib.hid (F4.out.do_ hs ht); have O5 := Lib.hid (own_tr O4.out ht (fun b hb e => by have := own_ge O4.out b hb; omega)); (try (have hB5 := ht.blk hB4 (nlt hz3); have q0 := hB5.cell 0; have q1 := hB5.cell 1; have q2 := hB5.cell 2; have q3 := hB5.cell 3; have q4 := hB5.cell 4; have r0 := hB5.frozen 0; have r1 := hB5.frozen 1; have r2 := hB5.frozen 2; have r3 := hB5.frozen 3; have r4 := hB5.frozen 4; (try simp only [List.size_toArray] at q0))))
              | ((with_reducible refine (do_any (F4.out.below (bl_alloc _ _)).st y.n HOK.out.n y.c HOK.out.c).mono ?_); rintro e w5 ⟨A5, k5, rfl, hs, ho, ht⟩; have F5 := Lib.hid ((F4.out.below (bl_alloc _ _)).do_ hs ht); have O5 := Lib.hid (own_tr (own_below (B := 0) O4.out (bl_alloc _ _)) ht (fun b hb e => by have := own_ge O4.out b hb; omega)); have hB5 := nb_tr ht (nlt hz4); have q0 := hB5.cell 0; have q1 := hB5.cell 1; have q2 := hB5.cell 2; have q3 := hB5.cell 3; have q4 := hB5.cell 4; have r0 := hB5.frozen 0; have r1 := hB5.frozen 1; have r2 := hB5.frozen 2; have r3 := hB5.frozen 3; have r4 := hB5.frozen 4; (try simp only [List.size_toArray] at q0)));
              have N5 := Lib.hid ho; have E5 : Ext w w5 := F5.out.b; (simp only [Rep.cells]); clear hs ho ht)
          | (go_at_call 9; (with_reducible refine (given_any _ _ _ _ _).mono ?_); rintro e w4 ⟨rfl, hb⟩; (first | ((with_reducible have hB4 := nb_below2 hb); have F4 := Lib.hid (HF3.out.below (bl_chain (bl_chain (bl_alloc w3 _) (bl_drew _)) hb)); have O4 := Lib.hid (own_below (B := 0) OW3.out (bl_chain (bl_chain (bl_alloc w3 _) (bl_drew _)) hb))) | (have F4 := Lib.hid (HFD.out.below hb); have O4 := Lib.hid (own_below (B := 0) O3.out hb))); have E4 : Ext w w4 := F4.out.b; have hz4 := F4.out.st.lt; have hz5 := hb.size; clear hb))
        all_goals (go_wp2_with fail; go_meet)
        · exact ⟨_, A5, k5, rfl, rfl, F5.out.below (bl_alloc _ _), (Rd.of_own O5.out).below (bl_alloc _ _), (nt_own N5.out).below (bl_alloc _ _), Blk.new _ _ _⟩
        · exact ⟨_, A5, k5, rfl, rfl, F5.out.set5 hB5 (by omega), Rd.of_own (own_set5 O5.out hB5 (e := 5) (by decide)), nt_own (own_set5 N5.out hB5 (e := 48) (by decide)), ((((hB5.set_ 0 _).set_ 1 _).set_ 2 _).set_ 3 _).set_ 4 _⟩
        · exact ⟨_, A5, k5, rfl, rfl, F5.out.set5 hB5 (by omega), Rd.of_own (own_set5 O5.out hB5 (e := 5) (by decide)), nt_own (own_set5 N5.out hB5 (e := 48) (by decide)), ((((hB5.set_ 0 _).set_ 1 _).set_ 2 _).set_ 3 _).set_ 4 _⟩
      case rest =>
        obtain ⟨r, A5, k5, rfl, rfl, hF, hA, hN, hR⟩ := hcut
        have F6 := Lib.hid hF
        have RA := Lib.hid hA
        have NN := Lib.hid hN
        have cr := rep_st hR
        clear hF hA hN hR
        have NS := Lib.hid (do_ns s y.n y.c)
        go_upto_region 9 with fail
        go_cut [55] from 12 to 90 (fun v wx => v = .bool false ∧ RIn w wx w.heap.size (doO s y.n y.c).s ∧ NtRd wx A5 (doO s y.n y.c).ns)
        case first =>
          rename_i wx0 _ _
          by_cases hst : (doO s y.n y.c).r.st = 0
          · have b0 : ((doO s y.n y.c).r.st != 0) = false := by simp [hst]
            have cr0 := cr _ (Ext.refl _)
            clear hst cr
            go_quiet (fail)
            go_wp2_with fail
            go_meet
            exact ⟨rfl, F6.out.below (bl_drewN _ _), NN.out.below (bl_drewN _ _)⟩
          · have b0 : ((doO s y.n y.c).r.st != 0) = true := by simp [hst]
            obtain ⟨hs, hns⟩ := do_ref hst
            have HS := Lib.hid hs
            have HNS := Lib.hid hns
            clear hs hns hst
            have H9 := Lib.hid (show IsRS wc.drew w.heap.size s from HS.out ▸ (F6.out.below (bl_drew wc)).st)
            have kw := ext_conv (c := c0) (RA.out.below (bl_drew wc)) rfl
            have cr0 := ext_on cr (bl_drew wc)
            clear cr
            refine ext_start (by kernel_rfl) ?_
            refine ext_take (i := 0) (v := ?_) rfl (by kernel_rfl) (by kernel_rfl) (by kernel_rfl) (fun _ _ _ h => h) (Or.inl ⟨by rfl, ?_⟩) ?_
            rotate_left
            · (intro W hSw; go_simp; try with_reducible rfl)
            try simp only [Act.put, List.setIfInBounds_toArray, List.set_cons_zero, List.set_cons_succ]
            refine ext_take (i := 1) (v := ?_) rfl (by kernel_rfl) (by kernel_rfl) (by kernel_rfl) (fun _ _ _ h => h) (Or.inl ⟨by rfl, ?_⟩) ?_
            rotate_left
            · (intro W hSw; go_simp; try with_reducible rfl)
            try simp only [Act.put, List.setIfInBounds_toArray, List.set_cons_zero, List.set_cons_succ]
            refine ext_take (i := 2) (v := ?_) rfl (by kernel_rfl) (by kernel_rfl) (by kernel_rfl) (fun _ _ _ h => h) (Or.inl ⟨by rfl, ?_⟩) ?_
            rotate_left
            · (intro W hSw; go_simp; try with_reducible rfl)
            try simp only [Act.put, List.setIfInBounds_toArray, List.set_cons_zero, List.set_cons_succ]
            refine ext_take (i := 3) (v := ?_) rfl (by kernel_rfl) (by kernel_rfl) (by kernel_rfl) (fun _ _ _ h => h) (Or.inl ⟨by rfl, ?_⟩) ?_
            rotate_left
            · (intro W hSw; go_simp; try with_reducible rfl)
            try simp only [Act.put, List.setIfInBounds_toArray, List.set_cons_zero, List.set_cons_succ]
            refine ext_take (i := 4) (v := ?_) rfl (by kernel_rfl) (by kernel_rfl) (by kernel_rfl) (fun _ _ _ h => h) (Or.inl ⟨by rfl, ?_⟩) ?_
            rotate_left
            · (intro W hSw; go_simp; try with_reducible rfl)
            try simp only [Act.put, List.setIfInBounds_toArray, List.set_cons_zero, List.set_cons_succ]
            refine ext_take (i := 7) (v := ?_) rfl (by kernel_rfl) (by kernel_rfl) (by kernel_rfl) (fun _ _ _ h => h) (Or.inl ⟨by rfl, ?_⟩) ?_
            rotate_left
            · (intro W hSw; go_simp; try with_reducible rfl)
            try simp only [Act.put, List.setIfInBounds_toArray, List.set_cons_zero, List.set_cons_succ]
            refine ext_take (i := 8) (v := ?_) rfl (by kernel_rfl) (by kernel_rfl) (by kernel_rfl) (fun _ _ _ h => h) (Or.inl ⟨by rfl, ?_⟩) ?_
            rotate_left
            · (intro W hSw; go_simp; try with_reducible rfl)
            try simp only [Act.put, List.setIfInBounds_toArray, List.set_cons_zero, List.set_cons_succ]
            refine ext_call (i := 5) (by kernel_rfl) rfl (fun K hK => ?_)
            go_simp
            (first | (go_at_call 15; (with_reducible refine (bytes_any H9.out).mono ?_); rintro e w9 ⟨A9, c9, rfl, hc9, ho, hb⟩; have k9 := ext_conv (c := c9) (Rd.of_own (ownsRow_base ho (Nat.zero_le _))) rfl; have kw9 := ext_on kw hb; have X9 := Lib.hid hb; clear ho hb kw))
            refine hK.out _ _ (X9.out) ?_
            clear hK K
            try simp only [Act.put, List.setIfInBounds_toArray, List.set_cons_zero, List.set_cons_succ]
            refine ext_take (i := 6) (v := ?_) rfl (by kernel_rfl) (by kernel_rfl) (by kernel_rfl) (fun _ _ _ h => h) (Or.inl ⟨by rfl, ?_⟩) ?_
            rotate_left
            · (intro W hSw; go_simp; try with_reducible rfl)
            try simp only [Act.put, List.setIfInBounds_toArray, List.set_cons_zero, List.set_cons_succ]
            refine ext_take (i := 9) (v := ?_) rfl (by kernel_rfl) (by kernel_rfl) (by kernel_rfl) (fun _ _ _ h => h) (Or.inl ⟨by rfl, ?_⟩) ?_
            rotate_left
            · (intro W hSw; go_simp; try with_reducible rfl)
            try simp only [Act.put, List.setIfInBounds_toArray, List.set_cons_zero, List.set_cons_succ]
            refine ext_take (i := 10) (v := ?_) rfl (by kernel_rfl) (by kernel_rfl) (by kernel_rfl) (fun _ _ _ h => h) (Or.inl ⟨by rfl, ?_⟩) ?_
            rotate_left
            · (intro W hSw; go_simp; try with_reducible rfl)
            try simp only [Act.put, List.setIfInBounds_toArray, List.set_cons_zero, List.set_cons_succ]
            refine ext_take (i := 11) (v := ?_) rfl (by kernel_rfl) (by kernel_rfl) (by kernel_rfl) (fun _ _ _ h => h) (Or.inl ⟨by rfl, ?_⟩) ?_
            rotate_left
            · (intro W hSw; go_simp; try with_reducible rfl)
            try simp only [Act.put, List.setIfInBounds_toArray, List.set_cons_zero, List.set_cons_succ]
            refine ext_take (i := 12) (v := ?_) rfl (by kernel_rfl) (by kernel_rfl) (by kernel_rfl) (fun _ _ _ h => h) (Or.inl ⟨by rfl, ?_⟩) ?_
            rotate_left
            · (intro W hSw; go_simp; try with_reducible rfl)
            try simp only [Act.put, List.setIfInBounds_toArray, List.set_cons_zero, List.set_cons_succ]
            refine ext_take (i := 13) (v := ?_) rfl (by kernel_rfl) (by kernel_rfl) (by kernel_rfl) (fun _ _ _ h => h) (Or.inl ⟨by rfl, ?_⟩) ?_
            rotate_left
            · (intro W hSw; go_simp; try with_reducible rfl)
            try simp only [Act.put, List.setIfInBounds_toArray, List.set_cons_zero, List.set_cons_succ]
            refine ext_take (i := 14) (v := ?_) rfl (by kernel_rfl) (by kernel_rfl) (by kernel_rfl) (fun _ _ _ h => h) (Or.inl ⟨by rfl, ?_⟩) ?_
            rotate_left
            · (intro W hSw; go_simp; try with_reducible rfl)
            try simp only [Act.put, List.setIfInBounds_toArray, List.set_cons_zero, List.set_cons_succ]
            refine ext_take (i := 15) (v := ?_) rfl (by kernel_rfl) (by kernel_rfl) (by kernel_rfl) (fun _ _ _ h => h) (Or.inl ⟨by rfl, ?_⟩) ?_
            rotate_left
            · (intro W hSw; go_simp; try with_reducible rfl)
            try simp only [Act.put, List.setIfInBounds_toArray, List.set_cons_zero, List.set_cons_succ]
            refine wpAnyH_done (by kernel_rfl) ?_ _
            clear kw9 k9 cr0
            go_wp2_with fail
            go_meet
            exact ⟨by rw [HNS.out]; rfl, F6.out.below (bl_chain (bl_drew _) X9.out), NN.out.below (bl_chain (bl_drew _) X9.out)⟩
        case rest =>
          obtain ⟨rfl, hF, hN⟩ := hcut
          have F7 := Lib.hid hF
          have N7 := Lib.hid hN
          clear hF hN cr
          go_wp2_with fail
          go_loopw [8] (fun v w2 => ∃ j : Nat, j ≤ (doO s y.n y.c).ns.length ∧ v = .int .i64 j ∧ RIn w w2 w.heap.size (doO s y.n y.c).s ∧ NtRd w2 A5 (doO s y.n y.c).ns) (fun v _ => (doO s y.n y.c).ns.length - (intOf v).toNat)
          case atStart => exact ⟨0, by omega, rfl, F7.out, N7.out⟩
          case round =>
            obtain ⟨j, hj, rfl, hf, hn⟩ := hrel
            have F8 := Lib.hid hf
            have N8 := Lib.hid hn
            clear hf hn
            by_cases hjl : j < (doO s y.n y.c).ns.length
            · obtain ⟨b, rfl, hbb, c1⟩ := N8.out j hjl
              have x0' := x0 _ F8.out.b
              have e1 : (((((doO s y.n y.c).ns[j]).1 : Nat) : Int) == y.n) = false := by
                have := (NS.out.2 _ (List.getElem_mem hjl)).2
                simpa using this
              rcases j with _ | i
              · go_wp2_with fail
                go_quiet (fail)
                go_wp2_with fail
                exact ⟨⟨1, by omega, rfl, F8.out.below (bl_drewN _ _), N8.out.below (bl_drewN _ _)⟩, by simp [intOf]; omega⟩
              · obtain ⟨b', hb', _, c2⟩ := N8.out i (by omega)
                injection hb' with hb'
                injection hb' with hb'
                subst hb'
                have e2 : decide (((doO s y.n y.c).ns[i + 1]).1 ≤ ((doO s y.n y.c).ns[i]).1) = false := by
                  have := List.pairwise_iff_getElem.1 NS.out.1 i (i + 1) (by omega) hjl (by omega)
                  simp
                  omega
                have h16 := ns_small NS.out (i + 1) hjl
                have e3 : IntKind.i64.wrap ((i : Int) + 1 - 1) = (i : Int) := by rw [show (i : Int) + 1 - 1 = i from by omega]; exact IntWalk.i64_in _ (by omega)
                have e4 : (0 : Int) ≤ (i : Int) := by omega
                have e5 : (i : Int) < ((doO s y.n y.c).ns.length : Int) := by omega
                go_wp2_with fail
                go_quiet (fail)
                go_wp2_with fail
                exact ⟨⟨i + 2, by omega, by go_num, F8.out.below (bl_drewN _ _), N8.out.below (bl_drewN _ _)⟩, by simp [intOf]; omega⟩
            · go_wp2_with fail
              exact ⟨⟨k + 1, _, by omega, by omega, by go_num, F8.out⟩, by simp [intOf]; omega⟩
    · go_wp2_with (first
        | (go_at_call 13; (with_reducible refine (known_any _).mono ?_); rintro e w3 ⟨rfl, hb⟩; have HB3 := Lib.hid (bl_chain HF.out.b hb); clear hb))
      all_goals
        go_ret
        exact ⟨rfl, HB3.out⟩

end Go.Proofs.Ytlkdglhbncnkhaa
