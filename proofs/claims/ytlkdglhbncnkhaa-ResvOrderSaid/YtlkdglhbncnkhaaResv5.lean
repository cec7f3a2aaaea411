/- Contract of the program's package resv: Do. -/
import Derived.Test.YtlkdglhbncnkhaaResv4
import Derived.Laws.EntriesVeiled
namespace Go.Proofs.Ytlkdglhbncnkhaa
set_option linter.unusedVariables false
open Go.RowKit

/-! ### plain -/
def notesTo (l : List Int) : Nat → List (Nat × Int)
  | 0 => []
  | k + 1 => if l[k]?.getD 0 ≠ 0 then notesTo l k ++ [(k, l[k]?.getD 0)] else notesTo l k
def noteCells (ns : List (Nat × Int)) : List Value := ns.flatMap fun x => [.int .i64 x.1, .int .i64 x.2]
theorem noteCells_length (ns : List (Nat × Int)) : (noteCells ns).length = ns.length * 2 := by
  induction ns with
  | nil => rfl
  | cons x ns ih => show ([_, _] ++ noteCells ns).length = _; rw [List.length_append, ih]; simp; omega
theorem noteCells_snoc (ns : List (Nat × Int)) (x : Nat × Int) : noteCells ns ++ [.int .i64 x.1, .int .i64 x.2] = noteCells (ns ++ [x]) := by simp [noteCells]
theorem notesTo_length (l : List Int) : ∀ k, (notesTo l k).length ≤ k
  | 0 => by simp [notesTo]
  | k + 1 => by
    have := notesTo_length l k
    unfold notesTo
    split
    · rw [List.length_append]; simp; omega
    · omega
def zeros16 : List Int := List.replicate 16 0
structure DoOut where
  s : RS
  r : Rep
  ns : List (Nat × Int)
def ran (o : Out) : DoOut := ⟨o.s, o.r, notesTo o.l 16⟩
def regB (s : RS) (n : Nat) (c : RC) : Bool := s.key n != 0 && s.key n == c.key
def doO (s : RS) (nx : Int) (c : RC) : DoOut :=
  if ¬ (0 ≤ nx ∧ nx < 16) then ⟨s, wrongR, []⟩
  else if c.act = 0 ∨ c.act = 6 then ran (registerO s nx.toNat c zeros16)
  else if c.act = 1 ∨ c.act = 2 ∨ c.act = 3 ∨ c.act = 4 then
    if regB s nx.toNat c = false then ⟨s, conflictR, []⟩
    else if c.act = 1 then ran (reserveO s nx.toNat c zeros16)
    else if c.act = 2 then ran (releaseO s nx.toNat c zeros16)
    else if c.act = 3 then ran (clearO s nx.toNat c zeros16)
    else ran (preemptO s nx.toNat c zeros16)
  else ⟨s, wrongR, []⟩
/-- An action, for the table's row. -/
def rowO (s : RS) (n : Nat) (c : RC) : Nat → Out
  | 0 => registerO s n c zeros16
  | 1 => registerO s n c zeros16
  | 2 => reserveO s n c zeros16
  | 3 => releaseO s n c zeros16
  | 4 => clearO s n c zeros16
  | _ => preemptO s n c zeros16
def rowA : Nat → Int
  | 0 => 0
  | 1 => 6
  | 2 => 1
  | 3 => 2
  | 4 => 3
  | _ => 4
def rowOpen (k : Nat) : Bool := k == 0 || k == 1
theorem doO_row {s : RS} {n : Nat} {c : RC} (hn : n < 16) {k : Nat} (hk : k < 6) (ha : rowA k = c.act) (hr : rowOpen k = true ∨ regB s n c = true) : doO s n c = ran (rowO s n c k) := by
  unfold doO
  rw [if_neg (by omega), Int.toNat_natCast]
  have hk' : k = 0 ∨ k = 1 ∨ k = 2 ∨ k = 3 ∨ k = 4 ∨ k = 5 := by omega
  rcases hk' with rfl | rfl | rfl | rfl | rfl | rfl
  all_goals
    simp only [rowA] at ha
    rw [← ha]
    first
    | rfl
    | (have hg : regB s n c = true := by
        rcases hr with h | h
        · cases h
        · exact h
       simp [hg, rowO])
theorem doO_conf {s : RS} {n : Nat} {c : RC} (hn : n < 16) {k : Nat} (hk : k < 6) (ha : rowA k = c.act) (ho : rowOpen k = false) (hr : regB s n c = false) : doO s n c = ⟨s, conflictR, []⟩ := by
  unfold doO
  rw [if_neg (by omega), Int.toNat_natCast]
  have hk' : k = 0 ∨ k = 1 ∨ k = 2 ∨ k = 3 ∨ k = 4 ∨ k = 5 := by omega
  rcases hk' with rfl | rfl | rfl | rfl | rfl | rfl
  all_goals
    simp only [rowA] at ha
    rw [← ha]
    first
    | exact absurd ho (by decide)
    | simp [hr]
theorem doO_none {s : RS} {n : Nat} {c : RC} (hn : n < 16) (h : ∀ k, k < 6 → rowA k ≠ c.act) : doO s n c = ⟨s, wrongR, []⟩ := by
  unfold doO
  rw [if_neg (by omega)]
  have h0 := h 0 (by omega)
  have h1 := h 1 (by omega)
  have h2 := h 2 (by omega)
  have h3 := h 3 (by omega)
  have h4 := h 4 (by omega)
  have h5 := h 5 (by omega)
  simp only [rowA] at h0 h1 h2 h3 h4 h5
  rw [if_neg (by omega), if_neg (by omega)]
theorem doO_out {s : RS} {nx : Int} {c : RC} (h : ¬ (0 ≤ nx ∧ nx < 16)) : doO s nx c = ⟨s, wrongR, []⟩ := if_pos h

/-! ### the walk -/
def RetDo (w : World) (g : Nat) (o : DoOut) (e : Ending) (w' : World) : Prop :=
  ∃ A c, e = .returned (.tuple #[.agg o.r.cells, .slice A o.ns.length c]) ∧ IsRS w' g o.s ∧ w'.ownsRow w.heap.size 48 2 (.slice A o.ns.length c) o.ns.length (noteCells o.ns) ∧ Tr (fun b => b = g) w w'
theorem RetDo.eq {w w' : World} {g : Nat} {o o' : DoOut} {e : Ending} (h : o' = o) (hr : RetDo w g o e w') : RetDo w g o' e w' := h ▸ hr
def RetX (w : World) (g gl : Nat) (o : Out) (e : Ending) (w' : World) : Prop :=
  e = .returned (.agg #[.int .i64 o.r.st, .int .i64 o.r.key, .int .i64 o.r.asc, .int .i64 o.r.ascq, .slice none 0 0]) ∧ IsRS w' g o.s ∧ IsL w' gl o.l ∧ Tr (fun b => b = g ∨ b = gl) w w'
theorem infoNote : (Try.prog.info? 48).map (fun i => (i.zero, i.size, i.bytes)) = some (some (.agg #[.int .i64 0, .int .i64 0]), 2, 16) := by kernel_rfl
theorem ENote : AppTy Try.prog 29 48 2 16 := AppTy.mk' Try.underlying29 infoNote rfl (by omega)
theorem info16n : (Try.prog.info? 66).map (·.size) = some 16 := by kernel_rfl

section
variable {g gl : Nat} {s : RS} {l : List Int} {w : World}
theorem loadL (h : IsL w gl l) : ∀ (j : Nat) (v : Value), (l.map (Value.int .i64)).toArray[j]? = some v → w.cell? ((⟨gl, 0, none⟩ : Addr).add j) = some v := fun j v hv => by
  rw [add_lit, Nat.zero_add, h.blk.cell]
  exact hv
theorem l_at (h : IsL w gl l) {k : Nat} (hk : k < 16) : (l.map (Value.int .i64)).toArray[k]? = some (.int .i64 (l[k]?.getD 0)) := by
  rw [← h.blk.cell]
  exact h.cell hk
theorem isL_new {W : World} (hg : W.heap.size = gl) : IsL (W.alloc (.cells #[.int .i64 0, .int .i64 0, .int .i64 0, .int .i64 0, .int .i64 0, .int .i64 0, .int .i64 0, .int .i64 0, .int .i64 0, .int .i64 0, .int .i64 0, .int .i64 0, .int .i64 0, .int .i64 0, .int .i64 0, .int .i64 0] 66)) gl zeros16 := ⟨rfl, Blk.newAt W gl _ _ hg⟩
theorem register_x (h : IsRS w g s) (hl : IsL w gl l) (hgl : gl ≠ g) (n : Nat) (hn : n < 16) (c : RC) (hc : c.Ok) :
    Calls Try.prog 20 #[.pointer (some ⟨g, 0, none⟩), .int .i64 n, .agg #[.int .i64 c.act, .int .u64 c.key, .int .u64 c.new, .int .i64 c.kind], .pointer (some ⟨gl, 0, none⟩)] w (RetX w g gl (registerO s n c l)) :=
  register_any h hl hgl n hn c hc
theorem reserve_x (h : IsRS w g s) (hl : IsL w gl l) (hgl : gl ≠ g) (n : Nat) (hn : n < 16) (c : RC) (hc : c.Ok) :
    Calls Try.prog 21 #[.pointer (some ⟨g, 0, none⟩), .int .i64 n, .agg #[.int .i64 c.act, .int .u64 c.key, .int .u64 c.new, .int .i64 c.kind], .pointer (some ⟨gl, 0, none⟩)] w (RetX w g gl (reserveO s n c l)) :=
  reserve_any h hl hgl n hn c hc
theorem release_x (h : IsRS w g s) (hl : IsL w gl l) (hgl : gl ≠ g) (n : Nat) (hn : n < 16) (c : RC) (hc : c.Ok) :
    Calls Try.prog 22 #[.pointer (some ⟨g, 0, none⟩), .int .i64 n, .agg #[.int .i64 c.act, .int .u64 c.key, .int .u64 c.new, .int .i64 c.kind], .pointer (some ⟨gl, 0, none⟩)] w (RetX w g gl (releaseO s n c l)) :=
  release_any h hl hgl n hn c hc
theorem clear_x (h : IsRS w g s) (hl : IsL w gl l) (hgl : gl ≠ g) (n : Nat) (hn : n < 16) (c : RC) (hc : c.Ok) :
    Calls Try.prog 23 #[.pointer (some ⟨g, 0, none⟩), .int .i64 n, .agg #[.int .i64 c.act, .int .u64 c.key, .int .u64 c.new, .int .i64 c.kind], .pointer (some ⟨gl, 0, none⟩)] w (RetX w g gl (clearO s n c l)) :=
  clear_any h hl hgl n hn c hc
theorem preempt_x (h : IsRS w g s) (hl : IsL w gl l) (hgl : gl ≠ g) (n : Nat) (hn : n < 16) (c : RC) (hc : c.Ok) :
    Calls Try.prog 24 #[.pointer (some ⟨g, 0, none⟩), .int .i64 n, .agg #[.int .i64 c.act, .int .u64 c.key, .int .u64 c.new, .int .i64 c.kind], .pointer (some ⟨gl, 0, none⟩)] w (RetX w g gl (preemptO s n c l)) :=
  preempt_any h hl hgl n hn c hc
set_option maxHeartbeats 8000000 in
set_option maxRecDepth 20000 in
theorem do_n (h : IsRS w g s) (n : Nat) (hn : n < 16) (c : RC) (hc : c.Ok) :
    Calls Try.prog 8 #[.pointer (some ⟨g, 0, none⟩), .int .i64 n, .agg #[.int .i64 c.act, .int .u64 c.key, .int .u64 c.new, .int .i64 c.kind]] w (RetDo w g (doO s n c)) := by
  have hb : decide ((0 : Int) ≤ (n : Int) ∧ (n : Int) < 16) = true := decide_eq_true (by omega)
  obtain ⟨OC, hOC⟩ : ∃ OC : Obj, OC = .cells #[.int .i64 c.act, .int .u64 c.key, .int .u64 c.new, .int .i64 c.kind] 37 := ⟨_, rfl⟩
  obtain ⟨OR, hOR⟩ : ∃ OR : Obj, OR = .cells #[.int .i64 0, .int .i64 0, .int .i64 0, .int .i64 0, .slice none 0 0] 28 := ⟨_, rfl⟩
  obtain ⟨TC, hTC⟩ : ∃ TC : Array Value, TC = #[.int .i64 0, .bool true, .func (.func 20) #[.pointer (some ⟨g, 0, none⟩)] #[], .int .i64 6, .bool true, .func (.func 20) #[.pointer (some ⟨g, 0, none⟩)] #[], .int .i64 1, .bool false, .func (.func 21) #[.pointer (some ⟨g, 0, none⟩)] #[], .int .i64 2, .bool false, .func (.func 22) #[.pointer (some ⟨g, 0, none⟩)] #[], .int .i64 3, .bool false, .func (.func 23) #[.pointer (some ⟨g, 0, none⟩)] #[], .int .i64 4, .bool false, .func (.func 24) #[.pointer (some ⟨g, 0, none⟩)] #[]] := ⟨_, rfl⟩
  obtain ⟨OT, hOT⟩ : ∃ OT : Obj, OT = .cells TC 62 := ⟨_, rfl⟩
  have hglt := h.lt
  have BC : Blk (((w.alloc OC).alloc OR).alloc OT) w.heap.size 37 #[.int .i64 c.act, .int .u64 c.key, .int .u64 c.new, .int .i64 c.kind] := by
    rw [hOC]; exact ((Blk.new w _ _).alloc _).alloc _
  have BR : Blk (((w.alloc OC).alloc OR).alloc OT) (w.heap.size + 1) 28 #[.int .i64 0, .int .i64 0, .int .i64 0, .int .i64 0, .slice none 0 0] := by
    rw [hOR]; exact (Blk.newAt _ _ _ _ (by simp)).alloc _
  have BT : Blk (((w.alloc OC).alloc OR).alloc OT) (w.heap.size + 2) 62 TC := by
    rw [hOT]; exact Blk.newAt _ _ _ _ (by simp)
  have B1 := Lib.hid (bl_chain (bl_alloc w OC) (bl_chain (bl_alloc _ OR) (bl_alloc _ OT)))
  have H1 := Lib.hid (h.below B1.out)
  have HBC := Lib.hid BC
  have HBR := Lib.hid BR
  have HBT := Lib.hid BT
  have hsz : (((w.alloc OC).alloc OR).alloc OT).heap.size = w.heap.size + 3 := by simp
  have HSZ := Lib.hid hsz
  clear h BC BR BT hsz
  go_enter Try.func8, Try.ntmps8
  go_wp2_with (first
    | (go_at_call 18; (with_reducible refine (there_any (n : Int) _ (by omega)).mono ?_); rintro e w' ⟨rfl, rfl⟩; rw [hb]))
  rw [← hTC, ← hOT, ← hOC, ← hOR]
  generalize ((w.alloc OC).alloc OR).alloc OT = W1 at B1 H1 HBC HBR HBT HSZ ⊢
  have HTC := Lib.hid hTC
  clear hOC hOR hOT hTC
  go_loopw [43] (fun v w2 => ∃ k : Nat, k ≤ 6 ∧ v = .int .i64 k ∧ Hid (∀ j, j < k → rowA j ≠ c.act) ∧ Below W1.heap.size W1 w2) (fun v _ => 6 - (intOf v).toNat)
  case atStart => exact ⟨0, by omega, rfl, Lib.hid (fun j hj => by omega), Below.refl _ _⟩
  case round =>
    obtain ⟨k, hk, rfl, HNO, hb2⟩ := hrel
    have B2 := Lib.hid hb2
    have hz2 := hb2.size
    have hz1 := HSZ.out
    have c0 := (HBC.out.keep hb2).cell 0
    have c1 := (HBC.out.keep hb2).cell 1
    have c2 := (HBC.out.keep hb2).cell 2
    have c3 := (HBC.out.keep hb2).cell 3
    simp at c0 c1 c2 c3
    clear hb2
    have m0 : w.heap.size ≠ wr.heap.size := by omega
    have a0 : ∀ o, (wr.alloc o).cell? ⟨w.heap.size, 0, none⟩ = some (.int .i64 c.act) := fun o => (World.cell?_alloc_lt wr o _ (by show w.heap.size < wr.heap.size; omega)).trans c0
    have a1 : ∀ o, (wr.alloc o).cell? ⟨w.heap.size, 1, none⟩ = some (.int .u64 c.key) := fun o => (World.cell?_alloc_lt wr o _ (by show w.heap.size < wr.heap.size; omega)).trans c1
    have a2 : ∀ o, (wr.alloc o).cell? ⟨w.heap.size, 2, none⟩ = some (.int .u64 c.new) := fun o => (World.cell?_alloc_lt wr o _ (by show w.heap.size < wr.heap.size; omega)).trans c2
    have a3 : ∀ o, (wr.alloc o).cell? ⟨w.heap.size, 3, none⟩ = some (.int .i64 c.kind) := fun o => (World.cell?_alloc_lt wr o _ (by show w.heap.size < wr.heap.size; omega)).trans c3
    have m1 : w.heap.size + 1 ≠ wr.heap.size := by omega
    have m2 : w.heap.size + 2 ≠ wr.heap.size := by omega
    have m3 : g ≠ wr.heap.size := by omega
    have hk' : k = 0 ∨ k = 1 ∨ k = 2 ∨ k = 3 ∨ k = 4 ∨ k = 5 ∨ k = 6 := by omega
    clear hk
    rcases hk' with rfl | rfl | rfl | rfl | rfl | rfl | rfl

    · have t0 := (HBT.out.keep B2.out).cell 0
      have t1 := (HBT.out.keep B2.out).cell 1
      have t2 := (HBT.out.keep B2.out).cell 2
      rw [HTC.out] at t0 t1 t2
      simp at t0 t1 t2
      by_cases ha : rowA 0 = c.act
      · have b1 : ((0 : Int) != c.act) = false := by simp; exact ha

        have HX := Lib.hid (doO_row (s := s) (n := n) hn (k := 0) (by omega) ha (.inl rfl))
        clear ha
        go_upto_region 9 with fail
        have HB3 := Lib.hid (bl_chain B2.out (bl_alloc wr (.cells #[.int .i64 0, .bool true, .func (.func 20) #[.pointer (some ⟨g, 0, none⟩)] #[]] 62)))
        have u2 : (wr.alloc (.cells #[.int .i64 0, .bool true, .func (.func 20) #[.pointer (some ⟨g, 0, none⟩)] #[]] 62)).cell? ⟨wr.heap.size, 2, none⟩ = some (.func (.func 20) #[.pointer (some ⟨g, 0, none⟩)] #[]) := (Blk.new wr _ _).cell 2
        clear a0 a1 a2 a3 c0 c1 c2 c3 t0 t1 t2
        generalize wr.alloc (.cells #[.int .i64 0, .bool true, .func (.func 20) #[.pointer (some ⟨g, 0, none⟩)] #[]] 62) = w3 at HB3 u2 ⊢
        have u2' : ∀ o, (w3.alloc o).cell? ⟨wr.heap.size, 2, none⟩ = some (.func (.func 20) #[.pointer (some ⟨g, 0, none⟩)] #[]) := fun o => (World.cell?_alloc_lt w3 o _ (cell_block_lt u2)).trans u2

        have hz3 := HB3.out.size
        have cc0 := (HBC.out.keep HB3.out).cell 0
        have cc1 := (HBC.out.keep HB3.out).cell 1
        have cc2 := (HBC.out.keep HB3.out).cell 2
        have cc3 := (HBC.out.keep HB3.out).cell 3
        simp at cc0 cc1 cc2 cc3
        have a0 : ∀ o, (w3.alloc o).cell? ⟨w.heap.size, 0, none⟩ = some (.int .i64 c.act) := fun o => (World.cell?_alloc_lt w3 o _ (by show w.heap.size < w3.heap.size; omega)).trans cc0
        have a1 : ∀ o, (w3.alloc o).cell? ⟨w.heap.size, 1, none⟩ = some (.int .u64 c.key) := fun o => (World.cell?_alloc_lt w3 o _ (by show w.heap.size < w3.heap.size; omega)).trans cc1
        have a2 : ∀ o, (w3.alloc o).cell? ⟨w.heap.size, 2, none⟩ = some (.int .u64 c.new) := fun o => (World.cell?_alloc_lt w3 o _ (by show w.heap.size < w3.heap.size; omega)).trans cc2
        have a3 : ∀ o, (w3.alloc o).cell? ⟨w.heap.size, 3, none⟩ = some (.int .i64 c.kind) := fun o => (World.cell?_alloc_lt w3 o _ (by show w.heap.size < w3.heap.size; omega)).trans cc3
        clear cc0 cc1 cc2 cc3
        have H3 := Lib.hid ((H1.out.below HB3.out))
        go_wp2_with (first
          | (go_at_call 20; (with_reducible refine (register_x (H3.out.below (bl_alloc _ _)) (isL_new rfl) (by omega) n hn c hc).mono ?_); rintro e w6 ⟨rfl, hs6, hl6, ht6⟩; have HS6 := Lib.hid (hs6.below (bl_alloc w6 (.cells #[.int .i64 (registerO s n c zeros16).r.st, .int .i64 (registerO s n c zeros16).r.key, .int .i64 (registerO s n c zeros16).r.asc, .int .i64 (registerO s n c zeros16).r.ascq, .slice none 0 0] 28))); have HL6 := Lib.hid (hl6.below (bl_alloc w6 (.cells #[.int .i64 (registerO s n c zeros16).r.st, .int .i64 (registerO s n c zeros16).r.key, .int .i64 (registerO s n c zeros16).r.asc, .int .i64 (registerO s n c zeros16).r.ascq, .slice none 0 0] 28))); have HT6 := Lib.hid ht6; have hz6 := ht6.size; clear hs6 hl6 ht6)
          | (refine wpL_loadArr (ty := 66) rfl rfl rfl (loadL HL6.out) Try.underlying66 rfl (by rw [List.size_toArray, List.length_map, HL6.out.len]; exact info16n) ?_))
        clear a0 a1 a2 a3
        have NB := Lib.hid (Blk.new w6 28 #[.int .i64 (registerO s n c zeros16).r.st, .int .i64 (registerO s n c zeros16).r.key, .int .i64 (registerO s n c zeros16).r.asc, .int .i64 (registerO s n c zeros16).r.ascq, .slice none 0 0])
        have HRB := Lib.hid ((HT6.out.blk ((HBR.out.keep HB3.out).alloc (.cells #[.int .i64 0, .int .i64 0, .int .i64 0, .int .i64 0, .int .i64 0, .int .i64 0, .int .i64 0, .int .i64 0, .int .i64 0, .int .i64 0, .int .i64 0, .int .i64 0, .int .i64 0, .int .i64 0, .int .i64 0, .int .i64 0] 66)) (by show ¬ (w.heap.size + 1 = g ∨ w.heap.size + 1 = w3.heap.size); omega)).alloc (.cells #[.int .i64 (registerO s n c zeros16).r.st, .int .i64 (registerO s n c zeros16).r.key, .int .i64 (registerO s n c zeros16).r.asc, .int .i64 (registerO s n c zeros16).r.ascq, .slice none 0 0] 28))
        have T7 := Lib.hid ((((Tr.of_below (F := fun b => b = g) (bl_chain B1.out (bl_chain HB3.out (bl_alloc _ _)))).trans HT6.out (fun b hb e => by have := B1.out.size; rcases e with e | e; exact e; omega))).alloc (.cells #[.int .i64 (registerO s n c zeros16).r.st, .int .i64 (registerO s n c zeros16).r.key, .int .i64 (registerO s n c zeros16).r.asc, .int .i64 (registerO s n c zeros16).r.ascq, .slice none 0 0] 28))
        have hz7 : w6.heap.size < (w6.alloc (.cells #[.int .i64 (registerO s n c zeros16).r.st, .int .i64 (registerO s n c zeros16).r.key, .int .i64 (registerO s n c zeros16).r.asc, .int .i64 (registerO s n c zeros16).r.ascq, .slice none 0 0] 28)).heap.size := by simp
        generalize w6.alloc (.cells #[.int .i64 (registerO s n c zeros16).r.st, .int .i64 (registerO s n c zeros16).r.key, .int .i64 (registerO s n c zeros16).r.asc, .int .i64 (registerO s n c zeros16).r.ascq, .slice none 0 0] 28) = W7 at NB HRB HS6 HL6 T7 hz7 ⊢
        have HX2 : Hid (doO s n c = ⟨(registerO s n c zeros16).s, (registerO s n c zeros16).r, notesTo (registerO s n c zeros16).l 16⟩) := HX
        generalize registerO s n c zeros16 = O at HX2 HS6 HL6 NB ⊢
        have z1 := HSZ.out
        have z3 := B1.out.size
        go_loopw [12, 69] (fun v12 v w2 => ∃ (k : Nat) (A : Option Addr) (c' : Nat), k ≤ 16 ∧ v = .int .i64 k ∧ v12 = .slice A (notesTo O.l k).length c' ∧ w2.ownsRow W7.heap.size 48 2 (.slice A (notesTo O.l k).length c') (notesTo O.l k).length (noteCells (notesTo O.l k)) ∧ Below W7.heap.size W7 w2) (fun _ v _ => 16 - (intOf v).toNat)
        case atStart => exact ⟨0, none, 0, by omega, rfl, rfl, ownsRow_emp _ _ _ _, Below.refl _ _⟩
        case round =>
          obtain ⟨k, A, c', hk, rfl, rfl, ho, hb7⟩ := hrel
          have HO := Lib.hid ho
          have B7 := Lib.hid hb7
          have hk2 := notesTo_length O.l k
          have hz8 := hb7.size
          clear ho hb7
          by_cases hlt : k < 16
          · have hix := fun w => run_index_arr (P := Try.prog) (w := w) Try.underlying66 Try.underlying3 sizeI (O.l.map (Value.int .i64)).toArray k hlt _ (l_at HL6.out hlt)
            by_cases hz : O.l[k]?.getD 0 ≠ 0
            · have b2 : (O.l[k]?.getD 0 != 0) = true := by simp [hz]
              have HE : Hid (notesTo O.l (k + 1) = notesTo O.l k ++ [(k, O.l[k]?.getD 0)]) := Lib.hid (by rw [notesTo, if_pos hz])
              clear hz
              go_wp2_with (first
                | (at_builtin; refine wpL_append ENote rfl rfl (HO.out.alloc _) rfl (Rd.newN wr 48 #[.int .i64 k, .int .i64 (O.l[k]?.getD 0)]) rfl (by simp) (by intro u hu; simp at hu; rcases hu with rfl | rfl <;> rfl) ((notesTo O.l k).length + 1) (noteCells (notesTo O.l k ++ [(k, O.l[k]?.getD 0)])) rfl (by rw [← noteCells_snoc]) (by simp only [maxLen]; omega) (by omega) (by simp; omega) ?_; intro A9 c9 w9 hc9 ho9 ht9 _; have HO9 := Lib.hid ho9; have HT9 := Lib.hid ht9; clear ho9 ht9))
              go_roundw
              case rel =>
                refine ⟨k + 1, A9, c9, by omega, by go_num, ?_, ?_, ?_⟩
                · rw [HE.out, List.length_append]; rfl
                · rw [HE.out, List.length_append]; exact HO9.out
                · exact bl_tr (bl_chain B7.out (bl_alloc _ _)) HT9.out (own_ge HO.out)
              case measure => simp [intOf]; omega
            · have b2 : (O.l[k]?.getD 0 != 0) = false := by simpa using hz
              have HE : Hid (notesTo O.l (k + 1) = notesTo O.l k) := Lib.hid (by rw [notesTo, if_neg hz])
              clear hz
              go_wp2_with fail
              go_roundw
              case rel => exact ⟨k + 1, A, c', by omega, by go_num, by rw [HE.out], by rw [HE.out]; exact HO.out, B7.out⟩
              case measure => simp [intOf]; omega
          · have hk16 : k = 16 := by omega
            subst hk16
            have nb := NB.out.keep B7.out
            have v0 := nb.cell 0
            have v1 := nb.cell 1
            have v2 := nb.cell 2
            have v3 := nb.cell 3
            have v4 := nb.cell 4
            simp at v0 v1 v2 v3 v4
            obtain ⟨⟨x0, x1, x2, x3, x4, r0, r1, r2, r3, r4⟩, f0, f1, f2, f3, f4⟩ := rep_cells (HRB.out.keep B7.out) rfl
            clear nb hlt hk
            go_wp2_with fail
            refine bodyPost_ret (v := .tuple #[.agg (Rep.cells O.r), .slice A (notesTo O.l 16).length c']) (by simp [results, Try.results8, go_sem, Rep.cells, r0, r1, r2, r3, r4]) rfl ?_
            refine RetDo.eq HX2.out ?_
            have t5 := Tr.five wr (w.heap.size + 1) (.int .i64 O.r.st) (.int .i64 O.r.key) (.int .i64 O.r.asc) (.int .i64 O.r.ascq) (.slice none 0 0)
            refine ⟨A, c', rfl, (HS6.out.below B7.out).tr t5 (by omega), own_tr (ownsRow_base HO.out T7.out.size) t5 ?_, ?_⟩
            · intro b hb e
              subst e
              exact own_blk HO.out (HRB.out.keep B7.out) (by decide) hb
            · exact ((T7.out.trans (Tr.of_below (F := NoB) B7.out) (fun _ _ h => h.elim)).trans t5 (fun b hb e => by omega))

      · have b1 : ((0 : Int) != c.act) = true := by simp; exact ha
        have HNO2 : Hid (∀ j, j < 1 → rowA j ≠ c.act) := Lib.hid (fun j hj => by
          rcases Nat.lt_or_ge j 0 with h | h
          · exact HNO.out j h
          · obtain rfl : j = 0 := by omega
            exact ha)
        clear ha
        go_wp2_with fail
        go_roundw
        case rel => exact ⟨1, by omega, by go_num, HNO2, bl_chain B2.out (bl_alloc _ _)⟩
        case measure => simp [intOf]

    · have t0 := (HBT.out.keep B2.out).cell 3
      have t1 := (HBT.out.keep B2.out).cell 4
      have t2 := (HBT.out.keep B2.out).cell 5
      rw [HTC.out] at t0 t1 t2
      simp at t0 t1 t2
      by_cases ha : rowA 1 = c.act
      · have b1 : ((6 : Int) != c.act) = false := by simp; exact ha

        have HX := Lib.hid (doO_row (s := s) (n := n) hn (k := 1) (by omega) ha (.inl rfl))
        clear ha
        go_upto_region 9 with fail
        have HB3 := Lib.hid (bl_chain B2.out (bl_alloc wr (.cells #[.int .i64 6, .bool true, .func (.func 20) #[.pointer (some ⟨g, 0, none⟩)] #[]] 62)))
        have u2 : (wr.alloc (.cells #[.int .i64 6, .bool true, .func (.func 20) #[.pointer (some ⟨g, 0, none⟩)] #[]] 62)).cell? ⟨wr.heap.size, 2, none⟩ = some (.func (.func 20) #[.pointer (some ⟨g, 0, none⟩)] #[]) := (Blk.new wr _ _).cell 2
        clear a0 a1 a2 a3 c0 c1 c2 c3 t0 t1 t2
        generalize wr.alloc (.cells #[.int .i64 6, .bool true, .func (.func 20) #[.pointer (some ⟨g, 0, none⟩)] #[]] 62) = w3 at HB3 u2 ⊢
        have u2' : ∀ o, (w3.alloc o).cell? ⟨wr.heap.size, 2, none⟩ = some (.func (.func 20) #[.pointer (some ⟨g, 0, none⟩)] #[]) := fun o => (World.cell?_alloc_lt w3 o _ (cell_block_lt u2)).trans u2

        have hz3 := HB3.out.size
        have cc0 := (HBC.out.keep HB3.out).cell 0
        have cc1 := (HBC.out.keep HB3.out).cell 1
        have cc2 := (HBC.out.keep HB3.out).cell 2
        have cc3 := (HBC.out.keep HB3.out).cell 3
        simp at cc0 cc1 cc2 cc3
        have a0 : ∀ o, (w3.alloc o).cell? ⟨w.heap.size, 0, none⟩ = some (.int .i64 c.act) := fun o => (World.cell?_alloc_lt w3 o _ (by show w.heap.size < w3.heap.size; omega)).trans cc0
        have a1 : ∀ o, (w3.alloc o).cell? ⟨w.heap.size, 1, none⟩ = some (.int .u64 c.key) := fun o => (World.cell?_alloc_lt w3 o _ (by show w.heap.size < w3.heap.size; omega)).trans cc1
        have a2 : ∀ o, (w3.alloc o).cell? ⟨w.heap.size, 2, none⟩ = some (.int .u64 c.new) := fun o => (World.cell?_alloc_lt w3 o _ (by show w.heap.size < w3.heap.size; omega)).trans cc2
        have a3 : ∀ o, (w3.alloc o).cell? ⟨w.heap.size, 3, none⟩ = some (.int .i64 c.kind) := fun o => (World.cell?_alloc_lt w3 o _ (by show w.heap.size < w3.heap.size; omega)).trans cc3
        clear cc0 cc1 cc2 cc3
        have H3 := Lib.hid ((H1.out.below HB3.out))
        go_wp2_with (first
          | (go_at_call 20; (with_reducible refine (register_x (H3.out.below (bl_alloc _ _)) (isL_new rfl) (by omega) n hn c hc).mono ?_); rintro e w6 ⟨rfl, hs6, hl6, ht6⟩; have HS6 := Lib.hid (hs6.below (bl_alloc w6 (.cells #[.int .i64 (registerO s n c zeros16).r.st, .int .i64 (registerO s n c zeros16).r.key, .int .i64 (registerO s n c zeros16).r.asc, .int .i64 (registerO s n c zeros16).r.ascq, .slice none 0 0] 28))); have HL6 := Lib.hid (hl6.below (bl_alloc w6 (.cells #[.int .i64 (registerO s n c zeros16).r.st, .int .i64 (registerO s n c zeros16).r.key, .int .i64 (registerO s n c zeros16).r.asc, .int .i64 (registerO s n c zeros16).r.ascq, .slice none 0 0] 28))); have HT6 := Lib.hid ht6; have hz6 := ht6.size; clear hs6 hl6 ht6)
          | (refine wpL_loadArr (ty := 66) rfl rfl rfl (loadL HL6.out) Try.underlying66 rfl (by rw [List.size_toArray, List.length_map, HL6.out.len]; exact info16n) ?_))
        clear a0 a1 a2 a3
        have NB := Lib.hid (Blk.new w6 28 #[.int .i64 (registerO s n c zeros16).r.st, .int .i64 (registerO s n c zeros16).r.key, .int .i64 (registerO s n c zeros16).r.asc, .int .i64 (registerO s n c zeros16).r.ascq, .slice none 0 0])
        have HRB := Lib.hid ((HT6.out.blk ((HBR.out.keep HB3.out).alloc (.cells #[.int .i64 0, .int .i64 0, .int .i64 0, .int .i64 0, .int .i64 0, .int .i64 0, .int .i64 0, .int .i64 0, .int .i64 0, .int .i64 0, .int .i64 0, .int .i64 0, .int .i64 0, .int .i64 0, .int .i64 0, .int .i64 0] 66)) (by show ¬ (w.heap.size + 1 = g ∨ w.heap.size + 1 = w3.heap.size); omega)).alloc (.cells #[.int .i64 (registerO s n c zeros16).r.st, .int .i64 (registerO s n c zeros16).r.key, .int .i64 (registerO s n c zeros16).r.asc, .int .i64 (registerO s n c zeros16).r.ascq, .slice none 0 0] 28))
        have T7 := Lib.hid ((((Tr.of_below (F := fun b => b = g) (bl_chain B1.out (bl_chain HB3.out (bl_alloc _ _)))).trans HT6.out (fun b hb e => by have := B1.out.size; rcases e with e | e; exact e; omega))).alloc (.cells #[.int .i64 (registerO s n c zeros16).r.st, .int .i64 (registerO s n c zeros16).r.key, .int .i64 (registerO s n c zeros16).r.asc, .int .i64 (registerO s n c zeros16).r.ascq, .slice none 0 0] 28))
        have hz7 : w6.heap.size < (w6.alloc (.cells #[.int .i64 (registerO s n c zeros16).r.st, .int .i64 (registerO s n c zeros16).r.key, .int .i64 (registerO s n c zeros16).r.asc, .int .i64 (registerO s n c zeros16).r.ascq, .slice none 0 0] 28)).heap.size := by simp
        generalize w6.alloc (.cells #[.int .i64 (registerO s n c zeros16).r.st, .int .i64 (registerO s n c zeros16).r.key, .int .i64 (registerO s n c zeros16).r.asc, .int .i64 (registerO s n c zeros16).r.ascq, .slice none 0 0] 28) = W7 at NB HRB HS6 HL6 T7 hz7 ⊢
        have HX2 : Hid (doO s n c = ⟨(registerO s n c zeros16).s, (registerO s n c zeros16).r, notesTo (registerO s n c zeros16).l 16⟩) := HX
        generalize registerO s n c zeros16 = O at HX2 HS6 HL6 NB ⊢
        have z1 := HSZ.out
        have z3 := B1.out.size
        go_loopw [12, 69] (fun v12 v w2 => ∃ (k : Nat) (A : Option Addr) (c' : Nat), k ≤ 16 ∧ v = .int .i64 k ∧ v12 = .slice A (notesTo O.l k).length c' ∧ w2.ownsRow W7.heap.size 48 2 (.slice A (notesTo O.l k).length c') (notesTo O.l k).length (noteCells (notesTo O.l k)) ∧ Below W7.heap.size W7 w2) (fun _ v _ => 16 - (intOf v).toNat)
        case atStart => exact ⟨0, none, 0, by omega, rfl, rfl, ownsRow_emp _ _ _ _, Below.refl _ _⟩
        case round =>
          obtain ⟨k, A, c', hk, rfl, rfl, ho, hb7⟩ := hrel
          have HO := Lib.hid ho
          have B7 := Lib.hid hb7
          have hk2 := notesTo_length O.l k
          have hz8 := hb7.size
          clear ho hb7
          by_cases hlt : k < 16
          · have hix := fun w => run_index_arr (P := Try.prog) (w := w) Try.underlying66 Try.underlying3 sizeI (O.l.map (Value.int .i64)).toArray k hlt _ (l_at HL6.out hlt)
            by_cases hz : O.l[k]?.getD 0 ≠ 0
            · have b2 : (O.l[k]?.getD 0 != 0) = true := by simp [hz]
              have HE : Hid (notesTo O.l (k + 1) = notesTo O.l k ++ [(k, O.l[k]?.getD 0)]) := Lib.hid (by rw [notesTo, if_pos hz])
              clear hz
              go_wp2_with (first
                | (at_builtin; refine wpL_append ENote rfl rfl (HO.out.alloc _) rfl (Rd.newN wr 48 #[.int .i64 k, .int .i64 (O.l[k]?.getD 0)]) rfl (by simp) (by intro u hu; simp at hu; rcases hu with rfl | rfl <;> rfl) ((notesTo O.l k).length + 1) (noteCells (notesTo O.l k ++ [(k, O.l[k]?.getD 0)])) rfl (by rw [← noteCells_snoc]) (by simp only [maxLen]; omega) (by omega) (by simp; omega) ?_; intro A9 c9 w9 hc9 ho9 ht9 _; have HO9 := Lib.hid ho9; have HT9 := Lib.hid ht9; clear ho9 ht9))
              go_roundw
              case rel =>
                refine ⟨k + 1, A9, c9, by omega, by go_num, ?_, ?_, ?_⟩
                · rw [HE.out, List.length_append]; rfl
                · rw [HE.out, List.length_append]; exact HO9.out
                · exact bl_tr (bl_chain B7.out (bl_alloc _ _)) HT9.out (own_ge HO.out)
              case measure => simp [intOf]; omega
            · have b2 : (O.l[k]?.getD 0 != 0) = false := by simpa using hz
              have HE : Hid (notesTo O.l (k + 1) = notesTo O.l k) := Lib.hid (by rw [notesTo, if_neg hz])
              clear hz
              go_wp2_with fail
              go_roundw
              case rel => exact ⟨k + 1, A, c', by omega, by go_num, by rw [HE.out], by rw [HE.out]; exact HO.out, B7.out⟩
              case measure => simp [intOf]; omega
          · have hk16 : k = 16 := by omega
            subst hk16
            have nb := NB.out.keep B7.out
            have v0 := nb.cell 0
            have v1 := nb.cell 1
            have v2 := nb.cell 2
            have v3 := nb.cell 3
            have v4 := nb.cell 4
            simp at v0 v1 v2 v3 v4
            obtain ⟨⟨x0, x1, x2, x3, x4, r0, r1, r2, r3, r4⟩, f0, f1, f2, f3, f4⟩ := rep_cells (HRB.out.keep B7.out) rfl
            clear nb hlt hk
            go_wp2_with fail
            refine bodyPost_ret (v := .tuple #[.agg (Rep.cells O.r), .slice A (notesTo O.l 16).length c']) (by simp [results, Try.results8, go_sem, Rep.cells, r0, r1, r2, r3, r4]) rfl ?_
            refine RetDo.eq HX2.out ?_
            have t5 := Tr.five wr (w.heap.size + 1) (.int .i64 O.r.st) (.int .i64 O.r.key) (.int .i64 O.r.asc) (.int .i64 O.r.ascq) (.slice none 0 0)
            refine ⟨A, c', rfl, (HS6.out.below B7.out).tr t5 (by omega), own_tr (ownsRow_base HO.out T7.out.size) t5 ?_, ?_⟩
            · intro b hb e
              subst e
              exact own_blk HO.out (HRB.out.keep B7.out) (by decide) hb
            · exact ((T7.out.trans (Tr.of_below (F := NoB) B7.out) (fun _ _ h => h.elim)).trans t5 (fun b hb e => by omega))

      · have b1 : ((6 : Int) != c.act) = true := by simp; exact ha
        have HNO2 : Hid (∀ j, j < 2 → rowA j ≠ c.act) := Lib.hid (fun j hj => by
          rcases Nat.lt_or_ge j 1 with h | h
          · exact HNO.out j h
          · obtain rfl : j = 1 := by omega
            exact ha)
        clear ha
        go_wp2_with fail
        go_roundw
        case rel => exact ⟨2, by omega, by go_num, HNO2, bl_chain B2.out (bl_alloc _ _)⟩
        case measure => simp [intOf]

    · have t0 := (HBT.out.keep B2.out).cell 6
      have t1 := (HBT.out.keep B2.out).cell 7
      have t2 := (HBT.out.keep B2.out).cell 8
      rw [HTC.out] at t0 t1 t2
      simp at t0 t1 t2
      by_cases ha : rowA 2 = c.act
      · have b1 : ((1 : Int) != c.act) = false := by simp; exact ha

        by_cases hreg : regB s n c = true
        · have HX := Lib.hid (doO_row (s := s) (n := n) hn (k := 2) (by omega) ha (.inr hreg))
          have hreg2 : (s.key n != 0 && s.key n == c.key) = true := hreg
          clear ha hreg
          go_upto_region 9 with (first
            | (go_at_call 25; (with_reducible refine (registered_any ((H1.out.below B2.out).below (bl_alloc _ _)) n hn c).mono ?_); rintro e w3 ⟨rfl, hb⟩; rw [hreg2]; have HB3 := Lib.hid (bl_chain B2.out (bl_chain (bl_alloc wr (.cells #[.int .i64 1, .bool false, .func (.func 21) #[.pointer (some ⟨g, 0, none⟩)] #[]] 62)) hb)); have u2 := (((Blk.new wr 62 #[.int .i64 1, .bool false, .func (.func 21) #[.pointer (some ⟨g, 0, none⟩)] #[]])).keep hb).cell 2; simp at u2; clear hb))
          clear a0 a1 a2 a3 c0 c1 c2 c3 t0 t1 t2
          have u2' : ∀ o, (w3.alloc o).cell? ⟨wr.heap.size, 2, none⟩ = some (.func (.func 21) #[.pointer (some ⟨g, 0, none⟩)] #[]) := fun o => (World.cell?_alloc_lt w3 o _ (cell_block_lt u2)).trans u2

          have hz3 := HB3.out.size
          have cc0 := (HBC.out.keep HB3.out).cell 0
          have cc1 := (HBC.out.keep HB3.out).cell 1
          have cc2 := (HBC.out.keep HB3.out).cell 2
          have cc3 := (HBC.out.keep HB3.out).cell 3
          simp at cc0 cc1 cc2 cc3
          have a0 : ∀ o, (w3.alloc o).cell? ⟨w.heap.size, 0, none⟩ = some (.int .i64 c.act) := fun o => (World.cell?_alloc_lt w3 o _ (by show w.heap.size < w3.heap.size; omega)).trans cc0
          have a1 : ∀ o, (w3.alloc o).cell? ⟨w.heap.size, 1, none⟩ = some (.int .u64 c.key) := fun o => (World.cell?_alloc_lt w3 o _ (by show w.heap.size < w3.heap.size; omega)).trans cc1
          have a2 : ∀ o, (w3.alloc o).cell? ⟨w.heap.size, 2, none⟩ = some (.int .u64 c.new) := fun o => (World.cell?_alloc_lt w3 o _ (by show w.heap.size < w3.heap.size; omega)).trans cc2
          have a3 : ∀ o, (w3.alloc o).cell? ⟨w.heap.size, 3, none⟩ = some (.int .i64 c.kind) := fun o => (World.cell?_alloc_lt w3 o _ (by show w.heap.size < w3.heap.size; omega)).trans cc3
          clear cc0 cc1 cc2 cc3
          have H3 := Lib.hid ((H1.out.below HB3.out))
          go_wp2_with (first
            | (go_at_call 21; (with_reducible refine (reserve_x (H3.out.below (bl_alloc _ _)) (isL_new rfl) (by omega) n hn c hc).mono ?_); rintro e w6 ⟨rfl, hs6, hl6, ht6⟩; have HS6 := Lib.hid (hs6.below (bl_alloc w6 (.cells #[.int .i64 (reserveO s n c zeros16).r.st, .int .i64 (reserveO s n c zeros16).r.key, .int .i64 (reserveO s n c zeros16).r.asc, .int .i64 (reserveO s n c zeros16).r.ascq, .slice none 0 0] 28))); have HL6 := Lib.hid (hl6.below (bl_alloc w6 (.cells #[.int .i64 (reserveO s n c zeros16).r.st, .int .i64 (reserveO s n c zeros16).r.key, .int .i64 (reserveO s n c zeros16).r.asc, .int .i64 (reserveO s n c zeros16).r.ascq, .slice none 0 0] 28))); have HT6 := Lib.hid ht6; have hz6 := ht6.size; clear hs6 hl6 ht6)
            | (refine wpL_loadArr (ty := 66) rfl rfl rfl (loadL HL6.out) Try.underlying66 rfl (by rw [List.size_toArray, List.length_map, HL6.out.len]; exact info16n) ?_))
          clear a0 a1 a2 a3
          have NB := Lib.hid (Blk.new w6 28 #[.int .i64 (reserveO s n c zeros16).r.st, .int .i64 (reserveO s n c zeros16).r.key, .int .i64 (reserveO s n c zeros16).r.asc, .int .i64 (reserveO s n c zeros16).r.ascq, .slice none 0 0])
          have HRB := Lib.hid ((HT6.out.blk ((HBR.out.keep HB3.out).alloc (.cells #[.int .i64 0, .int .i64 0, .int .i64 0, .int .i64 0, .int .i64 0, .int .i64 0, .int .i64 0, .int .i64 0, .int .i64 0, .int .i64 0, .int .i64 0, .int .i64 0, .int .i64 0, .int .i64 0, .int .i64 0, .int .i64 0] 66)) (by show ¬ (w.heap.size + 1 = g ∨ w.heap.size + 1 = w3.heap.size); omega)).alloc (.cells #[.int .i64 (reserveO s n c zeros16).r.st, .int .i64 (reserveO s n c zeros16).r.key, .int .i64 (reserveO s n c zeros16).r.asc, .int .i64 (reserveO s n c zeros16).r.ascq, .slice none 0 0] 28))
          have T7 := Lib.hid ((((Tr.of_below (F := fun b => b = g) (bl_chain B1.out (bl_chain HB3.out (bl_alloc _ _)))).trans HT6.out (fun b hb e => by have := B1.out.size; rcases e with e | e; exact e; omega))).alloc (.cells #[.int .i64 (reserveO s n c zeros16).r.st, .int .i64 (reserveO s n c zeros16).r.key, .int .i64 (reserveO s n c zeros16).r.asc, .int .i64 (reserveO s n c zeros16).r.ascq, .slice none 0 0] 28))
          have hz7 : w6.heap.size < (w6.alloc (.cells #[.int .i64 (reserveO s n c zeros16).r.st, .int .i64 (reserveO s n c zeros16).r.key, .int .i64 (reserveO s n c zeros16).r.asc, .int .i64 (reserveO s n c zeros16).r.ascq, .slice none 0 0] 28)).heap.size := by simp
          generalize w6.alloc (.cells #[.int .i64 (reserveO s n c zeros16).r.st, .int .i64 (reserveO s n c zeros16).r.key, .int .i64 (reserveO s n c zeros16).r.asc, .int .i64 (reserveO s n c zeros16).r.ascq, .slice none 0 0] 28) = W7 at NB HRB HS6 HL6 T7 hz7 ⊢
          have HX2 : Hid (doO s n c = ⟨(reserveO s n c zeros16).s, (reserveO s n c zeros16).r, notesTo (reserveO s n c zeros16).l 16⟩) := HX
          generalize reserveO s n c zeros16 = O at HX2 HS6 HL6 NB ⊢
          have z1 := HSZ.out
          have z3 := B1.out.size
          go_loopw [12, 69] (fun v12 v w2 => ∃ (k : Nat) (A : Option Addr) (c' : Nat), k ≤ 16 ∧ v = .int .i64 k ∧ v12 = .slice A (notesTo O.l k).length c' ∧ w2.ownsRow W7.heap.size 48 2 (.slice A (notesTo O.l k).length c') (notesTo O.l k).length (noteCells (notesTo O.l k)) ∧ Below W7.heap.size W7 w2) (fun _ v _ => 16 - (intOf v).toNat)
          case atStart => exact ⟨0, none, 0, by omega, rfl, rfl, ownsRow_emp _ _ _ _, Below.refl _ _⟩
          case round =>
            obtain ⟨k, A, c', hk, rfl, rfl, ho, hb7⟩ := hrel
            have HO := Lib.hid ho
            have B7 := Lib.hid hb7
            have hk2 := notesTo_length O.l k
            have hz8 := hb7.size
            clear ho hb7
            by_cases hlt : k < 16
            · have hix := fun w => run_index_arr (P := Try.prog) (w := w) Try.underlying66 Try.underlying3 sizeI (O.l.map (Value.int .i64)).toArray k hlt _ (l_at HL6.out hlt)
              by_cases hz : O.l[k]?.getD 0 ≠ 0
              · have b2 : (O.l[k]?.getD 0 != 0) = true := by simp [hz]
                have HE : Hid (notesTo O.l (k + 1) = notesTo O.l k ++ [(k, O.l[k]?.getD 0)]) := Lib.hid (by rw [notesTo, if_pos hz])
                clear hz
                go_wp2_with (first
                  | (at_builtin; refine wpL_append ENote rfl rfl (HO.out.alloc _) rfl (Rd.newN wr 48 #[.int .i64 k, .int .i64 (O.l[k]?.getD 0)]) rfl (by simp) (by intro u hu; simp at hu; rcases hu with rfl | rfl <;> rfl) ((notesTo O.l k).length + 1) (noteCells (notesTo O.l k ++ [(k, O.l[k]?.getD 0)])) rfl (by rw [← noteCells_snoc]) (by simp only [maxLen]; omega) (by omega) (by simp; omega) ?_; intro A9 c9 w9 hc9 ho9 ht9 _; have HO9 := Lib.hid ho9; have HT9 := Lib.hid ht9; clear ho9 ht9))
                go_roundw
                case rel =>
                  refine ⟨k + 1, A9, c9, by omega, by go_num, ?_, ?_, ?_⟩
                  · rw [HE.out, List.length_append]; rfl
                  · rw [HE.out, List.length_append]; exact HO9.out
                  · exact bl_tr (bl_chain B7.out (bl_alloc _ _)) HT9.out (own_ge HO.out)
                case measure => simp [intOf]; omega
              · have b2 : (O.l[k]?.getD 0 != 0) = false := by simpa using hz
                have HE : Hid (notesTo O.l (k + 1) = notesTo O.l k) := Lib.hid (by rw [notesTo, if_neg hz])
                clear hz
                go_wp2_with fail
                go_roundw
                case rel => exact ⟨k + 1, A, c', by omega, by go_num, by rw [HE.out], by rw [HE.out]; exact HO.out, B7.out⟩
                case measure => simp [intOf]; omega
            · have hk16 : k = 16 := by omega
              subst hk16
              have nb := NB.out.keep B7.out
              have v0 := nb.cell 0
              have v1 := nb.cell 1
              have v2 := nb.cell 2
              have v3 := nb.cell 3
              have v4 := nb.cell 4
              simp at v0 v1 v2 v3 v4
              obtain ⟨⟨x0, x1, x2, x3, x4, r0, r1, r2, r3, r4⟩, f0, f1, f2, f3, f4⟩ := rep_cells (HRB.out.keep B7.out) rfl
              clear nb hlt hk
              go_wp2_with fail
              refine bodyPost_ret (v := .tuple #[.agg (Rep.cells O.r), .slice A (notesTo O.l 16).length c']) (by simp [results, Try.results8, go_sem, Rep.cells, r0, r1, r2, r3, r4]) rfl ?_
              refine RetDo.eq HX2.out ?_
              have t5 := Tr.five wr (w.heap.size + 1) (.int .i64 O.r.st) (.int .i64 O.r.key) (.int .i64 O.r.asc) (.int .i64 O.r.ascq) (.slice none 0 0)
              refine ⟨A, c', rfl, (HS6.out.below B7.out).tr t5 (by omega), own_tr (ownsRow_base HO.out T7.out.size) t5 ?_, ?_⟩
              · intro b hb e
                subst e
                exact own_blk HO.out (HRB.out.keep B7.out) (by decide) hb
              · exact ((T7.out.trans (Tr.of_below (F := NoB) B7.out) (fun _ _ h => h.elim)).trans t5 (fun b hb e => by omega))

        · have hreg' : regB s n c = false := by simpa using hreg
          have HX := Lib.hid (doO_conf (s := s) (n := n) hn (k := 2) (by omega) ha rfl hreg')
          have hreg2 : (s.key n != 0 && s.key n == c.key) = false := hreg'
          clear ha hreg hreg'
          go_wp2_with (first
            | (go_at_call 25; (with_reducible refine (registered_any ((H1.out.below B2.out).below (bl_alloc _ _)) n hn c).mono ?_); rintro e w3 ⟨rfl, hb⟩; rw [hreg2]; have HB3 := Lib.hid (bl_chain B2.out (bl_chain (bl_alloc wr (.cells #[.int .i64 1, .bool false, .func (.func 21) #[.pointer (some ⟨g, 0, none⟩)] #[]] 62)) hb)); clear hb)
            | (go_at_call 26; (with_reducible refine (conflict_any _).mono ?_); rintro e w5 ⟨rfl, hb⟩; have HB5 := Lib.hid (bl_chain HB3.out hb); (obtain ⟨⟨x0, x1, x2, x3, x4, r0, r1, r2, r3, r4⟩, f0, f1, f2, f3, f4⟩ := rep_cells (HBR.out.keep (bl_chain HB3.out hb)) rfl); clear hb))
          refine bodyPost_ret (v := .tuple #[.agg (Rep.cells conflictR), .slice none 0 0]) (by simp [results, Try.results8, go_sem, Rep.cells, conflictR, r0, r1, r2, r3, r4]) rfl ?_
          refine RetDo.eq HX.out ?_
          have t5 := Tr.five w5 (w.heap.size + 1) (.int .i64 24) (.int .i64 0) (.int .i64 0) (.int .i64 0) (.slice none 0 0)
          exact ⟨none, 0, rfl, (H1.out.below HB5.out).tr t5 (by omega), ownsRow_emp _ _ _ _, (Tr.of_below (F := fun b => b = g) (bl_chain B1.out HB5.out)).trans t5 (fun b hb e => by omega)⟩

      · have b1 : ((1 : Int) != c.act) = true := by simp; exact ha
        have HNO2 : Hid (∀ j, j < 3 → rowA j ≠ c.act) := Lib.hid (fun j hj => by
          rcases Nat.lt_or_ge j 2 with h | h
          · exact HNO.out j h
          · obtain rfl : j = 2 := by omega
            exact ha)
        clear ha
        go_wp2_with fail
        go_roundw
        case rel => exact ⟨3, by omega, by go_num, HNO2, bl_chain B2.out (bl_alloc _ _)⟩
        case measure => simp [intOf]

    · have t0 := (HBT.out.keep B2.out).cell 9
      have t1 := (HBT.out.keep B2.out).cell 10
      have t2 := (HBT.out.keep B2.out).cell 11
      rw [HTC.out] at t0 t1 t2
      simp at t0 t1 t2
      by_cases ha : rowA 3 = c.act
      · have b1 : ((2 : Int) != c.act) = false := by simp; exact ha

        by_cases hreg : regB s n c = true
        · have HX := Lib.hid (doO_row (s := s) (n := n) hn (k := 3) (by omega) ha (.inr hreg))
          have hreg2 : (s.key n != 0 && s.key n == c.key) = true := hreg
          clear ha hreg
          go_upto_region 9 with (first
            | (go_at_call 25; (with_reducible refine (registered_any ((H1.out.below B2.out).below (bl_alloc _ _)) n hn c).mono ?_); rintro e w3 ⟨rfl, hb⟩; rw [hreg2]; have HB3 := Lib.hid (bl_chain B2.out (bl_chain (bl_alloc wr (.cells #[.int .i64 2, .bool false, .func (.func 22) #[.pointer (some ⟨g, 0, none⟩)] #[]] 62)) hb)); have u2 := (((Blk.new wr 62 #[.int .i64 2, .bool false, .func (.func 22) #[.pointer (some ⟨g, 0, none⟩)] #[]])).keep hb).cell 2; simp at u2; clear hb))
          clear a0 a1 a2 a3 c0 c1 c2 c3 t0 t1 t2
          have u2' : ∀ o, (w3.alloc o).cell? ⟨wr.heap.size, 2, none⟩ = some (.func (.func 22) #[.pointer (some ⟨g, 0, none⟩)] #[]) := fun o => (World.cell?_alloc_lt w3 o _ (cell_block_lt u2)).trans u2

          have hz3 := HB3.out.size
          have cc0 := (HBC.out.keep HB3.out).cell 0
          have cc1 := (HBC.out.keep HB3.out).cell 1
          have cc2 := (HBC.out.keep HB3.out).cell 2
          have cc3 := (HBC.out.keep HB3.out).cell 3
          simp at cc0 cc1 cc2 cc3
          have a0 : ∀ o, (w3.alloc o).cell? ⟨w.heap.size, 0, none⟩ = some (.int .i64 c.act) := fun o => (World.cell?_alloc_lt w3 o _ (by show w.heap.size < w3.heap.size; omega)).trans cc0
          have a1 : ∀ o, (w3.alloc o).cell? ⟨w.heap.size, 1, none⟩ = some (.int .u64 c.key) := fun o => (World.cell?_alloc_lt w3 o _ (by show w.heap.size < w3.heap.size; omega)).trans cc1
          have a2 : ∀ o, (w3.alloc o).cell? ⟨w.heap.size, 2, none⟩ = some (.int .u64 c.new) := fun o => (World.cell?_alloc_lt w3 o _ (by show w.heap.size < w3.heap.size; omega)).trans cc2
          have a3 : ∀ o, (w3.alloc o).cell? ⟨w.heap.size, 3, none⟩ = some (.int .i64 c.kind) := fun o => (World.cell?_alloc_lt w3 o _ (by show w.heap.size < w3.heap.size; omega)).trans cc3
          clear cc0 cc1 cc2 cc3
          have H3 := Lib.hid ((H1.out.below HB3.out))
          go_wp2_with (first
            | (go_at_call 22; (with_reducible refine (release_x (H3.out.below (bl_alloc _ _)) (isL_new rfl) (by omega) n hn c hc).mono ?_); rintro e w6 ⟨rfl, hs6, hl6, ht6⟩; have HS6 := Lib.hid (hs6.below (bl_alloc w6 (.cells #[.int .i64 (releaseO s n c zeros16).r.st, .int .i64 (releaseO s n c zeros16).r.key, .int .i64 (releaseO s n c zeros16).r.asc, .int .i64 (releaseO s n c zeros16).r.ascq, .slice none 0 0] 28))); have HL6 := Lib.hid (hl6.below (bl_alloc w6 (.cells #[.int .i64 (releaseO s n c zeros16).r.st, .int .i64 (releaseO s n c zeros16).r.key, .int .i64 (releaseO s n c zeros16).r.asc, .int .i64 (releaseO s n c zeros16).r.ascq, .slice none 0 0] 28))); have HT6 := Lib.hid ht6; have hz6 := ht6.size; clear hs6 hl6 ht6)
            | (refine wpL_loadArr (ty := 66) rfl rfl rfl (loadL HL6.out) Try.underlying66 rfl (by rw [List.size_toArray, List.length_map, HL6.out.len]; exact info16n) ?_))
          clear a0 a1 a2 a3
          have NB := Lib.hid (Blk.new w6 28 #[.int .i64 (releaseO s n c zeros16).r.st, .int .i64 (releaseO s n c zeros16).r.key, .int .i64 (releaseO s n c zeros16).r.asc, .int .i64 (releaseO s n c zeros16).r.ascq, .slice none 0 0])
          have HRB := Lib.hid ((HT6.out.blk ((HBR.out.keep HB3.out).alloc (.cells #[.int .i64 0, .int .i64 0, .int .i64 0, .int .i64 0, .int .i64 0, .int .i64 0, .int .i64 0, .int .i64 0, .int .i64 0, .int .i64 0, .int .i64 0, .int .i64 0, .int .i64 0, .int .i64 0, .int .i64 0, .int .i64 0] 66)) (by show ¬ (w.heap.size + 1 = g ∨ w.heap.size + 1 = w3.heap.size); omega)).alloc (.cells #[.int .i64 (releaseO s n c zeros16).r.st, .int .i64 (releaseO s n c zeros16).r.key, .int .i64 (releaseO s n c zeros16).r.asc, .int .i64 (releaseO s n c zeros16).r.ascq, .slice none 0 0] 28))
          have T7 := Lib.hid ((((Tr.of_below (F := fun b => b = g) (bl_chain B1.out (bl_chain HB3.out (bl_alloc _ _)))).trans HT6.out (fun b hb e => by have := B1.out.size; rcases e with e | e; exact e; omega))).alloc (.cells #[.int .i64 (releaseO s n c zeros16).r.st, .int .i64 (releaseO s n c zeros16).r.key, .int .i64 (releaseO s n c zeros16).r.asc, .int .i64 (releaseO s n c zeros16).r.ascq, .slice none 0 0] 28))
          have hz7 : w6.heap.size < (w6.alloc (.cells #[.int .i64 (releaseO s n c zeros16).r.st, .int .i64 (releaseO s n c zeros16).r.key, .int .i64 (releaseO s n c zeros16).r.asc, .int .i64 (releaseO s n c zeros16).r.ascq, .slice none 0 0] 28)).heap.size := by simp
          generalize w6.alloc (.cells #[.int .i64 (releaseO s n c zeros16).r.st, .int .i64 (releaseO s n c zeros16).r.key, .int .i64 (releaseO s n c zeros16).r.asc, .int .i64 (releaseO s n c zeros16).r.ascq, .slice none 0 0] 28) = W7 at NB HRB HS6 HL6 T7 hz7 ⊢
          have HX2 : Hid (doO s n c = ⟨(releaseO s n c zeros16).s, (releaseO s n c zeros16).r, notesTo (releaseO s n c zeros16).l 16⟩) := HX
          generalize releaseO s n c zeros16 = O at HX2 HS6 HL6 NB ⊢
          have z1 := HSZ.out
          have z3 := B1.out.size
          go_loopw [12, 69] (fun v12 v w2 => ∃ (k : Nat) (A : Option Addr) (c' : Nat), k ≤ 16 ∧ v = .int .i64 k ∧ v12 = .slice A (notesTo O.l k).length c' ∧ w2.ownsRow W7.heap.size 48 2 (.slice A (notesTo O.l k).length c') (notesTo O.l k).length (noteCells (notesTo O.l k)) ∧ Below W7.heap.size W7 w2) (fun _ v _ => 16 - (intOf v).toNat)
          case atStart => exact ⟨0, none, 0, by omega, rfl, rfl, ownsRow_emp _ _ _ _, Below.refl _ _⟩
          case round =>
            obtain ⟨k, A, c', hk, rfl, rfl, ho, hb7⟩ := hrel
            have HO := Lib.hid ho
            have B7 := Lib.hid hb7
            have hk2 := notesTo_length O.l k
            have hz8 := hb7.size
            clear ho hb7
            by_cases hlt : k < 16
            · have hix := fun w => run_index_arr (P := Try.prog) (w := w) Try.underlying66 Try.underlying3 sizeI (O.l.map (Value.int .i64)).toArray k hlt _ (l_at HL6.out hlt)
              by_cases hz : O.l[k]?.getD 0 ≠ 0
              · have b2 : (O.l[k]?.getD 0 != 0) = true := by simp [hz]
                have HE : Hid (notesTo O.l (k + 1) = notesTo O.l k ++ [(k, O.l[k]?.getD 0)]) := Lib.hid (by rw [notesTo, if_pos hz])
                clear hz
                go_wp2_with (first
                  | (at_builtin; refine wpL_append ENote rfl rfl (HO.out.alloc _) rfl (Rd.newN wr 48 #[.int .i64 k, .int .i64 (O.l[k]?.getD 0)]) rfl (by simp) (by intro u hu; simp at hu; rcases hu with rfl | rfl <;> rfl) ((notesTo O.l k).length + 1) (noteCells (notesTo O.l k ++ [(k, O.l[k]?.getD 0)])) rfl (by rw [← noteCells_snoc]) (by simp only [maxLen]; omega) (by omega) (by simp; omega) ?_; intro A9 c9 w9 hc9 ho9 ht9 _; have HO9 := Lib.hid ho9; have HT9 := Lib.hid ht9; clear ho9 ht9))
                go_roundw
                case rel =>
                  refine ⟨k + 1, A9, c9, by omega, by go_num, ?_, ?_, ?_⟩
                  · rw [HE.out, List.length_append]; rfl
                  · rw [HE.out, List.length_append]; exact HO9.out
                  · exact bl_tr (bl_chain B7.out (bl_alloc _ _)) HT9.out (own_ge HO.out)
                case measure => simp [intOf]; omega
              · have b2 : (O.l[k]?.getD 0 != 0) = false := by simpa using hz
                have HE : Hid (notesTo O.l (k + 1) = notesTo O.l k) := Lib.hid (by rw [notesTo, if_neg hz])
                clear hz
                go_wp2_with fail
                go_roundw
                case rel => exact ⟨k + 1, A, c', by omega, by go_num, by rw [HE.out], by rw [HE.out]; exact HO.out, B7.out⟩
                case measure => simp [intOf]; omega
            · have hk16 : k = 16 := by omega
              subst hk16
              have nb := NB.out.keep B7.out
              have v0 := nb.cell 0
              have v1 := nb.cell 1
              have v2 := nb.cell 2
              have v3 := nb.cell 3
              have v4 := nb.cell 4
              simp at v0 v1 v2 v3 v4
              obtain ⟨⟨x0, x1, x2, x3, x4, r0, r1, r2, r3, r4⟩, f0, f1, f2, f3, f4⟩ := rep_cells (HRB.out.keep B7.out) rfl
              clear nb hlt hk
              go_wp2_with fail
              refine bodyPost_ret (v := .tuple #[.agg (Rep.cells O.r), .slice A (notesTo O.l 16).length c']) (by simp [results, Try.results8, go_sem, Rep.cells, r0, r1, r2, r3, r4]) rfl ?_
              refine RetDo.eq HX2.out ?_
              have t5 := Tr.five wr (w.heap.size + 1) (.int .i64 O.r.st) (.int .i64 O.r.key) (.int .i64 O.r.asc) (.int .i64 O.r.ascq) (.slice none 0 0)
              refine ⟨A, c', rfl, (HS6.out.below B7.out).tr t5 (by omega), own_tr (ownsRow_base HO.out T7.out.size) t5 ?_, ?_⟩
              · intro b hb e
                subst e
                exact own_blk HO.out (HRB.out.keep B7.out) (by decide) hb
              · exact ((T7.out.trans (Tr.of_below (F := NoB) B7.out) (fun _ _ h => h.elim)).trans t5 (fun b hb e => by omega))

        · have hreg' : regB s n c = false := by simpa using hreg
          have HX := Lib.hid (doO_conf (s := s) (n := n) hn (k := 3) (by omega) ha rfl hreg')
          have hreg2 : (s.key n != 0 && s.key n == c.key) = false := hreg'
          clear ha hreg hreg'
          go_wp2_with (first
            | (go_at_call 25; (with_reducible refine (registered_any ((H1.out.below B2.out).below (bl_alloc _ _)) n hn c).mono ?_); rintro e w3 ⟨rfl, hb⟩; rw [hreg2]; have HB3 := Lib.hid (bl_chain B2.out (bl_chain (bl_alloc wr (.cells #[.int .i64 2, .bool false, .func (.func 22) #[.pointer (some ⟨g, 0, none⟩)] #[]] 62)) hb)); clear hb)
            | (go_at_call 26; (with_reducible refine (conflict_any _).mono ?_); rintro e w5 ⟨rfl, hb⟩; have HB5 := Lib.hid (bl_chain HB3.out hb); (obtain ⟨⟨x0, x1, x2, x3, x4, r0, r1, r2, r3, r4⟩, f0, f1, f2, f3, f4⟩ := rep_cells (HBR.out.keep (bl_chain HB3.out hb)) rfl); clear hb))
          refine bodyPost_ret (v := .tuple #[.agg (Rep.cells conflictR), .slice none 0 0]) (by simp [results, Try.results8, go_sem, Rep.cells, conflictR, r0, r1, r2, r3, r4]) rfl ?_
          refine RetDo.eq HX.out ?_
          have t5 := Tr.five w5 (w.heap.size + 1) (.int .i64 24) (.int .i64 0) (.int .i64 0) (.int .i64 0) (.slice none 0 0)
          exact ⟨none, 0, rfl, (H1.out.below HB5.out).tr t5 (by omega), ownsRow_emp _ _ _ _, (Tr.of_below (F := fun b => b = g) (bl_chain B1.out HB5.out)).trans t5 (fun b hb e => by omega)⟩

      · have b1 : ((2 : Int) != c.act) = true := by simp; exact ha
        have HNO2 : Hid (∀ j, j < 4 → rowA j ≠ c.act) := Lib.hid (fun j hj => by
          rcases Nat.lt_or_ge j 3 with h | h
          · exact HNO.out j h
          · obtain rfl : j = 3 := by omega
            exact ha)
        clear ha
        go_wp2_with fail
        go_roundw
        case rel => exact ⟨4, by omega, by go_num, HNO2, bl_chain B2.out (bl_alloc _ _)⟩
        case measure => simp [intOf]

    · have t0 := (HBT.out.keep B2.out).cell 12
      have t1 := (HBT.out.keep B2.out).cell 13
      have t2 := (HBT.out.keep B2.out).cell 14
      rw [HTC.out] at t0 t1 t2
      simp at t0 t1 t2
      by_cases ha : rowA 4 = c.act
      · have b1 : ((3 : Int) != c.act) = false := by simp; exact ha

        by_cases hreg : regB s n c = true
        · have HX := Lib.hid (doO_row (s := s) (n := n) hn (k := 4) (by omega) ha (.inr hreg))
          have hreg2 : (s.key n != 0 && s.key n == c.key) = true := hreg
          clear ha hreg
          go_upto_region 9 with (first
            | (go_at_call 25; (with_reducible refine (registered_any ((H1.out.below B2.out).below (bl_alloc _ _)) n hn c).mono ?_); rintro e w3 ⟨rfl, hb⟩; rw [hreg2]; have HB3 := Lib.hid (bl_chain B2.out (bl_chain (bl_alloc wr (.cells #[.int .i64 3, .bool false, .func (.func 23) #[.pointer (some ⟨g, 0, none⟩)] #[]] 62)) hb)); have u2 := (((Blk.new wr 62 #[.int .i64 3, .bool false, .func (.func 23) #[.pointer (some ⟨g, 0, none⟩)] #[]])).keep hb).cell 2; simp at u2; clear hb))
          clear a0 a1 a2 a3 c0 c1 c2 c3 t0 t1 t2
          have u2' : ∀ o, (w3.alloc o).cell? ⟨wr.heap.size, 2, none⟩ = some (.func (.func 23) #[.pointer (some ⟨g, 0, none⟩)] #[]) := fun o => (World.cell?_alloc_lt w3 o _ (cell_block_lt u2)).trans u2

          have hz3 := HB3.out.size
          have cc0 := (HBC.out.keep HB3.out).cell 0
          have cc1 := (HBC.out.keep HB3.out).cell 1
          have cc2 := (HBC.out.keep HB3.out).cell 2
          have cc3 := (HBC.out.keep HB3.out).cell 3
          simp at cc0 cc1 cc2 cc3
          have a0 : ∀ o, (w3.alloc o).cell? ⟨w.heap.size, 0, none⟩ = some (.int .i64 c.act) := fun o => (World.cell?_alloc_lt w3 o _ (by show w.heap.size < w3.heap.size; omega)).trans cc0
          have a1 : ∀ o, (w3.alloc o).cell? ⟨w.heap.size, 1, none⟩ = some (.int .u64 c.key) := fun o => (World.cell?_alloc_lt w3 o _ (by show w.heap.size < w3.heap.size; omega)).trans cc1
          have a2 : ∀ o, (w3.alloc o).cell? ⟨w.heap.size, 2, none⟩ = some (.int .u64 c.new) := fun o => (World.cell?_alloc_lt w3 o _ (by show w.heap.size < w3.heap.size; omega)).trans cc2
          have a3 : ∀ o, (w3.alloc o).cell? ⟨w.heap.size, 3, none⟩ = some (.int .i64 c.kind) := fun o => (World.cell?_alloc_lt w3 o _ (by show w.heap.size < w3.heap.size; omega)).trans cc3
          clear cc0 cc1 cc2 cc3
          have H3 := Lib.hid ((H1.out.below HB3.out))
          go_wp2_with (first
            | (go_at_call 23; (with_reducible refine (clear_x (H3.out.below (bl_alloc _ _)) (isL_new rfl) (by omega) n hn c hc).mono ?_); rintro e w6 ⟨rfl, hs6, hl6, ht6⟩; have HS6 := Lib.hid (hs6.below (bl_alloc w6 (.cells #[.int .i64 (clearO s n c zeros16).r.st, .int .i64 (clearO s n c zeros16).r.key, .int .i64 (clearO s n c zeros16).r.asc, .int .i64 (clearO s n c zeros16).r.ascq, .slice none 0 0] 28))); have HL6 := Lib.hid (hl6.below (bl_alloc w6 (.cells #[.int .i64 (clearO s n c zeros16).r.st, .int .i64 (clearO s n c zeros16).r.key, .int .i64 (clearO s n c zeros16).r.asc, .int .i64 (clearO s n c zeros16).r.ascq, .slice none 0 0] 28))); have HT6 := Lib.hid ht6; have hz6 := ht6.size; clear hs6 hl6 ht6)
            | (refine wpL_loadArr (ty := 66) rfl rfl rfl (loadL HL6.out) Try.underlying66 rfl (by rw [List.size_toArray, List.length_map, HL6.out.len]; exact info16n) ?_))
          clear a0 a1 a2 a3
          have NB := Lib.hid (Blk.new w6 28 #[.int .i64 (clearO s n c zeros16).r.st, .int .i64 (clearO s n c zeros16).r.key, .int .i64 (clearO s n c zeros16).r.asc, .int .i64 (clearO s n c zeros16).r.ascq, .slice none 0 0])
          have HRB := Lib.hid ((HT6.out.blk ((HBR.out.keep HB3.out).alloc (.cells #[.int .i64 0, .int .i64 0, .int .i64 0, .int .i64 0, .int .i64 0, .int .i64 0, .int .i64 0, .int .i64 0, .int .i64 0, .int .i64 0, .int .i64 0, .int .i64 0, .int .i64 0, .int .i64 0, .int .i64 0, .int .i64 0] 66)) (by show ¬ (w.heap.size + 1 = g ∨ w.heap.size + 1 = w3.heap.size); omega)).alloc (.cells #[.int .i64 (clearO s n c zeros16).r.st, .int .i64 (clearO s n c zeros16).r.key, .int .i64 (clearO s n c zeros16).r.asc, .int .i64 (clearO s n c zeros16).r.ascq, .slice none 0 0] 28))
          have T7 := Lib.hid ((((Tr.of_below (F := fun b => b = g) (bl_chain B1.out (bl_chain HB3.out (bl_alloc _ _)))).trans HT6.out (fun b hb e => by have := B1.out.size; rcases e with e | e; exact e; omega))).alloc (.cells #[.int .i64 (clearO s n c zeros16).r.st, .int .i64 (clearO s n c zeros16).r.key, .int .i64 (clearO s n c zeros16).r.asc, .int .i64 (clearO s n c zeros16).r.ascq, .slice none 0 0] 28))
          have hz7 : w6.heap.size < (w6.alloc (.cells #[.int .i64 (clearO s n c zeros16).r.st, .int .i64 (clearO s n c zeros16).r.key, .int .i64 (clearO s n c zeros16).r.asc, .int .i64 (clearO s n c zeros16).r.ascq, .slice none 0 0] 28)).heap.size := by simp
          generalize w6.alloc (.cells #[.int .i64 (clearO s n c zeros16).r.st, .int .i64 (clearO s n c zeros16).r.key, .int .i64 (clearO s n c zeros16).r.asc, .int .i64 (clearO s n c zeros16).r.ascq, .slice none 0 0] 28) = W7 at NB HRB HS6 HL6 T7 hz7 ⊢
          have HX2 : Hid (doO s n c = ⟨(clearO s n c zeros16).s, (clearO s n c zeros16).r, notesTo (clearO s n c zeros16).l 16⟩) := HX
          generalize clearO s n c zeros16 = O at HX2 HS6 HL6 NB ⊢
          have z1 := HSZ.out
          have z3 := B1.out.size
          go_loopw [12, 69] (fun v12 v w2 => ∃ (k : Nat) (A : Option Addr) (c' : Nat), k ≤ 16 ∧ v = .int .i64 k ∧ v12 = .slice A (notesTo O.l k).length c' ∧ w2.ownsRow W7.heap.size 48 2 (.slice A (notesTo O.l k).length c') (notesTo O.l k).length (noteCells (notesTo O.l k)) ∧ Below W7.heap.size W7 w2) (fun _ v _ => 16 - (intOf v).toNat)
          case atStart => exact ⟨0, none, 0, by omega, rfl, rfl, ownsRow_emp _ _ _ _, Below.refl _ _⟩
          case round =>
            obtain ⟨k, A, c', hk, rfl, rfl, ho, hb7⟩ := hrel
            have HO := Lib.hid ho
            have B7 := Lib.hid hb7
            have hk2 := notesTo_length O.l k
            have hz8 := hb7.size
            clear ho hb7
            by_cases hlt : k < 16
            · have hix := fun w => run_index_arr (P := Try.prog) (w := w) Try.underlying66 Try.underlying3 sizeI (O.l.map (Value.int .i64)).toArray k hlt _ (l_at HL6.out hlt)
              by_cases hz : O.l[k]?.getD 0 ≠ 0
              · have b2 : (O.l[k]?.getD 0 != 0) = true := by simp [hz]
                have HE : Hid (notesTo O.l (k + 1) = notesTo O.l k ++ [(k, O.l[k]?.getD 0)]) := Lib.hid (by rw [notesTo, if_pos hz])
                clear hz
                go_wp2_with (first
                  | (at_builtin; refine wpL_append ENote rfl rfl (HO.out.alloc _) rfl (Rd.newN wr 48 #[.int .i64 k, .int .i64 (O.l[k]?.getD 0)]) rfl (by simp) (by intro u hu; simp at hu; rcases hu with rfl | rfl <;> rfl) ((notesTo O.l k).length + 1) (noteCells (notesTo O.l k ++ [(k, O.l[k]?.getD 0)])) rfl (by rw [← noteCells_snoc]) (by simp only [maxLen]; omega) (by omega) (by simp; omega) ?_; intro A9 c9 w9 hc9 ho9 ht9 _; have HO9 := Lib.hid ho9; have HT9 := Lib.hid ht9; clear ho9 ht9))
                go_roundw
                case rel =>
                  refine ⟨k + 1, A9, c9, by omega, by go_num, ?_, ?_, ?_⟩
                  · rw [HE.out, List.length_append]; rfl
                  · rw [HE.out, List.length_append]; exact HO9.out
                  · exact bl_tr (bl_chain B7.out (bl_alloc _ _)) HT9.out (own_ge HO.out)
                case measure => simp [intOf]; omega
              · have b2 : (O.l[k]?.getD 0 != 0) = false := by simpa using hz
                have HE : Hid (notesTo O.l (k + 1) = notesTo O.l k) := Lib.hid (by rw [notesTo, if_neg hz])
                clear hz
                go_wp2_with fail
                go_roundw
                case rel => exact ⟨k + 1, A, c', by omega, by go_num, by rw [HE.out], by rw [HE.out]; exact HO.out, B7.out⟩
                case measure => simp [intOf]; omega
            · have hk16 : k = 16 := by omega
              subst hk16
              have nb := NB.out.keep B7.out
              have v0 := nb.cell 0
              have v1 := nb.cell 1
              have v2 := nb.cell 2
              have v3 := nb.cell 3
              have v4 := nb.cell 4
              simp at v0 v1 v2 v3 v4
              obtain ⟨⟨x0, x1, x2, x3, x4, r0, r1, r2, r3, r4⟩, f0, f1, f2, f3, f4⟩ := rep_cells (HRB.out.keep B7.out) rfl
              clear nb hlt hk
              go_wp2_with fail
              refine bodyPost_ret (v := .tuple #[.agg (Rep.cells O.r), .slice A (notesTo O.l 16).length c']) (by simp [results, Try.results8, go_sem, Rep.cells, r0, r1, r2, r3, r4]) rfl ?_
              refine RetDo.eq HX2.out ?_
              have t5 := Tr.five wr (w.heap.size + 1) (.int .i64 O.r.st) (.int .i64 O.r.key) (.int .i64 O.r.asc) (.int .i64 O.r.ascq) (.slice none 0 0)
              refine ⟨A, c', rfl, (HS6.out.below B7.out).tr t5 (by omega), own_tr (ownsRow_base HO.out T7.out.size) t5 ?_, ?_⟩
              · intro b hb e
                subst e
                exact own_blk HO.out (HRB.out.keep B7.out) (by decide) hb
              · exact ((T7.out.trans (Tr.of_below (F := NoB) B7.out) (fun _ _ h => h.elim)).trans t5 (fun b hb e => by omega))

        · have hreg' : regB s n c = false := by simpa using hreg
          have HX := Lib.hid (doO_conf (s := s) (n := n) hn (k := 4) (by omega) ha rfl hreg')
          have hreg2 : (s.key n != 0 && s.key n == c.key) = false := hreg'
          clear ha hreg hreg'
          go_wp2_with (first
            | (go_at_call 25; (with_reducible refine (registered_any ((H1.out.below B2.out).below (bl_alloc _ _)) n hn c).mono ?_); rintro e w3 ⟨rfl, hb⟩; rw [hreg2]; have HB3 := Lib.hid (bl_chain B2.out (bl_chain (bl_alloc wr (.cells #[.int .i64 3, .bool false, .func (.func 23) #[.pointer (some ⟨g, 0, none⟩)] #[]] 62)) hb)); clear hb)
            | (go_at_call 26; (with_reducible refine (conflict_any _).mono ?_); rintro e w5 ⟨rfl, hb⟩; have HB5 := Lib.hid (bl_chain HB3.out hb); (obtain ⟨⟨x0, x1, x2, x3, x4, r0, r1, r2, r3, r4⟩, f0, f1, f2, f3, f4⟩ := rep_cells (HBR.out.keep (bl_chain HB3.out hb)) rfl); clear hb))
          refine bodyPost_ret (v := .tuple #[.agg (Rep.cells conflictR), .slice none 0 0]) (by simp [results, Try.results8, go_sem, Rep.cells, conflictR, r0, r1, r2, r3, r4]) rfl ?_
          refine RetDo.eq HX.out ?_
          have t5 := Tr.five w5 (w.heap.size + 1) (.int .i64 24) (.int .i64 0) (.int .i64 0) (.int .i64 0) (.slice none 0 0)
          exact ⟨none, 0, rfl, (H1.out.below HB5.out).tr t5 (by omega), ownsRow_emp _ _ _ _, (Tr.of_below (F := fun b => b = g) (bl_chain B1.out HB5.out)).trans t5 (fun b hb e => by omega)⟩

      · have b1 : ((3 : Int) != c.act) = true := by simp; exact ha
        have HNO2 : Hid (∀ j, j < 5 → rowA j ≠ c.act) := Lib.hid (fun j hj => by
          rcases Nat.lt_or_ge j 4 with h | h
          · exact HNO.out j h
          · obtain rfl : j = 4 := by omega
            exact ha)
        clear ha
        go_wp2_with fail
        go_roundw
        case rel => exact ⟨5, by omega, by go_num, HNO2, bl_chain B2.out (bl_alloc _ _)⟩
        case measure => simp [intOf]

    · have t0 := (HBT.out.keep B2.out).cell 15
      have t1 := (HBT.out.keep B2.out).cell 16
      have t2 := (HBT.out.keep B2.out).cell 17
      rw [HTC.out] at t0 t1 t2
      simp at t0 t1 t2
      by_cases ha : rowA 5 = c.act
      · have b1 : ((4 : Int) != c.act) = false := by simp; exact ha

        by_cases hreg : regB s n c = true
        · have HX := Lib.hid (doO_row (s := s) (n := n) hn (k := 5) (by omega) ha (.inr hreg))
          have hreg2 : (s.key n != 0 && s.key n == c.key) = true := hreg
          clear ha hreg
          go_upto_region 9 with (first
            | (go_at_call 25; (with_reducible refine (registered_any ((H1.out.below B2.out).below (bl_alloc _ _)) n hn c).mono ?_); rintro e w3 ⟨rfl, hb⟩; rw [hreg2]; have HB3 := Lib.hid (bl_chain B2.out (bl_chain (bl_alloc wr (.cells #[.int .i64 4, .bool false, .func (.func 24) #[.pointer (some ⟨g, 0, none⟩)] #[]] 62)) hb)); have u2 := (((Blk.new wr 62 #[.int .i64 4, .bool false, .func (.func 24) #[.pointer (some ⟨g, 0, none⟩)] #[]])).keep hb).cell 2; simp at u2; clear hb))
          clear a0 a1 a2 a3 c0 c1 c2 c3 t0 t1 t2
          have u2' : ∀ o, (w3.alloc o).cell? ⟨wr.heap.size, 2, none⟩ = some (.func (.func 24) #[.pointer (some ⟨g, 0, none⟩)] #[]) := fun o => (World.cell?_alloc_lt w3 o _ (cell_block_lt u2)).trans u2

          have hz3 := HB3.out.size
          have cc0 := (HBC.out.keep HB3.out).cell 0
          have cc1 := (HBC.out.keep HB3.out).cell 1
          have cc2 := (HBC.out.keep HB3.out).cell 2
          have cc3 := (HBC.out.keep HB3.out).cell 3
          simp at cc0 cc1 cc2 cc3
          have a0 : ∀ o, (w3.alloc o).cell? ⟨w.heap.size, 0, none⟩ = some (.int .i64 c.act) := fun o => (World.cell?_alloc_lt w3 o _ (by show w.heap.size < w3.heap.size; omega)).trans cc0
          have a1 : ∀ o, (w3.alloc o).cell? ⟨w.heap.size, 1, none⟩ = some (.int .u64 c.key) := fun o => (World.cell?_alloc_lt w3 o _ (by show w.heap.size < w3.heap.size; omega)).trans cc1
          have a2 : ∀ o, (w3.alloc o).cell? ⟨w.heap.size, 2, none⟩ = some (.int .u64 c.new) := fun o => (World.cell?_alloc_lt w3 o _ (by show w.heap.size < w3.heap.size; omega)).trans cc2
          have a3 : ∀ o, (w3.alloc o).cell? ⟨w.heap.size, 3, none⟩ = some (.int .i64 c.kind) := fun o => (World.cell?_alloc_lt w3 o _ (by show w.heap.size < w3.heap.size; omega)).trans cc3
          clear cc0 cc1 cc2 cc3
          have H3 := Lib.hid ((H1.out.below HB3.out))
          go_wp2_with (first
            | (go_at_call 24; (with_reducible refine (preempt_x (H3.out.below (bl_alloc _ _)) (isL_new rfl) (by omega) n hn c hc).mono ?_); rintro e w6 ⟨rfl, hs6, hl6, ht6⟩; have HS6 := Lib.hid (hs6.below (bl_alloc w6 (.cells #[.int .i64 (preemptO s n c zeros16).r.st, .int .i64 (preemptO s n c zeros16).r.key, .int .i64 (preemptO s n c zeros16).r.asc, .int .i64 (preemptO s n c zeros16).r.ascq, .slice none 0 0] 28))); have HL6 := Lib.hid (hl6.below (bl_alloc w6 (.cells #[.int .i64 (preemptO s n c zeros16).r.st, .int .i64 (preemptO s n c zeros16).r.key, .int .i64 (preemptO s n c zeros16).r.asc, .int .i64 (preemptO s n c zeros16).r.ascq, .slice none 0 0] 28))); have HT6 := Lib.hid ht6; have hz6 := ht6.size; clear hs6 hl6 ht6)
            | (refine wpL_loadArr (ty := 66) rfl rfl rfl (loadL HL6.out) Try.underlying66 rfl (by rw [List.size_toArray, List.length_map, HL6.out.len]; exact info16n) ?_))
          clear a0 a1 a2 a3
          have NB := Lib.hid (Blk.new w6 28 #[.int .i64 (preemptO s n c zeros16).r.st, .int .i64 (preemptO s n c zeros16).r.key, .int .i64 (preemptO s n c zeros16).r.asc, .int .i64 (preemptO s n c zeros16).r.ascq, .slice none 0 0])
          have HRB := Lib.hid ((HT6.out.blk ((HBR.out.keep HB3.out).alloc (.cells #[.int .i64 0, .int .i64 0, .int .i64 0, .int .i64 0, .int .i64 0, .int .i64 0, .int .i64 0, .int .i64 0, .int .i64 0, .int .i64 0, .int .i64 0, .int .i64 0, .int .i64 0, .int .i64 0, .int .i64 0, .int .i64 0] 66)) (by show ¬ (w.heap.size + 1 = g ∨ w.heap.size + 1 = w3.heap.size); omega)).alloc (.cells #[.int .i64 (preemptO s n c zeros16).r.st, .int .i64 (preemptO s n c zeros16).r.key, .int .i64 (preemptO s n c zeros16).r.asc, .int .i64 (preemptO s n c zeros16).r.ascq, .slice none 0 0] 28))
          have T7 := Lib.hid ((((Tr.of_below (F := fun b => b = g) (bl_chain B1.out (bl_chain HB3.out (bl_alloc _ _)))).trans HT6.out (fun b hb e => by have := B1.out.size; rcases e with e | e; exact e; omega))).alloc (.cells #[.int .i64 (preemptO s n c zeros16).r.st, .int .i64 (preemptO s n c zeros16).r.key, .int .i64 (preemptO s n c zeros16).r.asc, .int .i64 (preemptO s n c zeros16).r.ascq, .slice none 0 0] 28))
          have hz7 : w6.heap.size < (w6.alloc (.cells #[.int .i64 (preemptO s n c zeros16).r.st, .int .i64 (preemptO s n c zeros16).r.key, .int .i64 (preemptO s n c zeros16).r.asc, .int .i64 (preemptO s n c zeros16).r.ascq, .slice none 0 0] 28)).heap.size := by simp
          generalize w6.alloc (.cells #[.int .i64 (preemptO s n c zeros16).r.st, .int .i64 (preemptO s n c zeros16).r.key, .int .i64 (preemptO s n c zeros16).r.asc, .int .i64 (preemptO s n c zeros16).r.ascq, .slice none 0 0] 28) = W7 at NB HRB HS6 HL6 T7 hz7 ⊢
          have HX2 : Hid (doO s n c = ⟨(preemptO s n c zeros16).s, (preemptO s n c zeros16).r, notesTo (preemptO s n c zeros16).l 16⟩) := HX
          generalize preemptO s n c zeros16 = O at HX2 HS6 HL6 NB ⊢
          have z1 := HSZ.out
          have z3 := B1.out.size
          go_loopw [12, 69] (fun v12 v w2 => ∃ (k : Nat) (A : Option Addr) (c' : Nat), k ≤ 16 ∧ v = .int .i64 k ∧ v12 = .slice A (notesTo O.l k).length c' ∧ w2.ownsRow W7.heap.size 48 2 (.slice A (notesTo O.l k).length c') (notesTo O.l k).length (noteCells (notesTo O.l k)) ∧ Below W7.heap.size W7 w2) (fun _ v _ => 16 - (intOf v).toNat)
          case atStart => exact ⟨0, none, 0, by omega, rfl, rfl, ownsRow_emp _ _ _ _, Below.refl _ _⟩
          case round =>
            obtain ⟨k, A, c', hk, rfl, rfl, ho, hb7⟩ := hrel
            have HO := Lib.hid ho
            have B7 := Lib.hid hb7
            have hk2 := notesTo_length O.l k
            have hz8 := hb7.size
            clear ho hb7
            by_cases hlt : k < 16
            · have hix := fun w => run_index_arr (P := Try.prog) (w := w) Try.underlying66 Try.underlying3 sizeI (O.l.map (Value.int .i64)).toArray k hlt _ (l_at HL6.out hlt)
              by_cases hz : O.l[k]?.getD 0 ≠ 0
              · have b2 : (O.l[k]?.getD 0 != 0) = true := by simp [hz]
                have HE : Hid (notesTo O.l (k + 1) = notesTo O.l k ++ [(k, O.l[k]?.getD 0)]) := Lib.hid (by rw [notesTo, if_pos hz])
                clear hz
                go_wp2_with (first
                  | (at_builtin; refine wpL_append ENote rfl rfl (HO.out.alloc _) rfl (Rd.newN wr 48 #[.int .i64 k, .int .i64 (O.l[k]?.getD 0)]) rfl (by simp) (by intro u hu; simp at hu; rcases hu with rfl | rfl <;> rfl) ((notesTo O.l k).length + 1) (noteCells (notesTo O.l k ++ [(k, O.l[k]?.getD 0)])) rfl (by rw [← noteCells_snoc]) (by simp only [maxLen]; omega) (by omega) (by simp; omega) ?_; intro A9 c9 w9 hc9 ho9 ht9 _; have HO9 := Lib.hid ho9; have HT9 := Lib.hid ht9; clear ho9 ht9))
                go_roundw
                case rel =>
                  refine ⟨k + 1, A9, c9, by omega, by go_num, ?_, ?_, ?_⟩
                  · rw [HE.out, List.length_append]; rfl
                  · rw [HE.out, List.length_append]; exact HO9.out
                  · exact bl_tr (bl_chain B7.out (bl_alloc _ _)) HT9.out (own_ge HO.out)
                case measure => simp [intOf]; omega
              · have b2 : (O.l[k]?.getD 0 != 0) = false := by simpa using hz
                have HE : Hid (notesTo O.l (k + 1) = notesTo O.l k) := Lib.hid (by rw [notesTo, if_neg hz])
                clear hz
                go_wp2_with fail
                go_roundw
                case rel => exact ⟨k + 1, A, c', by omega, by go_num, by rw [HE.out], by rw [HE.out]; exact HO.out, B7.out⟩
                case measure => simp [intOf]; omega
            · have hk16 : k = 16 := by omega
              subst hk16
              have nb := NB.out.keep B7.out
              have v0 := nb.cell 0
              have v1 := nb.cell 1
              have v2 := nb.cell 2
              have v3 := nb.cell 3
              have v4 := nb.cell 4
              simp at v0 v1 v2 v3 v4
              obtain ⟨⟨x0, x1, x2, x3, x4, r0, r1, r2, r3, r4⟩, f0, f1, f2, f3, f4⟩ := rep_cells (HRB.out.keep B7.out) rfl
              clear nb hlt hk
              go_wp2_with fail
              refine bodyPost_ret (v := .tuple #[.agg (Rep.cells O.r), .slice A (notesTo O.l 16).length c']) (by simp [results, Try.results8, go_sem, Rep.cells, r0, r1, r2, r3, r4]) rfl ?_
              refine RetDo.eq HX2.out ?_
              have t5 := Tr.five wr (w.heap.size + 1) (.int .i64 O.r.st) (.int .i64 O.r.key) (.int .i64 O.r.asc) (.int .i64 O.r.ascq) (.slice none 0 0)
              refine ⟨A, c', rfl, (HS6.out.below B7.out).tr t5 (by omega), own_tr (ownsRow_base HO.out T7.out.size) t5 ?_, ?_⟩
              · intro b hb e
                subst e
                exact own_blk HO.out (HRB.out.keep B7.out) (by decide) hb
              · exact ((T7.out.trans (Tr.of_below (F := NoB) B7.out) (fun _ _ h => h.elim)).trans t5 (fun b hb e => by omega))

        · have hreg' : regB s n c = false := by simpa using hreg
          have HX := Lib.hid (doO_conf (s := s) (n := n) hn (k := 5) (by omega) ha rfl hreg')
          have hreg2 : (s.key n != 0 && s.key n == c.key) = false := hreg'
          clear ha hreg hreg'
          go_wp2_with (first
            | (go_at_call 25; (with_reducible refine (registered_any ((H1.out.below B2.out).below (bl_alloc _ _)) n hn c).mono ?_); rintro e w3 ⟨rfl, hb⟩; rw [hreg2]; have HB3 := Lib.hid (bl_chain B2.out (bl_chain (bl_alloc wr (.cells #[.int .i64 4, .bool false, .func (.func 24) #[.pointer (some ⟨g, 0, none⟩)] #[]] 62)) hb)); clear hb)
            | (go_at_call 26; (with_reducible refine (conflict_any _).mono ?_); rintro e w5 ⟨rfl, hb⟩; have HB5 := Lib.hid (bl_chain HB3.out hb); (obtain ⟨⟨x0, x1, x2, x3, x4, r0, r1, r2, r3, r4⟩, f0, f1, f2, f3, f4⟩ := rep_cells (HBR.out.keep (bl_chain HB3.out hb)) rfl); clear hb))
          refine bodyPost_ret (v := .tuple #[.agg (Rep.cells conflictR), .slice none 0 0]) (by simp [results, Try.results8, go_sem, Rep.cells, conflictR, r0, r1, r2, r3, r4]) rfl ?_
          refine RetDo.eq HX.out ?_
          have t5 := Tr.five w5 (w.heap.size + 1) (.int .i64 24) (.int .i64 0) (.int .i64 0) (.int .i64 0) (.slice none 0 0)
          exact ⟨none, 0, rfl, (H1.out.below HB5.out).tr t5 (by omega), ownsRow_emp _ _ _ _, (Tr.of_below (F := fun b => b = g) (bl_chain B1.out HB5.out)).trans t5 (fun b hb e => by omega)⟩

      · have b1 : ((4 : Int) != c.act) = true := by simp; exact ha
        have HNO2 : Hid (∀ j, j < 6 → rowA j ≠ c.act) := Lib.hid (fun j hj => by
          rcases Nat.lt_or_ge j 5 with h | h
          · exact HNO.out j h
          · obtain rfl : j = 5 := by omega
            exact ha)
        clear ha
        go_wp2_with fail
        go_roundw
        case rel => exact ⟨6, by omega, by go_num, HNO2, bl_chain B2.out (bl_alloc _ _)⟩
        case measure => simp [intOf]

    · have HX := Lib.hid (doO_none (s := s) (n := n) (c := c) hn HNO.out)
      go_wp2_with (first
        | (go_at_call 19; (with_reducible refine (wrong_any _).mono ?_); rintro e w5 ⟨rfl, hb⟩; have HB5 := Lib.hid (bl_chain B2.out hb); (obtain ⟨⟨x0, x1, x2, x3, x4, r0, r1, r2, r3, r4⟩, f0, f1, f2, f3, f4⟩ := rep_cells (HBR.out.keep (bl_chain B2.out hb)) rfl); clear hb))
      refine bodyPost_ret (v := .tuple #[.agg (Rep.cells wrongR), .slice none 0 0]) (by simp [results, Try.results8, go_sem, Rep.cells, wrongR, r0, r1, r2, r3, r4]) rfl ?_
      refine RetDo.eq HX.out ?_
      have t5 := Tr.five w5 (w.heap.size + 1) (.int .i64 2) (.int .i64 5) (.int .i64 36) (.int .i64 0) (.slice none 0 0)
      exact ⟨none, 0, rfl, (H1.out.below HB5.out).tr t5 (by omega), ownsRow_emp _ _ _ _, (Tr.of_below (F := fun b => b = g) (bl_chain B1.out HB5.out)).trans t5 (fun b hb e => by omega)⟩
end
end Go.Proofs.Ytlkdglhbncnkhaa

