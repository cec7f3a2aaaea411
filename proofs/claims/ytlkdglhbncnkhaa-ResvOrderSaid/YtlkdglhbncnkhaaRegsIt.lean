/- State.Regs: the iterator over all who have registered: what it hands back, and its contract. -/
import Derived.Test.YtlkdglhbncnkhaaNumK
import Derived.Test.YtlkdglhbncnkhaaResv1
import Derived.RangeFuncOne
import Derived.Shelf.Abstract
import Derived.Shelf.RegionOpen
import Derived.OwnWalkIn
import Derived.TacticsInMore
import Derived.LoopNIn
import Derived.LoopIn
namespace Go.Proofs.Ytlkdglhbncnkhaa
set_option linter.unusedVariables false
open Go.RowKit Go.Shelf

attribute [local go_sem] Oper.semAt_some

theorem wpListIn_loadArr {F : Fence} {n : Nat} {P : Program} {w : World} {ops : Array Oper} {rest : List Oper} {o : Oper} {a : Act} {Q : Exit → Act → World → Prop} {ty : TypeId} {x : Operand} (hgd : o.guard = none) (ho : o.op = .load ty x)
    {ad : Addr} (hx : a.eval x = .pointer (some ad)) {cs : Array Value} {d : TypeDesc} (hc : ∀ j v, cs[j]? = some v → w.cell? (ad.add j) = some v)
    (hu : P.underlying ty = some d) (hd : (match d with | .struct _ | .array _ _ => true | _ => false) = true) (hi : (P.info? ty).map (·.size) = some cs.size)
    (h : wpListIn F n P ops Q rest (a.put o.dst (.agg cs)) w) : wpListIn F n P ops Q (o :: rest) a w := by
  refine wpListIn_plain hgd fun K hK => ?_
  unfold Oper.wpIn
  refine ⟨?_, ?_⟩
  · simp [Oper.about, ho]
  · rw [Oper.semAt_plain F _ _ (by rw [ho]; intro c hc'; cases hc')]
    unfold execOp
    simp only [ho, hx, Instr.loadAt, Instr.sureAddr, Sem.run_bind, Sem.run_pure, Result.andThen_ok, run_loadVar_at ad ty cs d hc hu hd hi]
    exact hK _ _ h

/-- Who of the first k has a key. -/
def nz (zs : List Int) : Nat → List (Fin 16)
  | 0 => []
  | k + 1 => if h : k < 16 then (if zs[k]?.getD 0 = 0 then nz zs k else nz zs k ++ [⟨k, h⟩]) else nz zs k
theorem nz_yes {zs : List Int} {k : Nat} (h : k < 16) (hz : zs[k]?.getD 0 ≠ 0) : nz zs (k + 1) = nz zs k ++ [⟨k, h⟩] := by simp [nz, h, hz]
theorem nz_no {zs : List Int} {k : Nat} (h : k < 16) (hz : zs[k]?.getD 0 = 0) : nz zs (k + 1) = nz zs k := by simp [nz, h, hz]
theorem nz_length (zs : List Int) : ∀ k, (nz zs k).length ≤ k
  | 0 => by simp [nz]
  | k + 1 => by
    have := nz_length zs k
    unfold nz
    split
    · split
      · omega
      · simp; omega
    · omega
def encR (zs : List Int) (x : Fin 16) : Array Value := #[.int .i64 (x.val : Int), .int .u64 (zs[x.val]?.getD 0)]
def u64a (zs : List Int) : Array Value := (zs.map (Value.int .u64)).toArray
theorem u64a_size {zs : List Int} (hz : zs.length = 16) : (u64a zs).size = 16 := by simp [u64a, hz]

set_option maxRecDepth 100000 in
set_option maxHeartbeats 2000000 in
theorem regs1_in (n l Bk n₀ : Nat) (zs : List Int) (hz : zs.length = 16) (J Jx : List (Fin 16) → World → Prop)
    (hY : ∀ pre x W, J pre W → pre.length < 16 → YieldAt Fence.wide (n - 1) Try.prog l (encR zs x) W fun e W' =>
      (e = .returned (.bool true) ∧ J (pre ++ [x]) W' ∧ Below n₀ W W') ∨ (e = .returned (.bool false) ∧ Jx (pre ++ [x]) W'))
    (W : World) (hB : ∀ j v, (u64a zs)[j]? = some v → W.cell? ((⟨Bk, 0, none⟩ : Addr).add j) = some v) (h0 : J [] W) :
    CallsIn Fence.wide n Try.prog 40 #[.func (.yield l) #[] #[], .pointer (some ⟨Bk, 0, none⟩)] W fun e W' => (∃ v, e = .returned v) ∧
      ((∃ ys, ys = nz zs 16 ∧ J ys W') ∨ (∃ pre, True ∧ Jx pre W')) := by
  have hidx : ∀ (k : Nat), k < 16 → ∀ w, (Instr.index 54 (.agg (u64a zs)) (.int .i64 k)).run Try.prog w = .ok (.int .u64 (zs[k]?.getD 0)) w := fun k hk w =>
    run_index_arr (w := w) Try.underlying54 Try.underlying32 (fun w => by kernel_rfl) (u64a zs) k hk _ (by simp [u64a, List.getElem?_eq_getElem (show k < zs.length by omega)])
  have HI := Lib.hid hidx
  have HSZ := Lib.hid (u64a_size hz)
  have HB := Lib.hid hB
  clear hidx hB
  refine callsIn_of_wp Try.func40 rfl trivial ?_ rfl
  simp only [Try.ntmps40, List.size_toArray, List.length_cons, List.length_nil, Nat.reduceAdd, Nat.reduceSub, Array.replicate_succ, Array.replicate_zero, List.push_toArray, List.append_toArray, List.nil_append, List.cons_append]
  gi_wp2_with (refine wpListIn_loadArr (ty := 54) rfl rfl rfl HB.out Try.underlying54 rfl (by rw [HSZ.out]; exact info16) ?_)
  gi_loopw [6] (fun i wr => ∃ k : Nat, k ≤ 16 ∧ i = .int .i64 k ∧ J (nz zs k) wr)
    (fun i _ => 16 - (intOf i).toNat)
  case atStart => exact ⟨0, by omega, rfl, h0⟩
  case round =>
    obtain ⟨k, hk, rfl, hJ⟩ := hrel
    by_cases hlt : k < 16
    · have hi := HI.out k hlt
      have hx0 := hY (nz zs k) ⟨k, hlt⟩ wr hJ (by have := nz_length zs k; omega)
      obtain ⟨x, hx⟩ : ∃ x, zs[k]?.getD 0 = x := ⟨_, rfl⟩
      simp only [encR] at hx0
      rw [hx] at hi hx0
      have HX := Lib.hid hx
      clear hx
      by_cases hz : x = 0
      · subst hz
        clear hx0
        gi_wp2
        refine ⟨fun _ h => (by cases h), ?_⟩
        gi_wp2
        go_roundw
        case rel => exact ⟨k + 1, by omega, by go_num, by rw [nz_no hlt HX.out]; exact hJ⟩
        case measure => simp [intOf]; omega
      · obtain ⟨fn, tmps, assign, body, hy, hR⟩ := hx0
        gi_wp2
        refine ⟨fun h => (by cases h), ?_⟩
        refine hR.mono ?_
        rintro e W3 (⟨rfl, hJ3, hk3⟩ | ⟨rfl, hJx3⟩)
        · gi_wp2
          go_roundw
          case rel => exact ⟨k + 1, by omega, by go_num, by rw [nz_yes hlt (by rw [HX.out]; exact hz)]; exact hJ3⟩
          case measure => simp [intOf]; omega
        · gi_wp2
          refine bodyPost_ret (results_none rfl _ _ _) rfl ?_
          exact ⟨⟨_, rfl⟩, .inr ⟨_, trivial, hJx3⟩⟩
    · obtain rfl : k = 16 := by omega
      gi_wp2
      go_end0
      exact ⟨⟨_, rfl⟩, .inl ⟨_, rfl, hJ⟩⟩

/-- Regs() hands back a value that hands out who has a key, in order, each with its key. -/
theorem regs_stops (n Bk n₀ : Nat) (zs : List Int) (hz : zs.length = 16) (w : World) (hB : Blk w Bk 54 (u64a zs)) :
    SeqStopsK Fence.wide n Try.prog 40 #[.pointer (some ⟨Bk, 0, none⟩)] (encR zs) (Below n₀) (fun ys => ys = nz zs 16) (fun _ => True) 16 w := fun l J Jx W hW _ _ hY h0 =>
  regs1_in n l Bk n₀ zs hz J Jx hY W (fun j v hj => by rw [add_lit, Nat.zero_add, (hB.keep hW).cell]; exact hj) h0

set_option maxRecDepth 100000 in
set_option maxHeartbeats 1000000 in
theorem regs_any {g : Nat} {s : RS} {w : World} (h : IsRS w g s) : Calls Try.prog 30 #[.pointer (some ⟨g, 0, none⟩)] w fun e w' =>
    e = .returned (.func (.func 40) #[] #[.pointer (some ⟨w.heap.size, 0, none⟩)]) ∧ Blk w' w.heap.size 54 (u64a s.keys) ∧ Below w.heap.size w w' := by
  have hk := fun o => loadKeys (h.below (bl_alloc w o))
  have hl := h.ok.lk
  obtain ⟨ks, hks⟩ : ∃ ks, s.keys = ks := ⟨_, rfl⟩
  rw [hks] at hk hl ⊢
  match ks, hl with
  | [k0, k1, k2, k3, k4, k5, k6, k7, k8, k9, k10, k11, k12, k13, k14, k15], _ =>
    have HK := Lib.hid hk
    clear hk hks
    have I16 := info16
    go_enter Try.func30, Try.ntmps30
    go_wp2_with (refine wpL_loadArr (ty := 54) rfl rfl rfl (HK.out _) Try.underlying54 rfl I16 ?_)
    go_ret
    exact ⟨rfl, Blk.new _ _ _, bl_alloc _ _⟩

end Go.Proofs.Ytlkdglhbncnkhaa
