/- The arguments of the reservations' statements opened: commands of nexuses in a slice. -/
import Derived.Test.YtlkdglhbncnkhaaRow0
import Derived.Test.YtlkdglhbncnkhaaResv7
import Derived.Lib.SmallJoins
import Derived.Deep.Slices
import Derived.Deep.Fields
namespace Go.Proofs.Ytlkdglhbncnkhaa
set_option linter.unusedVariables false
open Go.Joins Go.ChangeShapes Go.WideShapes Go.RowKit Go.Deep

/-- A command of a nexus. -/
structure ActS where
  n : Int
  c : RC
def ActS.cells (y : ActS) : List Value := [.int .i64 y.n, .int .i64 y.c.act, .int .u64 y.c.key, .int .u64 y.c.new, .int .i64 y.c.kind]
structure ActS.Ok (y : ActS) : Prop where
  n : -9223372036854775808 ≤ y.n ∧ y.n ≤ 9223372036854775807
  c : y.c.Ok

section
variable {H : Type} {enc : TypeId × Value → H} {w : World} {base : Nat} {spare : Nat → Bool} {held : Bool}
theorem cmd_trod {n : Nat} {cs : List Value} {x : DataW H × List MemPlace} (h : DataW.trod enc Try.prog w base spare held n 34 cs = some x) :
    ∃ c : RC, cs = [.int .i64 c.act, .int .u64 c.key, .int .u64 c.new, .int .i64 c.kind] ∧ c.Ok := by
  obtain ⟨xs, n', _, hx, hlen, hxl, hf⟩ := DataW.trod_struct Try.underlying34 h
  have hc4 : Try.prog.cellsOf 34 = 4 := by kernel_rfl
  rw [hc4] at hlen
  match cs, hlen with
  | [v0, v1, v2, v3], _ =>
    match xs, hxl with
    | [y0, y1, y2, y3], _ =>
      have g0 := hf 0 _ rfl
      have g1 := hf 1 _ rfl
      have g2 := hf 2 _ rfl
      have g3 := hf 3 _ rfl
      have k0 : Try.prog.cellsOf 3 = 1 := by kernel_rfl
      have k1 : Try.prog.cellsOf 32 = 1 := by kernel_rfl
      simp [k0, k1] at g0 g1 g2 g3
      obtain ⟨a0, e0, _, w0⟩ := DataW.trod_int Try.underlying3 g0
      obtain ⟨a1, e1, _, w1⟩ := DataW.trod_int Try.underlying32 g1
      obtain ⟨a2, e2, _, w2⟩ := DataW.trod_int Try.underlying32 g2
      obtain ⟨a3, e3, _, w3⟩ := DataW.trod_int Try.underlying3 g3
      simp at e0 e1 e2 e3
      subst e0 e1 e2 e3
      exact ⟨⟨a0, a1, a2, a3⟩, rfl, ⟨wf_i64 w0, wf_u64 w1, wf_u64 w2, wf_i64 w3⟩⟩
theorem act_trod {n : Nat} {cs : List Value} {x : DataW H × List MemPlace} (h : DataW.trod enc Try.prog w base spare held n 36 cs = some x) :
    ∃ y : ActS, cs = y.cells ∧ y.Ok := by
  obtain ⟨xs, n', _, hx, hlen, hxl, hf⟩ := DataW.trod_struct Try.underlying36 h
  have hc5 : Try.prog.cellsOf 36 = 5 := by kernel_rfl
  rw [hc5] at hlen
  match cs, hlen with
  | [v0, v1, v2, v3, v4], _ =>
    match xs, hxl with
    | [y0, y1], _ =>
      have g0 := hf 0 _ rfl
      have g1 := hf 1 _ rfl
      have k0 : Try.prog.cellsOf 3 = 1 := by kernel_rfl
      have k1 : Try.prog.cellsOf 34 = 4 := by kernel_rfl
      simp [k0, k1] at g0 g1
      obtain ⟨a0, e0, _, w0⟩ := DataW.trod_int Try.underlying3 g0
      obtain ⟨c, e1, hc⟩ := cmd_trod g1
      simp at e0 e1
      obtain ⟨rfl, rfl, rfl, rfl⟩ := e1
      subst e0
      exact ⟨⟨a0, c⟩, rfl, ⟨wf_i64 w0, hc⟩⟩
/-- Commands in a slice. -/
theorem open_acts {r : Reach} {b0 : Nat} {v : Value} {d : DataW H} {p : List MemPlace} (hs : ∀ m ∈ d.weights Try.prog 22, m ≤ reachBytes)
    (hv : Value.okWide Try.prog w r b0 22 v) (h : DataW.Trod enc Try.prog w base spare held 22 v d p) :
    ∃ (A : Option Addr) (c : Nat) (l : List ActS), v = .slice A l.length c ∧ l.length ≤ 140737488351232 ∧
      ∀ i (h : i < l.length), l[i].Ok ∧ ∃ b o, A = some ⟨b, o, none⟩ ∧ ∀ j u, l[i].cells[j]? = some u → w.cell? ⟨b, o + (i * 5 + j), none⟩ = some u := by
  obtain ⟨a0, len0, cap0, rfl⟩ := okWide_slice Try.underlying22 hv
  obtain ⟨fuel, hf⟩ := h
  have hc4 : Try.prog.cellsOf 36 = 5 := by kernel_rfl
  rcases open_slice Try.underlying22 hf with ⟨hcs, _⟩ | ⟨a, len, cap, m, n, D, Pl, hcs, _, hl, hm, hmm, hx, hi⟩
  · simp [Value.cells] at hcs
    obtain ⟨rfl, rfl, rfl⟩ := hcs
    exact ⟨none, 0, [], rfl, by simp, fun i h => by cases h⟩
  · simp [Value.cells] at hcs
    obtain ⟨rfl, rfl, rfl⟩ := hcs
    have hlm : len0 ≤ m := by rw [hmm]; split <;> omega
    have hd : d = .slice ((List.range len0).map D) ((List.range (m - len0)).map fun j => D (len0 + j)) := by injection hx
    have each : ∀ i, i < len0 → ∃ y : ActS, y.Ok ∧ ∀ j u, y.cells[j]? = some u → w.cell? (a.add (i * 5 + j)) = some u := fun i hil => by
      obtain ⟨cs', hc, ht'⟩ := hi i (by omega)
      rw [hc4] at hc
      obtain ⟨y, e, hy⟩ := act_trod ht'
      obtain ⟨_, hcl, hat⟩ := World.cells?_some hc
      refine ⟨y, hy, fun j u hj => ?_⟩
      rw [← e] at hj
      have hjl := (List.getElem?_eq_some_iff.1 hj).1
      rw [← Go.Deep.add_add, hat j (by omega), hj]
    have hex : ∃ l : List ActS, l.length = len0 ∧ ∀ i (h : i < l.length), l[i].Ok ∧ ∀ j u, l[i].cells[j]? = some u → w.cell? (a.add (i * 5 + j)) = some u := by
      refine ⟨(List.finRange len0).map (fun i => (each i.1 i.2).choose), by simp, fun i h => ?_⟩
      have hil : i < len0 := by simpa using h
      have := (each i hil).choose_spec
      simpa using this
    obtain ⟨l, hll, hl2⟩ := hex
    have hbig := hs ((((List.range len0).map D).length + ((List.range (m - len0)).map fun j => D (len0 + j)).length) * Try.prog.bytesOf 36) (by
      rw [hd]
      simp [DataW.weights, Try.underlying22])
    have hb64 : Try.prog.bytesOf 36 = 40 := by kernel_rfl
    rw [hb64] at hbig
    simp only [List.length_map, List.length_range, reachBytes] at hbig
    refine ⟨some a, cap0, l, by rw [hll], by omega, fun i h => ⟨(hl2 i h).1, a.block, a.off, ?_, fun j u hj => ?_⟩⟩
    · have h0 := (hl2 0 (by omega)).2 0 _ rfl
      have hs := World.cell?_spot h0
      obtain ⟨b, o, sp⟩ := a
      simp [Addr.add] at hs
      subst hs
      rfl
    · have h0 := (hl2 0 (by omega)).2 0 _ rfl
      have hs := World.cell?_spot h0
      have h1 := (hl2 i h).2 j u hj
      obtain ⟨b, o, sp⟩ := a
      simp [Addr.add] at hs
      subst hs
      rwa [add_lit] at h1
end
end Go.Proofs.Ytlkdglhbncnkhaa
