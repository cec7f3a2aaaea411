/- The program's package resv: the state in plain lists, where it lies in memory, and its small functions. -/
import Derived.Test.YtlkdglhbncnkhaaBase
import Derived.Test.YtlkdglhbncnkhaaProg
import Derived.IntWalk
import Derived.Laws.StructEq
namespace Go.Proofs.Ytlkdglhbncnkhaa
set_option linter.unusedVariables false
open Go.RowKit

/-! ### plain -/
structure RS where
  keys : List Int
  fenced : List Bool
  holder : Int
  kind : Int
  gen : Int
def RS.key (s : RS) (n : Nat) : Int := s.keys[n]?.getD 0
def RS.fen (s : RS) (n : Nat) : Bool := s.fenced[n]?.getD false
def RS.each (s : RS) : Bool := decide (7 ≤ s.kind)
def RS.holds (s : RS) (n : Nat) : Bool := if s.each = true then s.key n != 0 else (s.kind != 0 && s.holder == n)
def RS.empty (s : RS) : Bool := s.keys.all (· == 0)
def RS.lose (s : RS) (n : Nat) : RS := { s with keys := s.keys.set n 0, fenced := s.fenced.set n true }
def RS.free (s : RS) : RS := { s with holder := -1, kind := 0 }
def RS.bump (s : RS) : RS := { s with gen := (s.gen + 1) % 4294967296 }
def RS.take (s : RS) (n : Nat) (v : Int) : RS := { s with keys := s.keys.set n v, fenced := s.fenced.set n false }
def RS.hold (s : RS) (n : Int) (k : Int) : RS := { s with holder := n, kind := k }
def newRS : RS := ⟨List.replicate 16 0, List.replicate 16 false, -1, 0, 0⟩
/-- A note to each registrant but one: the first k. -/
def restTo (s : RS) (n : Nat) (code : Int) (l : List Int) : Nat → List Int
  | 0 => l
  | k + 1 => if k ≠ n ∧ s.key k ≠ 0 then (restTo s n code l k).set k code else restTo s n code l k
def RS.rest (s : RS) (n : Nat) (code : Int) (l : List Int) : List Int := restTo s n code l 16
def rightK (k : Int) : Bool := decide (k = 1 ∨ k = 3 ∨ k = 5 ∨ k = 6 ∨ k = 7 ∨ k = 8)
structure Rep where
  st : Int
  key : Int
  asc : Int
  ascq : Int
def goodR : Rep := ⟨0, 0, 0, 0⟩
def conflictR : Rep := ⟨24, 0, 0, 0⟩
def wrongR : Rep := ⟨2, 5, 36, 0⟩
def otherR : Rep := ⟨2, 5, 38, 4⟩
def Rep.cells (r : Rep) : Array Value := #[.int .i64 r.st, .int .i64 r.key, .int .i64 r.asc, .int .i64 r.ascq, .slice none 0 0]
structure RC where
  act : Int
  key : Int
  new : Int
  kind : Int
def RC.cells (c : RC) : Array Value := #[.int .i64 c.act, .int .u64 c.key, .int .u64 c.new, .int .i64 c.kind]
structure RC.Ok (c : RC) : Prop where
  act : -9223372036854775808 ≤ c.act ∧ c.act ≤ 9223372036854775807
  key : 0 ≤ c.key ∧ c.key < 18446744073709551616
  new : 0 ≤ c.new ∧ c.new < 18446744073709551616
  kind : -9223372036854775808 ≤ c.kind ∧ c.kind ≤ 9223372036854775807

structure RS.Ok (s : RS) : Prop where
  lk : s.keys.length = 16
  lf : s.fenced.length = 16
  ku : ∀ x ∈ s.keys, 0 ≤ x ∧ x < 18446744073709551616
  gen : 0 ≤ s.gen ∧ s.gen < 4294967296
  hk : (s.kind = 0 ∧ s.holder = -1) ∨ (rightK s.kind = true ∧ 0 ≤ s.holder ∧ s.holder < 16)
theorem rightK_range {k : Int} (h : rightK k = true) : 1 ≤ k ∧ k ≤ 8 := by
  have := of_decide_eq_true h
  omega
theorem RS.Ok.small {s : RS} (h : s.Ok) : 0 ≤ s.kind ∧ s.kind ≤ 8 ∧ -1 ≤ s.holder ∧ s.holder < 16 := by
  rcases h.hk with ⟨h1, h2⟩ | ⟨h1, h2, h3⟩
  · omega
  · have := rightK_range h1; omega
theorem RS.Ok.keyU {s : RS} (h : s.Ok) (n : Nat) : 0 ≤ s.key n ∧ s.key n < 18446744073709551616 := by
  unfold RS.key
  rcases hx : s.keys[n]? with _ | x
  · simp
  · exact h.ku x (List.mem_of_getElem? hx)
theorem mem_set_u {l : List Int} {n : Nat} {v : Int} (h : ∀ x ∈ l, 0 ≤ x ∧ x < 18446744073709551616) (hv : 0 ≤ v ∧ v < 18446744073709551616) : ∀ x ∈ l.set n v, 0 ≤ x ∧ x < 18446744073709551616 := fun x hx => by
  rcases List.mem_or_eq_of_mem_set hx with h1 | rfl
  · exact h x h1
  · exact hv
theorem lose_ok {s : RS} (h : s.Ok) (n : Nat) : (s.lose n).Ok := ⟨by simp [RS.lose, h.lk], by simp [RS.lose, h.lf], mem_set_u h.ku (by omega), h.gen, h.hk⟩
theorem take_ok {s : RS} (h : s.Ok) (n : Nat) {v : Int} (hv : 0 ≤ v ∧ v < 18446744073709551616) : (s.take n v).Ok := ⟨by simp [RS.take, h.lk], by simp [RS.take, h.lf], mem_set_u h.ku hv, h.gen, h.hk⟩
theorem free_ok {s : RS} (h : s.Ok) : s.free.Ok := ⟨h.lk, h.lf, h.ku, h.gen, .inl ⟨rfl, rfl⟩⟩
theorem bump_ok {s : RS} (h : s.Ok) : s.bump.Ok := ⟨h.lk, h.lf, h.ku, by show 0 ≤ (s.gen + 1) % 4294967296 ∧ (s.gen + 1) % 4294967296 < 4294967296; omega, h.hk⟩
theorem hold_ok {s : RS} (h : s.Ok) {n k : Int} (hn : 0 ≤ n ∧ n < 16) (hk : rightK k = true) : (s.hold n k).Ok := ⟨h.lk, h.lf, h.ku, h.gen, .inr ⟨hk, hn.1, hn.2⟩⟩
theorem new_okR : newRS.Ok := ⟨rfl, rfl, by decide, by decide, .inl ⟨rfl, rfl⟩⟩

/-! ### in memory -/
def RS.cells (s : RS) : List Value := s.keys.map (Value.int .u64) ++ (s.fenced.map Value.bool ++ [.int .i64 s.holder, .int .i64 s.kind, .int .u32 s.gen])
/-- A state at block g. -/
structure IsRS (w : World) (g : Nat) (s : RS) : Prop where
  ok : s.Ok
  blk : Blk w g 58 s.cells.toArray
/-- Notes at block g. -/
structure IsL (w : World) (g : Nat) (l : List Int) : Prop where
  len : l.length = 16
  blk : Blk w g 66 (l.map (Value.int .i64)).toArray

section
variable {w w' : World} {g : Nat} {s : RS} {l : List Int} {F : Nat → Prop}
theorem IsRS.tr (h : IsRS w g s) (ht : Tr F w w') (hn : ¬ F g) : IsRS w' g s := ⟨h.ok, ht.blk h.blk hn⟩
theorem IsRS.below (h : IsRS w g s) (hb : Below w.heap.size w w') : IsRS w' g s := ⟨h.ok, h.blk.keep hb⟩
theorem IsL.tr (h : IsL w g l) (ht : Tr F w w') (hn : ¬ F g) : IsL w' g l := ⟨h.len, ht.blk h.blk hn⟩
theorem IsL.below (h : IsL w g l) (hb : Below w.heap.size w w') : IsL w' g l := ⟨h.len, h.blk.keep hb⟩
theorem IsRS.lt (h : IsRS w g s) : g < w.heap.size := h.blk.lt
theorem IsL.lt (h : IsL w g l) : g < w.heap.size := h.blk.lt
theorem IsRS.ckey (h : IsRS w g s) {n : Nat} (hn : n < 16) : w.cell? ⟨g, n, none⟩ = some (.int .u64 (s.key n)) := by
  rw [h.blk.cell]
  have hl := h.ok.lk
  simp only [List.getElem?_toArray, RS.cells]
  rw [List.getElem?_append_left (by simp; omega), List.getElem?_map, List.getElem?_eq_getElem (by omega)]
  unfold RS.key
  rw [List.getElem?_eq_getElem (by omega)]
  rfl
theorem IsRS.cfen (h : IsRS w g s) {n : Nat} (hn : n < 16) : w.cell? ⟨g, 16 + n, none⟩ = some (.bool (s.fen n)) := by
  rw [h.blk.cell]
  have hl := h.ok.lk
  have hf := h.ok.lf
  simp only [List.getElem?_toArray, RS.cells]
  rw [List.getElem?_append_right (by simp; omega), List.length_map, hl, show 16 + n - 16 = n from by omega, List.getElem?_append_left (by simp; omega), List.getElem?_map, List.getElem?_eq_getElem (by omega)]
  unfold RS.fen
  rw [List.getElem?_eq_getElem (by omega)]
  rfl
theorem IsRS.ctail (h : IsRS w g s) (i : Nat) : w.cell? ⟨g, 32 + i, none⟩ = ([.int .i64 s.holder, .int .i64 s.kind, .int .u32 s.gen] : List Value)[i]? := by
  rw [h.blk.cell]
  have hl := h.ok.lk
  have hf := h.ok.lf
  simp only [List.getElem?_toArray, RS.cells]
  rw [List.getElem?_append_right (by simp; omega), List.length_map, hl, List.getElem?_append_right (by simp; omega), List.length_map, hf, show 32 + i - 16 - 16 = i from by omega]
theorem IsRS.chold (h : IsRS w g s) : w.cell? ⟨g, 32, none⟩ = some (.int .i64 s.holder) := h.ctail 0
theorem IsRS.ckind (h : IsRS w g s) : w.cell? ⟨g, 33, none⟩ = some (.int .i64 s.kind) := h.ctail 1
theorem IsRS.cgen (h : IsRS w g s) : w.cell? ⟨g, 34, none⟩ = some (.int .u32 s.gen) := h.ctail 2
theorem IsRS.fr (h : IsRS w g s) (i : Nat) : w.frozen? ⟨g, i, none⟩ = false := h.blk.frozen i
theorem set_map_app {α : Type} (l : List α) (r : List Value) (f : α → Value) {n : Nat} (hn : n < l.length) (x : α) : (l.map f ++ r).set n (f x) = (l.set n x).map f ++ r := by
  rw [List.set_append_left _ _ (by simpa using hn), List.map_set]
theorem cells_key (h : s.Ok) {n : Nat} (hn : n < 16) (v : Int) : s.cells.toArray.setIfInBounds n (.int .u64 v) = ({ s with keys := s.keys.set n v } : RS).cells.toArray := by
  rw [List.setIfInBounds_toArray]
  congr 1
  exact set_map_app _ _ _ (by rw [h.lk]; exact hn) v
theorem cells_fen (h : s.Ok) {n : Nat} (hn : n < 16) (v : Bool) : s.cells.toArray.setIfInBounds (16 + n) (.bool v) = ({ s with fenced := s.fenced.set n v } : RS).cells.toArray := by
  rw [List.setIfInBounds_toArray]
  congr 1
  unfold RS.cells
  rw [List.set_append_right _ _ (by simp [h.lk]), List.length_map, h.lk, show 16 + n - 16 = n from by omega]
  congr 1
  exact set_map_app _ _ _ (by rw [h.lf]; exact hn) v
theorem cells_tailL (lk : s.keys.length = 16) (lf : s.fenced.length = 16) (i : Nat) (v : Value) : s.cells.set (32 + i) v = s.keys.map (Value.int .u64) ++ (s.fenced.map Value.bool ++ ([.int .i64 s.holder, .int .i64 s.kind, .int .u32 s.gen] : List Value).set i v) := by
  unfold RS.cells
  rw [List.set_append_right _ _ (by simp [lk]; omega), List.length_map, lk, List.set_append_right _ _ (by simp [lf]; omega), List.length_map, lf, show 32 + i - 16 - 16 = i from by omega]
theorem cells_tail (h : s.Ok) (i : Nat) (v : Value) : s.cells.set (32 + i) v = s.keys.map (Value.int .u64) ++ (s.fenced.map Value.bool ++ ([.int .i64 s.holder, .int .i64 s.kind, .int .u32 s.gen] : List Value).set i v) := cells_tailL h.lk h.lf i v
theorem cells_hold (h : s.Ok) (v : Int) : s.cells.toArray.setIfInBounds 32 (.int .i64 v) = ({ s with holder := v } : RS).cells.toArray := by
  rw [List.setIfInBounds_toArray]
  congr 1
  exact cells_tail h 0 _
theorem cells_kind (h : s.Ok) (v : Int) : s.cells.toArray.setIfInBounds 33 (.int .i64 v) = ({ s with kind := v } : RS).cells.toArray := by
  rw [List.setIfInBounds_toArray]
  congr 1
  exact cells_tail h 1 _
theorem cells_gen (h : s.Ok) (v : Int) : s.cells.toArray.setIfInBounds 34 (.int .u32 v) = ({ s with gen := v } : RS).cells.toArray := by
  rw [List.setIfInBounds_toArray]
  congr 1
  exact cells_tail h 2 _
theorem IsRS.two_ (h : IsRS w g s) {n : Nat} (hn : n < 16) {v : Int} (hv : 0 ≤ v ∧ v < 18446744073709551616) (b : Bool) : IsRS ((w.setCell ⟨g, n, none⟩ (.int .u64 v)).setCell ⟨g, 16 + n, none⟩ (.bool b)) g { s with keys := s.keys.set n v, fenced := s.fenced.set n b } := by
  have ok1 : ({ s with keys := s.keys.set n v } : RS).Ok := ⟨by simp [h.ok.lk], h.ok.lf, mem_set_u h.ok.ku hv, h.ok.gen, h.ok.hk⟩
  refine ⟨⟨by simp [h.ok.lk], by simp [h.ok.lf], mem_set_u h.ok.ku hv, h.ok.gen, h.ok.hk⟩, ?_⟩
  have := (h.blk.set_ n (.int .u64 v)).set_ (16 + n) (.bool b)
  rw [cells_key h.ok hn, cells_fen ok1 hn] at this
  exact this
theorem IsRS.hold_ (h : IsRS w g s) {a k : Int} (ok : (s.hold a k).Ok) : IsRS ((w.setCell ⟨g, 32, none⟩ (.int .i64 a)).setCell ⟨g, 33, none⟩ (.int .i64 k)) g (s.hold a k) := by
  refine ⟨ok, ?_⟩
  have := (h.blk.set_ 32 (.int .i64 a)).set_ 33 (.int .i64 k)
  rw [cells_hold h.ok, List.setIfInBounds_toArray] at this
  have e := cells_tailL (s := { s with holder := a }) h.ok.lk h.ok.lf 1 (.int .i64 k)
  rw [show 32 + 1 = 33 from rfl] at e
  rw [e] at this
  exact this
theorem IsRS.bump_ (h : IsRS w g s) : IsRS (w.setCell ⟨g, 34, none⟩ (.int .u32 ((s.gen + 1) % 4294967296))) g s.bump := by
  refine ⟨bump_ok h.ok, ?_⟩
  have := h.blk.set_ 34 (.int .u32 ((s.gen + 1) % 4294967296))
  rw [cells_gen h.ok] at this
  exact this
theorem tr_set (w : World) (g i : Nat) (v : Value) : Tr (fun b => b = g) w (w.setCell ⟨g, i, none⟩ v) := (Tr.refl (fun b => b = g) w).setCell (p := ⟨g, i, none⟩) (fun _ => rfl) _
end

/-! ### small functions -/
theorem there_any (n : Int) (w : World) (hn : -9223372036854775808 ≤ n ∧ n ≤ 9223372036854775807) : Calls Try.prog 18 #[.int .i64 n] w fun e w' => e = .returned (.bool (decide (0 ≤ n ∧ n < 16))) ∧ w = w' := by
  by_cases h1 : 0 ≤ n
  · by_cases h2 : n < 16
    · have e : decide (0 ≤ n ∧ n < 16) = true := decide_eq_true ⟨h1, h2⟩
      rw [e]
      clear e
      go_enter Try.func18, Try.ntmps18
      go_wp2_with fail
      go_ret
      exact ⟨rfl, rfl⟩
    · have e : decide (0 ≤ n ∧ n < 16) = false := decide_eq_false (by omega)
      rw [e]
      clear e
      go_enter Try.func18, Try.ntmps18
      go_wp2_with fail
      go_ret
      exact ⟨rfl, rfl⟩
  · have e : decide (0 ≤ n ∧ n < 16) = false := decide_eq_false (by omega)
    rw [e]
    clear e
    go_enter Try.func18, Try.ntmps18
    go_wp2_with fail
    go_ret
    exact ⟨rfl, rfl⟩
theorem right_any (k : Int) (w : World) (hn : -9223372036854775808 ≤ k ∧ k ≤ 9223372036854775807) : Calls Try.prog 38 #[.int .i64 k] w fun e w' => e = .returned (.bool (rightK k)) ∧ w = w' := by
  have hc : ∃ b1 b2 b3 b4 b5 b6 : Bool, (k == 1) = b1 ∧ (k == 3) = b2 ∧ (k == 5) = b3 ∧ (k == 6) = b4 ∧ (k == 7) = b5 ∧ (k == 8) = b6 := ⟨_, _, _, _, _, _, rfl, rfl, rfl, rfl, rfl, rfl⟩
  obtain ⟨b1, b2, b3, b4, b5, b6, e1, e2, e3, e4, e5, e6⟩ := hc
  have HR : Hid (rightK k = (b1 || b2 || b3 || b4 || b5 || b6)) := Lib.hid (by
    unfold rightK
    rw [← e1, ← e2, ← e3, ← e4, ← e5, ← e6, Bool.eq_iff_iff]
    simp
    omega)
  cases b1 <;> cases b2 <;> cases b3 <;> cases b4 <;> cases b5 <;> cases b6
  all_goals first | (exfalso; simp at e1 e2 e3 e4 e5 e6; omega) | skip
  all_goals
    go_enter Try.func38, Try.ntmps38
    go_wp2_with fail
    go_ret
    exact ⟨by rw [HR.out]; rfl, rfl⟩
def RetRep (r : Rep) (w : World) (e : Ending) (w' : World) : Prop := e = .returned (.agg r.cells) ∧ Below w.heap.size w w'
theorem conflict_any (w : World) : Calls Try.prog 26 #[] w fun e w' => e = .returned (.agg #[.int .i64 24, .int .i64 0, .int .i64 0, .int .i64 0, .slice none 0 0]) ∧ Below w.heap.size w w' := by
  go_enter Try.func26, Try.ntmps26
  go_wp2_with fail
  exact bodyPost_ret (v := .agg (Rep.cells conflictR)) (by simp [results, Try.results26, go_sem, Rep.cells, conflictR]) rfl ⟨rfl, bl_alloc _ _⟩
theorem wrong_any (w : World) : Calls Try.prog 19 #[] w fun e w' => e = .returned (.agg #[.int .i64 2, .int .i64 5, .int .i64 36, .int .i64 0, .slice none 0 0]) ∧ Below w.heap.size w w' := by
  go_enter Try.func19, Try.ntmps19
  go_wp2_with fail
  exact bodyPost_ret (v := .agg (Rep.cells wrongR)) (by simp [results, Try.results19, go_sem, Rep.cells, wrongR]) rfl ⟨rfl, bl_alloc _ _⟩
theorem good_any (w : World) : Calls Try.prog 32 #[] w fun e w' => e = .returned (.agg #[.int .i64 0, .int .i64 0, .int .i64 0, .int .i64 0, .slice none 0 0]) ∧ Below w.heap.size w w' := by
  go_enter Try.func32, Try.ntmps32
  go_wp2_with fail
  exact bodyPost_ret (v := .agg (Rep.cells goodR)) (by simp [results, Try.results32, go_sem, Rep.cells, goodR]) rfl ⟨rfl, bl_alloc _ _⟩
theorem each_any {g : Nat} {s : RS} {w : World} (h : IsRS w g s) : Calls Try.prog 33 #[.pointer (some ⟨g, 0, none⟩)] w fun e w' => e = .returned (.bool s.each) ∧ w = w' := by
  have c := h.ckind
  have hs := h.ok.small
  clear h
  go_enter Try.func33, Try.ntmps33
  go_wp2_with fail
  go_ret
  exact ⟨rfl, rfl⟩
theorem new_any (w : World) : Calls Try.prog 7 #[] w fun e w' => e = .returned (.pointer (some ⟨w.heap.size, 0, none⟩)) ∧ IsRS w' w.heap.size newRS ∧ Below w.heap.size w w' := by
  go_enter Try.func7, Try.ntmps7
  go_wp2_with fail
  go_ret
  exact ⟨rfl, ⟨new_okR, Blk.new _ _ _⟩, bl_alloc _ _⟩
set_option maxHeartbeats 800000 in
theorem lose_any {g : Nat} {s : RS} {w : World} (h : IsRS w g s) (n : Nat) (hn : n < 16) : Calls Try.prog 34 #[.pointer (some ⟨g, 0, none⟩), .int .i64 n] w fun e w' => e = .returned (.tuple #[]) ∧ IsRS w' g (s.lose n) ∧ Tr (fun b => b = g) w w' := by
  have c1 := h.ckey hn
  have c2 := h.cfen hn
  have f1 := h.fr n
  have f2 := h.fr (16 + n)
  have hne : (⟨g, n, none⟩ : Addr) ≠ ⟨g, 16 + n, none⟩ := by intro e; injection e; omega
  have HH := Lib.hid h
  clear h
  go_enter Try.func34, Try.ntmps34
  go_wp2_with fail
  go_region
  go_end0
  exact ⟨rfl, (HH.out.two_ hn (by omega) true).below (bl_drew _), ((tr_set w g n _).trans (tr_set _ g (16 + n) _) (fun _ _ h => h)).drew⟩
end Go.Proofs.Ytlkdglhbncnkhaa
