/- Contracts of the program's package resv: free, empty, holds, registered, rest. -/
import Derived.Test.YtlkdglhbncnkhaaResvDef
import Derived.Test.YtlkdglhbncnkhaaArr
import Derived.BigRegion
namespace Go.Proofs.Ytlkdglhbncnkhaa
set_option linter.unusedVariables false
open Go.RowKit

theorem size64 (w : World) : (sizeOf 32).run Try.prog w = .ok 1 w := by kernel_rfl
theorem sizeI (w : World) : (sizeOf 3).run Try.prog w = .ok 1 w := by kernel_rfl
theorem empty_iff (s : RS) (h : s.keys.length = 16) : (s.keys == List.replicate 16 0) = s.empty := by
  unfold RS.empty
  rw [Bool.eq_iff_iff]
  simp only [beq_iff_eq, List.all_eq_true]
  rw [List.eq_replicate_iff]
  constructor
  · intro h x hx; simpa using h.2 x hx
  · intro h2; exact ⟨h, fun x hx => by simpa using h2 x hx⟩

section
variable {g : Nat} {s : RS} {w : World}
set_option maxHeartbeats 400000 in
theorem free_any (h : IsRS w g s) : Calls Try.prog 36 #[.pointer (some ⟨g, 0, none⟩)] w fun e w' => e = .returned (.tuple #[]) ∧ IsRS w' g s.free ∧ Tr (fun b => b = g) w w' := by
  have c1 := h.chold
  have c2 := h.ckind
  have f1 := h.fr 32
  have f2 := h.fr 33
  have HH := Lib.hid h
  clear h
  go_enter Try.func36, Try.ntmps36
  go_wp2_with fail
  go_end0
  exact ⟨rfl, HH.out.hold_ (free_ok HH.out.ok), (tr_set w g 32 _).trans (tr_set _ g 33 _) (fun _ _ h => h)⟩
theorem loadKeys (h : IsRS w g s) : ∀ (j : Nat) (v : Value), (s.keys.map (Value.int .u64)).toArray[j]? = some v → w.cell? ((⟨g, 0, none⟩ : Addr).add j) = some v := fun j v hv => by
  have hj : j < 16 := by
    have := (Array.getElem?_eq_some_iff.1 hv).1
    simp [h.ok.lk] at this
    exact this
  rw [add_lit, Nat.zero_add, h.ckey hj]
  simp only [List.getElem?_toArray, List.getElem?_map] at hv
  unfold RS.key
  rcases hx : s.keys[j]? with _ | x
  · rw [hx] at hv; cases hv
  · rw [hx] at hv; simpa using hv
theorem info16 : (Try.prog.info? 54).map (·.size) = some 16 := by kernel_rfl
set_option maxHeartbeats 400000 in
theorem empty_any (h : IsRS w g s) : Calls Try.prog 35 #[.pointer (some ⟨g, 0, none⟩)] w fun e w' => e = .returned (.bool s.empty) ∧ w = w' := by
  have HH := Lib.hid h
  have HE := Lib.hid (empty_iff s h.ok.lk)
  have hq : ∀ w, (binOp .eql 54 (.agg (s.keys.map (Value.int .u64)).toArray) (.agg #[.int .u64 0, .int .u64 0, .int .u64 0, .int .u64 0, .int .u64 0, .int .u64 0, .int .u64 0, .int .u64 0, .int .u64 0, .int .u64 0, .int .u64 0, .int .u64 0, .int .u64 0, .int .u64 0, .int .u64 0, .int .u64 0])).run Try.prog w = .ok (.bool s.empty) w := fun w => by
    rw [← HE.out]
    exact run_eql_ints 54 32 16 .u64 Try.underlying54 Try.underlying32 size64 s.keys (List.replicate 16 0) HH.out.ok.lk rfl
  clear h
  go_enter Try.func35, Try.ntmps35
  go_wp2_with (refine wpL_loadArr (ty := 54) rfl rfl rfl (loadKeys HH.out) Try.underlying54 rfl (by rw [List.size_toArray, List.length_map, HH.out.ok.lk]; exact info16) ?_)
  go_ret
  exact ⟨rfl, rfl⟩
set_option maxHeartbeats 800000 in
theorem holds_any (h : IsRS w g s) (n : Nat) (hn : n < 16) : Calls Try.prog 27 #[.pointer (some ⟨g, 0, none⟩), .int .i64 n] w fun e w' => e = .returned (.bool (s.holds n)) ∧ w = w' := by
  have HH := Lib.hid h
  have c1 := h.ckey hn
  have c2 := h.chold
  have c3 := h.ckind
  have hs := h.ok.small
  clear h
  by_cases he : s.each = true
  · have HX : Hid (s.holds n = (s.key n != 0)) := Lib.hid (if_pos he)
    go_enter Try.func27, Try.ntmps27
    go_wp2_with (first
      | (go_at_call 33; (with_reducible refine (each_any HH.out).mono ?_); rintro e w' ⟨rfl, rfl⟩; rw [he]))
    go_ret
    exact ⟨by rw [HX.out]; rfl, rfl⟩
  · have he' : s.each = false := by simpa using he
    have HX : Hid (s.holds n = (s.kind != 0 && s.holder == n)) := Lib.hid (if_neg he)
    clear he
    by_cases hk : s.kind = 0
    · have hk1 : (s.kind != 0) = false := by simp [hk]
      clear hk
      go_enter Try.func27, Try.ntmps27
      go_wp2_with (first
        | (go_at_call 33; (with_reducible refine (each_any HH.out).mono ?_); rintro e w' ⟨rfl, rfl⟩; rw [he']))
      go_ret
      exact ⟨by rw [HX.out, hk1]; rfl, rfl⟩
    · have hk1 : (s.kind != 0) = true := by simp [hk]
      clear hk
      go_enter Try.func27, Try.ntmps27
      go_wp2_with (first
        | (go_at_call 33; (with_reducible refine (each_any HH.out).mono ?_); rintro e w' ⟨rfl, rfl⟩; rw [he']))
      go_ret
      exact ⟨by rw [HX.out, hk1]; rfl, rfl⟩

def cmdV (c : RC) : Value := .agg c.cells
set_option maxHeartbeats 800000 in
theorem registered_any (h : IsRS w g s) (n : Nat) (hn : n < 16) (c : RC) : Calls Try.prog 25 #[.pointer (some ⟨g, 0, none⟩), .int .i64 n, .agg #[.int .i64 c.act, .int .u64 c.key, .int .u64 c.new, .int .i64 c.kind]] w fun e w' => e = .returned (.bool (s.key n != 0 && s.key n == c.key)) ∧ Below w.heap.size w w' := by
  have HH := Lib.hid h
  have c1 := (h.below (bl_alloc w (.cells #[.int .i64 c.act, .int .u64 c.key, .int .u64 c.new, .int .i64 c.kind] 37))).ckey hn
  clear h
  by_cases hk : s.key n = 0
  · have hk1 : (s.key n != 0) = false := by simp [hk]
    clear hk
    go_enter Try.func25, Try.ntmps25
    go_wp2_with fail
    go_quiet (fail)
    go_wp2_with fail
    go_ret
    exact ⟨by rw [hk1]; rfl, bl_chain (bl_alloc _ _) ⟨rfl, rfl, rfl, Nat.le_refl _, fun _ _ => rfl⟩⟩
  · have hk1 : (s.key n != 0) = true := by simp [hk]
    clear hk
    go_enter Try.func25, Try.ntmps25
    go_wp2_with fail
    go_quiet (fail)
    go_wp2_with fail
    go_ret
    exact ⟨by rw [hk1]; rfl, bl_chain (bl_alloc _ _) ⟨rfl, rfl, rfl, Nat.le_refl _, fun _ _ => rfl⟩⟩

theorem IsL.store {gl : Nat} {l : List Int} (h : IsL w gl l) {k : Nat} (hk : k < 16) (c : Int) : IsL (w.setCell ⟨gl, k, none⟩ (.int .i64 c)) gl (l.set k c) := by
  refine ⟨by rw [List.length_set]; exact h.len, ?_⟩
  have := h.blk.set_ k (.int .i64 c)
  rw [List.setIfInBounds_toArray, ← List.map_set] at this
  exact this
theorem IsL.cell {gl : Nat} {l : List Int} (h : IsL w gl l) {k : Nat} (hk : k < 16) : w.cell? ⟨gl, k, none⟩ = some (.int .i64 (l[k]?.getD 0)) := by
  rw [h.blk.cell]
  have := h.len
  simp only [List.getElem?_toArray, List.getElem?_map]
  rw [List.getElem?_eq_getElem (by omega)]
  rfl
theorem rest_length (l : List Int) (n : Nat) (code : Int) : ∀ k, (restTo s n code l k).length = l.length
  | 0 => rfl
  | k + 1 => by
    unfold restTo
    split
    · rw [List.length_set]; exact rest_length l n code k
    · exact rest_length l n code k
theorem key_at (h : s.Ok) {k : Nat} (hk : k < 16) : (s.keys.map (Value.int .u64)).toArray[k]? = some (.int .u64 (s.key k)) := by
  have := h.lk
  simp only [List.getElem?_toArray, List.getElem?_map]
  unfold RS.key
  rw [List.getElem?_eq_getElem (by omega)]
  rfl
set_option maxHeartbeats 1600000 in
theorem rest_any {gl : Nat} {l : List Int} (h : IsRS w g s) (hl : IsL w gl l) (n : Nat) (hn : n < 16) (code : Int) :
    Calls Try.prog 37 #[.pointer (some ⟨g, 0, none⟩), .pointer (some ⟨gl, 0, none⟩), .int .i64 n, .int .i64 code] w fun e w' => e = .returned (.tuple #[]) ∧ IsL w' gl (s.rest n code l) ∧ Tr (fun b => b = gl) w w' := by
  have HH := Lib.hid h
  have HL := Lib.hid hl
  clear h hl
  go_enter Try.func37, Try.ntmps37
  go_wp2_with (refine wpL_loadArr (ty := 54) rfl rfl rfl (loadKeys HH.out) Try.underlying54 rfl (by rw [List.size_toArray, List.length_map, HH.out.ok.lk]; exact info16) ?_)
  go_loopw [14] (fun v w2 => ∃ k : Nat, k ≤ 16 ∧ v = .int .i64 k ∧ IsL w2 gl (restTo s n code l k) ∧ Tr (fun b => b = gl) w w2) (fun v _ => 16 - (intOf v).toNat)
  case atStart => exact ⟨0, by omega, rfl, HL.out, Tr.refl _ _⟩
  case round =>
    obtain ⟨k, hk, rfl, hl2, ht2⟩ := hrel
    have HL2 := Lib.hid hl2
    have HT2 := Lib.hid ht2
    clear hl2 ht2
    by_cases hlt : k < 16
    · have hix := fun w => run_index_arr (P := Try.prog) (w := w) Try.underlying54 Try.underlying32 size64 (s.keys.map (Value.int .u64)).toArray k hlt _ (key_at HH.out.ok hlt)
      have hc := HL2.out.cell hlt
      have hf := HL2.out.blk.frozen k
      by_cases hgo : k ≠ n ∧ s.key k ≠ 0
      · have b1 : ((k : Int) != (n : Int)) = true := by simp; omega
        have b2 : (s.key k != 0) = true := by simp [hgo.2]
        have HE : Hid (restTo s n code l (k + 1) = (restTo s n code l k).set k code) := Lib.hid (by rw [restTo, if_pos hgo])
        clear hgo
        go_wp2_with fail
        go_roundw
        case rel => exact ⟨k + 1, by omega, by go_num, by rw [HE.out]; exact HL2.out.store hlt code, HT2.out.trans (tr_set _ gl k _) (fun _ _ h => h)⟩
        case measure => simp [intOf]; omega
      · have HE : Hid (restTo s n code l (k + 1) = restTo s n code l k) := Lib.hid (by rw [restTo, if_neg hgo])
        have hcs : ((k : Int) != (n : Int)) = false ∨ ((k : Int) != (n : Int)) = true ∧ (s.key k != 0) = false := by
          by_cases h1 : k = n
          · left; simp [h1]
          · right
            refine ⟨by simp; omega, ?_⟩
            have : s.key k = 0 := Classical.byContradiction fun h2 => hgo ⟨h1, h2⟩
            simp [this]
        clear hgo
        rcases hcs with b1 | ⟨b1, b2⟩
        all_goals
          go_wp2_with fail
          go_roundw
          case rel => exact ⟨k + 1, by omega, by go_num, by rw [HE.out]; exact HL2.out, HT2.out⟩
          case measure => simp [intOf]; omega
    · have hk16 : k = 16 := by omega
      subst hk16
      go_wp2_with fail
      go_end0
      exact ⟨rfl, HL2.out, HT2.out⟩
end
end Go.Proofs.Ytlkdglhbncnkhaa
