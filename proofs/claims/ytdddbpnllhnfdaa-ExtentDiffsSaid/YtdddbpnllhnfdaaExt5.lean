/- Contracts of the package extent: numbers, Runs and its two iterators. -/
import Derived.Test.YtdddbpnllhnfdaaExt4
import Derived.Test.YtdddbpnllhnfdaaShelfE05
import Derived.Lib.SlKeysI
import Derived.Lib.Hide
namespace Go.Proofs.Ytdddbpnllhnfdaa
set_option linter.unusedVariables false
set_option linter.unusedSimpArgs false
set_option maxRecDepth 100000
open Go.RowKit Go.Shelf

theorem Try.sorts (m : Nat) : AnyZI.SortsIn Try.prog Try.sortedL_ren Fence.wide m :=
  ⟨fun blk off cap ss W hH hblk hsz => callsIn_wide.2 (calls_of_every_depth fun D => AnyS.slices_Sort_int_in Try.sortL D blk off cap ss W hH hblk hsz),
   fun p cap W => callsIn_wide.2 (Any.slices_Sort_int_none Try.sortL p cap W)⟩
theorem keys_call (B : Nat) (W : World) : Calls Try.prog 77 #[.map (some B)] W fun e w' => e = .returned (.func (.func 81) #[] #[.pointer (some ⟨W.heap.size, 0, none⟩)]) ∧ w' = W.alloc (.cells #[.map (some B)] 73) :=
  callsIn_wide.1 (AnyZI.keys_in Try.keysL Fence.wide 5 trivial rfl (some B) W)
theorem nums_nodup (L : List (List Int)) : (nums L).Nodup := (numsTo_sorted L _).imp (fun h e => by omega)
section
variable {w : World} {g B : Nat} {L : List (List Int)} {D : DataW Unit} {M : Nat → Prop}
theorem IsImg.perm (h : IsImg w g L B D M) : (nums L).Perm (Go.intKeys D) := by
  refine Go.CollectedI.perm (left := fun _ => false) ⟨nums_nodup L, fun x => ?_⟩ h.own keyI Try.underlying3 (fun _ => rfl)
  show x ∈ nums L ↔ Maps.has D (lk x) = true ∧ _
  rw [h.has]
  unfold nums
  rw [numsTo_mem]
  constructor
  · rintro ⟨i, rfl, hi, hb⟩
    exact ⟨decide_eq_true ⟨by omega, by simpa using hb⟩, rfl⟩
  · rintro ⟨hd, _⟩
    obtain ⟨h0, hb⟩ := of_decide_eq_true hd
    refine ⟨x.toNat, by omega, ?_, hb⟩
    apply Classical.byContradiction
    intro hn
    exact hb (bk_out (by omega))
theorem nums_length (L : List (List Int)) : (nums L).length = used L := numsTo_length L _
theorem sorted_call (h : IsImg w g L B D M) : Calls Try.prog 76 #[.func (.func 81) #[] #[.pointer (some ⟨w.heap.size, 0, none⟩)]] (w.alloc (.cells #[.map (some B)] 73)) fun e w' => ∃ A c, e = .returned (.slice A (nums L).length c) ∧ w'.ownsRow w.heap.size 3 1 (.slice A (nums L).length c) (nums L).length ((nums L).map (Value.int .i64)) ∧ Below w.heap.size w w' := by
  have hle := used_le L
  have h256 := h.ok.hi
  have hbl := h.own.lt
  have hseq : SeqGives Fence.wide 2 Try.prog 81 #[.pointer (some ⟨w.heap.size, 0, none⟩)] encZ (fun ss => ss.Perm (Go.intKeys D)) (Maps.size D) (w.alloc (.cells #[.map (some B)] 73)) :=
    AnyZI.keys_gives (ρ := Try.keysL_ren) { Try.keysL with } Fence.wide _ trivial rfl (by omega) w.heap.size B 256 D _ (by simp) (by simp) (h.own.alloc _)
  have hs := callsIn_wide.1 (AnyZI.sorted_in Try.sortedL Fence.wide 5 trivial trivial trivial trivial rfl (by omega) (Try.sorts _) (enters_of Try.func80 (by kernel_rfl) rfl) 81 #[.pointer (some ⟨w.heap.size, 0, none⟩)] trivial (enters_of Try.func81 (by kernel_rfl) rfl) _ (Maps.size D) (by rw [h.sz]; simp only [maxLen]; omega) (by rw [h.sz]; omega) _ hseq)
  refine hs.mono ?_
  rintro e w' ⟨v, ss, rfl, hp, hrow, _, hb⟩
  have hp2 : ss.Perm (nums L) := hp.trans h.perm.symm
  have hsort : ss.mergeSort (fun x y => decide (x ≤ y)) = nums L := by
    have h1 := Go.mergeSort_of_perm_i hp2
    have h2 : (nums L).mergeSort Go.leI = nums L := List.mergeSort_of_pairwise ((numsTo_sorted L _).imp (fun h => by simp only [Go.leI, decide_eq_true_eq]; omega))
    exact h1.trans h2
  rw [hsort, hp2.length_eq] at hrow
  rcases hrow.2 with ⟨rfl, hz⟩ | ⟨g2, cap, cur, rfl, r⟩
  · refine ⟨none, 0, by rw [hz], ?_, bl_chain (bl_alloc w _) hb⟩
    rw [hz]
    rw [hz] at hrow
    exact ownsRow_base hrow (by simp)
  · exact ⟨_, _, rfl, ownsRow_base hrow (by simp), bl_chain (bl_alloc w _) hb⟩
theorem numbers_any (h : IsImg w g L B D M) : Calls Try.prog 65 #[.pointer (some ⟨g, 0, none⟩)] w fun e w' => ∃ A c, e = .returned (.slice A (nums L).length c) ∧ w'.ownsRow w.heap.size 3 1 (.slice A (nums L).length c) (nums L).length ((nums L).map (Value.int .i64)) ∧ Below w.heap.size w w' := by
  have c1 := h.c1
  have HH := Lib.hid h
  clear h
  go_enter Try.func65, Try.ntmps65
  go_wp2_with (first
    | (go_at_call 77; (with_reducible refine (keys_call B w).mono ?_); rintro e w' ⟨rfl, rfl⟩)
    | (go_at_call 76; (with_reducible refine (sorted_call HH.out).mono ?_); rintro e w' ⟨A, c, rfl, ho, hb⟩; have HO := Lib.hid ho; have HB := Lib.hid hb; clear ho hb))
  go_ret
  exact ⟨A, c, rfl, HO.out, HB.out⟩
end
end Go.Proofs.Ytdddbpnllhnfdaa
