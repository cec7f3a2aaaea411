/- The library's contracts laid at this program (their tables of numbers, printed by the kit's tool). -/
import Derived.Shelf.SlGeneric
import Derived.Shelf.SlIterI.Sorted
import Derived.Shelf.SlIterI.Keys
import Derived.Shelf.SlMaps.Clone
import Derived.Shelf.SlMaps.Equal
import Derived.Shelf.Sort.AssemblyIn
import Derived.Sort.EveryDepth
import Derived.Shelf.Slices.In.SortNone
import Derived.Test.YthlijldapoeepaaGreatProg
import Derived.Test.YthlijldapoeepaaGreatM7
import Derived.Lib.SlKeysI
import Derived.Lib.Hide
import Derived.Test.YthlijldapoeepaaGreatM5
namespace Go.Proofs.YthlijldapoeepaaGreat
set_option linter.unusedVariables false
set_option maxRecDepth 100000
open Go.Shelf
def Tryz.keysBL_ren : Go.Shelf.Ren := ⟨fun | 7 => 88 | 10 => 99 | n => n, fun | 23 => 138 | 26 => 3 | 3 => 4 | 28 => 116 | 0 => 0 | 27 => 115 | 33 => 58 | 4 => 4 | n => n, fun | n => n⟩
theorem Tryz.keysBL : Go.Proofs.SlLaysZI.n7 Tryz.prog Tryz.keysBL_ren := {
  mixed := by kernel_rfl
  f7 := ⟨Tryz.f88.name, by decide, Tryz.func88.trans (congrArg some (by kernel_rfl))⟩
  f10 := ⟨Tryz.f99.name, by decide, Tryz.func99.trans (congrArg some (by kernel_rfl))⟩
  t0 := Tryz.underlying0
  a0 := Tryz.isAgg0
  z0 := Tryz.sizeOf0
  v0 := Tryz.zeroValue0
  t4 := Tryz.underlying4
  a4 := Tryz.isAgg4
  z4 := Tryz.sizeOf4
  v4 := Tryz.zeroValue4
  t23 := Tryz.underlying138
  a23 := Tryz.isAgg138
  z23 := Tryz.sizeOf138
  v23 := Tryz.zeroValue138
  t26 := Tryz.underlying3
  a26 := Tryz.isAgg3
  z26 := Tryz.sizeOf3
  v26 := Tryz.zeroValue3
  t27 := Tryz.underlying115
  a27 := Tryz.isAgg115
  z27 := Tryz.sizeOf115
  v27 := Tryz.zeroValue115
  t28 := Tryz.underlying116
  a28 := Tryz.isAgg116
  z28 := Tryz.sizeOf116
  v28 := Tryz.zeroValue116
  t33 := Tryz.underlying58
  a33 := Tryz.isAgg58
  z33 := Tryz.sizeOf58
  v33 := Tryz.zeroValue58 }
def Tryz.keysL_ren : Go.Shelf.Ren := ⟨fun | 7 => 100 | 10 => 104 | n => n, fun | 23 => 100 | 26 => 3 | 3 => 52 | 28 => 116 | 0 => 0 | 27 => 115 | 33 => 58 | 4 => 4 | n => n, fun | n => n⟩
theorem Tryz.keysL : Go.Proofs.SlLaysZI.n7 Tryz.prog Tryz.keysL_ren := {
  mixed := by kernel_rfl
  f7 := ⟨Tryz.f100.name, by decide, Tryz.func100.trans (congrArg some (by kernel_rfl))⟩
  f10 := ⟨Tryz.f104.name, by decide, Tryz.func104.trans (congrArg some (by kernel_rfl))⟩
  t0 := Tryz.underlying0
  a0 := Tryz.isAgg0
  z0 := Tryz.sizeOf0
  v0 := Tryz.zeroValue0
  t4 := Tryz.underlying4
  a4 := Tryz.isAgg4
  z4 := Tryz.sizeOf4
  v4 := Tryz.zeroValue4
  t23 := Tryz.underlying100
  a23 := Tryz.isAgg100
  z23 := Tryz.sizeOf100
  v23 := Tryz.zeroValue100
  t26 := Tryz.underlying3
  a26 := Tryz.isAgg3
  z26 := Tryz.sizeOf3
  v26 := Tryz.zeroValue3
  t27 := Tryz.underlying115
  a27 := Tryz.isAgg115
  z27 := Tryz.sizeOf115
  v27 := Tryz.zeroValue115
  t28 := Tryz.underlying116
  a28 := Tryz.isAgg116
  z28 := Tryz.sizeOf116
  v28 := Tryz.zeroValue116
  t33 := Tryz.underlying58
  a33 := Tryz.isAgg58
  z33 := Tryz.sizeOf58
  v33 := Tryz.zeroValue58 }
def Tryz.sortedL_ren : Go.Shelf.Ren := ⟨fun | 6 => 87 | 8 => 97 | 9 => 98 | 11 => 101 | 13 => 103 | 12 => 102 | 23 => 114 | 24 => 115 | 14 => 105 | 15 => 106 | 16 => 107 | 17 => 108 | 18 => 109 | 19 => 110 | 20 => 111 | 21 => 112 | 22 => 113 | 25 => 116 | 26 => 117 | 27 => 118 | 28 => 119 | 29 => 120 | 30 => 121 | 31 => 122 | n => n, fun | 26 => 3 | 28 => 116 | 24 => 39 | 0 => 0 | 3 => 3 | 37 => 114 | 48 => 134 | 50 => 108 | 4 => 4 | 40 => 157 | 39 => 156 | 45 => 161 | 5 => 5 | 9 => 9 | 51 => 165 | 55 => 169 | 57 => 171 | 58 => 172 | 33 => 58 | n => n, fun | n => n⟩
theorem Tryz.sortedL : Go.Proofs.SlLaysZI.n6 Tryz.prog Tryz.sortedL_ren := {
  mixed := by kernel_rfl
  f6 := ⟨Tryz.f87.name, by decide, Tryz.func87.trans (congrArg some (by kernel_rfl))⟩
  f8 := ⟨Tryz.f97.name, by decide, Tryz.func97.trans (congrArg some (by kernel_rfl))⟩
  f11 := ⟨Tryz.f101.name, by decide, Tryz.func101.trans (congrArg some (by kernel_rfl))⟩
  t0 := Tryz.underlying0
  a0 := Tryz.isAgg0
  z0 := Tryz.sizeOf0
  v0 := Tryz.zeroValue0
  t24 := Tryz.underlying39
  a24 := Tryz.isAgg39
  z24 := Tryz.sizeOf39
  v24 := Tryz.zeroValue39
  t26 := Tryz.underlying3
  a26 := Tryz.isAgg3
  z26 := Tryz.sizeOf3
  v26 := Tryz.zeroValue3
  t28 := Tryz.underlying116
  a28 := Tryz.isAgg116
  z28 := Tryz.sizeOf116
  v28 := Tryz.zeroValue116
  i26 := by kernel_rfl }
def Tryz.sortL_ren : Go.Shelf.Ren := ⟨fun | 189 => 98 | 125 => 103 | 257 => 102 | 128 => 114 | 129 => 115 | 294 => 105 | 295 => 106 | 296 => 107 | 297 => 108 | 298 => 109 | 299 => 110 | 216 => 111 | 300 => 112 | 301 => 113 | 328 => 116 | 329 => 117 | 330 => 118 | 331 => 119 | 332 => 120 | 215 => 121 | 343 => 122 | n => n, fun | 28 => 39 | 3 => 3 | 46 => 114 | 0 => 0 | 51 => 134 | 53 => 108 | 4 => 4 | 183 => 157 | 182 => 156 | 131 => 161 | 5 => 5 | 9 => 9 | 218 => 165 | 222 => 169 | 228 => 171 | 229 => 172 | n => n, fun | n => n⟩
theorem Tryz.sortL : Go.Proofs.Lays.n189 Tryz.prog Tryz.sortL_ren := {
  mixed := by kernel_rfl
  f125 := Tryz.func103.trans (congrArg some (by kernel_rfl))
  f128 := Tryz.func114.trans (congrArg some (by kernel_rfl))
  f129 := Tryz.func115.trans (congrArg some (by kernel_rfl))
  f189 := Tryz.func98.trans (congrArg some (by kernel_rfl))
  f215 := Tryz.func121.trans (congrArg some (by kernel_rfl))
  f216 := Tryz.func111.trans (congrArg some (by kernel_rfl))
  f257 := Tryz.func102.trans (congrArg some (by kernel_rfl))
  f294 := Tryz.func105.trans (congrArg some (by kernel_rfl))
  f295 := Tryz.func106.trans (congrArg some (by kernel_rfl))
  f296 := Tryz.func107.trans (congrArg some (by kernel_rfl))
  f297 := Tryz.func108.trans (congrArg some (by kernel_rfl))
  f298 := Tryz.func109.trans (congrArg some (by kernel_rfl))
  f299 := Tryz.func110.trans (congrArg some (by kernel_rfl))
  f300 := Tryz.func112.trans (congrArg some (by kernel_rfl))
  f301 := Tryz.func113.trans (congrArg some (by kernel_rfl))
  f328 := Tryz.func116.trans (congrArg some (by kernel_rfl))
  f329 := Tryz.func117.trans (congrArg some (by kernel_rfl))
  f330 := Tryz.func118.trans (congrArg some (by kernel_rfl))
  f331 := Tryz.func119.trans (congrArg some (by kernel_rfl))
  f332 := Tryz.func120.trans (congrArg some (by kernel_rfl))
  f343 := Tryz.func122.trans (congrArg some (by kernel_rfl))
  t0 := Tryz.underlying0
  a0 := Tryz.isAgg0
  z0 := Tryz.sizeOf0
  v0 := Tryz.zeroValue0
  t3 := Tryz.underlying3
  a3 := Tryz.isAgg3
  z3 := Tryz.sizeOf3
  v3 := Tryz.zeroValue3
  t4 := Tryz.underlying4
  a4 := Tryz.isAgg4
  z4 := Tryz.sizeOf4
  v4 := Tryz.zeroValue4
  t5 := Tryz.underlying5
  a5 := Tryz.isAgg5
  z5 := Tryz.sizeOf5
  v5 := Tryz.zeroValue5
  t9 := Tryz.underlying9
  a9 := Tryz.isAgg9
  z9 := Tryz.sizeOf9
  v9 := Tryz.zeroValue9
  t28 := Tryz.underlying39
  a28 := Tryz.isAgg39
  z28 := Tryz.sizeOf39
  v28 := Tryz.zeroValue39
  t46 := Tryz.underlying114
  a46 := Tryz.isAgg114
  z46 := Tryz.sizeOf114
  v46 := Tryz.zeroValue114
  t51 := Tryz.underlying134
  a51 := Tryz.isAgg134
  z51 := Tryz.sizeOf134
  v51 := Tryz.zeroValue134
  t53 := Tryz.underlying108
  a53 := Tryz.isAgg108
  z53 := Tryz.sizeOf108
  v53 := Tryz.zeroValue108
  t131 := Tryz.underlying161
  a131 := Tryz.isAgg161
  z131 := Tryz.sizeOf161
  v131 := Tryz.zeroValue161
  t182 := Tryz.underlying156
  a182 := Tryz.isAgg156
  z182 := Tryz.sizeOf156
  v182 := Tryz.zeroValue156
  t183 := Tryz.underlying157
  a183 := Tryz.isAgg157
  z183 := Tryz.sizeOf157
  v183 := Tryz.zeroValue157
  t218 := Tryz.underlying165
  a218 := Tryz.isAgg165
  z218 := Tryz.sizeOf165
  v218 := Tryz.zeroValue165
  t222 := Tryz.underlying169
  a222 := Tryz.isAgg169
  z222 := Tryz.sizeOf169
  v222 := Tryz.zeroValue169
  t228 := Tryz.underlying171
  a228 := Tryz.isAgg171
  z228 := Tryz.sizeOf171
  v228 := Tryz.zeroValue171
  t229 := Tryz.underlying172
  a229 := Tryz.isAgg172
  z229 := Tryz.sizeOf172
  v229 := Tryz.zeroValue172 }
def Tryz.cloneL_ren : Go.Shelf.Ren := ⟨fun | 5 => 78 | 7 => 94 | n => n, fun | 23 => 100 | 25 => 3 | 3 => 52 | 4 => 4 | 20 => 20 | n => n, fun | n => n⟩
theorem Tryz.cloneL : Go.Proofs.SlLaysW.n5 Tryz.prog Tryz.cloneL_ren := {
  mixed := by kernel_rfl
  f5 := ⟨Tryz.f78.name, by decide, Tryz.func78.trans (congrArg some (by kernel_rfl))⟩
  f7 := Tryz.func94.trans (congrArg some (by kernel_rfl))
  t4 := Tryz.underlying4
  a4 := Tryz.isAgg4
  z4 := Tryz.sizeOf4
  v4 := Tryz.zeroValue4
  t20 := Tryz.underlying20
  a20 := Tryz.isAgg20
  z20 := Tryz.sizeOf20
  v20 := Tryz.zeroValue20
  t23 := Tryz.underlying100
  a23 := Tryz.isAgg100
  z23 := Tryz.sizeOf100
  v23 := Tryz.zeroValue100 }
end Go.Proofs.YthlijldapoeepaaGreat


/- Contracts of the package extent: numbers, Runs and its two iterators. -/

namespace Go.Proofs.YthlijldapoeepaaGreat
set_option linter.unusedVariables false
set_option linter.unusedSimpArgs false
set_option maxRecDepth 100000
open Go.RowKit Go.Shelf

theorem Try.sorts (m : Nat) : AnyZI.SortsIn Tryz.prog Tryz.sortedL_ren Fence.wide m :=
  ⟨fun blk off cap ss W hH hblk hsz => callsIn_wide.2 (calls_of_every_depth fun D => AnyS.slices_Sort_int_in Tryz.sortL D blk off cap ss W hH hblk hsz),
   fun p cap W => callsIn_wide.2 (Any.slices_Sort_int_none Tryz.sortL p cap W)⟩
theorem keys_call (B : Nat) (W : World) : Calls Tryz.prog 100 #[.map (some B)] W fun e w' => e = .returned (.func (.func 104) #[] #[.pointer (some ⟨W.heap.size, 0, none⟩)]) ∧ w' = W.alloc (.cells #[.map (some B)] 100) :=
  callsIn_wide.1 (AnyZI.keys_in Tryz.keysL Fence.wide 5 trivial rfl (some B) W)
theorem nums_nodup (L : List (List Int)) : (nums L).Nodup := (numsTo_sorted L _).imp (fun h e => by omega)
section
variable {w : World} {g B : Nat} {L : List (List Int)} {D : DataW Unit} {M : Nat → Prop}
theorem IsImg.perm (h : IsImg w g L B D M) : (nums L).Perm (Go.intKeys D) := by
  refine Go.CollectedI.perm (left := fun _ => false) ⟨nums_nodup L, fun x => ?_⟩ h.own keyI Tryz.underlying3 (fun _ => rfl)
  show x ∈ nums L ↔ Maps.has D (lk x) = true ∧ _
  rw [h.has]
  unfold nums
  rw [numsTo_mem]
  constructor
  · rintro ⟨i, rfl, hi, hb⟩
    exact ⟨decide_eq_true ⟨by omega, by simpa using hb⟩, rfl⟩
  · rintro ⟨hd, _⟩
    obtain ⟨h0, hb⟩ := of_decide_eq_true hd
    refine ⟨x.toNat, by omega, ?_, hb⟩
    apply Classical.byContradiction
    intro hn
    exact hb (bk_out (by omega))
theorem nums_length (L : List (List Int)) : (nums L).length = used L := numsTo_length L _
theorem sorted_call (h : IsImg w g L B D M) : Calls Tryz.prog 87 #[.func (.func 104) #[] #[.pointer (some ⟨w.heap.size, 0, none⟩)]] (w.alloc (.cells #[.map (some B)] 100)) fun e w' => ∃ A c, e = .returned (.slice A (nums L).length c) ∧ w'.ownsRow w.heap.size 3 1 (.slice A (nums L).length c) (nums L).length ((nums L).map (Value.int .i64)) ∧ Below w.heap.size w w' := by
  have hle := used_le L
  have h256 := h.ok.hi
  have hbl := h.own.lt
  have hseq : SeqGives Fence.wide 2 Tryz.prog 104 #[.pointer (some ⟨w.heap.size, 0, none⟩)] encZ (fun ss => ss.Perm (Go.intKeys D)) (Maps.size D) (w.alloc (.cells #[.map (some B)] 100)) :=
    AnyZI.keys_gives (ρ := Tryz.keysL_ren) { Tryz.keysL with } Fence.wide _ trivial rfl (by omega) w.heap.size B 256 D _ (by simp) (by simp) (h.own.alloc _)
  have hs := callsIn_wide.1 (AnyZI.sorted_in Tryz.sortedL Fence.wide 5 trivial trivial trivial trivial rfl (by omega) (Try.sorts _) (enters_of Tryz.func98 (by kernel_rfl) rfl) 104 #[.pointer (some ⟨w.heap.size, 0, none⟩)] trivial (enters_of Tryz.func104 (by kernel_rfl) rfl) _ (Maps.size D) (by rw [h.sz]; simp only [maxLen]; omega) (by rw [h.sz]; omega) _ hseq)
  refine hs.mono ?_
  rintro e w' ⟨v, ss, rfl, hp, hrow, _, hb⟩
  have hp2 : ss.Perm (nums L) := hp.trans h.perm.symm
  have hsort : ss.mergeSort (fun x y => decide (x ≤ y)) = nums L := by
    have h1 := Go.mergeSort_of_perm_i hp2
    have h2 : (nums L).mergeSort Go.leI = nums L := List.mergeSort_of_pairwise ((numsTo_sorted L _).imp (fun h => by simp only [Go.leI, decide_eq_true_eq]; omega))
    exact h1.trans h2
  rw [hsort, hp2.length_eq] at hrow
  rcases hrow.2 with ⟨rfl, hz⟩ | ⟨g2, cap, cur, rfl, r⟩
  · refine ⟨none, 0, by rw [hz], ?_, bl_chain (bl_alloc w _) hb⟩
    rw [hz]
    rw [hz] at hrow
    exact ownsRow_base hrow (by simp)
  · exact ⟨_, _, rfl, ownsRow_base hrow (by simp), bl_chain (bl_alloc w _) hb⟩
theorem inumbers_any (h : IsImg w g L B D M) : Calls Tryz.prog 92 #[.pointer (some ⟨g, 0, none⟩)] w fun e w' => ∃ A c, e = .returned (.slice A (nums L).length c) ∧ w'.ownsRow w.heap.size 3 1 (.slice A (nums L).length c) (nums L).length ((nums L).map (Value.int .i64)) ∧ Below w.heap.size w w' := by
  have c1 := h.c1
  have HH := Lib.hid h
  clear h
  go_enter Tryz.func92, Tryz.ntmps92
  go_wp2_with (first
    | (go_at_call 100; (with_reducible refine (keys_call B w).mono ?_); rintro e w' ⟨rfl, rfl⟩)
    | (go_at_call 87; (with_reducible refine (sorted_call HH.out).mono ?_); rintro e w' ⟨A, c, rfl, ho, hb⟩; have HO := Lib.hid ho; have HB := Lib.hid hb; clear ho hb))
  go_ret
  exact ⟨A, c, rfl, HO.out, HB.out⟩
end
end Go.Proofs.YthlijldapoeepaaGreat

/- Runs of rising numbers. Plain; no program in sight. -/

namespace Go.Proofs.YthlijldapoeepaaGreat
set_option linter.unusedVariables false
set_option maxRecDepth 100000

/-- The runs of a list: where each begins, and how many in a row. -/
def runsG : List Int → List (Int × Nat)
  | [] => []
  | z :: l => match runsG l with
    | [] => [(z, 1)]
    | (a, n) :: r => if z + 1 = a then (z, n + 1) :: r else (z, 1) :: (a, n) :: r
theorem runsG_cons (z : Int) (l : List Int) : runsG (z :: l) = match runsG l with
    | [] => [(z, 1)]
    | (a, n) :: r => if z + 1 = a then (z, n + 1) :: r else (z, 1) :: (a, n) :: r := rfl
theorem runsG_head {l : List Int} {a : Int} {n : Nat} {r : List (Int × Nat)} (h : runsG l = (a, n) :: r) : l[0]? = some a ∧ 1 ≤ n := by
  cases l with
  | nil => cases h
  | cons z l =>
    unfold runsG at h
    split at h
    · injection h with h1 h2; injection h1 with h1 h3; subst h1 h3; exact ⟨rfl, by omega⟩
    · split at h
      · injection h with h1 h2; injection h1 with h1 h3; subst h1 h3; exact ⟨rfl, by omega⟩
      · injection h with h1 h2; injection h1 with h1 h3; subst h1 h3; exact ⟨rfl, by omega⟩
theorem runsG_nil {l : List Int} (h : runsG l = []) : l = [] := by
  cases l with
  | nil => rfl
  | cons z l =>
    unfold runsG at h
    split at h
    · cases h
    · split at h <;> cases h
/-- The first run: as far as they rise by one. -/
theorem runsG_run : ∀ (n : Nat) (m : List Int) (z : Int), m[0]? = some z → 1 ≤ n → n ≤ m.length → (∀ j, j < n → m[j]? = some (z + j)) → (n = m.length ∨ m[n]? ≠ some (z + n)) → runsG m = (z, n) :: runsG (m.drop n)
  | 0, _, _, _, h, _, _, _ => by omega
  | n + 1, [], _, h, _, _, _, _ => by cases h
  | 0 + 1, x :: m, z, h0, _, _, _, hs => by
    simp at h0
    subst h0
    show runsG (x :: m) = (x, 1) :: runsG m
    rw [runsG_cons]
    split
    · rename_i he; rw [he]
    · rename_i a n r he
      obtain ⟨h1, h2⟩ := runsG_head he
      rw [if_neg ?_, he]
      intro e
      rcases hs with hs | hs
      · have : m = [] := List.eq_nil_of_length_eq_zero (by simpa using hs.symm)
        subst this
        cases h1
      · apply hs
        show m[0]? = _
        rw [h1]
        simp [e]
  | n + 1 + 1, x :: m, z, h0, _, hl, hj, hs => by
    simp at h0
    subst h0
    have h1 : m[0]? = some (x + 1) := by have := hj 1 (by omega); simpa using this
    have ih := runsG_run (n + 1) m (x + 1) h1 (by omega) (by simpa using hl) (fun j hj2 => by
      have := hj (j + 1) (by omega)
      rw [List.getElem?_cons_succ] at this
      rw [this]
      congr 1
      omega) (by
      rcases hs with hs | hs
      · left; simpa using hs
      · right
        rw [List.getElem?_cons_succ] at hs
        intro e
        apply hs
        rw [e]
        congr 1
        omega)
    show runsG (x :: m) = (x, n + 1 + 1) :: runsG (m.drop (n + 1))
    rw [runsG_cons, ih]
    simp only [if_pos]
/-- All of a run. -/
def run1 (p : Int × Nat) : List Int := (List.range p.2).map (fun (i : Nat) => p.1 + (i : Int))
theorem run1_succ (z : Int) (n : Nat) : run1 (z, n + 1) = z :: run1 (z + 1, n) := by
  unfold run1
  simp only [List.range_succ_eq_map, List.map_cons, List.map_map]
  congr 1
  · simp
  · apply List.map_congr_left
    intro i _
    simp [Function.comp]
    omega
theorem runsG_all : ∀ l : List Int, (runsG l).flatMap run1 = l
  | [] => rfl
  | z :: l => by
    have ih := runsG_all l
    unfold runsG
    split
    · rename_i he
      rw [he] at ih
      rw [← ih]
      simp [run1]
    · rename_i a n r he
      rw [he] at ih
      split
      · rename_i e
        subst e
        rw [List.flatMap_cons] at ih ⊢
        rw [run1_succ, List.cons_append, ih]
      · rw [List.flatMap_cons, ih]
        simp [run1]
theorem runsG_length_le : ∀ l : List Int, (runsG l).length ≤ l.length
  | [] => Nat.le_refl 0
  | z :: l => by
    have ih := runsG_length_le l
    unfold runsG
    split
    · simp
    · rename_i a n r he
      rw [he] at ih
      split
      · simp at ih ⊢; omega
      · simp at ih ⊢; omega
def rnAt (l : List Int) (k : Nat) : Int × Nat := (runsG l)[k]?.getD (0, 1)
end Go.Proofs.YthlijldapoeepaaGreat

/- The iterator of Runs: its contract. -/

namespace Go.Proofs.YthlijldapoeepaaGreat
set_option linter.unusedVariables false
set_option linter.unusedSimpArgs false
set_option maxRecDepth 100000
open Go.RowKit Go.Shelf

attribute [local go_sem] Oper.semAt_some

/-- The k-th run, as it is handed on. -/
def rnV (l : List Int) (k : Nat) : Array Value := #[.int .i64 (rnAt l (idx (runsG l).length k)).1, .int .i64 ((rnAt l (idx (runsG l).length k)).2 : Nat)]
def isN (l : List Int) : Prop := (∀ z ∈ l, 0 ≤ z ∧ z < 256) ∧ l.length ≤ 256
theorem at_row {w : World} {b : Nat} {l : List Int} (h : Rd w (some ⟨b, 0, none⟩) (l.map (Value.int .i64))) (i : Nat) (z : Int) (hz : l[i]? = some z) : w.cell? ⟨b, i, none⟩ = some (.int .i64 z) := by
  obtain ⟨ad, e, hc⟩ := h i (.int .i64 z) (by rw [List.getElem?_map, hz]; rfl)
  injection e with e
  subst e
  rw [add_lit, Nat.zero_add] at hc
  exact hc
theorem _root_.Go.Proofs.YthlijldapoeepaaGreat.Rd.keepb {w w' : World} {b : Nat} {xs : List Value} (h : Rd w (some ⟨b, 0, none⟩) xs) (hb : w'.heap[b]? = w.heap[b]?) : Rd w' (some ⟨b, 0, none⟩) xs := fun j u hj => by
  obtain ⟨ad, e, hc⟩ := h j u hj
  refine ⟨ad, e, ?_⟩
  injection e with e
  subst e
  rw [add_lit] at hc ⊢
  exact (World.cell?_of_block hb).trans hc
set_option maxHeartbeats 4000000 in
theorem runs2_in (n ly G b c : Nat) (A : Option Addr) (l : List Int) (hN : isN l) (hA : 0 < l.length → A = some ⟨b, 0, none⟩) (hc : l.length ≤ c) (J Jx : List Nat → World → Prop) (hab : ∀ pre W n, J pre W → J pre (W.drewN n))
    (hY : ∀ pre x W, J pre W → pre.length < (runsG l).length → YieldAt Fence.wide (n - 1) Tryz.prog ly (rnV l x) W fun e W' =>
      (e = .returned (.bool true) ∧ J (pre ++ [x]) W' ∧ Two G b W W') ∨ (e = .returned (.bool false) ∧ Jx (pre ++ [x]) W'))
    (W : World) (hs : Blk W G 39 #[.slice A l.length c]) (hr : Rd W A (l.map (Value.int .i64))) (h0 : J [] W) :
    CallsIn Fence.wide n Tryz.prog 93 #[.func (.yield ly) #[] #[], .pointer (some ⟨G, 0, none⟩)] W fun e W' => (∃ v, e = .returned v) ∧
      ((∃ ys, ys = List.range (runsG l).length ∧ J ys W') ∨ (∃ pre, True ∧ Jx pre W')) := by
  refine callsIn_of_wp Tryz.func93 rfl trivial ?_ rfl
  simp only [Tryz.ntmps93, List.size_toArray, List.length_cons, List.length_nil, Nat.reduceAdd, Nat.reduceSub, Array.replicate_succ, Array.replicate_zero, List.push_toArray, List.append_toArray, List.nil_append, List.cons_append]
  gi_wp2
  gi_loopw [3, 4] (fun i _ wr => ∃ k j : Nat, j ≤ l.length ∧ i = .int .i64 (j : Int) ∧ k ≤ (runsG l).length ∧ (runsG l).drop k = runsG (l.drop j) ∧ J (List.range k) wr ∧ Blk wr G 39 #[.slice A l.length c] ∧ Rd wr A (l.map (Value.int .i64)))
    (fun i _ _ => l.length - (RowKit.intOf i).toNat)
  case atStart => exact ⟨0, 0, by omega, rfl, by omega, rfl, h0, hs, hr⟩
  case round =>
    obtain ⟨k, j, hj, rfl, hk, hd, hJ, h1, h2⟩ := hrel
    have cG := h1.cell 0
    simp at cG
    have H1 := Lib.hid h1
    have H2 := Lib.hid h2
    have HJ := Lib.hid hJ
    have HD := Lib.hid hd
    have h256 := hN.2
    clear h1 h2 hJ hd
    by_cases hlt : j < l.length
    · obtain rfl := hA (by omega)
      obtain ⟨z, hz⟩ : ∃ z, l[j]? = some z := ⟨l[j], by simp [hlt]⟩
      have hz1 : ∀ i, i < 1 → l[j + i]? = some (z + (i : Int)) := fun i hi => by
        obtain rfl : i = 0 := by omega
        simpa using hz
      have HZ1 := Lib.hid hz1
      clear hz1
      gi_wp2
      gi_loopw [4] (fun v wr2 => ∃ m : Nat, 1 ≤ m ∧ j + m ≤ l.length ∧ v = .int .i64 (m : Int) ∧ (∀ i, i < m → l[j + i]? = some (z + i)) ∧ J (List.range k) wr2 ∧ Blk wr2 G 39 #[.slice (some ⟨b, 0, none⟩) l.length c] ∧ Rd wr2 (some ⟨b, 0, none⟩) (l.map (Value.int .i64)))
        (fun v _ => l.length - (RowKit.intOf v).toNat)
      case atStart => exact ⟨1, by omega, by omega, rfl, HZ1.out, HJ.out, H1.out, H2.out⟩
      case round =>
        obtain ⟨m, hm1, hm2, rfl, hall, hJ, h1, h2⟩ := hrel
        have cG2 := h1.cell 0
        simp at cG2
        have ew1 : IntKind.i64.wrap ((j : Int) + (m : Int)) = (j : Int) + (m : Int) := wrapE rfl (by omega)
        have ew3 : ((j : Int) + (m : Int)).toNat = j + m := by omega
        have hzb := hN.1 z (List.mem_of_getElem? hz)
        have ew2 : IntKind.i64.wrap (z + (m : Int)) = z + (m : Int) := wrapE rfl (by omega)
        have rz := at_row h2 j z hz
        have HJ0 := Lib.hid hJ
        have HJ2 : Hid (J (List.range k) wr.drew) := Lib.hid (hab _ _ 1 hJ)
        have H12 := Lib.hid h1.drew
        have H22 := Lib.hid h2.drew
        have HALL := Lib.hid hall
        clear h1 h2 hJ hall
        by_cases hend : j + m < l.length
        · obtain ⟨y, hy⟩ : ∃ y, l[j + m]? = some y := ⟨l[j + m], by simp [hend]⟩
          have ry := at_row H22.out (j + m) y hy
          have b1 : decide (((j : Int) + (m : Int)) < (l.length : Int)) = true := decide_eq_true (by omega)
          have b2 : 0 ≤ ((j : Int) + (m : Int)) := by omega
          have b3 : ((j : Int) + (m : Int)) < (l.length : Int) := by omega
          by_cases hyz : y = z + (m : Int)
          · have t1 : (y == z + (m : Int)) = true := by simpa using hyz
            have HYZ := Lib.hid hyz
            clear hyz
            gi_wp2
            gi_region
            gi_wp2
            refine ⟨⟨m + 1, by omega, by omega, by go_num, fun i hi => ?_, HJ2.out, H12.out, H22.out⟩, by simp [RowKit.intOf]; omega⟩
            by_cases e : i = m
            · rw [e, hy, HYZ.out]
            · exact HALL.out i (by omega)
          · have t1 : (y == z + (m : Int)) = false := by simpa using hyz
            have HYZ := Lib.hid hyz
            clear hyz
            have hmax : m = (l.drop j).length ∨ (l.drop j)[m]? ≠ some (z + (m : Int)) := by
              rw [List.length_drop, List.getElem?_drop]
              right
              rw [hy]
              intro e
              injection e with e
              exact HYZ.out e
            have hrun : runsG (l.drop j) = (z, m) :: runsG (l.drop (j + m)) := by
              have := runsG_run m (l.drop j) z (by rw [List.getElem?_drop]; simpa using hz) hm1 (by rw [List.length_drop]; omega) (fun i hi => by rw [List.getElem?_drop]; exact HALL.out i hi) hmax
              rw [List.drop_drop] at this
              exact this
            have hdk := HD.out.trans hrun
            have hk2 : k < (runsG l).length := by
              apply Classical.byContradiction
              intro hn
              rw [List.drop_eq_nil_of_le (by omega)] at hdk
              cases hdk
            have hrk : rnAt l k = (z, m) := by
              have h5 : ((runsG l).drop k)[0]? = some (z, m) := by rw [hdk]; rfl
              rw [List.getElem?_drop] at h5
              unfold rnAt
              rw [show k = k + 0 from rfl, h5]
              rfl
            have hdk1 : (runsG l).drop (k + 1) = runsG (l.drop (j + m)) := by
              rw [← List.drop_drop, hdk]
              rfl
            have HD1 := Lib.hid hdk1
            obtain ⟨fn, tmps, assign, body, hfy, hR⟩ := hY (List.range k) k wr.drew HJ2.out (by simpa using hk2)
            unfold rnV at hfy
            rw [idx_of hk2, hrk] at hfy
            clear hmax hrun hdk hrk hdk1
            gi_wp2
            gi_region
            gi_wp2
            refine ⟨fun h => (by cases h), ?_⟩
            refine hR.mono ?_
            rintro e W3 (⟨rfl, hJ3, hk3⟩ | ⟨rfl, hJx3⟩)
            · have G1 := Lib.hid (hk3.blk1 H12.out)
              have G2 := Lib.hid (H22.out.keepb hk3.2)
              have HJ3 := Lib.hid hJ3
              clear hJ3 hk3
              gi_wp2
              refine ⟨⟨k + 1, j + m, hm2, by go_num, hk2, HD1.out, by rw [List.range_succ]; exact HJ3.out, G1.out, G2.out⟩, by simp [RowKit.intOf]; omega⟩
            · gi_wp2
              refine bodyPost_ret (results_none rfl _ _ _) rfl ?_
              exact ⟨⟨_, rfl⟩, .inr ⟨_, trivial, hJx3⟩⟩
        · have b1 : decide (((j : Int) + (m : Int)) < (l.length : Int)) = false := decide_eq_false (by omega)
          have hmax : m = (l.drop j).length ∨ (l.drop j)[m]? ≠ some (z + (m : Int)) := by
            rw [List.length_drop, List.getElem?_drop]
            left
            omega
          have hrun : runsG (l.drop j) = (z, m) :: runsG (l.drop (j + m)) := by
            have := runsG_run m (l.drop j) z (by rw [List.getElem?_drop]; simpa using hz) hm1 (by rw [List.length_drop]; omega) (fun i hi => by rw [List.getElem?_drop]; exact HALL.out i hi) hmax
            rw [List.drop_drop] at this
            exact this
          have hdk := HD.out.trans hrun
          have hk2 : k < (runsG l).length := by
            apply Classical.byContradiction
            intro hn
            rw [List.drop_eq_nil_of_le (by omega)] at hdk
            cases hdk
          have hrk : rnAt l k = (z, m) := by
            have h5 : ((runsG l).drop k)[0]? = some (z, m) := by rw [hdk]; rfl
            rw [List.getElem?_drop] at h5
            unfold rnAt
            rw [show k = k + 0 from rfl, h5]
            rfl
          have hdk1 : (runsG l).drop (k + 1) = runsG (l.drop (j + m)) := by
            rw [← List.drop_drop, hdk]
            rfl
          have HD1 := Lib.hid hdk1
          have HRK := Lib.hid hrk
          clear hmax hrun hdk hrk hdk1
          have b1n : decide (j + m < l.length) = false := decide_eq_false hend
          gi_wp2
          refine wpIn_wide.2 ?_
          go_quiet (fail)
          obtain ⟨fn, tmps, assign, body, hfy, hR⟩ := hY (List.range k) k (wr.drewN nq) (hab _ _ nq HJ0.out) (by simpa using hk2)
          unfold rnV at hfy
          rw [idx_of hk2, HRK.out] at hfy
          gi_wp2
          refine ⟨fun h => (by cases h), ?_⟩
          refine hR.mono ?_
          rintro e W3 (⟨rfl, hJ3, hk3⟩ | ⟨rfl, hJx3⟩)
          · have G1 := Lib.hid (hk3.blk1 (H12.out.drewN nq))
            have G2 := Lib.hid ((H22.out.drewN nq).keepb hk3.2)
            have HJ3 := Lib.hid hJ3
            clear hJ3 hk3
            gi_wp2
            refine ⟨⟨k + 1, j + m, hm2, by go_num, hk2, HD1.out, by rw [List.range_succ]; exact HJ3.out, G1.out, G2.out⟩, by simp [RowKit.intOf]; omega⟩
          · gi_wp2
            refine bodyPost_ret (results_none rfl _ _ _) rfl ?_
            exact ⟨⟨_, rfl⟩, .inr ⟨_, trivial, hJx3⟩⟩
    · gi_wp2
      go_end0
      have hkN : k = (runsG l).length := by
        have := HD.out
        rw [List.drop_eq_nil_of_le (by omega : l.length ≤ j)] at this
        have := List.drop_eq_nil_iff.1 this
        omega
      exact ⟨⟨_, rfl⟩, .inl ⟨_, rfl, hkN ▸ HJ.out⟩⟩

theorem runs2_stops (G b c : Nat) (A : Option Addr) (l : List Int) (hN : isN l) (hA : 0 < l.length → A = some ⟨b, 0, none⟩) (hc : l.length ≤ c) (w : World) (hs : Blk w G 39 #[.slice A l.length c]) (hr : Rd w A (l.map (Value.int .i64))) :
    SeqStopsK Fence.wide 9 Tryz.prog 93 #[.pointer (some ⟨G, 0, none⟩)] (rnV l) (Two G b) (fun ys => ys = List.range (runsG l).length) (fun _ => True) (runsG l).length w := fun ly J Jx W hW hab _ hY h0 =>
  runs2_in 9 ly G b c A l hN hA hc J Jx (fun pre W1 n h => hab pre W1 (W1.drewN n) none h ⟨rfl, rfl, rfl, Nat.le_refl _, fun _ _ _ => rfl⟩ (fun r e => by cases e)) hY W (hs.keep hW) (hr.below hW) h0
/-- The iterator of no image. -/
theorem runs1_stops (w : World) (Kp : World → World → Prop) : SeqStopsK Fence.wide 9 Tryz.prog 91 #[] (rnV []) Kp (fun ys => ys = ([] : List Nat)) (fun _ => True) 0 w := fun ly J Jx W hW hab _ hY h0 => by
  refine callsIn_of_wp Tryz.func91 rfl trivial ?_ rfl
  simp only [Tryz.ntmps91, List.size_toArray, List.length_cons, List.length_nil, Nat.reduceAdd, Nat.reduceSub, Array.replicate_succ, Array.replicate_zero, List.push_toArray, List.append_toArray, List.nil_append, List.cons_append]
  gi_wp2
  go_end0
  exact ⟨⟨_, rfl⟩, .inl ⟨_, rfl, h0⟩⟩
section
variable {w : World} {g B : Nat} {L : List (List Int)} {D : DataW Unit} {M : Nat → Prop}
theorem nums_isN (h : ImgOk L) : isN (nums L) := by
  refine ⟨fun z hz => ?_, ?_⟩
  · obtain ⟨i, rfl, hi, _⟩ := (numsTo_mem L z _).1 hz
    have := h.hi
    omega
  · rw [nums_length]
    exact Nat.le_trans (used_le L) h.hi
/-- What Runs hands back. -/
def RetRuns (w : World) (l : List Int) (e : Ending) (w' : World) : Prop := ∃ A c G b, e = .returned (.func (.func 93) #[] #[.pointer (some ⟨G, 0, none⟩)]) ∧ w.heap.size ≤ G ∧ (0 < l.length → A = some ⟨b, 0, none⟩) ∧ w.heap.size ≤ b ∧ b < w'.heap.size ∧ l.length ≤ c ∧ Blk w' G 39 #[.slice A l.length c] ∧ Rd w' A (l.map (Value.int .i64)) ∧ Below w.heap.size w w'
theorem runs_any (h : IsImg w g L B D M) : Calls Tryz.prog 73 #[.pointer (some ⟨g, 0, none⟩)] w (RetRuns w (nums L)) := by
  have HH := Lib.hid h
  clear h
  go_enter Tryz.func73, Tryz.ntmps73
  go_wp2_with (first
    | (go_at_call 92; (with_reducible refine (inumbers_any HH.out).mono ?_); rintro e w1 ⟨A, c, rfl, ho, hb⟩; have HO := Lib.hid ho; have HB := Lib.hid hb; clear ho hb))
  go_ret
  have hr := (Rd.of_own HO.out).below (bl_alloc w1 (.cells #[.slice A (nums L).length c] 39))
  have hbl := HB.out.size
  rcases HO.out.2 with ⟨h1, hz⟩ | ⟨b, cap, cur, hv, hb, hh, hcap, _⟩
  · injection h1 with h1 h2 h3
    refine ⟨A, c, w1.heap.size, w1.heap.size, rfl, hbl, fun h => by omega, hbl, by simp, by omega, Blk.new _ _ _, hr, bl_chain HB.out (bl_alloc _ _)⟩
  · injection hv with h1 h2 h3
    have hlt := (Array.getElem?_eq_some_iff.1 hh).1
    exact ⟨A, c, w1.heap.size, b, rfl, hbl, fun h => h1, hb, by simp; omega, by omega, Blk.new _ _ _, hr, bl_chain HB.out (bl_alloc _ _)⟩
theorem runs_nil (w : World) : Calls Tryz.prog 73 #[.pointer none] w fun e w' => e = .returned (.func (.func 91) #[] #[]) ∧ w = w' := by
  go_enter Tryz.func73, Tryz.ntmps73
  go_wp2_with fail
  go_ret
  exact ⟨rfl, rfl⟩
end
end Go.Proofs.YthlijldapoeepaaGreat
