/- An image and a reference's image, apart from each other. -/
import Derived.Test.YtdddbpnllhnfdaaRefX6
namespace Go.Proofs.Ytdddbpnllhnfdaa
set_option linter.unusedVariables false
set_option maxRecDepth 100000
open Go.RowKit Go.Shelf

/-- All of both lies at or above w.heap.size; nothing of either lies in Z. -/
def Duo (w W : World) (Z : Nat → Prop) (g r : Nat) (L1 L2 : List (List Int)) : Prop := ∃ B D M q c M2, IsImg W g L1 B D M ∧ IsRef W r L2 q c M2 ∧ (∀ b, M b → ¬ M2 b) ∧ (∀ b, M b → w.heap.size ≤ b) ∧ (∀ b, M2 b → w.heap.size ≤ b) ∧ Below w.heap.size w W ∧ (∀ b, Z b → b < W.heap.size ∧ ¬ M b ∧ ¬ M2 b)
section
variable {w W W' : World} {Z : Nat → Prop} {g r : Nat} {L1 L2 L' : List (List Int)}
theorem Duo.below (h : Duo w W Z g r L1 L2) (hb : Below W.heap.size W W') : Duo w W' Z g r L1 L2 := by
  obtain ⟨B, D, M, q, c, M2, h1, h2, h3, h4, h5, h6, h7⟩ := h
  exact ⟨B, D, M, q, c, M2, h1.below hb, h2.below hb, h3, h4, h5, bl_chain h6 hb, fun b hz => ⟨Nat.lt_of_lt_of_le (h7 b hz).1 hb.size, (h7 b hz).2⟩⟩
theorem Duo.bl (h : Duo w W Z g r L1 L2) : Below w.heap.size w W := by
  obtain ⟨B, D, M, q, c, M2, h1, h2, h3, h4, h5, h6, h7⟩ := h
  exact h6
/-- New blocks are in neither. -/
theorem Duo.avoid (h : Duo w W Z g r L1 L2) (hb : Below W.heap.size W W') {Z' : Nat → Prop} (hZ : ∀ b, Z' b → W.heap.size ≤ b ∧ b < W'.heap.size) : Duo w W' Z' g r L1 L2 := by
  obtain ⟨B, D, M, q, c, M2, h1, h2, h3, h4, h5, h6, h7⟩ := h
  exact ⟨B, D, M, q, c, M2, h1.below hb, h2.below hb, h3, h4, h5, bl_chain h6 hb, fun b hz => ⟨(hZ b hz).2, fun x => by have := h1.mlt b x; have := (hZ b hz).1; omega, fun x => by have := h2.mlt b x; have := (hZ b hz).1; omega⟩⟩
theorem Duo.forget (h : Duo w W Z g r L1 L2) : Duo w W NoB g r L1 L2 := by
  obtain ⟨B, D, M, q, c, M2, h1, h2, h3, h4, h5, h6, h7⟩ := h
  exact ⟨B, D, M, q, c, M2, h1, h2, h3, h4, h5, h6, fun b hz => hz.elim⟩
/-- What a call on the image leaves. -/
theorem Duo.img (h : Duo w W Z g r L1 L2) : ∃ B D M, IsImg W g L1 B D M ∧ NoCells W (fun b => b = B) ∧ ∀ (L' : List (List Int)) (err : Int) (e : Ending) (W' : World), RetS W g L' B M err e W' → e = .returned (.int .i64 err) ∧ Duo w W' Z g r L' L2 ∧ Tr (fun b => b = B) W W' := by
  obtain ⟨B, D, M, q, c, M2, h1, h2, h3, h4, h5, h6, h7⟩ := h
  refine ⟨B, D, M, h1, NoCells.mapB h1, fun L' err e W' hr => ?_⟩
  obtain ⟨D', M', rfl, hI, hM, ht⟩ := hr
  refine ⟨rfl, ⟨B, D', M', q, c, M2, hI, h2.tr ht (fun b hb e => h3 B h1.mB (e ▸ hb)), fun b hb hb2 => ?_, fun b hb => ?_, h5, h6.trans (ht.to_below h6.size (fun b e => by rw [e]; exact h4 B h1.mB)), fun b hz => ⟨Nat.lt_of_lt_of_le (h7 b hz).1 ht.size, fun x => ?_, (h7 b hz).2.2⟩⟩, ht⟩
  · rcases hM b hb with h | h
    · exact h3 b h hb2
    · have := h2.mlt b hb2; omega
  · rcases hM b hb with h | h
    · exact h4 b h
    · exact Nat.le_trans h6.size h
  · rcases hM b x with h | h
    · exact (h7 b hz).2.1 h
    · have := (h7 b hz).1; omega
/-- What a call on the reference's image leaves. -/
theorem Duo.ref (h : Duo w W Z g r L1 L2) : ∃ q c M2, IsRef W r L2 q c M2 ∧ w.heap.size ≤ q ∧ ∀ (L' : List (List Int)) (err : Int) (e : Ending) (W' : World), RetRS W r L' q c M2 err e W' → e = .returned (.int .i64 err) ∧ Duo w W' Z g r L1 L' ∧ Tr (fun b => b = q) W W' := by
  obtain ⟨B, D, M, q, c, M2, h1, h2, h3, h4, h5, h6, h7⟩ := h
  refine ⟨q, c, M2, h2, h5 q h2.mq, fun L' err e W' hr => ?_⟩
  obtain ⟨M', rfl, hI, hM, ht⟩ := hr
  refine ⟨rfl, ⟨B, D, M, q, c, M', h1.tr ht (fun b hb e => h3 b hb (e ▸ h2.mq)), hI, fun b hb hb2 => ?_, h4, fun b hb => ?_, h6.trans (ht.to_below h6.size (fun b e => by rw [e]; exact h5 q h2.mq)), fun b hz => ⟨Nat.lt_of_lt_of_le (h7 b hz).1 ht.size, (h7 b hz).2.1, fun x => ?_⟩⟩, ht⟩
  · rcases hM b hb2 with h | h
    · exact h3 b hb h
    · have := h1.mlt b hb; omega
  · rcases hM b hb with h | h
    · exact h5 b h
    · exact Nat.le_trans h6.size h
  · rcases hM b x with h | h
    · exact (h7 b hz).2.2 h
    · have := (h7 b hz).1; omega
/-- What lies in Z is turned. -/
theorem Duo.turn (h : Duo w W Z g r L1 L2) {F : Nat → Prop} (ht : Tr F W W') (hF : ∀ b, F b → Z b) (hw : ∀ b, F b → w.heap.size ≤ b) : Duo w W' Z g r L1 L2 := by
  obtain ⟨B, D, M, q, c, M2, h1, h2, h3, h4, h5, h6, h7⟩ := h
  exact ⟨B, D, M, q, c, M2, h1.tr ht (fun b hb hf => (h7 b (hF b hf)).2.1 hb), h2.tr ht (fun b hb hf => (h7 b (hF b hf)).2.2 hb), h3, h4, h5, h6.trans (ht.to_below h6.size hw), fun b hz => ⟨Nat.lt_of_lt_of_le (h7 b hz).1 ht.size, (h7 b hz).2⟩⟩
theorem Duo.new {M1 M2 : Nat → Prop} {q c : Nat} {W0 : World} (h1 : Img W0 g L1 M1) (hM1 : ∀ b, M1 b → w.heap.size ≤ b) (hb : Below w.heap.size w W0) (h2 : IsRef W r L2 q c M2) (hM2 : ∀ b, M2 b → W0.heap.size ≤ b) (hb2 : Below W0.heap.size W0 W) : Duo w W NoB g r L1 L2 := by
  obtain ⟨B, D, h1⟩ := h1
  exact ⟨B, D, M1, q, c, M2, h1.below hb2, h2, fun b x y => by have := h1.mlt b x; have := hM2 b y; omega, hM1, fun b x => Nat.le_trans hb.size (hM2 b x), bl_chain hb hb2, fun b hz => hz.elim⟩
end
end Go.Proofs.Ytdddbpnllhnfdaa
