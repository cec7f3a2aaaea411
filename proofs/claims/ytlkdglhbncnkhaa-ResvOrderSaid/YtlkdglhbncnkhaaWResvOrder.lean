/- The walk of ResvOrder. -/
import Derived.Test.YtlkdglhbncnkhaaResvRow
import Derived.Test.YtlkdglhbncnkhaaResvPlain4
import Derived.Test.YtlkdglhbncnkhaaBytesR
import Derived.Test.YtlkdglhbncnkhaaExt
import Derived.IntWalk
namespace Go.Proofs.Ytlkdglhbncnkhaa
set_option linter.unusedVariables false
open Go.RowKit

def cnt16 (n : Int) : Int := if 0 ≤ n then n % 16 else if n.tmod 16 < 0 then n.tmod 16 + 16 else n.tmod 16
theorem tmod16 {n : Int} (h : n < 0) : n.tmod 16 ≤ 0 ∧ -16 < n.tmod 16 := by
  constructor
  · have := Int.tmod_nonneg 16 (show 0 ≤ -n by omega); rw [Int.neg_tmod] at this; omega
  · have := Int.tmod_lt_of_pos (-n) (show (0 : Int) < 16 by omega); rw [Int.neg_tmod] at this; omega
theorem cnt16_range (n : Int) : 0 ≤ cnt16 n ∧ cnt16 n < 16 := by
  unfold cnt16
  split
  · have h1 : 0 ≤ n % 16 := Int.emod_nonneg _ (by omega)
    have h2 : n % 16 < 16 := Int.emod_lt_of_pos _ (by omega)
    omega
  · have := tmod16 (show n < 0 by omega)
    split <;> omega
theorem count_any (n : Int) (w : World) (hn : -9223372036854775808 ≤ n ∧ n ≤ 9223372036854775807) (k : Int) (hk : k = cnt16 n) : Calls Try.prog 16 #[.int .i64 n, .int .i64 16] w fun e w' => e = .returned (.int .i64 k) ∧ w = w' := by
  have HK := Lib.hid hk
  clear hk
  by_cases h0 : 0 ≤ n
  · have h1 : 0 ≤ n % 16 := Int.emod_nonneg _ (by omega)
    have h2 : n % 16 < 16 := Int.emod_lt_of_pos _ (by omega)
    have HE := Lib.hid (show cnt16 n = n % 16 from if_pos h0)
    go_enter Try.func16, Try.ntmps16
    go_wp2_with fail
    go_ret
    exact ⟨by rw [HK.out, HE.out]; rfl, rfl⟩
  · obtain ⟨h1, h2⟩ := tmod16 (show n < 0 by omega)
    have HE := Lib.hid (show cnt16 n = if n.tmod 16 < 0 then n.tmod 16 + 16 else n.tmod 16 from if_neg h0)
    go_enter Try.func16, Try.ntmps16
    go_wp2_with fail
    · go_ret
      exact ⟨by rw [HK.out, HE.out, if_pos (by assumption)]; rfl, rfl⟩
    · go_ret
      exact ⟨by rw [HK.out, HE.out, if_neg (by omega)]; rfl, rfl⟩

/-- Both states under way. -/
structure O2 (w W : World) (g gt go gk : Nat) (o u : Array Value) (s t : RS) : Prop where
  s : IsRS W g s
  t : IsRS W gt t
  b : Below w.heap.size w W
  lg : w.heap.size ≤ g
  lt : w.heap.size ≤ gt
  ne : g ≠ gt
  o : Blk W go 3 o
  u : Blk W gk 32 u
  no : go ≠ g ∧ go ≠ gt ∧ gk ≠ g ∧ gk ≠ gt
section
variable {w W W' : World} {g gt go gk : Nat} {o u : Array Value} {s t s' t' : RS}
theorem O2.below (h : O2 w W g gt go gk o u s t) (hb : Below W.heap.size W W') : O2 w W' g gt go gk o u s t :=
  ⟨h.s.below hb, h.t.below hb, bl_chain h.b hb, h.lg, h.lt, h.ne, h.o.keep hb, h.u.keep hb, h.no⟩
theorem O2.doS (h : O2 w W g gt go gk o u s t) (hs : IsRS W' g s') (ht : Tr (fun b => b = g) W W') : O2 w W' g gt go gk o u s' t :=
  ⟨hs, h.t.tr ht (Ne.symm h.ne), bl_tr h.b ht (fun b e => by have := h.lg; omega), h.lg, h.lt, h.ne, ht.blk h.o h.no.1, ht.blk h.u h.no.2.2.1, h.no⟩
theorem O2.doT (h : O2 w W g gt go gk o u s t) (hs : IsRS W' gt t') (ht : Tr (fun b => b = gt) W W') : O2 w W' g gt go gk o u s t' :=
  ⟨h.s.tr ht h.ne, hs, bl_tr h.b ht (fun b e => by have := h.lt; omega), h.lg, h.lt, h.ne, ht.blk h.o h.no.2.1, ht.blk h.u h.no.2.2.2, h.no⟩
end

def sK (a b c : Nat) (key own : Int) : Nat → RS
  | 0 => newRS
  | 1 => s1 a key
  | 2 => s2 a b key key
  | _ => s3 a b c key own
def tK (a b c : Nat) (key own : Int) : Nat → RS
  | 0 => newRS
  | 1 => s1 c own
  | 2 => s2 c b own key
  | _ => s3 a b c key own
section
variable {w : World} {g : Nat} {s : RS}
theorem do_reg (h : IsRS w g s) (n : Int) (hn : 0 ≤ n ∧ n < 16) (v : Int) (hv : 0 ≤ v ∧ v < 18446744073709551616) (s' : RS) (hs : (doO s n (regC v)).s = s') :
    Calls Try.prog 8 #[.pointer (some ⟨g, 0, none⟩), .int .i64 n, .agg #[.int .i64 0, .int .u64 0, .int .u64 v, .int .i64 0]] w fun e w' => (∃ x, e = .returned x) ∧ IsRS w' g s' ∧ Tr (fun b => b = g) w w' :=
  (do_any h n (by omega) (regC v) ⟨by show (_ ≤ (0 : Int) ∧ (0 : Int) ≤ _); omega, by show ((0 : Int) ≤ 0 ∧ (0 : Int) < _); omega, hv, by show (_ ≤ (0 : Int) ∧ (0 : Int) ≤ _); omega⟩).mono fun e w' hp => by
    obtain ⟨A, c, he, h1, _, h2⟩ := hp
    exact ⟨⟨_, he⟩, hs ▸ h1, h2⟩
theorem do_pre (h : IsRS w g s) (n : Int) (hn : 0 ≤ n ∧ n < 16) (key own : Int) (hk : 0 ≤ key ∧ key < 18446744073709551616) (ho : 0 ≤ own ∧ own < 18446744073709551616) (o : DoOut) (hs : doO s n (preC key own) = o) (hr : o.r = goodR) (hl : o.ns.length = 2) :
    Calls Try.prog 8 #[.pointer (some ⟨g, 0, none⟩), .int .i64 n, .agg #[.int .i64 4, .int .u64 own, .int .u64 key, .int .i64 1]] w fun e w' => ∃ A k, e = .returned (.tuple #[.agg #[.int .i64 0, .int .i64 0, .int .i64 0, .int .i64 0, .slice none 0 0], .slice A 2 k]) ∧ IsRS w' g o.s ∧ Tr (fun b => b = g) w w' :=
  (do_any h n (by omega) (preC key own) ⟨by show (_ ≤ (4 : Int) ∧ (4 : Int) ≤ _); omega, ho, hk, by show (_ ≤ (1 : Int) ∧ (1 : Int) ≤ _); omega⟩).mono fun e w' hp => by
    obtain ⟨A, c, he, h1, _, h2⟩ := hp
    subst hs
    rw [hr, hl] at he
    exact ⟨A, c, he, h1, h2⟩
theorem key_i (h : IsRS w g s) (n : Int) (m : Nat) (hm : n = m) (hlt : m < 16) (v : Int) (hv : s.key m = v) : Calls Try.prog 10 #[.pointer (some ⟨g, 0, none⟩), .int .i64 n] w fun e w' => e = .returned (.int .u64 v) ∧ w = w' := by
  subst hm hv
  exact key_any h m hlt
theorem gen_i (h : IsRS w g s) (v : Int) (hv : s.gen = v) : Calls Try.prog 17 #[.pointer (some ⟨g, 0, none⟩)] w fun e w' => e = .returned (.int .i64 v) ∧ w = w' := by
  subst hv
  exact gen_any h
theorem mayw_i (h : IsRS w g s) (n : Int) (m : Nat) (hm : n = m) (hlt : m < 16) (v : Bool) (hv : mayW s m = v) : Calls Try.prog 11 #[.pointer (some ⟨g, 0, none⟩), .int .i64 n, .int .i64 2] w fun e w' => e = .returned (.bool v) ∧ w = w' := by
  subst hm hv
  exact mayw_any h m hlt
theorem mayr_i (h : IsRS w g s) (n : Int) (m : Nat) (hm : n = m) (hlt : m < 16) (v : Bool) (hv : mayR s m = v) : Calls Try.prog 11 #[.pointer (some ⟨g, 0, none⟩), .int .i64 n, .int .i64 1] w fun e w' => e = .returned (.bool v) ∧ w = w' := by
  subst hm hv
  exact mayr_any h m hlt
theorem ext_conv {w : World} {A : Option Addr} {n c : Nat} {l : List Int} (h : Rd w A (by8 l)) (hl : l.length = n) :
    ∀ W, Ext w W → (convert 26 9 (.slice A n c)).run Try.prog W = .ok (.string (strOfNums l)) W := fun W hW => conv8 n c (h.below hW) hl
theorem ext_on {w w' : World} {P : World → Prop} (h : ∀ W, Ext w W → P W) (hb : Below w.heap.size w w') : ∀ W, Ext w' W → P W := fun W hW => h W (bl_chain hb hW)
theorem blk_ext {w : World} {g : Nat} {t : TypeId} {cs : Array Value} (h : Blk w g t cs) (i : Nat) (v : Value) (hv : cs[i]? = some v) : ∀ W, Ext w W → W.cell? ⟨g, i, none⟩ = some v := fun W hW => by rw [(h.keep hW).cell]; exact hv
end

set_option maxHeartbeats 16000000 in
set_option maxRecDepth 20000 in
theorem resvOrder_walk (a0 a1 a2 key own : Int) (w : World) (h0 : -9223372036854775808 ≤ a0 ∧ a0 ≤ 9223372036854775807) (h1 : -9223372036854775808 ≤ a1 ∧ a1 ≤ 9223372036854775807) (h2 : -9223372036854775808 ≤ a2 ∧ a2 ≤ 9223372036854775807)
    (hk : 0 ≤ key ∧ key < 18446744073709551616) (ho : 0 ≤ own ∧ own < 18446744073709551616) :
    Calls Try.prog 6 #[.int .i64 a0, .int .i64 a1, .int .i64 a2, .int .u64 key, .int .u64 own] w fun e w' => e = .returned (.bool true) ∧ Below w.heap.size w w' := by
  have H0 := Lib.hid h0
  have H1 := Lib.hid h1
  have H2 := Lib.hid h2
  have HK := Lib.hid hk
  have HO := Lib.hid ho
  obtain ⟨a, ea⟩ : ∃ a, a = cnt16 a0 := ⟨_, rfl⟩
  obtain ⟨b, eb⟩ : ∃ a, a = cnt16 a1 := ⟨_, rfl⟩
  obtain ⟨c, ec⟩ : ∃ a, a = cnt16 a2 := ⟨_, rfl⟩
  have ra := cnt16_range a0
  have rb := cnt16_range a1
  have rc := cnt16_range a2
  rw [← ea] at ra
  rw [← eb] at rb
  rw [← ec] at rc
  have EA := Lib.hid ea
  have EB := Lib.hid eb
  have EC := Lib.hid ec
  clear h0 h1 h2 hk ho ea eb ec
  have hcs : ((a == b) = true ∨ ((a == b) = false ∧ (a == c) = true) ∨ ((a == b) = false ∧ (a == c) = false ∧ (b == c) = true) ∨ ((a == b) = false ∧ (a == c) = false ∧ (b == c) = false ∧ (key == 0) = true)
    ∨ ((a == b) = false ∧ (a == c) = false ∧ (b == c) = false ∧ (key == 0) = false ∧ (own == 0) = true) ∨ ((a == b) = false ∧ (a == c) = false ∧ (b == c) = false ∧ (key == 0) = false ∧ (own == 0) = false ∧ (key == own) = true))
    ∨ ((a == b) = false ∧ (a == c) = false ∧ (b == c) = false ∧ (key == 0) = false ∧ (own == 0) = false ∧ (key == own) = false) := by
    rcases Bool.eq_false_or_eq_true (a == b) with h | h <;> rcases Bool.eq_false_or_eq_true (a == c) with h' | h' <;> rcases Bool.eq_false_or_eq_true (b == c) with h'' | h'' <;>
      rcases Bool.eq_false_or_eq_true (key == 0) with k | k <;> rcases Bool.eq_false_or_eq_true (own == 0) with k' | k' <;> rcases Bool.eq_false_or_eq_true (key == own) with k'' | k'' <;> simp [h, h', h'', k, k', k'']
  rcases hcs with hcs | ⟨p1, p2, p3, p4, p5, p6⟩
  · rcases hcs with p | ⟨p1, p⟩ | ⟨p1, p2, p⟩ | ⟨p1, p2, p3, p⟩ | ⟨p1, p2, p3, p4, p⟩ | ⟨p1, p2, p3, p4, p5, p⟩
    all_goals
      go_enter Try.func6, Try.ntmps6
      go_wp2_with (first
        | (go_at_call 16; (with_reducible refine (count_any a0 _ H0.out a EA.out).mono ?_); rintro e w' ⟨rfl, rfl⟩)
        | (go_at_call 16; (with_reducible refine (count_any a1 _ H1.out b EB.out).mono ?_); rintro e w' ⟨rfl, rfl⟩)
        | (go_at_call 16; (with_reducible refine (count_any a2 _ H2.out c EC.out).mono ?_); rintro e w' ⟨rfl, rfl⟩)
        | (go_at_call 13; (with_reducible refine (known_any _).mono ?_); rintro e w3 ⟨rfl, hb⟩; have HB3 := Lib.hid hb; clear hb))
      go_ret
      exact ⟨rfl, HB3.out⟩
  · have hab : a ≠ b := by simpa using p1
    have hac : a ≠ c := by simpa using p2
    have hbc : b ≠ c := by simpa using p3
    have hk0 : key ≠ 0 := by simpa using p4
    have ho0 : own ≠ 0 := by simpa using p5
    have hko : key ≠ own := by simpa using p6
    have HN := Lib.hid (show a ≠ b ∧ a ≠ c ∧ b ≠ c ∧ key ≠ 0 ∧ own ≠ 0 ∧ key ≠ own from ⟨hab, hac, hbc, hk0, ho0, hko⟩)
    clear hab hac hbc hk0 ho0 hko
    go_enter Try.func6, Try.ntmps6
    go_wp2_with (first
      | (go_at_call 16; (with_reducible refine (count_any a0 _ H0.out a EA.out).mono ?_); rintro e w' ⟨rfl, rfl⟩)
      | (go_at_call 16; (with_reducible refine (count_any a1 _ H1.out b EB.out).mono ?_); rintro e w' ⟨rfl, rfl⟩)
      | (go_at_call 16; (with_reducible refine (count_any a2 _ H2.out c EC.out).mono ?_); rintro e w' ⟨rfl, rfl⟩)
      | (go_at_call 7; (with_reducible refine (new_any w).mono ?_); rintro e w1 ⟨rfl, hs, hb⟩; have HS1 := Lib.hid hs; have B1 := Lib.hid hb; have z1 := hs.lt; clear hs hb)
      | (go_at_call 7; (with_reducible refine (new_any w1).mono ?_); rintro e w2 ⟨rfl, hs, hb⟩; have HS2 := Lib.hid hs; have B2 := Lib.hid hb; have z2 := hs.lt; clear hs hb))
    have O3 : Hid (O2 w ((w2.alloc (.cells #[.int .i64 a, .int .i64 b, .int .i64 c] 3)).alloc (.cells #[.int .u64 key, .int .u64 key, .int .u64 own] 32)) w.heap.size w1.heap.size w2.heap.size (w2.heap.size + 1) #[.int .i64 a, .int .i64 b, .int .i64 c] #[.int .u64 key, .int .u64 key, .int .u64 own] newRS newRS) := Lib.hid (by
      have q : Below w2.heap.size w2 ((w2.alloc (.cells #[.int .i64 a, .int .i64 b, .int .i64 c] 3)).alloc (.cells #[.int .u64 key, .int .u64 key, .int .u64 own] 32)) := bl_chain (bl_alloc w2 _) (bl_alloc _ _)
      refine ⟨(HS1.out.below B2.out).below q, HS2.out.below q, bl_chain B1.out (bl_chain B2.out q), Nat.le_refl _, by omega, by omega, (Blk.new w2 _ _).alloc _, ?_, by omega⟩
      have := Blk.new (w2.alloc (.cells #[.int .i64 a, .int .i64 b, .int .i64 c] 3)) 32 #[.int .u64 key, .int .u64 key, .int .u64 own]
      simpa using this)
    obtain ⟨an, ean⟩ := Int.eq_ofNat_of_zero_le ra.1
    obtain ⟨bn, ebn⟩ := Int.eq_ofNat_of_zero_le rb.1
    obtain ⟨cn, ecn⟩ := Int.eq_ofNat_of_zero_le rc.1
    have EN := Lib.hid (show (a = (an : Int) ∧ b = (bn : Int) ∧ c = (cn : Int)) ∧ an < 16 ∧ bn < 16 ∧ cn < 16 from ⟨⟨ean, ebn, ecn⟩, by omega, by omega, by omega⟩)
    have NE := Lib.hid (show an ≠ bn ∧ an ≠ cn ∧ bn ≠ cn from ⟨fun e => HN.out.1 (by rw [ean, ebn, e]), fun e => HN.out.2.1 (by rw [ean, ecn, e]), fun e => HN.out.2.2.1 (by rw [ebn, ecn, e])⟩)
    clear ean ebn ecn
    go_loopw [15] (fun v w3 => ∃ k : Nat, k ≤ 3 ∧ v = .int .i64 k ∧ O2 w w3 w.heap.size w1.heap.size w2.heap.size (w2.heap.size + 1) #[.int .i64 a, .int .i64 b, .int .i64 c] #[.int .u64 key, .int .u64 key, .int .u64 own] (sK an bn cn key own k) (tK an bn cn key own k)) (fun v _ => 3 - (intOf v).toNat)
    case atStart => exact ⟨0, by omega, rfl, O3.out⟩
    case round =>
      obtain ⟨k, hk, rfl, ho⟩ := hrel
      have OO := Lib.hid ho
      clear ho O3
      obtain rfl | rfl | rfl | rfl : k = 0 ∨ k = 1 ∨ k = 2 ∨ k = 3 := by omega
      · have x0 : wr.cell? ⟨w2.heap.size, 0, none⟩ = some (.int .i64 a) := OO.out.o.cell 0
        have y0 : wr.cell? ⟨w2.heap.size + 1, 0, none⟩ = some (.int .u64 key) := OO.out.u.cell 0
        have ES := Lib.hid (show (doO (sK an bn cn key own 0) a (regC key)).s = sK an bn cn key own 1 from by rw [EN.out.1.1]; exact do1 EN.out.2.1 HN.out.2.2.2.1)
        have ET := Lib.hid (show (doO (tK an bn cn key own 0) c (regC own)).s = tK an bn cn key own 1 from by rw [EN.out.1.2.2]; exact do1 EN.out.2.2.2 HN.out.2.2.2.2.1)
        go_wp2_with fail
        go_region_held3 (fun W => W.cell? ⟨w2.heap.size, 0, none⟩ = some (.int .i64 a) ∧ W.cell? ⟨w2.heap.size + 1, 0, none⟩ = some (.int .u64 key)) (first | go_keep | exact ⟨by rw [O5.out.o.cell]; rfl, by rw [O5.out.u.cell]; rfl⟩) (first
          | (go_at_call 8; (with_reducible refine (do_reg (OO.out.below (bl_drew wr)).s a ra key HK.out _ ES.out).mono ?_); rintro e w5 ⟨⟨x5, rfl⟩, hs, ht⟩; have O5 := Lib.hid ((OO.out.below (bl_drew wr)).doS hs ht); clear hs ht))
        clear x0 y0
        have hw : IntKind.i64.wrap 2 = 2 := rfl
        have x1 : w5.cell? ⟨w2.heap.size, 2, none⟩ = some (.int .i64 c) := O5.out.o.cell 2
        have y1 : w5.cell? ⟨w2.heap.size + 1, 2, none⟩ = some (.int .u64 own) := O5.out.u.cell 2
        go_wp2_with fail
        go_region_held3 (fun W => W.cell? ⟨w2.heap.size, 2, none⟩ = some (.int .i64 c) ∧ W.cell? ⟨w2.heap.size + 1, 2, none⟩ = some (.int .u64 own)) (first | go_keep | exact ⟨by rw [O6.out.o.cell]; rfl, by rw [O6.out.u.cell]; rfl⟩) (first
          | (go_at_call 8; (with_reducible refine (do_reg (O5.out.below (bl_drew w5)).t c rc own HO.out _ ET.out).mono ?_); rintro e w6 ⟨⟨x6, rfl⟩, hs, ht⟩; have O6 := Lib.hid ((O5.out.below (bl_drew w5)).doT hs ht); clear hs ht))
        clear x1 y1
        go_wp2_with fail
        exact ⟨⟨1, by omega, rfl, O6.out⟩, by simp [intOf]⟩
      · have x0 : wr.cell? ⟨w2.heap.size, 1, none⟩ = some (.int .i64 b) := OO.out.o.cell 1
        have y0 : wr.cell? ⟨w2.heap.size + 1, 1, none⟩ = some (.int .u64 key) := OO.out.u.cell 1
        have ES := Lib.hid (show (doO (sK an bn cn key own 1) b (regC key)).s = sK an bn cn key own 2 from by rw [EN.out.1.2.1]; exact do2 EN.out.2.2.1 NE.out.1 HN.out.2.2.2.1)
        have ET := Lib.hid (show (doO (tK an bn cn key own 1) b (regC key)).s = tK an bn cn key own 2 from by rw [EN.out.1.2.1]; exact do2 EN.out.2.2.1 (Ne.symm NE.out.2.2) HN.out.2.2.2.1)
        go_wp2_with fail
        go_region_held3 (fun W => W.cell? ⟨w2.heap.size, 1, none⟩ = some (.int .i64 b) ∧ W.cell? ⟨w2.heap.size + 1, 1, none⟩ = some (.int .u64 key)) (first | go_keep | exact ⟨by rw [O5.out.o.cell]; rfl, by rw [O5.out.u.cell]; rfl⟩) (first
          | (go_at_call 8; (with_reducible refine (do_reg (OO.out.below (bl_drew wr)).s b rb key HK.out _ ES.out).mono ?_); rintro e w5 ⟨⟨x5, rfl⟩, hs, ht⟩; have O5 := Lib.hid ((OO.out.below (bl_drew wr)).doS hs ht); clear hs ht))
        clear x0 y0
        have hw : IntKind.i64.wrap 1 = 1 := rfl
        have x1 : w5.cell? ⟨w2.heap.size, 1, none⟩ = some (.int .i64 b) := O5.out.o.cell 1
        have y1 : w5.cell? ⟨w2.heap.size + 1, 1, none⟩ = some (.int .u64 key) := O5.out.u.cell 1
        go_wp2_with fail
        go_region_held3 (fun W => W.cell? ⟨w2.heap.size, 1, none⟩ = some (.int .i64 b) ∧ W.cell? ⟨w2.heap.size + 1, 1, none⟩ = some (.int .u64 key)) (first | go_keep | exact ⟨by rw [O6.out.o.cell]; rfl, by rw [O6.out.u.cell]; rfl⟩) (first
          | (go_at_call 8; (with_reducible refine (do_reg (O5.out.below (bl_drew w5)).t b rb key HK.out _ ET.out).mono ?_); rintro e w6 ⟨⟨x6, rfl⟩, hs, ht⟩; have O6 := Lib.hid ((O5.out.below (bl_drew w5)).doT hs ht); clear hs ht))
        clear x1 y1
        go_wp2_with fail
        exact ⟨⟨2, by omega, rfl, O6.out⟩, by simp [intOf]⟩
      · have x0 : wr.cell? ⟨w2.heap.size, 2, none⟩ = some (.int .i64 c) := OO.out.o.cell 2
        have y0 : wr.cell? ⟨w2.heap.size + 1, 2, none⟩ = some (.int .u64 own) := OO.out.u.cell 2
        have ES := Lib.hid (show (doO (sK an bn cn key own 2) c (regC own)).s = sK an bn cn key own 3 from by rw [EN.out.1.2.2]; exact do3 EN.out.2.2.2 NE.out.2.1 NE.out.2.2 HN.out.2.2.2.2.1)
        have ET := Lib.hid (show (doO (tK an bn cn key own 2) a (regC key)).s = tK an bn cn key own 3 from by rw [EN.out.1.1]; exact do3b EN.out.2.1 NE.out.2.1 NE.out.1 NE.out.2.2 HN.out.2.2.2.1)
        go_wp2_with fail
        go_region_held3 (fun W => W.cell? ⟨w2.heap.size, 2, none⟩ = some (.int .i64 c) ∧ W.cell? ⟨w2.heap.size + 1, 2, none⟩ = some (.int .u64 own)) (first | go_keep | exact ⟨by rw [O5.out.o.cell]; rfl, by rw [O5.out.u.cell]; rfl⟩) (first
          | (go_at_call 8; (with_reducible refine (do_reg (OO.out.below (bl_drew wr)).s c rc own HO.out _ ES.out).mono ?_); rintro e w5 ⟨⟨x5, rfl⟩, hs, ht⟩; have O5 := Lib.hid ((OO.out.below (bl_drew wr)).doS hs ht); clear hs ht))
        clear x0 y0
        have hw : IntKind.i64.wrap 0 = 0 := rfl
        have x1 : w5.cell? ⟨w2.heap.size, 0, none⟩ = some (.int .i64 a) := O5.out.o.cell 0
        have y1 : w5.cell? ⟨w2.heap.size + 1, 0, none⟩ = some (.int .u64 key) := O5.out.u.cell 0
        go_wp2_with fail
        go_region_held3 (fun W => W.cell? ⟨w2.heap.size, 0, none⟩ = some (.int .i64 a) ∧ W.cell? ⟨w2.heap.size + 1, 0, none⟩ = some (.int .u64 key)) (first | go_keep | exact ⟨by rw [O6.out.o.cell]; rfl, by rw [O6.out.u.cell]; rfl⟩) (first
          | (go_at_call 8; (with_reducible refine (do_reg (O5.out.below (bl_drew w5)).t a ra key HK.out _ ET.out).mono ?_); rintro e w6 ⟨⟨x6, rfl⟩, hs, ht⟩; have O6 := Lib.hid ((O5.out.below (bl_drew w5)).doT hs ht); clear hs ht))
        clear x1 y1
        go_wp2_with fail
        exact ⟨⟨3, by omega, rfl, O6.out⟩, by simp [intOf]⟩
      · have OS := Lib.hid (show IsRS wr.drew w.heap.size (s3 an bn cn key own) from (OO.out.below (bl_drew wr)).s)
        have OT := Lib.hid (show IsRS wr.drew w1.heap.size (s3 an bn cn key own) from (OO.out.below (bl_drew wr)).t)
        have KA := Lib.hid (show (s3 an bn cn key own).key an = key by rw [s3_key _ _ _ _ _ EN.out.2.1 EN.out.2.2.1 EN.out.2.2.2, if_neg NE.out.2.1, if_neg NE.out.1, if_pos rfl])
        have KB := Lib.hid (show (s3 an bn cn key own).key bn = key by rw [s3_key _ _ _ _ _ EN.out.2.1 EN.out.2.2.1 EN.out.2.2.2, if_neg NE.out.2.2, if_pos rfl])
        have KC := Lib.hid (show (s3 an bn cn key own).key cn = own by rw [s3_key _ _ _ _ _ EN.out.2.1 EN.out.2.2.1 EN.out.2.2.2, if_pos rfl])
        have PR := Lib.hid (pre3 EN.out.2.1 EN.out.2.2.1 EN.out.2.2.2 NE.out.1 NE.out.2.1 NE.out.2.2 HN.out.2.2.2.1 HN.out.2.2.2.2.1 HN.out.2.2.2.2.2 HK.out HO.out)
        obtain ⟨o, ho⟩ : ∃ o, doO (s3 an bn cn key own) cn (preC key own) = o := ⟨_, rfl⟩
        rw [ho] at PR
        have HP := Lib.hid (show doO (s3 an bn cn key own) c (preC key own) = o by rw [EN.out.1.2.2]; exact ho)
        clear ho
        obtain ⟨s, hs⟩ : ∃ s, s3 an bn cn key own = s := ⟨_, rfl⟩
        have HG := Lib.hid (show s.gen = 3 by rw [← hs]; rfl)
        rw [hs] at OS OT KA KB KC HP
        clear hs
        go_wp2_with fail
        refine ext_start (by kernel_rfl) ?_
        refine ext_take (i := 0) (v := ?_) rfl (by kernel_rfl) (by kernel_rfl) (by kernel_rfl) (fun _ _ _ h => h) (Or.inl ⟨by rfl, ?_⟩) ?_
        rotate_left
        · (intro W hSw; go_simp; try with_reducible rfl)
        try simp only [Act.put, List.setIfInBounds_toArray, List.set_cons_zero, List.set_cons_succ]
        refine ext_take (i := 3) (v := ?_) rfl (by kernel_rfl) (by kernel_rfl) (by kernel_rfl) (fun _ _ _ h => h) (Or.inl ⟨by rfl, ?_⟩) ?_
        rotate_left
        · (intro W hSw; go_simp; try with_reducible rfl)
        try simp only [Act.put, List.setIfInBounds_toArray, List.set_cons_zero, List.set_cons_succ]
        refine ext_call (i := 1) (by kernel_rfl) rfl (fun K hK => ?_)
        go_simp
        (first | (go_at_call 15; (with_reducible refine (bytes_any OS.out).mono ?_); rintro e w5 ⟨A5, c5, rfl, hc5, ho, hb⟩; have k5 := ext_conv (c := c5) (Rd.of_own (ownsRow_base ho (Nat.zero_le _))) rfl; have OS5 := Lib.hid (OS.out.below hb); have OT5 := Lib.hid (OT.out.below hb); have X5 := Lib.hid hb; clear ho hb))
        refine hK.out _ _ (X5.out) ?_
        clear hK K
        try simp only [Act.put, List.setIfInBounds_toArray, List.set_cons_zero, List.set_cons_succ]
        refine ext_take (i := 2) (v := ?_) rfl (by kernel_rfl) (by kernel_rfl) (by kernel_rfl) (fun _ _ _ h => h) (Or.inl ⟨by rfl, ?_⟩) ?_
        rotate_left
        · (intro W hSw; go_simp; try with_reducible rfl)
        try simp only [Act.put, List.setIfInBounds_toArray, List.set_cons_zero, List.set_cons_succ]
        refine ext_call (i := 4) (by kernel_rfl) rfl (fun K hK => ?_)
        go_simp
        (first | (go_at_call 15; (with_reducible refine (bytes_any OT5.out).mono ?_); rintro e w6 ⟨A6, c6, rfl, hc6, ho, hb⟩; have k6 := ext_conv (c := c6) (Rd.of_own (ownsRow_base ho (Nat.zero_le _))) rfl; have OS6 := Lib.hid (OS5.out.below hb); have X6 := Lib.hid hb; clear ho hb))
        refine hK.out _ _ (X6.out) ?_
        clear hK K
        try simp only [Act.put, List.setIfInBounds_toArray, List.set_cons_zero, List.set_cons_succ]
        refine ext_take (i := 5) (v := ?_) rfl (by kernel_rfl) (by kernel_rfl) (by kernel_rfl) (fun _ _ _ h => h) (Or.inl ⟨by rfl, ?_⟩) ?_
        rotate_left
        · (intro W hSw; go_simp; try with_reducible rfl)
        try simp only [Act.put, List.setIfInBounds_toArray, List.set_cons_zero, List.set_cons_succ]
        refine ext_take (i := 6) (v := ?_) rfl (by kernel_rfl) (by kernel_rfl) (by kernel_rfl) (fun _ _ _ h => h) (Or.inl ⟨by rfl, ?_⟩) ?_
        rotate_left
        · (intro W hSw; go_simp; try with_reducible rfl)
        try simp only [Act.put, List.setIfInBounds_toArray, List.set_cons_zero, List.set_cons_succ]
        refine ext_take (i := 7) (v := ?_) rfl (by kernel_rfl) (by kernel_rfl) (by kernel_rfl) (fun _ _ _ h => h) (Or.inl ⟨by rfl, ?_⟩) ?_
        rotate_left
        · (intro W hSw; go_simp; try with_reducible rfl)
        try simp only [Act.put, List.setIfInBounds_toArray, List.set_cons_zero, List.set_cons_succ]
        refine ext_take (i := 8) (v := ?_) rfl (by kernel_rfl) (by kernel_rfl) (by kernel_rfl) (fun _ _ _ h => h) (Or.inl ⟨by rfl, ?_⟩) ?_
        rotate_left
        · (intro W hSw; go_simp; try with_reducible rfl)
        try simp only [Act.put, List.setIfInBounds_toArray, List.set_cons_zero, List.set_cons_succ]
        refine ext_call (i := 9) (by kernel_rfl) rfl (fun K hK => ?_)
        go_simp
        (first | (go_at_call 17; (with_reducible refine (gen_i OS6.out 3 HG.out).mono ?_); rintro e w' ⟨rfl, rfl⟩))
        refine hK.out _ _ (Below.refl _ _) ?_
        clear hK K
        try simp only [Act.put, List.setIfInBounds_toArray, List.set_cons_zero, List.set_cons_succ]
        refine ext_take (i := 10) (v := ?_) rfl (by kernel_rfl) (by kernel_rfl) (by kernel_rfl) (fun _ _ _ h => h) (Or.inl ⟨by rfl, ?_⟩) ?_
        rotate_left
        · (intro W hSw; go_simp; try with_reducible rfl)
        try simp only [Act.put, List.setIfInBounds_toArray, List.set_cons_zero, List.set_cons_succ]
        refine ext_take (i := 11) (v := ?_) rfl (by kernel_rfl) (by kernel_rfl) (by kernel_rfl) (fun _ _ _ h => h) (Or.inl ⟨by rfl, ?_⟩) ?_
        rotate_left
        · (intro W hSw; go_simp; try with_reducible rfl)
        try simp only [Act.put, List.setIfInBounds_toArray, List.set_cons_zero, List.set_cons_succ]
        refine ext_take (i := 12) (v := ?_) rfl (by kernel_rfl) (by kernel_rfl) (by kernel_rfl) (fun _ _ _ h => h) (Or.inl ⟨by rfl, ?_⟩) ?_
        rotate_left
        · (intro W hSw; go_simp; try with_reducible rfl)
        try simp only [Act.put, List.setIfInBounds_toArray, List.set_cons_zero, List.set_cons_succ]
        refine ext_take (i := 13) (v := ?_) rfl (by kernel_rfl) (by kernel_rfl) (by kernel_rfl) (fun _ _ _ h => h) (Or.inl ⟨by rfl, ?_⟩) ?_
        rotate_left
        · (intro W hSw; go_simp; try with_reducible rfl)
        try simp only [Act.put, List.setIfInBounds_toArray, List.set_cons_zero, List.set_cons_succ]
        refine ext_take (i := 14) (v := ?_) rfl (by kernel_rfl) (by kernel_rfl) (by kernel_rfl) (fun _ _ _ h => h) (Or.inl ⟨by rfl, ?_⟩) ?_
        rotate_left
        · (intro W hSw; go_simp; try with_reducible rfl)
        try simp only [Act.put, List.setIfInBounds_toArray, List.set_cons_zero, List.set_cons_succ]
        refine ext_take (i := 16) (v := ?_) rfl (by kernel_rfl) (by kernel_rfl) (by kernel_rfl) (fun _ _ _ h => h) (Or.inl ⟨by rfl, ?_⟩) ?_
        rotate_left
        · (intro W hSw; go_simp; try with_reducible rfl)
        try simp only [Act.put, List.setIfInBounds_toArray, List.set_cons_zero, List.set_cons_succ]
        refine ext_call (i := 15) (by kernel_rfl) rfl (fun K hK => ?_)
        go_simp
        (first | (go_at_call 10; (with_reducible refine (key_i OS6.out a an EN.out.1.1 EN.out.2.1 key KA.out).mono ?_); rintro e w' ⟨rfl, rfl⟩))
        refine hK.out _ _ (Below.refl _ _) ?_
        clear hK K
        try simp only [Act.put, List.setIfInBounds_toArray, List.set_cons_zero, List.set_cons_succ]
        refine ext_take (i := 17) (v := ?_) rfl (by kernel_rfl) (by kernel_rfl) (by kernel_rfl) (fun _ _ _ h => h) (Or.inl ⟨by rfl, ?_⟩) ?_
        rotate_left
        · (intro W hSw; go_simp; try with_reducible rfl)
        try simp only [Act.put, List.setIfInBounds_toArray, List.set_cons_zero, List.set_cons_succ]
        refine ext_take (i := 18) (v := ?_) rfl (by kernel_rfl) (by kernel_rfl) (by kernel_rfl) (fun _ _ _ h => h) (Or.inl ⟨by rfl, ?_⟩) ?_
        rotate_left
        · (intro W hSw; go_simp; try with_reducible rfl)
        try simp only [Act.put, List.setIfInBounds_toArray, List.set_cons_zero, List.set_cons_succ]
        refine ext_take (i := 19) (v := ?_) rfl (by kernel_rfl) (by kernel_rfl) (by kernel_rfl) (fun _ _ _ h => h) (Or.inl ⟨by rfl, ?_⟩) ?_
        rotate_left
        · (intro W hSw; go_simp; try with_reducible rfl)
        try simp only [Act.put, List.setIfInBounds_toArray, List.set_cons_zero, List.set_cons_succ]
        refine ext_take (i := 20) (v := ?_) rfl (by kernel_rfl) (by kernel_rfl) (by kernel_rfl) (fun _ _ _ h => h) (Or.inl ⟨by rfl, ?_⟩) ?_
        rotate_left
        · (intro W hSw; go_simp; try with_reducible rfl)
        try simp only [Act.put, List.setIfInBounds_toArray, List.set_cons_zero, List.set_cons_succ]
        refine ext_take (i := 21) (v := ?_) rfl (by kernel_rfl) (by kernel_rfl) (by kernel_rfl) (fun _ _ _ h => h) (Or.inl ⟨by rfl, ?_⟩) ?_
        rotate_left
        · (intro W hSw; go_simp; try with_reducible rfl)
        try simp only [Act.put, List.setIfInBounds_toArray, List.set_cons_zero, List.set_cons_succ]
        refine ext_take (i := 23) (v := ?_) rfl (by kernel_rfl) (by kernel_rfl) (by kernel_rfl) (fun _ _ _ h => h) (Or.inl ⟨by rfl, ?_⟩) ?_
        rotate_left
        · (intro W hSw; go_simp; try with_reducible rfl)
        try simp only [Act.put, List.setIfInBounds_toArray, List.set_cons_zero, List.set_cons_succ]
        refine ext_call (i := 22) (by kernel_rfl) rfl (fun K hK => ?_)
        go_simp
        (first | (go_at_call 10; (with_reducible refine (key_i OS6.out b bn EN.out.1.2.1 EN.out.2.2.1 key KB.out).mono ?_); rintro e w' ⟨rfl, rfl⟩))
        refine hK.out _ _ (Below.refl _ _) ?_
        clear hK K
        try simp only [Act.put, List.setIfInBounds_toArray, List.set_cons_zero, List.set_cons_succ]
        refine ext_take (i := 24) (v := ?_) rfl (by kernel_rfl) (by kernel_rfl) (by kernel_rfl) (fun _ _ _ h => h) (Or.inl ⟨by rfl, ?_⟩) ?_
        rotate_left
        · (intro W hSw; go_simp; try with_reducible rfl)
        try simp only [Act.put, List.setIfInBounds_toArray, List.set_cons_zero, List.set_cons_succ]
        refine ext_take (i := 25) (v := ?_) rfl (by kernel_rfl) (by kernel_rfl) (by kernel_rfl) (fun _ _ _ h => h) (Or.inl ⟨by rfl, ?_⟩) ?_
        rotate_left
        · (intro W hSw; go_simp; try with_reducible rfl)
        try simp only [Act.put, List.setIfInBounds_toArray, List.set_cons_zero, List.set_cons_succ]
        refine ext_take (i := 26) (v := ?_) rfl (by kernel_rfl) (by kernel_rfl) (by kernel_rfl) (fun _ _ _ h => h) (Or.inl ⟨by rfl, ?_⟩) ?_
        rotate_left
        · (intro W hSw; go_simp; try with_reducible rfl)
        try simp only [Act.put, List.setIfInBounds_toArray, List.set_cons_zero, List.set_cons_succ]
        refine ext_take (i := 27) (v := ?_) rfl (by kernel_rfl) (by kernel_rfl) (by kernel_rfl) (fun _ _ _ h => h) (Or.inl ⟨by rfl, ?_⟩) ?_
        rotate_left
        · (intro W hSw; go_simp; try with_reducible rfl)
        try simp only [Act.put, List.setIfInBounds_toArray, List.set_cons_zero, List.set_cons_succ]
        refine ext_take (i := 28) (v := ?_) rfl (by kernel_rfl) (by kernel_rfl) (by kernel_rfl) (fun _ _ _ h => h) (Or.inl ⟨by rfl, ?_⟩) ?_
        rotate_left
        · (intro W hSw; go_simp; try with_reducible rfl)
        try simp only [Act.put, List.setIfInBounds_toArray, List.set_cons_zero, List.set_cons_succ]
        refine ext_take (i := 30) (v := ?_) rfl (by kernel_rfl) (by kernel_rfl) (by kernel_rfl) (fun _ _ _ h => h) (Or.inl ⟨by rfl, ?_⟩) ?_
        rotate_left
        · (intro W hSw; go_simp; try with_reducible rfl)
        try simp only [Act.put, List.setIfInBounds_toArray, List.set_cons_zero, List.set_cons_succ]
        refine ext_call (i := 29) (by kernel_rfl) rfl (fun K hK => ?_)
        go_simp
        (first | (go_at_call 10; (with_reducible refine (key_i OS6.out c cn EN.out.1.2.2 EN.out.2.2.2 own KC.out).mono ?_); rintro e w' ⟨rfl, rfl⟩))
        refine hK.out _ _ (Below.refl _ _) ?_
        clear hK K
        try simp only [Act.put, List.setIfInBounds_toArray, List.set_cons_zero, List.set_cons_succ]
        refine ext_take (i := 31) (v := ?_) rfl (by kernel_rfl) (by kernel_rfl) (by kernel_rfl) (fun _ _ _ h => h) (Or.inl ⟨by rfl, ?_⟩) ?_
        rotate_left
        · (intro W hSw; go_simp; try with_reducible rfl)
        try simp only [Act.put, List.setIfInBounds_toArray, List.set_cons_zero, List.set_cons_succ]
        refine ext_take (i := 32) (v := ?_) rfl (by kernel_rfl) (by kernel_rfl) (by kernel_rfl) (fun _ _ _ h => h) (Or.inl ⟨by rfl, ?_⟩) ?_
        rotate_left
        · (intro W hSw; go_simp; try with_reducible rfl)
        try simp only [Act.put, List.setIfInBounds_toArray, List.set_cons_zero, List.set_cons_succ]
        refine wpAnyH_done (by kernel_rfl) ?_ _
        clear k5 k6
        have B6 := Lib.hid (bl_chain (bl_chain OO.out.b (bl_drew wr)) (bl_chain X5.out X6.out))
        go_wp2_with (first
          | (go_at_call 8; (with_reducible refine (do_pre OS6.out c rc key own HK.out HO.out o HP.out PR.out.r PR.out.n).mono ?_); rintro e w7 ⟨A7, k7, rfl, hs, ht⟩; have OS7 := Lib.hid (hs.below (bl_alloc w7 (.cells #[.int .i64 0, .int .i64 0, .int .i64 0, .int .i64 0, .slice none 0 0] 28))); have T7 := Lib.hid ((bl_tr B6.out ht (fun b hb => by omega)).alloc (by have h1 := B6.out.size; have h2 := ht.size; omega) (.cells #[.int .i64 0, .int .i64 0, .int .i64 0, .int .i64 0, .slice none 0 0] 28)); clear hs ht)
          | (go_at_call 10; (with_reducible refine (key_i OS7.out a an EN.out.1.1 EN.out.2.1 0 PR.out.ka).mono ?_); rintro e w' ⟨rfl, rfl⟩)
          | (go_at_call 10; (with_reducible refine (key_i OS7.out b bn EN.out.1.2.1 EN.out.2.2.1 0 PR.out.kb).mono ?_); rintro e w' ⟨rfl, rfl⟩)
          | (go_at_call 10; (with_reducible refine (key_i OS7.out c cn EN.out.1.2.2 EN.out.2.2.2 own PR.out.kc).mono ?_); rintro e w' ⟨rfl, rfl⟩)
          | (go_at_call 11; (with_reducible refine (mayw_i OS7.out a an EN.out.1.1 EN.out.2.1 false PR.out.wa).mono ?_); rintro e w' ⟨rfl, rfl⟩)
          | (go_at_call 11; (with_reducible refine (mayw_i OS7.out b bn EN.out.1.2.1 EN.out.2.2.1 false PR.out.wb).mono ?_); rintro e w' ⟨rfl, rfl⟩)
          | (go_at_call 11; (with_reducible refine (mayw_i OS7.out c cn EN.out.1.2.2 EN.out.2.2.2 true PR.out.wc).mono ?_); rintro e w' ⟨rfl, rfl⟩)
          | (go_at_call 11; (with_reducible refine (mayr_i OS7.out a an EN.out.1.1 EN.out.2.1 true PR.out.ra).mono ?_); rintro e w' ⟨rfl, rfl⟩)
          | (go_at_call 13; (with_reducible refine (known_any _).mono ?_); rintro e w8 ⟨rfl, hb⟩; have B8 := Lib.hid (bl_chain T7.out hb); clear hb))
        go_ret
        exact ⟨rfl, B8.out⟩
end Go.Proofs.Ytlkdglhbncnkhaa
