/- The reference's Image: Bytes. -/
import Derived.Test.YtdddbpnllhnfdaaRefY1
import Derived.Test.YtdddbpnllhnfdaaRWr
namespace Go.Proofs.Ytdddbpnllhnfdaa
set_option linter.unusedVariables false
set_option linter.unusedSimpArgs false
set_option maxRecDepth 100000
open Go.RowKit Go.Shelf

theorem nums_flat_length (L : List (List Int)) (h : ImgOk L) (k : Nat) : ((numsTo L k).flatMap (e1 L)).length ≤ 66 * k := by
  have h1 := flat_length (e1 L) 66 (e1_length L h) (numsTo L k)
  have h2 := numsTo_length L k
  have h3 := usedTo_le L k
  have : 66 * (numsTo L k).length ≤ 66 * k := Nat.mul_le_mul_left _ (by omega)
  omega
section
variable {w : World} {r q c : Nat} {L : List (List Int)} {M : Nat → Prop}
set_option maxHeartbeats 3200000 in
theorem rbytes_any (h : IsRef w r L q c M) : Calls Try.prog 55 #[.pointer (some ⟨r, 0, none⟩)] w fun e w' => ∃ A c, e = .returned (.slice A (bytesL L).length c) ∧ (bytesL L).length ≤ c ∧ w'.ownsRow w.heap.size 5 1 (.slice A (bytesL L).length c) (bytesL L).length (by8 (bytesL L)) ∧ Below w.heap.size w w' := by
  have h256 := h.ok.hi
  have hle := used_le L
  have HH := Lib.hid h
  clear h
  have hb2 : (be 2 (L.length : Int)).length = 2 := be_length _ _
  obtain ⟨hd, hhd⟩ : ∃ hd, [] ++ be 2 (L.length : Int) ++ be 2 (used L : Int) = hd := ⟨_, rfl⟩
  have h4 : hd.length = 4 := by rw [← hhd]; simp [be_length]
  have HHD := Lib.hid hhd
  have HE4 := Lib.hid (show ∀ BB gg W, IsRWr W BB gg hd → Calls Try.prog 72 #[.pointer (some ⟨gg, 0, none⟩)] W fun e w' => ∃ A' c', e = .returned (.tuple #[.slice A' 4 c', .int .i64 0]) ∧ 4 ≤ c' ∧ w'.ownsRow W.heap.size 5 1 (.slice A' 4 c') 4 (by8 hd) ∧ Below W.heap.size W w' from fun BB gg W hw => by
    have := rwEnd BB gg hd W hw (by omega)
    rw [h4] at this
    exact this)
  have H4 := Lib.hid h4
  clear hhd h4
  have IA := Lib.hid (HH.out.below (bl_alloc w (.cells #[.slice none 0 0, .int .i64 0] 111)))
  have c0a : (w.alloc (.cells #[.slice none 0 0, .int .i64 0] 111)).cell? ⟨r, 0, none⟩ = some (.slice (some ⟨q, 0, none⟩) L.length c) := IA.out.blk.cell 0
  have W0 := Lib.hid (IsRWr.new w)
  go_enter Try.func55, Try.ntmps55
  go_wp2_with (first
    | (go_at_call 71; (with_reducible refine (rwr2 w.heap.size w.heap.size [] L.length _ (by simp) W0.out (by simp) (by omega) (by omega)).mono ?_); rintro e w2 ⟨rfl, hw, hb⟩; have W2 := Lib.hid hw; have hs2 := hb.size; have B2 := Lib.hid ((bl_alloc w _).trans hb); have I2 := Lib.hid (HH.out.below B2.out); clear hw hb)
    | (go_at_call 53; (with_reducible refine (rused_any I2.out).mono ?_); rintro e w' ⟨rfl, rfl⟩)
    | (go_at_call 71; (with_reducible refine (rwr2 w.heap.size w.heap.size ([] ++ be 2 L.length) (used L) w2 B2.out.size W2.out (by simp [hb2]) (by omega) (by omega)).mono ?_); rintro e w3 ⟨rfl, hw, hb⟩; rw [HHD.out] at hw; have W3 := Lib.hid hw; have B3 := Lib.hid (B2.out.trans hb); clear hw hb)
    | (go_at_call 72; (with_reducible refine (HE4.out _ _ w3 W3.out).mono ?_); rintro e w4 ⟨A4, c4, rfl, hc4, ho, hb⟩; have O4 := Lib.hid (ownsRow_base ho B3.out.size); have B4 := Lib.hid (bl_chain B3.out hb); clear ho hb))
  go_loopw [4, 6] (fun v4 v6 W => ∃ (i n1 : Nat) (A1 : Option Addr) (c1 : Nat), i ≤ L.length ∧ v6 = .int .i64 (i : Int) ∧ v4 = .slice A1 n1 c1 ∧ n1 ≤ c1 ∧ n1 = (hd ++ (numsTo L i).flatMap (e1 L)).length ∧ W.ownsRow w.heap.size 5 1 (.slice A1 n1 c1) n1 (by8 (hd ++ (numsTo L i).flatMap (e1 L))) ∧ Below w.heap.size w W) (fun _ v _ => L.length - (RowKit.intOf v).toNat)
  case atStart => exact ⟨0, 4, A4, c4, by omega, rfl, rfl, hc4, by simp [numsTo, H4.out], by simpa [numsTo] using O4.out, B4.out⟩
  case round =>
    obtain ⟨i, n1, A1, c1, hi, rfl, rfl, hc1, hn1, ho, hbl⟩ := hrel
    have HO := Lib.hid ho
    have HBL := Lib.hid hbl
    have HI := Lib.hid (HH.out.below hbl)
    have hs := hbl.size
    clear ho hbl
    have c0 : wr.cell? ⟨r, 0, none⟩ = some (.slice (some ⟨q, 0, none⟩) L.length c) := HI.out.blk.cell 0
    have hnl : n1 ≤ 4 + 66 * i := by
      have := nums_flat_length L HH.out.ok i
      rw [hn1, List.length_append, H4.out]
      omega
    by_cases hlt : i < L.length
    · have HS := Lib.hid (rhas_any HI.out (i : Int) (by omega))
      by_cases h0 : bk L i = []
      · have hh : hasB L (i : Int) = false := decide_eq_false (by simp [h0])
        rw [hh] at HS
        have HN : Hid (numsTo L (i + 1) = numsTo L i) := Lib.hid (by rw [numsTo, if_pos h0, List.append_nil])
        have HN1 := Lib.hid hn1
        clear hh h0 hn1
        go_wp2_with (first
          | (go_at_call 54; (with_reducible refine HS.out.mono ?_); rintro e w' ⟨rfl, rfl⟩))
        exact ⟨⟨i + 1, n1, A1, c1, by omega, by go_num, rfl, hc1, by rw [HN.out]; exact HN1.out, by rw [HN.out]; exact HO.out, HBL.out⟩, by simp [RowKit.intOf]; omega⟩
      · have hh : hasB L (i : Int) = true := decide_eq_true ⟨by omega, by simpa using h0⟩
        rw [hh] at HS
        have hl64 := ((HH.out.ok.at_ i).resolve_left h0).1
        obtain ⟨l0, hl0⟩ : ∃ l0, hd ++ (numsTo L i).flatMap (e1 L) = l0 := ⟨_, rfl⟩
        have HN : Hid (hd ++ (numsTo L (i + 1)).flatMap (e1 L) = l0 ++ [0, (i : Int)] ++ bk L i) := Lib.hid (by rw [numsTo, if_neg h0, List.flatMap_append, ← List.append_assoc, hl0]; simp [e1])
        rw [hl0] at hn1 HO
        have HN1 := Lib.hid hn1
        obtain ⟨A2, k2, hc, hr2⟩ := HI.out.cell i hlt
        have hr2' := Lib.hid hr2
        rw [hl64] at hc
        have HL64 := Lib.hid hl64
        have hz0 : (i : Int) / 256 = 0 := by omega
        have hmod : (i : Int) % 256 = i := by omega
        clear hh h0 hn1 hl0 hr2 hl64
        go_wp2_with (first
          | (go_at_call 54; (with_reducible refine HS.out.mono ?_); rintro e w' ⟨rfl, rfl⟩)
          | (at_builtin; refine wpL_append E8 rfl rfl (HO.out.alloc _) rfl (Rd.newAt wr wr.heap.size _ [.int .u8 0, .int .u8 (i : Int)] _ 0 rfl rfl) rfl (by rfl) (by simp [Value.oneCell']) (n1 + 2) (by8 (l0 ++ [0, (i : Int)])) rfl (by simp [by8]) (by simp only [maxLen]; omega) (by omega) (by simp; omega) ?_; intro A3 c3 w3 hc3 ho3 ht3 _; have HO3 := Lib.hid ho3; have B3' := Lib.hid (bl_tr (bl_chain HBL.out (bl_alloc wr _)) ht3 (fun x hx => own_ge HO.out x hx)); have HI3 := Lib.hid (HH.out.below B3'.out); have c03 : w3.cell? ⟨r, 0, none⟩ = some (.slice (some ⟨q, 0, none⟩) L.length c) := HI3.out.blk.cell 0; obtain ⟨A5, k5, hc5, hr5⟩ := HI3.out.cell i hlt; rw [HL64.out] at hc5; have HR5 := Lib.hid hr5; clear ho3 ht3 hr5)
          | (at_builtin; refine wpL_append E8 rfl rfl HO3.out rfl HR5.out rfl (by rw [by8_length, HL64.out]) (by8_one _) (n1 + 2 + 64) (by8 (l0 ++ [0, (i : Int)] ++ bk L i)) rfl (by rw [by8_append _ (bk L i)]) (by simp only [maxLen]; omega) (by omega) B3'.out.size ?_; intro A6 c6 w6 hc6 ho6 ht6 _; have HO6 := Lib.hid ho6; have B6 := Lib.hid (bl_tr B3'.out ht6 (fun x hx => own_ge HO3.out x hx)); clear ho6 ht6))
        exact ⟨⟨i + 1, n1 + 2 + 64, A6, c6, by omega, by go_num, rfl, hc6, by rw [HN.out, List.length_append, List.length_append, ← HN1.out, HL64.out]; rfl, by rw [HN.out]; exact HO6.out, B6.out⟩, by simp [RowKit.intOf]; omega⟩
    · obtain rfl : i = L.length := by omega
      have e : hd ++ (numsTo L L.length).flatMap (e1 L) = bytesL L := by rw [← HHD.out]; rfl
      rw [e] at hn1 HO
      have HN1 := Lib.hid hn1
      clear hn1 e
      go_wp2_with fail
      go_ret
      exact ⟨A1, c1, by rw [← HN1.out]; rfl, by rw [← HN1.out]; exact hc1, by rw [← HN1.out]; exact HO.out, HBL.out⟩
end
end Go.Proofs.Ytdddbpnllhnfdaa
