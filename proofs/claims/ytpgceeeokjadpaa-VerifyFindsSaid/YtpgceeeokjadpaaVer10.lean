/- VerifyTells' walk. Conditions: the tapes and the labels lie where the slices say. -/
import Derived.Test.YtpgceeeokjadpaaVer9
import Derived.Deep.RegionWith
namespace Go.Proofs.Ytpgceeeokjadpaa.Code
open Go.RowKit Go.Joins Go.Proofs.Ytpgceeeokjadpaa.Crc Go.Proofs.Ytpgceeeokjadpaa.Mem
theorem rr_len {w : World} {B : Nat} {A : Option Addr} {m c : Nat} {l : List (Int × Int)} (h : RO 69 2 w B A m c (spc l)) : m = l.length := by
  have h1 := h.len
  have h2 := spc_len l
  omega
set_option maxHeartbeats 8000000 in
set_option maxRecDepth 100000 in
theorem tells16_any (w : World) (A : Option Addr) (n c : Nat) (l : List Tp) (h : Tps w A n l) (hnc : n ≤ c) (a b c1 d : Int) (A2 : Option Addr) (n2 c2 : Nat) (xs : List Int) (hx : Ints w A2 n2 xs) :
    Calls Try.prog 11 #[.slice A n c, sealv a b c1 d A2 n2 c2] w fun e w' => e = .returned (.bool true) ∧ Below w.heap.size w w' := by
  have hb := (Below.refl w.heap.size w).alloc (Nat.le_refl _) (.cells #[.int .i64 a, .int .i64 b, .int .i64 c1, .int .i64 d, .slice A2 n2 c2] 75)
  have HB0 := Lib.hid hb
  have HSB0 : Hid (Sb _ w.heap.size a b c1 d A2 n2 c2) := heap_alloc_new w (.cells #[.int .i64 a, .int .i64 b, .int .i64 c1, .int .i64 d, .slice A2 n2 c2] 75)
  have HT := Lib.hid h
  have HX := Lib.hid hx
  clear h hx hb
  unfold sealv
  cases hf : few13 l with
  | false =>
    have HFF := Lib.hid hf
    clear hf
    go_enter Try.func11, Try.ntmps11
    go_wp2_with (first
      | (go_at_call 34; (with_reducible refine (alive16_any _).mono ?_); rintro e w1 ⟨rfl, hb⟩; have HB1 := Lib.hid (below_then HB0.out hb HB0.out.size); clear hb)
      | (go_at_call 37; (with_reducible refine (few13_any _ _ _ _ l (HT.out.below HB1.out)).mono ?_); rintro e w2 ⟨rfl, hb⟩; rw [HFF.out]; have HB2 := Lib.hid (below_then HB1.out hb HB1.out.size); clear hb))
    go_ret
    exact ⟨rfl, HB2.out⟩
  | true =>
    have HF := Lib.hid (few13_few hf).1
    have HFF := Lib.hid hf
    have hn14 : n ≤ 14 := by have := (few13_few hf).2; rw [HT.out.1] at this; exact this
    clear hf
    by_cases h20 : 20 < n2
    · go_enter Try.func11, Try.ntmps11
      go_wp2_with (first
        | (go_at_call 34; (with_reducible refine (alive16_any _).mono ?_); rintro e w1 ⟨rfl, hb⟩; have HB1 := Lib.hid (below_then HB0.out hb HB0.out.size); have HSB1 := Lib.hid (HSB0.out.below hb); clear hb)
        | (go_at_call 37; (with_reducible refine (few13_any _ _ _ _ l (HT.out.below HB1.out)).mono ?_); rintro e w2 ⟨rfl, hb⟩; rw [HFF.out]; have HB2 := Lib.hid (below_then HB1.out hb HB1.out.size); have HSB2 := Lib.hid (HSB1.out.below hb); obtain ⟨s0, s1, s2, s3, s4⟩ := HSB2.out.cells; clear hb))
      go_ret
      exact ⟨rfl, HB2.out⟩
    · go_enter Try.func11, Try.ntmps11
      go_upto_region 4 with (first
        | (go_at_call 34; (with_reducible refine (alive16_any _).mono ?_); rintro e w1 ⟨rfl, hb⟩; have HB1 := Lib.hid (below_then HB0.out hb HB0.out.size); have HSB1 := Lib.hid (HSB0.out.below hb); clear hb)
        | (go_at_call 37; (with_reducible refine (few13_any _ _ _ _ l (HT.out.below HB1.out)).mono ?_); rintro e w2 ⟨rfl, hb⟩; rw [HFF.out]; have HB2 := Lib.hid (below_then HB1.out hb HB1.out.size); have HSB2 := Lib.hid (HSB1.out.below hb); obtain ⟨s0, s1, s2, s3, s4⟩ := HSB2.out.cells; clear hb))
      have HBD := Lib.hid HB2.out.drew
      have hsd := HSB2.out.below (Below.refl _ _).drew
      obtain ⟨t0, t1, t2, t3, t4⟩ := hsd.cells
      have HSD := Lib.hid hsd
      obtain ⟨cc, hcc⟩ : ∃ x, x = (hurts l xs : Int) := ⟨_, rfl⟩
      have HCC := Lib.hid hcc
      have tc : (cc == cc) = true := beq_self_eq_true _
      have HSL : Hid ((spots l).length ≤ 1000000) := Nat.le_trans (spots_len l) HF.out.1
      clear s0 s1 s2 s3 s4 hsd hcc
      go_region_with (first
        | (go_at_call 36; (with_reducible refine (spots_any _ _ _ _ l (HT.out.below HBD.out) HF.out).mono ?_); rintro e w4 ⟨A4, m4, c4, rfl, hown, hm4, hb⟩; have HB4 := Lib.hid (below_then HBD.out hb HBD.out.size); have HSB4 := Lib.hid (HSD.out.below hb); have HO4 := Lib.hid hown; have HM4 := Lib.hid hm4; obtain ⟨q0, q1, q2, q3, q4⟩ := HSB4.out.cells; clear hown hm4 hb)
        | (go_at_call 38; (with_reducible refine (rspots_any _ _ _ _ l (HT.out.below HB4.out) HF.out).mono ?_); rintro e w5 ⟨A5, m5, c5, rfl, hown, hm5, hb⟩; have e45 := hm5.trans HM4.out.symm; clear hm5; subst e45; have HB5 := Lib.hid (below_then HB4.out hb HB4.out.size); have HSB5 := Lib.hid (HSB4.out.below hb); have HO5 := Lib.hid hown; have HO45 := Lib.hid (HO4.out.below hb); obtain ⟨p0, p1, p2, p3, p4⟩ := HSB5.out.cells; clear hown hb)
        | (go_at_call 35; (with_reducible refine (same16_any _ _ _ _ _ _ (spots l) HM4.out (Nat.le_trans (Nat.le_of_eq HM4.out) HSL.out) HO45.out.reads HO5.out.reads).mono ?_); rintro e w6 ⟨rfl, hb⟩; have HB6 := Lib.hid (below_then HB5.out hb HB5.out.size); have HSB6 := Lib.hid (HSB5.out.below hb); obtain ⟨o0, o1, o2, o3, o4⟩ := HSB6.out.cells; clear hb)
        | (go_at_call 39; (with_reducible refine (lost_any _ _ _ _ l (HT.out.below HB6.out) HF.out hnc a b c1 d _ _ _ xs (HX.out.below HB6.out) (by omega)).mono ?_); rintro e w7 ⟨rfl, hb⟩; rw [← HCC.out]; have HB7 := Lib.hid (below_then HB6.out hb HB6.out.size); obtain ⟨l0, l1, l2, l3, l4⟩ := (HSB6.out.below hb).cells; clear hb)
        | (go_at_call 40; (with_reducible refine (rlost_any _ _ _ _ l (HT.out.below HB7.out) HF.out a b c1 d _ _ _ xs (HX.out.below HB7.out) (by omega)).mono ?_); rintro e w8 ⟨rfl, hb⟩; rw [← HCC.out]; have HB8 := Lib.hid (below_then HB7.out hb HB7.out.size); clear hb))
      all_goals go_wp2
      all_goals go_ret
      all_goals exact ⟨rfl, HB8.out⟩
end Go.Proofs.Ytpgceeeokjadpaa.Code
