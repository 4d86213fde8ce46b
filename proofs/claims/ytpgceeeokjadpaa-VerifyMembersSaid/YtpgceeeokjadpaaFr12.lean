/- FrameTells' walk. Conditions: the loads lie where the slices say. -/
import Derived.Test.YtpgceeeokjadpaaFr10
namespace Go.Proofs.Ytpgceeeokjadpaa.Code
open Go.RowKit Go.Joins Go.Proofs.Ytpgceeeokjadpaa.Crc Go.Proofs.Ytpgceeeokjadpaa.Mem
theorem same_self (a : Un) : decide (a = a) = true := decide_eq_true rfl
set_option maxHeartbeats 8000000 in
set_option maxRecDepth 100000 in
theorem tells9_any (w : World) (u : Un) (A : Option Addr) (n c : Nat) (A2 : Option Addr) (n2 c2 : Nat) (l : List UInt8) (h : Sl w A n c u.load) (h2 : Sl w A2 n2 c2 l) (hcap : c2 ≤ 9223372036854775807) :
    Calls Try.prog 6 #[uv u A n c, .slice A2 n2 c2] w fun e w' => e = .returned (.bool true) ∧ Below w.heap.size w w' := by
  have hb := unew_below u A n c (Below.refl w.heap.size w)
  have HB := Lib.hid hb
  have HS := Lib.hid h
  have HS2 := Lib.hid h2
  have HU : Hid (Ub (unew w u A n c) w.heap.size u A n c) := unew_at w u A n c
  clear h h2 hb
  by_cases h1 : 300 < n
  · unfold uv
    go_enter Try.func6, Try.ntmps6
    go_wp2_with (first
      | (go_at_call 27; (with_reducible refine (alive9_any _).mono ?_); rintro e w1 ⟨rfl, hb⟩; have HB1 := Lib.hid (below_then HB.out hb HB.out.size); obtain ⟨a0, a1, a2, a3⟩ := (HU.out.below hb).cells; clear hb))
    go_ret
    exact ⟨rfl, HB1.out⟩
  · by_cases h2 : 300 < n2
    · unfold uv
      go_enter Try.func6, Try.ntmps6
      go_wp2_with (first
        | (go_at_call 27; (with_reducible refine (alive9_any _).mono ?_); rintro e w1 ⟨rfl, hb⟩; have HB1 := Lib.hid (below_then HB.out hb HB.out.size); obtain ⟨a0, a1, a2, a3⟩ := (HU.out.below hb).cells; clear hb))
      go_ret
      exact ⟨rfl, HB1.out⟩
    · have hx : 0 = 0 := rfl
      unfold uv
      go_enter Try.func6, Try.ntmps6
      go_upto_region 4 with (first
        | (go_at_call 27; (with_reducible refine (alive9_any _).mono ?_); rintro e w1 ⟨rfl, hb⟩; have HB1 := Lib.hid (below_then HB.out hb HB.out.size); have HU1 := Lib.hid (HU.out.below hb); obtain ⟨a0, a1, a2, a3⟩ := HU1.out.cells; have S1 := Lib.hid (HS.out.below (below_then HB.out hb HB.out.size)); have S2 := Lib.hid (HS2.out.below (below_then HB.out hb HB.out.size)); clear hb))
      clear hx HU HS HS2 HB
      obtain ⟨x, hx⟩ : ∃ x, x = chk u := ⟨_, rfl⟩
      have HX := Lib.hid hx
      obtain ⟨pb, hpb⟩ : ∃ p, p = putB u := ⟨_, rfl⟩
      have HPB := Lib.hid hpb
      have t4 : ((str pb).toList == (str pb).toList) = true := beq_self_eq_true _
      have t5 : ((str pb).toList != (str pb).toList) = false := by simp only [bne, t4]; rfl
      have t6 : (x == x) = true := beq_self_eq_true _
      have t7 : (x != x) = false := by simp only [bne, t6]; rfl
      obtain ⟨g, hg⟩ : ∃ g, g = getE l := ⟨_, rfl⟩
      have HG := Lib.hid hg
      have t8 : (g == g) = true := beq_self_eq_true _
      have t9 : (g != g) = false := by simp only [bne, t8]; rfl
      obtain ⟨gu, hgu⟩ : ∃ g, g = getU l := ⟨_, rfl⟩
      have HGU := Lib.hid hgu
      clear hg hgu hx hpb
      go_upto_region 6 with (first
        | (go_at_call 28; (with_reducible refine (put_any _ u _ _ _ S1.out).mono ?_); rintro e w2 ⟨A5, m5, c5, rfl, hown, hb⟩; rw [← HX.out]; rw [← HPB.out] at hown; have HB2 := Lib.hid (below_then HB1.out hb HB1.out.size); have HU2 := Lib.hid (HU1.out.below hb); have S22 := Lib.hid (S2.out.below hb); have S12 := Lib.hid (S1.out.below hb); have O5 := Lib.hid hown.sl; have hm5 := hown.len; obtain ⟨b0, b1, b2, b3⟩ := HU2.out.cells; clear hown hb)
        | (go_at_call 29; (with_reducible refine (putref_any _ u _ _ _ S12.out).mono ?_); rintro e w3 ⟨A6, m6, c6, rfl, hown, hb⟩; rw [← HX.out]; rw [← HPB.out] at hown; have HB3 := Lib.hid (below_then HB2.out hb HB2.out.size); have HU3 := Lib.hid (HU2.out.below hb); have S23 := Lib.hid (S22.out.below hb); have S13 := Lib.hid (S12.out.below hb); have O6 := Lib.hid hown.sl; have O53 := Lib.hid (O5.out.below hb); clear hown hb))
      clear HB1 HB2 HU1 HU2 S1 S2 S12 S22 O5 a0 a1 a2 a3 b0 b1 b2 b3
      go_upto_region 8 with (first
        | (at_builtin; refine app_law rfl (.const (.slice none 0 0)) (.tmp 42) 22 rfl Try.underlying22 info5 rfl rfl (Own.nil _ w3.heap.size) (sl_reads S23.out) S23.out.2.2 (by omega) (Nat.le_refl _) ?_; intro A7 c7 w4 own gr _; simp only [Nat.zero_add, List.nil_append] at own ⊢; have hb := (Below.refl w3.heap.size w3).grown gr (Nat.le_refl _) (by simp [blk]); have HB4 := Lib.hid (below_then HB3.out hb HB3.out.size); have HU4 := Lib.hid (HU3.out.below hb); have S24 := Lib.hid (S23.out.below hb); have S14 := Lib.hid (S13.out.below hb); have O64 := Lib.hid (O6.out.below hb); have O54 := Lib.hid (O53.out.below hb); have O7 := Lib.hid own.sl; clear own gr hb)
        | (go_at_call 30; (with_reducible refine (get_any _ _ _ _ l O7.out (by omega)).mono ?_); rintro e w5 ⟨A8, n8, c8, rfl, hsl, hb⟩; rw [← HG.out, ← HGU.out]; rw [← HGU.out] at hsl; have hb' := unew_below gu A8 n8 c8 hb; have HB5 := Lib.hid (below_then HB4.out hb' HB4.out.size); have HU5 := Lib.hid (HU4.out.below hb'); have S25 := Lib.hid (S24.out.below hb'); have S15 := Lib.hid (S14.out.below hb'); have O65 := Lib.hid (O64.out.below hb'); have O55 := Lib.hid (O54.out.below hb'); have G8 := Lib.hid (hsl.below (unew_below gu A8 n8 c8 (Below.refl _ w5))); have U8 := Lib.hid (unew_at w5 gu A8 n8 c8); clear hsl hb hb')
        | (go_at_call 31; (with_reducible refine (getref_any _ _ _ _ l S25.out (by omega) hcap).mono ?_); rintro e w6 ⟨A9, n9, c9, rfl, hsl, hb⟩; rw [← HG.out, ← HGU.out]; rw [← HGU.out] at hsl; have hb' := unew_below gu A9 n9 c9 hb; have HB6 := Lib.hid (below_then HB5.out hb' HB5.out.size); have HU6 := Lib.hid (HU5.out.below hb'); have S16 := Lib.hid (S15.out.below hb'); have O66 := Lib.hid (O65.out.below hb'); have O56 := Lib.hid (O55.out.below hb'); have G86 := Lib.hid (G8.out.below hb'); have U86 := Lib.hid (U8.out.below hb'); have G9 := Lib.hid (hsl.below (unew_below gu A9 n9 c9 (Below.refl _ w6))); have U9 := Lib.hid (unew_at w6 gu A9 n9 c9); have hcv := conv_str Try.underlying22 Try.underlying5 Try.underlying9 (sl_reads O66.out) O66.out.2.2; have hcv2 := conv_str Try.underlying22 Try.underlying5 Try.underlying9 (sl_reads O56.out) O56.out.2.2; obtain ⟨a0, a1, a2, a3⟩ := U86.out.cells; obtain ⟨b0, b1, b2, b3⟩ := U9.out.cells; clear hsl hb hb'))
      have hx := HX.out
      have hpb := HPB.out
      by_cases hx0 : x = 0
      · subst hx0
        have HPM : Hid (pb = mk u) := hpb.trans (putB_ok hx.symm)
        have hml : m5 ≤ 140737488351232 := by rw [← hm5, HPM.out, mk_len (chk_zero hx.symm).2.2.2.2.2.2]; have := room_le u.kind; omega
        have HGU2 : Hid (getU (mk u) = u) := getU_mk hx.symm
        have HGE2 : Hid (getE (mk u) = 0) := getE_mk hx.symm
        have t0 : ((0 : Int) != 0) = false := rfl
        clear hx hpb hm5
        go_wp2_with (first
        | (go_at_call 32; (with_reducible refine (num_any _ _).mono ?_); rintro e wx ⟨rfl, rfl⟩)
        | (go_at_call 33; (with_reducible refine (same_any _ gu gu _ _ _ _ _ _ G86.out G9.out).mono ?_); rintro e w7 ⟨rfl, hb⟩; rw [same_self]; have HB7 := Lib.hid (below_then HB6.out hb HB6.out.size); have HU7 := Lib.hid (HU6.out.below hb); have S17 := Lib.hid (S16.out.below hb); have O57 := Lib.hid (O56.out.below hb); clear hb)
        | (go_at_call 30; (with_reducible refine (get_any _ _ _ _ pb O57.out hml).mono ?_); rintro e w8 ⟨A8, n8, c8, rfl, hsl, hb⟩; rw [HPM.out, HGE2.out, HGU2.out]; rw [HPM.out, HGU2.out] at hsl; have hb' := unew_below u A8 n8 c8 hb; have HB8 := Lib.hid (below_then HB7.out hb' HB7.out.size); have S18 := Lib.hid (S17.out.below hb'); have S8 := Lib.hid (hsl.below (unew_below u A8 n8 c8 (Below.refl _ w8))); obtain ⟨d0, d1, d2, d3⟩ := (HU7.out.below hb').cells; obtain ⟨e0, e1, e2, e3⟩ := (unew_at w8 u A8 n8 c8).cells; clear hsl hb hb')
        | (go_at_call 33; (with_reducible refine (same_any _ u u _ _ _ _ _ _ S8.out S18.out).mono ?_); rintro e w9 ⟨rfl, hb⟩; rw [same_self]; have HB9 := Lib.hid (below_then HB8.out hb HB8.out.size); clear hb))
        go_ret
        exact ⟨rfl, HB9.out⟩
      · have hm0 : m5 = 0 := by rw [← hm5, hpb, putB_none (fun e => hx0 (hx.trans e))]; rfl
        subst hm0
        have t0 : (x != 0) = true := bne_iff_ne.mpr hx0
        clear hx hpb hm5 hx0
        go_wp2_with (first
        | (go_at_call 32; (with_reducible refine (num_any _ _).mono ?_); rintro e wx ⟨rfl, rfl⟩)
        | (go_at_call 33; (with_reducible refine (same_any _ gu gu _ _ _ _ _ _ G86.out G9.out).mono ?_); rintro e w7 ⟨rfl, hb⟩; rw [same_self]; have HB7 := Lib.hid (below_then HB6.out hb HB6.out.size); have HU7 := Lib.hid (HU6.out.below hb); have S17 := Lib.hid (S16.out.below hb); have O57 := Lib.hid (O56.out.below hb); clear hb))
        go_ret
        exact ⟨rfl, HB7.out⟩
end Go.Proofs.Ytpgceeeokjadpaa.Code
