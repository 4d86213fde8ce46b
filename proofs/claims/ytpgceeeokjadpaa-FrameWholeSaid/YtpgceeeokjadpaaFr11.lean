/- FrameWhole's walk. Conditions: the loads lie where the slices say. -/
import Derived.Test.YtpgceeeokjadpaaFr10
import Derived.Deep.RegionWith
namespace Go.Proofs.Ytpgceeeokjadpaa.Code
open Go.RowKit Go.Joins Go.Proofs.Ytpgceeeokjadpaa.Crc Go.Proofs.Ytpgceeeokjadpaa.Mem
theorem num_z (w : World) : Calls Try.prog 32 #[.int .i64 0] w fun e w' => e = .returned (.int .i64 0) ∧ w' = w := num_any w 0
theorem whole_eq {u v : Un} (hu : chk u = 0) (hv : chk v = 0) : decide (mk u = mk v) = decide (u = v) := by
  by_cases h : u = v
  · rw [decide_eq_true h, decide_eq_true (congrArg mk h)]
  · rw [decide_eq_false h, decide_eq_false (fun e => h (mk_inj hu hv e))]
set_option maxHeartbeats 4000000 in
set_option maxRecDepth 100000 in
theorem whole_any (w : World) (u v : Un) (A : Option Addr) (n c : Nat) (A2 : Option Addr) (n2 c2 : Nat) (h : Sl w A n c u.load) (h2 : Sl w A2 n2 c2 v.load) :
    Calls Try.prog 9 #[uv u A n c, uv v A2 n2 c2] w fun e w' => e = .returned (.bool true) ∧ Below w.heap.size w w' := by
  have hb := unew_below v A2 n2 c2 (unew_below u A n c (Below.refl w.heap.size w))
  have HB := Lib.hid hb
  have HS := Lib.hid h
  have HS2 := Lib.hid h2
  have HU : Hid (Ub (unew (unew w u A n c) v A2 n2 c2) w.heap.size u A n c) := (unew_at w u A n c).below (unew_below v A2 n2 c2 (Below.refl _ _))
  have HV : Hid (Ub (unew (unew w u A n c) v A2 n2 c2) (w.heap.size + 1) v A2 n2 c2) := by have := unew_at (unew w u A n c) v A2 n2 c2; simp only [unew, World.size_alloc] at this; exact this
  clear h h2 hb
  by_cases h1 : 100 < n
  · unfold uv
    go_enter Try.func9, Try.ntmps9
    go_wp2_with (first
      | (go_at_call 27; (with_reducible refine (alive9_any _).mono ?_); rintro e w1 ⟨rfl, hb⟩; have HB1 := Lib.hid (below_then HB.out hb HB.out.size); obtain ⟨a0, a1, a2, a3⟩ := (HU.out.below hb).cells; clear hb))
    go_ret
    exact ⟨rfl, HB1.out⟩
  · by_cases h2 : 100 < n2
    · unfold uv
      go_enter Try.func9, Try.ntmps9
      go_wp2_with (first
        | (go_at_call 27; (with_reducible refine (alive9_any _).mono ?_); rintro e w1 ⟨rfl, hb⟩; have HB1 := Lib.hid (below_then HB.out hb HB.out.size); obtain ⟨a0, a1, a2, a3⟩ := (HU.out.below hb).cells; obtain ⟨b0, b1, b2, b3⟩ := (HV.out.below hb).cells; clear hb))
      go_ret
      exact ⟨rfl, HB1.out⟩
    · have hx : 0 = 0 := rfl
      unfold uv
      go_enter Try.func9, Try.ntmps9
      go_upto_region 4 with (first
        | (go_at_call 27; (with_reducible refine (alive9_any _).mono ?_); rintro e w1 ⟨rfl, hb⟩; have HB1 := Lib.hid (below_then HB.out hb HB.out.size); have HU1 := Lib.hid (HU.out.below hb); have HV1 := Lib.hid (HV.out.below hb); obtain ⟨a0, a1, a2, a3⟩ := HU1.out.cells; obtain ⟨b0, b1, b2, b3⟩ := HV1.out.cells; have S1 := Lib.hid (HS.out.below (below_then HB.out hb HB.out.size)); have S2 := Lib.hid (HS2.out.below (below_then HB.out hb HB.out.size)); clear hb))
      clear h1 h2 hx HU HV HS HS2 HB
      obtain ⟨x, hx⟩ : ∃ x, x = chk u := ⟨_, rfl⟩
      obtain ⟨y, hy⟩ : ∃ y, y = chk v := ⟨_, rfl⟩
      have HX := Lib.hid hx
      have HY := Lib.hid hy
      by_cases hx0 : x = 0
      · by_cases hy0 : y = 0
        · subst hx0 hy0
          obtain ⟨d, hd⟩ : ∃ d, d = decide (u = v) := ⟨_, rfl⟩
          have HD := Lib.hid hd
          have HPU : Hid (putB u = mk u) := putB_ok hx.symm
          have HPV : Hid (putB v = mk v) := putB_ok hy.symm
          have t0 : ((0 : Int) != 0) = false := rfl
          have t4 : ((str (mk u)).toList == (str (mk v)).toList) = d := by rw [str_eq, whole_eq hx.symm hy.symm, hd]
          have t5 : (d == d) = true := beq_self_eq_true d
          clear hx hy hd
          go_upto_region 8 with (first
            | (go_at_call 28; (with_reducible refine (put_any _ u _ _ _ S1.out).mono ?_); rintro e w2 ⟨A5, m5, c5, rfl, hown, hb⟩; rw [← HX.out]; have HB2 := Lib.hid (below_then HB1.out hb HB1.out.size); have HU2 := Lib.hid (HU1.out.below hb); have HV2 := Lib.hid (HV1.out.below hb); have S22 := Lib.hid (S2.out.below hb); obtain ⟨a0, a1, a2, a3⟩ := HU2.out.cells; obtain ⟨b0, b1, b2, b3⟩ := HV2.out.cells; have S12 := Lib.hid (S1.out.below hb); rw [HPU.out] at hown; have O5 := Lib.hid hown.sl; clear hown hb)
            | (go_at_call 28; (with_reducible refine (put_any _ v _ _ _ S22.out).mono ?_); rintro e w3 ⟨A6, m6, c6, rfl, hown, hb⟩; rw [← HY.out]; have HB3 := Lib.hid (below_then HB2.out hb HB2.out.size); rw [HPV.out] at hown; have O6 := Lib.hid hown.sl; have O53 := Lib.hid (O5.out.below hb); have HU3 := Lib.hid (HU2.out.below hb); have HV3 := Lib.hid (HV2.out.below hb); have S23 := Lib.hid (S22.out.below hb); have S13 := Lib.hid (S12.out.below hb); clear hown hb)
            | (go_at_call 32; (with_reducible refine (num_any _ _).mono ?_); rintro e wx ⟨rfl, rfl⟩))
          clear HB1 HB2 HU1 HU2 HV1 HV2 S1 S2 S12 S22 O5 a0 a1 a2 a3 b0 b1 b2 b3
          have hcv := conv_str Try.underlying22 Try.underlying5 Try.underlying9 (sl_reads (O53.out.below (Below.refl _ _).drew)) O53.out.2.2
          have hcv2 := conv_str Try.underlying22 Try.underlying5 Try.underlying9 (sl_reads (O6.out.below (Below.refl _ _).drew)) O6.out.2.2
          obtain ⟨a0, a1, a2, a3⟩ := HU3.out.cells; obtain ⟨b0, b1, b2, b3⟩ := HV3.out.cells
          go_region_with (first
            | (go_at_call 33; (with_reducible refine (same_any _ u v _ _ _ _ _ _ (S13.out.below (Below.refl _ _).drew) (S23.out.below (Below.refl _ _).drew)).mono ?_); rintro e w5 ⟨rfl, hb⟩; rw [← HD.out]; have HB5 := Lib.hid hb; have hcv5 := conv_str Try.underlying22 Try.underlying5 Try.underlying9 (sl_reads ((O53.out.below (Below.refl _ _).drew).below hb)) O53.out.2.2; have hcv6 := conv_str Try.underlying22 Try.underlying5 Try.underlying9 (sl_reads ((O6.out.below (Below.refl _ _).drew).below hb)) O6.out.2.2; clear hb))
          all_goals go_wp2
          all_goals go_ret
          all_goals exact ⟨rfl, below_then HB3.out.drew HB5.out HB3.out.drew.size⟩
        · have t0 : (y != 0) = true := bne_iff_ne.mpr hy0
          have t1 : ((0 : Int) != 0) = false := rfl
          subst hx0
          clear hx hy hy0
          go_wp2_with (first
            | (go_at_call 28; (with_reducible refine (put_any _ u _ _ _ S1.out).mono ?_); rintro e w2 ⟨A5, m5, c5, rfl, hown, hb⟩; rw [← HX.out]; have HB2 := Lib.hid (below_then HB1.out hb HB1.out.size); have HU2 := Lib.hid (HU1.out.below hb); have HV2 := Lib.hid (HV1.out.below hb); have S22 := Lib.hid (S2.out.below hb); obtain ⟨a0, a1, a2, a3⟩ := HU2.out.cells; obtain ⟨b0, b1, b2, b3⟩ := HV2.out.cells; have S12 := Lib.hid (S1.out.below hb);  clear hown hb)
            | (go_at_call 28; (with_reducible refine (put_any _ v _ _ _ S22.out).mono ?_); rintro e w3 ⟨A6, m6, c6, rfl, hown, hb⟩; rw [← HY.out]; have HB3 := Lib.hid (below_then HB2.out hb HB2.out.size);  clear hown hb)
            | (go_at_call 32; (with_reducible refine (num_any _ _).mono ?_); rintro e wx ⟨rfl, rfl⟩))
          go_ret
          exact ⟨rfl, HB3.out⟩
      · have t0 : (x != 0) = true := bne_iff_ne.mpr hx0
        clear hx hy hx0
        go_wp2_with (first
          | (go_at_call 28; (with_reducible refine (put_any _ u _ _ _ S1.out).mono ?_); rintro e w2 ⟨A5, m5, c5, rfl, hown, hb⟩; rw [← HX.out]; have HB2 := Lib.hid (below_then HB1.out hb HB1.out.size); have HU2 := Lib.hid (HU1.out.below hb); have HV2 := Lib.hid (HV1.out.below hb); have S22 := Lib.hid (S2.out.below hb); obtain ⟨a0, a1, a2, a3⟩ := HU2.out.cells; obtain ⟨b0, b1, b2, b3⟩ := HV2.out.cells; have S12 := Lib.hid (S1.out.below hb);  clear hown hb)
          | (go_at_call 28; (with_reducible refine (put_any _ v _ _ _ S22.out).mono ?_); rintro e w3 ⟨A6, m6, c6, rfl, hown, hb⟩; rw [← HY.out]; have HB3 := Lib.hid (below_then HB2.out hb HB2.out.size);  clear hown hb)
          | (go_at_call 32; (with_reducible refine (num_any _ _).mono ?_); rintro e wx ⟨rfl, rfl⟩))
        go_ret
        exact ⟨rfl, HB3.out⟩
end Go.Proofs.Ytpgceeeokjadpaa.Code
