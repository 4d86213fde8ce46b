/- FrameLimits' walk, where a number is too great. Conditions: none. -/
import Derived.Test.YtpgceeeokjadpaaFr14
namespace Go.Proofs.Ytpgceeeokjadpaa.Code
open Go.RowKit Go.Joins Go.Proofs.Ytpgceeeokjadpaa.Crc Go.Proofs.Ytpgceeeokjadpaa.Mem
/-- The list of units is made. -/
def Lim_over (w0 wx : World) (q A1 A2 : Nat) : Prop := Below w0.heap.size w0 wx ∧ wx.heap[q]? = some (.cells #[.int .i64 7, .int .i64 1, .int .i64 0, .slice none 0 0, .int .i64 0, .int .i64 1, .int .i64 0, .slice none 0 0, .int .i64 1, .int .i64 2147483648, .int .i64 0, .slice none 0 0, .int .i64 1, .int .i64 1, .int .i64 2147483648, .slice none 0 0, .int .i64 3, .int .i64 1, .int .i64 0, .slice (some ⟨A1, 0, none⟩) 65 65, .int .i64 6, .int .i64 1, .int .i64 0, .slice (some ⟨A2, 0, none⟩) 80 80] 45 (0, 0)) ∧ Sl wx (some ⟨A1, 0, none⟩) 65 65 (List.replicate 65 0) ∧ Sl wx (some ⟨A2, 0, none⟩) 80 80 (List.replicate 80 0)
set_option maxHeartbeats 8000000 in
set_option maxRecDepth 100000 in
theorem limits_over (w : World) (i : Int) (h0 : 0 ≤ i) (h5 : i ≤ 5) :
    Calls Try.prog 8 #[.int .i64 i, .bool true] w fun e w' => e = .returned (.bool true) ∧ Below w.heap.size w w' := by
  obtain ⟨R1, hR1, hr1⟩ := made65
  obtain ⟨R2, hR2, hr2⟩ := made80
  unfold Made at hR1 hR2
  have HR1 := Lib.hid hr1; have HR2 := Lib.hid hr2
  clear hr1 hr2
  go_enter Try.func8, Try.ntmps8
  go_upto_region 7 with (first
    | (go_at_call 27; (with_reducible refine (alive9_any _).mono ?_); rintro e w1 ⟨rfl, hb⟩; have HB1 := Lib.hid hb; clear hb))
  go_cut [7] from 7 to 44 (fun r7 wx => ∃ q A1 A2, r7 = .slice (some ⟨q, 0, none⟩) 6 6 ∧ Hid (Lim_over w wx q A1 A2))
  case first =>
    go_region
    all_goals (go_wp2_with fail; go_meet)
    · have b1 := ((HB1.out.alloc HB1.out.size (.cells R1 5)).alloc (HB1.out.alloc HB1.out.size (.cells R1 5)).size (.cells R2 5))
      refine ⟨_, w1.heap.size, w1.heap.size + 1, rfl, (b1.alloc b1.size _).drew, ?_, noughts ?_ HR1.out, noughts ?_ HR2.out⟩
      · exact (heap3 _ _ _ _).2.2
      · exact (heap3 _ _ _ _).1
      · exact (heap3 _ _ _ _).2.1
    · have b1 := ((HB1.out.alloc HB1.out.size (.cells R2 5)).alloc (HB1.out.alloc HB1.out.size (.cells R2 5)).size (.cells R1 5))
      refine ⟨_, w1.heap.size + 1, w1.heap.size, rfl, (b1.alloc b1.size _).drew, ?_, noughts ?_ HR1.out, noughts ?_ HR2.out⟩
      · exact (heap3 _ _ _ _).2.2
      · exact (heap3 _ _ _ _).2.1
      · exact (heap3 _ _ _ _).1
  case rest =>
  obtain ⟨q, A1, A2, rfl, HLIM⟩ := hcut
  clear hR1 hR2 HR1 HR2
  have hi : i = 0 ∨ i = 1 ∨ i = 2 ∨ i = 3 ∨ i = 4 ∨ i = 5 := by omega
  have HB2 := Lib.hid HLIM.out.1
  have HQ := Lib.hid HLIM.out.2.1
  have HS1 := Lib.hid HLIM.out.2.2.1
  have HS2 := Lib.hid HLIM.out.2.2.2
  clear h0 h5 HLIM
  rcases hi with rfl | rfl | rfl | rfl | rfl | rfl
  · have k0 := cell_of_block HQ.out 0; have k1 := cell_of_block HQ.out 1; have k2 := cell_of_block HQ.out 2; have k3 := cell_of_block HQ.out 3
    simp at k0 k1 k2 k3
    have HC : Hid (chk ⟨7, 1, 0, []⟩ = 1) := by unfold Hid; decide
    go_upto_region 10 with (first
      | (go_at_call 28; (with_reducible refine (put_non _ 7 1 0 [] none 0 0 1 (Sl.nil _) HC.out (by decide)).mono ?_); rintro e w3 ⟨A5, c5, rfl, hb⟩; have HB3 := Lib.hid (below_then HB2.out hb HB2.out.size); clear hb))
    go_region_with (first | (go_at_call 32; (with_reducible refine (num_any _ _).mono ?_); rintro e wx ⟨rfl, rfl⟩))
    all_goals (go_wp2)
    all_goals go_ret
    all_goals exact ⟨rfl, HB3.out.drew.alloc HB3.out.drew.size _⟩
  · have k0 := cell_of_block HQ.out 4; have k1 := cell_of_block HQ.out 5; have k2 := cell_of_block HQ.out 6; have k3 := cell_of_block HQ.out 7
    simp at k0 k1 k2 k3
    have HC : Hid (chk ⟨0, 1, 0, []⟩ = 1) := by unfold Hid; decide
    go_upto_region 10 with (first
      | (go_at_call 28; (with_reducible refine (put_non _ 0 1 0 [] none 0 0 1 (Sl.nil _) HC.out (by decide)).mono ?_); rintro e w3 ⟨A5, c5, rfl, hb⟩; have HB3 := Lib.hid (below_then HB2.out hb HB2.out.size); clear hb))
    go_region_with (first | (go_at_call 32; (with_reducible refine (num_any _ _).mono ?_); rintro e wx ⟨rfl, rfl⟩))
    all_goals (go_wp2)
    all_goals go_ret
    all_goals exact ⟨rfl, HB3.out.drew.alloc HB3.out.drew.size _⟩
  · have k0 := cell_of_block HQ.out 8; have k1 := cell_of_block HQ.out 9; have k2 := cell_of_block HQ.out 10; have k3 := cell_of_block HQ.out 11
    simp at k0 k1 k2 k3
    have HC : Hid (chk ⟨1, 2147483648, 0, []⟩ = 1) := by unfold Hid; decide
    go_upto_region 10 with (first
      | (go_at_call 28; (with_reducible refine (put_non _ 1 2147483648 0 [] none 0 0 1 (Sl.nil _) HC.out (by decide)).mono ?_); rintro e w3 ⟨A5, c5, rfl, hb⟩; have HB3 := Lib.hid (below_then HB2.out hb HB2.out.size); clear hb))
    go_region_with (first | (go_at_call 32; (with_reducible refine (num_any _ _).mono ?_); rintro e wx ⟨rfl, rfl⟩))
    all_goals (go_wp2)
    all_goals go_ret
    all_goals exact ⟨rfl, HB3.out.drew.alloc HB3.out.drew.size _⟩
  · have k0 := cell_of_block HQ.out 12; have k1 := cell_of_block HQ.out 13; have k2 := cell_of_block HQ.out 14; have k3 := cell_of_block HQ.out 15
    simp at k0 k1 k2 k3
    have HC : Hid (chk ⟨1, 1, 2147483648, []⟩ = 1) := by unfold Hid; decide
    go_upto_region 10 with (first
      | (go_at_call 28; (with_reducible refine (put_non _ 1 1 2147483648 [] none 0 0 1 (Sl.nil _) HC.out (by decide)).mono ?_); rintro e w3 ⟨A5, c5, rfl, hb⟩; have HB3 := Lib.hid (below_then HB2.out hb HB2.out.size); clear hb))
    go_region_with (first | (go_at_call 32; (with_reducible refine (num_any _ _).mono ?_); rintro e wx ⟨rfl, rfl⟩))
    all_goals (go_wp2)
    all_goals go_ret
    all_goals exact ⟨rfl, HB3.out.drew.alloc HB3.out.drew.size _⟩
  · have k0 := cell_of_block HQ.out 16; have k1 := cell_of_block HQ.out 17; have k2 := cell_of_block HQ.out 18; have k3 := cell_of_block HQ.out 19
    simp at k0 k1 k2 k3
    have HC : Hid (chk ⟨3, 1, 0, (List.replicate 65 0)⟩ = 4) := by unfold Hid; decide
    go_upto_region 10 with (first
      | (go_at_call 28; (with_reducible refine (put_non _ 3 1 0 (List.replicate 65 0) (some ⟨A1, 0, none⟩) 65 65 4 HS1.out HC.out (by decide)).mono ?_); rintro e w3 ⟨A5, c5, rfl, hb⟩; have HB3 := Lib.hid (below_then HB2.out hb HB2.out.size); clear hb))
    go_region_with (first | (go_at_call 32; (with_reducible refine (num_any _ _).mono ?_); rintro e wx ⟨rfl, rfl⟩))
    all_goals (go_wp2)
    all_goals go_ret
    all_goals exact ⟨rfl, HB3.out.drew.alloc HB3.out.drew.size _⟩
  · have k0 := cell_of_block HQ.out 20; have k1 := cell_of_block HQ.out 21; have k2 := cell_of_block HQ.out 22; have k3 := cell_of_block HQ.out 23
    simp at k0 k1 k2 k3
    have HC : Hid (chk ⟨6, 1, 0, (List.replicate 80 0)⟩ = 4) := by unfold Hid; decide
    go_upto_region 10 with (first
      | (go_at_call 28; (with_reducible refine (put_non _ 6 1 0 (List.replicate 80 0) (some ⟨A2, 0, none⟩) 80 80 4 HS2.out HC.out (by decide)).mono ?_); rintro e w3 ⟨A5, c5, rfl, hb⟩; have HB3 := Lib.hid (below_then HB2.out hb HB2.out.size); clear hb))
    go_region_with (first | (go_at_call 32; (with_reducible refine (num_any _ _).mono ?_); rintro e wx ⟨rfl, rfl⟩))
    all_goals (go_wp2)
    all_goals go_ret
    all_goals exact ⟨rfl, HB3.out.drew.alloc HB3.out.drew.size _⟩
end Go.Proofs.Ytpgceeeokjadpaa.Code
