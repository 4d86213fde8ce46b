/- FrameLimits' walk. Conditions: none. -/
import Derived.Test.YtpgceeeokjadpaaFr12
import Derived.BigRegion
import Derived.Deep.RegionLaw
import Derived.Deep.CutRange
namespace Go.Proofs.Ytpgceeeokjadpaa.Code
open Go.RowKit Go.Joins Go.Proofs.Ytpgceeeokjadpaa.Crc Go.Proofs.Ytpgceeeokjadpaa.Mem
/-- A row of n noughts is made. -/
def Made (n : Int) (R : Array Value) : Prop := ∀ W : World, (Instr.makeSlice 22 (.int .i64 n) (.int .i64 n)).run Try.prog W = .ok (.slice (some ⟨W.heap.size, 0, none⟩) n.toNat n.toNat) (W.alloc (.cells R 5))
theorem made64 : ∃ R, Made 64 R ∧ R.toList = (List.replicate 64 (0 : UInt8)).map kv := ⟨(List.replicate 64 (kv 0)).toArray, fun _ => by kernel_rfl, by kernel_rfl⟩
theorem made65 : ∃ R, Made 65 R ∧ R.toList = (List.replicate 65 (0 : UInt8)).map kv := ⟨(List.replicate 65 (kv 0)).toArray, fun _ => by kernel_rfl, by kernel_rfl⟩
theorem made79 : ∃ R, Made 79 R ∧ R.toList = (List.replicate 79 (0 : UInt8)).map kv := ⟨(List.replicate 79 (kv 0)).toArray, fun _ => by kernel_rfl, by kernel_rfl⟩
theorem made80 : ∃ R, Made 80 R ∧ R.toList = (List.replicate 80 (0 : UInt8)).map kv := ⟨(List.replicate 80 (kv 0)).toArray, fun _ => by kernel_rfl, by kernel_rfl⟩
theorem put_okn (w : World) (k l m : Int) (load : List UInt8) (A : Option Addr) (n c : Nat) (x : Nat) (hs : Sl w A n c load) (hc : chk ⟨k, l, m, load⟩ = 0) (hx : 15 + room k = x) :
    Calls Try.prog 28 #[.agg #[.int .i64 k, .int .i64 l, .int .i64 m, .slice A n c]] w fun e w' => ∃ A' c', e = .returned (.tuple #[.slice A' x c', .int .i64 0]) ∧ Below w.heap.size w w' := by
  refine (put_at w k l m load A n c hs).mono ?_
  rintro e w' ⟨A', m', c', rfl, hown, hb⟩
  have h1 := hown.len
  rw [putB_ok hc, mk_len (chk_zero hc).2.2.2.2.2.2, hx] at h1
  subst h1
  rw [hc]
  exact ⟨_, _, rfl, hb⟩
theorem put_non (w : World) (k l m : Int) (load : List UInt8) (A : Option Addr) (n c : Nat) (z : Int) (hs : Sl w A n c load) (hc : chk ⟨k, l, m, load⟩ = z) (hz : z ≠ 0) :
    Calls Try.prog 28 #[.agg #[.int .i64 k, .int .i64 l, .int .i64 m, .slice A n c]] w fun e w' => ∃ A' c', e = .returned (.tuple #[.slice A' 0 c', .int .i64 z]) ∧ Below w.heap.size w w' := by
  refine (put_at w k l m load A n c hs).mono ?_
  rintro e w' ⟨A', m', c', rfl, hown, hb⟩
  have h1 := hown.len
  rw [putB_none (by rw [hc]; exact hz)] at h1
  subst h1
  rw [hc]
  exact ⟨_, _, rfl, hb⟩
theorem heap3 (w : World) (a b c : Obj) : (((w.alloc a).alloc b).alloc c).drew.heap[w.heap.size]? = some a ∧ (((w.alloc a).alloc b).alloc c).drew.heap[w.heap.size + 1]? = some b ∧ (((w.alloc a).alloc b).alloc c).drew.heap[w.heap.size + 1 + 1]? = some c := by
  show (((w.heap.push a).push b).push c)[w.heap.size]? = some a ∧ (((w.heap.push a).push b).push c)[w.heap.size + 1]? = some b ∧ (((w.heap.push a).push b).push c)[w.heap.size + 1 + 1]? = some c
  refine ⟨?_, ?_, ?_⟩
  · rw [Array.getElem?_push_lt (by simp; omega), Array.getElem_push_lt (by simp), Array.getElem_push_eq]
  · rw [Array.getElem?_push_lt (by simp)]
    have : w.heap.size + 1 = (w.heap.push a).size := by simp
    simp [Array.getElem_push]
  · have : w.heap.size + 1 + 1 = ((w.heap.push a).push b).size := by simp
    rw [this, Array.getElem?_push_size]
theorem noughts {w : World} {q n : Nat} {R : Array Value} (h : w.heap[q]? = some (.cells R 5 (0, 0))) (hr : R.toList = (List.replicate n (0 : UInt8)).map kv) : Sl w (some ⟨q, 0, none⟩) n n (List.replicate n 0) :=
  ⟨Reads.block h (by simp) (fun i hi => by rw [← Array.getElem?_toList, hr, List.getElem?_map, List.getElem?_eq_getElem hi]; rfl), Nat.le_refl _, fun h => by cases h⟩
/-- The list of units is made. -/
def Lim_kept (w0 wx : World) (q A1 A2 : Nat) : Prop := Below w0.heap.size w0 wx ∧ wx.heap[q]? = some (.cells #[.int .i64 6, .int .i64 1, .int .i64 0, .slice none 0 0, .int .i64 1, .int .i64 1, .int .i64 0, .slice none 0 0, .int .i64 1, .int .i64 2147483647, .int .i64 0, .slice none 0 0, .int .i64 1, .int .i64 1, .int .i64 2147483647, .slice none 0 0, .int .i64 3, .int .i64 1, .int .i64 0, .slice (some ⟨A1, 0, none⟩) 64 64, .int .i64 6, .int .i64 1, .int .i64 0, .slice (some ⟨A2, 0, none⟩) 79 79] 45 (0, 0)) ∧ Sl wx (some ⟨A1, 0, none⟩) 64 64 (List.replicate 64 0) ∧ Sl wx (some ⟨A2, 0, none⟩) 79 79 (List.replicate 79 0)
set_option maxHeartbeats 8000000 in
set_option maxRecDepth 100000 in
theorem limits_kept (w : World) (i : Int) (h0 : 0 ≤ i) (h5 : i ≤ 5) :
    Calls Try.prog 8 #[.int .i64 i, .bool false] w fun e w' => e = .returned (.bool true) ∧ Below w.heap.size w w' := by
  obtain ⟨R1, hR1, hr1⟩ := made64
  obtain ⟨R2, hR2, hr2⟩ := made79
  unfold Made at hR1 hR2
  have HR1 := Lib.hid hr1; have HR2 := Lib.hid hr2
  clear hr1 hr2
  go_enter Try.func8, Try.ntmps8
  go_upto_region 7 with (first
    | (go_at_call 27; (with_reducible refine (alive9_any _).mono ?_); rintro e w1 ⟨rfl, hb⟩; have HB1 := Lib.hid hb; clear hb))
  go_cut [7] from 7 to 44 (fun r7 wx => ∃ q A1 A2, r7 = .slice (some ⟨q, 0, none⟩) 6 6 ∧ Hid (Lim_kept w wx q A1 A2))
  case first =>
    go_region
    all_goals (go_wp2_with fail; go_meet)
    · have b1 := ((HB1.out.alloc HB1.out.size (.cells R1 5)).alloc (HB1.out.alloc HB1.out.size (.cells R1 5)).size (.cells R2 5))
      refine ⟨_, w1.heap.size, w1.heap.size + 1, rfl, (b1.alloc b1.size _).drew, ?_, noughts ?_ HR1.out, noughts ?_ HR2.out⟩
      · exact (heap3 _ _ _ _).2.2
      · exact (heap3 _ _ _ _).1
      · exact (heap3 _ _ _ _).2.1
    · have b1 := ((HB1.out.alloc HB1.out.size (.cells R2 5)).alloc (HB1.out.alloc HB1.out.size (.cells R2 5)).size (.cells R1 5))
      refine ⟨_, w1.heap.size + 1, w1.heap.size, rfl, (b1.alloc b1.size _).drew, ?_, noughts ?_ HR1.out, noughts ?_ HR2.out⟩
      · exact (heap3 _ _ _ _).2.2
      · exact (heap3 _ _ _ _).2.1
      · exact (heap3 _ _ _ _).1
  case rest =>
  obtain ⟨q, A1, A2, rfl, HLIM⟩ := hcut
  clear hR1 hR2 HR1 HR2
  have hi : i = 0 ∨ i = 1 ∨ i = 2 ∨ i = 3 ∨ i = 4 ∨ i = 5 := by omega
  have HB2 := Lib.hid HLIM.out.1
  have HQ := Lib.hid HLIM.out.2.1
  have HS1 := Lib.hid HLIM.out.2.2.1
  have HS2 := Lib.hid HLIM.out.2.2.2
  clear h0 h5 HLIM
  rcases hi with rfl | rfl | rfl | rfl | rfl | rfl
  · have k0 := cell_of_block HQ.out 0; have k1 := cell_of_block HQ.out 1; have k2 := cell_of_block HQ.out 2; have k3 := cell_of_block HQ.out 3
    simp at k0 k1 k2 k3
    have HC : Hid (chk ⟨6, 1, 0, []⟩ = 0) := by unfold Hid; decide
    go_wp2_with (first
      | (go_at_call 28; (with_reducible refine (put_okn _ 6 1 0 [] none 0 0 94 (Sl.nil _) HC.out (by decide)).mono ?_); rintro e w3 ⟨A5, c5, rfl, hb⟩; have HB3 := Lib.hid (below_then HB2.out hb HB2.out.size); have k4 := cell_of_block ((hb.block q (lt_of_block HQ.out)).trans HQ.out) 0; simp at k4; clear hb)
      | (go_at_call 32; (with_reducible refine (num_any _ _).mono ?_); rintro e wx ⟨rfl, rfl⟩))
    go_ret
    exact ⟨rfl, HB3.out⟩
  · have k0 := cell_of_block HQ.out 4; have k1 := cell_of_block HQ.out 5; have k2 := cell_of_block HQ.out 6; have k3 := cell_of_block HQ.out 7
    simp at k0 k1 k2 k3
    have HC : Hid (chk ⟨1, 1, 0, []⟩ = 0) := by unfold Hid; decide
    go_wp2_with (first
      | (go_at_call 28; (with_reducible refine (put_okn _ 1 1 0 [] none 0 0 79 (Sl.nil _) HC.out (by decide)).mono ?_); rintro e w3 ⟨A5, c5, rfl, hb⟩; have HB3 := Lib.hid (below_then HB2.out hb HB2.out.size); have k4 := cell_of_block ((hb.block q (lt_of_block HQ.out)).trans HQ.out) 4; simp at k4; clear hb)
      | (go_at_call 32; (with_reducible refine (num_any _ _).mono ?_); rintro e wx ⟨rfl, rfl⟩))
    go_ret
    exact ⟨rfl, HB3.out⟩
  · have k0 := cell_of_block HQ.out 8; have k1 := cell_of_block HQ.out 9; have k2 := cell_of_block HQ.out 10; have k3 := cell_of_block HQ.out 11
    simp at k0 k1 k2 k3
    have HC : Hid (chk ⟨1, 2147483647, 0, []⟩ = 0) := by unfold Hid; decide
    go_wp2_with (first
      | (go_at_call 28; (with_reducible refine (put_okn _ 1 2147483647 0 [] none 0 0 79 (Sl.nil _) HC.out (by decide)).mono ?_); rintro e w3 ⟨A5, c5, rfl, hb⟩; have HB3 := Lib.hid (below_then HB2.out hb HB2.out.size); have k4 := cell_of_block ((hb.block q (lt_of_block HQ.out)).trans HQ.out) 8; simp at k4; clear hb)
      | (go_at_call 32; (with_reducible refine (num_any _ _).mono ?_); rintro e wx ⟨rfl, rfl⟩))
    go_ret
    exact ⟨rfl, HB3.out⟩
  · have k0 := cell_of_block HQ.out 12; have k1 := cell_of_block HQ.out 13; have k2 := cell_of_block HQ.out 14; have k3 := cell_of_block HQ.out 15
    simp at k0 k1 k2 k3
    have HC : Hid (chk ⟨1, 1, 2147483647, []⟩ = 0) := by unfold Hid; decide
    go_wp2_with (first
      | (go_at_call 28; (with_reducible refine (put_okn _ 1 1 2147483647 [] none 0 0 79 (Sl.nil _) HC.out (by decide)).mono ?_); rintro e w3 ⟨A5, c5, rfl, hb⟩; have HB3 := Lib.hid (below_then HB2.out hb HB2.out.size); have k4 := cell_of_block ((hb.block q (lt_of_block HQ.out)).trans HQ.out) 12; simp at k4; clear hb)
      | (go_at_call 32; (with_reducible refine (num_any _ _).mono ?_); rintro e wx ⟨rfl, rfl⟩))
    go_ret
    exact ⟨rfl, HB3.out⟩
  · have k0 := cell_of_block HQ.out 16; have k1 := cell_of_block HQ.out 17; have k2 := cell_of_block HQ.out 18; have k3 := cell_of_block HQ.out 19
    simp at k0 k1 k2 k3
    have HC : Hid (chk ⟨3, 1, 0, (List.replicate 64 0)⟩ = 0) := by unfold Hid; decide
    go_wp2_with (first
      | (go_at_call 28; (with_reducible refine (put_okn _ 3 1 0 (List.replicate 64 0) (some ⟨A1, 0, none⟩) 64 64 79 HS1.out HC.out (by decide)).mono ?_); rintro e w3 ⟨A5, c5, rfl, hb⟩; have HB3 := Lib.hid (below_then HB2.out hb HB2.out.size); have k4 := cell_of_block ((hb.block q (lt_of_block HQ.out)).trans HQ.out) 16; simp at k4; clear hb)
      | (go_at_call 32; (with_reducible refine (num_any _ _).mono ?_); rintro e wx ⟨rfl, rfl⟩))
    go_ret
    exact ⟨rfl, HB3.out⟩
  · have k0 := cell_of_block HQ.out 20; have k1 := cell_of_block HQ.out 21; have k2 := cell_of_block HQ.out 22; have k3 := cell_of_block HQ.out 23
    simp at k0 k1 k2 k3
    have HC : Hid (chk ⟨6, 1, 0, (List.replicate 79 0)⟩ = 0) := by unfold Hid; decide
    go_wp2_with (first
      | (go_at_call 28; (with_reducible refine (put_okn _ 6 1 0 (List.replicate 79 0) (some ⟨A2, 0, none⟩) 79 79 94 HS2.out HC.out (by decide)).mono ?_); rintro e w3 ⟨A5, c5, rfl, hb⟩; have HB3 := Lib.hid (below_then HB2.out hb HB2.out.size); have k4 := cell_of_block ((hb.block q (lt_of_block HQ.out)).trans HQ.out) 20; simp at k4; clear hb)
      | (go_at_call 32; (with_reducible refine (num_any _ _).mono ?_); rintro e wx ⟨rfl, rfl⟩))
    go_ret
    exact ⟨rfl, HB3.out⟩
end Go.Proofs.Ytpgceeeokjadpaa.Code
