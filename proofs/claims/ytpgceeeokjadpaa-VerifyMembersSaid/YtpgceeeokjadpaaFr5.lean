/- What the reference's PutFrame makes, where the unit can be. Conditions: as each law says. -/
import Derived.Test.YtpgceeeokjadpaaFr4
namespace Go.Proofs.Ytpgceeeokjadpaa.Code
open Go.RowKit Go.Joins Go.Proofs.Ytpgceeeokjadpaa.Crc Go.Proofs.Ytpgceeeokjadpaa.Mem
theorem I_and255 (n : Nat) (h : n < 256) : Go.bits .and .i64 (n : Int) 255 = (n : Int) := by
  have := bits_mask .i64 63 (by decide) (fun n h0 h1 => by rw [IntKind.wrap_i64]; omega) 8 (by decide) (n : Int) (by omega) (by omega)
  rw [show ((255 : Int)) = 2 ^ 8 - 1 by rfl, this]
  omega
theorem own_raise {w : World} {B : Nat} {A : Option Addr} {n c : Nat} {l : List UInt8} (h : Own w 0 A n c l) (hb : ∀ b, blk A = some b → B ≤ b) : Own w B A n c l := by
  refine ⟨h.1, h.2.1, ?_⟩
  rcases h.2.2 with h2 | ⟨g, cap, cur, hv, _, r⟩
  · exact .inl h2
  · simp at hv
    exact .inr ⟨g, cap, cur, by simp [hv], hb g (by rw [hv.1]; rfl), r⟩
theorem crc_at (A : Option Addr) (n c : Nat) (l : List UInt8) (w : World) (x : Int) (hx : x = J (sum l)) (hr : Reads w A n l) (hl : n ≤ 9223372036854775807) :
    Calls Try.prog 52 #[.slice A n c] w fun e w' => e = .returned (.int .u32 x) ∧ w = w' := by rw [hx]; exact CrcWalk.crc_any A n c l w hr hl
theorem rbyte_at (w : World) (p : Nat) (l : List UInt8) (x : Int) (b : UInt8) (h : WAt 39 w p l) (hx : x = K b) (hl : l.length ≤ 1000000000) :
    Calls Try.prog 25 #[.pointer (some ⟨p, 0, none⟩), .int .u8 x] w fun e w' => e = .returned (.tuple #[]) ∧ Wrote 39 w p (l ++ [b]) w' := by rw [hx]; exact rbyte w p l b h hl
set_option maxHeartbeats 4000000 in
set_option maxRecDepth 100000 in
theorem putref_ok (w : World) (u : Un) (A : Option Addr) (n c : Nat) (hs : Sl w A n c u.load) (hc : chk u = 0) : Calls Try.prog 29 #[uv u A n c] w fun e w' => PutPost w u e w' := by
  have hz := chk_zero hc
  obtain ⟨h1, h2, h3, h4, h5, h6, h7⟩ := hz
  have hn := hs.len
  have hroom := room_le u.kind
  have HM := Lib.hid (Mk.new 39 w u A n c hs)
  obtain ⟨r, hr⟩ : ∃ r, r = room u.kind := ⟨_, rfl⟩
  rw [← hr] at h7 hroom
  have HR := Lib.hid hr
  have K0 : Hid (u.kind = K (byteI u.kind 0)) := by unfold Hid; rw [K_byteI]; simp; omega
  have S1 : Hid ((n : Int) / 256 = K (byteI (n : Int) 1)) := by unfold Hid; rw [K_byteI]; simp; omega
  have S0 : Hid ((n : Int) = K (byteI (n : Int) 0)) := by unfold Hid; rw [K_byteI]; simp; omega
  have HC := Lib.hid hc
  have hnr : n ≤ r := by omega
  have HN := Lib.hid hn
  obtain ⟨l1, hl1⟩ : ∃ l, l = [] ++ [byteI u.kind 0] := ⟨_, rfl⟩
  obtain ⟨l2, hl2⟩ : ∃ l, l = l1 ++ be4 u.label := ⟨_, rfl⟩
  obtain ⟨l3, hl3⟩ : ∃ l, l = l2 ++ be4 u.number := ⟨_, rfl⟩
  obtain ⟨l4, hl4⟩ : ∃ l, l = l3 ++ [byteI (n : Int) 1, byteI (n : Int) 0] := ⟨_, rfl⟩
  obtain ⟨l5, hl5⟩ : ∃ l, l = l4 ++ u.load := ⟨_, rfl⟩
  obtain ⟨l6, hl6⟩ : ∃ l, l = l5 ++ List.replicate (r - n) (0 : UInt8) := ⟨_, rfl⟩
  have e1 : l1.length = 1 := by rw [hl1]; rfl
  have e2 : l2.length = 5 := by rw [hl2, List.length_append, e1]; rfl
  have e3 : l3.length = 9 := by rw [hl3, List.length_append, e2]; rfl
  have e4 : l4.length = 11 := by rw [hl4, List.length_append, e3]; rfl
  have e5 : l5.length = 11 + n := by rw [hl5, List.length_append, e4, hn]
  have e6 : l6.length = 11 + r := by rw [hl6, List.length_append, e5, List.length_replicate]; omega
  have hbody : l6 = body u := by unfold body; rw [hl6, hl5, hl4, hl3, hl2, hl1, hr, hn]; simp
  have HL1 := Lib.hid hl1; have HL2 := Lib.hid hl2; have HL3 := Lib.hid hl3; have HL4 := Lib.hid hl4; have HL5 := Lib.hid hl5; have HL6 := Lib.hid hl6
  have HE1 := Lib.hid e1; have HE2 := Lib.hid e2; have HE3 := Lib.hid e3; have HE4 := Lib.hid e4; have HE5 := Lib.hid e5; have HE6 := Lib.hid e6
  obtain ⟨J1, hJ1⟩ : ∃ j, j = J (sum l6) := ⟨_, rfl⟩
  have j0 : 0 ≤ J1 := hJ1 ▸ J_lo _
  have j1 : J1 < 4294967296 := hJ1 ▸ J_hi _
  have HJ := Lib.hid hJ1
  have HMK : Hid (mk u = l6 ++ be4 J1) := by unfold Hid mk; rw [hJ1, hbody]
  have most : Hid (r = if u.kind = 6 then 79 else 64) := hr
  clear hs hc hn hr hbody hJ1 hl1 hl2 hl3 hl4 hl5 hl6 e1 e2 e3 e4 e5 e6
  have hkk : ∃ kk, (u.kind == 6) = kk ∧ ((kk = true ∧ Hid ((79 : Int) = (r : Int)) ∧ (n : Int) ≤ 79) ∨ (kk = false ∧ Hid ((64 : Int) = (r : Int)) ∧ (n : Int) ≤ 64)) := by
    refine ⟨u.kind == 6, rfl, ?_⟩
    have hm := most.out
    split at hm
    · exact .inl ⟨beq_iff_eq.mpr (by assumption), by unfold Hid; omega, by omega⟩
    · exact .inr ⟨beq_eq_false_iff_ne.mpr (by assumption), by unfold Hid; omega, by omega⟩
  obtain ⟨kk, hkb, hk6⟩ := hkk
  clear most
  unfold uv
  have C0 := HM.out.kind
  rcases hk6 with ⟨rfl, hr9, hn9⟩ | ⟨rfl, hr9, hn9⟩
  · go_enter Try.func29, Try.ntmps29
    go_upto_region 11 with (first
      | (go_at_call 25; (with_reducible refine (rbyte_at _ _ [] _ (byteI u.kind 0) HM.out.wat K0.out (by simp)).mono ?_); rintro e w1 ⟨rfl, hw⟩; rw [← HL1.out] at hw; have M1 := Lib.hid (HM.out.wrote hw); have c1 := M1.out.label; clear hw)
      | (go_at_call 23; (with_reducible refine (rint _ _ l1 u.label M1.out.wat (by have := HE1.out; omega)).mono ?_); rintro e w2 ⟨rfl, hw⟩; rw [← HL2.out] at hw; have M2 := Lib.hid (M1.out.wrote hw); have c2 := M2.out.number; clear hw))
    go_cut [5] from 6 to 58 (fun r5 wx => r5 = .pointer (some ⟨w.heap.size + 1, 0, none⟩) ∧ Hid (Mk 39 w w.heap.size (w.heap.size + 1) u A n c wx l3))
    case first =>
      go_wp2_with (go_at_call 23; (with_reducible refine (rint _ _ l2 u.number M2.out.wat (by have := HE2.out; omega)).mono ?_); rintro e w3 ⟨rfl, hw⟩; rw [← HL3.out] at hw; have M3 := Lib.hid (M2.out.wrote hw); clear hw)
      go_meet
      exact ⟨rfl, M3⟩
    case rest =>
    obtain ⟨rfl, M3⟩ := hcut
    go_upto_region 12 with fail
    obtain ⟨A12, n12, c12, hp12, ho12⟩ := M3.out.wat
    have q12 := cell_of_one hp12
    have hpl12 := lt_of_block hp12
    have hn12 : n12 = 9 := by have := ho12.1; have := HE3.out; omega
    subst hn12
    have HP12 := Lib.hid hp12; have HO12 := Lib.hid ho12
    have c123 := M3.out.row
    have HW12 := Lib.hid (fun (W w1 : World) (hW : Upd (fun _ => False) wc W) (hg : W.grownBy w1 (blk A12)) => wat_kept (T := 39) (by decide) HP12.out HO12.out hW hg)
    clear hp12 ho12
    have B1 : IntKind.u8.wrap ((n : Int) / 256) = K (byteI (n : Int) 1) := by rw [← S1.out, IntKind.wrap_u8]; omega
    have B0 : IntKind.u8.wrap (Go.bits .and .i64 (n : Int) 255) = K (byteI (n : Int) 0) := by rw [I_and255 n (by omega), ← S0.out, IntKind.wrap_u8]; omega
    have HRD : Hid (Reads ((wc.alloc (.cells #[.int .u8 (IntKind.u8.wrap ((n : Int) / 256)), .int .u8 (IntKind.u8.wrap (Go.bits .and .i64 (n : Int) 255))] 5)).drew) (some ⟨wc.heap.size, 0, none⟩) 2 [byteI (n : Int) 1, byteI (n : Int) 0]) := by
      unfold Hid; rw [B1, B0]; exact Reads.two _ _ _ 5
    clear B1 B0
    go_cut [5] from 59 to 77 (fun r5 wx => r5 = .pointer (some ⟨w.heap.size + 1, 0, none⟩) ∧ Hid (Mk 39 w w.heap.size (w.heap.size + 1) u A n c wx l4))
    case first =>
      go_region_law ((refine step_app rfl (.tmp 63) (.tmp 74) 22 rfl Try.underlying22 info5 rfl rfl ((HO12.out.alloc _).drew) HRD.out (fun h => by cases h) (by omega) (Nat.zero_le _) ?_; (intro A' c' w1' own gr hat); (obtain ⟨hc1, hf1⟩ := HW12.out _ _ (((Upd.refl _ _).alloc _).drew) gr); (have WR := Lib.hid (WAt.wrote (T := 39) (by decide) HP12.out HO12.out (((Upd.refl _ _).alloc _).drew) gr own hat)); (clear own gr hat)))
      all_goals (go_wp2_with fail; go_meet; exact ⟨rfl, by rw [HL4.out]; exact M3.out.wrote WR.out⟩)
    case rest =>
    obtain ⟨rfl, M4⟩ := hcut
    clear q12 c123 hpl12 HW12
    go_upto_region 13 with fail
    have HLD := Lib.hid (M4.out.load.below ((Below.refl wc.heap.size wc).trans ⟨rfl, rfl, rfl, Nat.le_refl _, fun _ _ => rfl⟩ : Below wc.heap.size wc wc.drew))
    obtain ⟨A13, n13, c13, hp13, ho13⟩ := M4.out.wat
    have q13 := cell_of_one hp13
    have hpl13 := lt_of_block hp13
    have hn13 : n13 = 11 := by have := ho13.1; have := HE4.out; omega
    subst hn13
    have HP13 := Lib.hid hp13; have HO13 := Lib.hid ho13
    have c133 := M4.out.row
    have HW13 := Lib.hid (fun (W w1 : World) (hW : Upd (fun _ => False) wc W) (hg : W.grownBy w1 (blk A13)) => wat_kept (T := 39) (by decide) HP13.out HO13.out hW hg)
    clear hp13 ho13
    go_cut [5] from 78 to 87 (fun r5 wx => r5 = .pointer (some ⟨w.heap.size + 1, 0, none⟩) ∧ Hid (Mk 39 w w.heap.size (w.heap.size + 1) u A n c wx l5))
    case first =>
      go_region_law ((refine step_app rfl (.tmp 82) (.tmp 84) 22 rfl Try.underlying22 info5 rfl rfl (HO13.out.drew) (HLD.out.1) HLD.out.2.2 (by omega) (Nat.zero_le _) ?_; (intro A' c' w1' own gr hat); (obtain ⟨hc1, hf1⟩ := HW13.out _ _ ((Upd.refl _ _).drew) gr); (have WR := Lib.hid (WAt.wrote (T := 39) (by decide) HP13.out HO13.out ((Upd.refl _ _).drew) gr own hat)); (clear own gr hat)))
      all_goals (go_wp2_with fail; go_meet; exact ⟨rfl, by rw [HL5.out]; exact M4.out.wrote WR.out⟩)
    case rest =>
    obtain ⟨rfl, M5⟩ := hcut
    clear q13 c133 hpl13 HW13
    go_upto_region 14 with fail
    have hy : Hid (IntKind.i64.wrap ((79 : Int) - (n : Int)) = ((r - n : Nat) : Int)) := by unfold Hid; have := hr9.out; rw [IntKind.wrap_i64]; omega
    obtain ⟨A14, n14, c14, hp14, ho14⟩ := M5.out.wat
    have q14 := cell_of_one hp14
    have hpl14 := lt_of_block hp14
    have hn14 : n14 = 11 + n := by have := ho14.1; have := HE5.out; omega
    subst hn14
    have HP14 := Lib.hid hp14; have HO14 := Lib.hid ho14
    have c143 := M5.out.row
    have HW14 := Lib.hid (fun (W w1 : World) (hW : Upd (fun _ => False) wc W) (hg : W.grownBy w1 (blk A14)) => wat_kept (T := 39) (by decide) HP14.out HO14.out hW hg)
    clear hp14 ho14
    go_cut [5] from 88 to 100 (fun r5 wx => r5 = .pointer (some ⟨w.heap.size + 1, 0, none⟩) ∧ Hid (Mk 39 w w.heap.size (w.heap.size + 1) u A n c wx l6))
    case first =>
      go_region_law ((refine step_zeros rfl (.tmp 92) (.tmp 97) 22 3 rfl Try.underlying22 Try.underlying3 info5 rfl rfl hy.out (HO14.out.drew) (by omega) (Nat.zero_le _) ?_; (intro A' c' w1' own gr hat); (obtain ⟨hc1, hf1⟩ := HW14.out _ _ ((Upd.refl _ _).drew) gr); (have WR := Lib.hid (WAt.wrote (T := 39) (by decide) HP14.out HO14.out ((Upd.refl _ _).drew) gr own hat)); (clear own gr hat)))
      all_goals (go_wp2_with fail; go_meet; exact ⟨rfl, by rw [HL6.out]; exact M5.out.wrote WR.out⟩)
    case rest =>
    obtain ⟨rfl, M6⟩ := hcut
    clear q14 c143 hpl14 HW14
    obtain ⟨A6, n6, c6, hp6, ho6⟩ := M6.out.wat
    have q6 := cell_of_one hp6
    have hn6 : n6 = 11 + r := by have := ho6.1; have := HE6.out; omega
    subst hn6
    have HO6 := Lib.hid ho6
    clear hp6 ho6
    go_wp2_with (first
      | (go_at_call 52; (with_reducible refine (crc_at _ _ _ l6 _ J1 HJ.out HO6.out.reads (by omega)).mono ?_); rintro e w7 ⟨rfl, rfl⟩)
      | (go_at_call 23; (with_reducible refine (rint _ _ l6 J1 M6.out.wat (by have := HE6.out; omega)).mono ?_); rintro e w8 ⟨rfl, hw⟩; have M8 := Lib.hid (M6.out.wrote hw); obtain ⟨A8, n8, c8, hp8, ho8⟩ := hw.1; have q8 := cell_of_one hp8; have O8 := Lib.hid (own_raise ho8 (fun b hb => (M8.out.foot b (.inr ⟨_, _, _, _, hp8, hb⟩)).2)); clear hp8 ho8 hw))
    go_ret2
    exact put_mk HC.out HMK.out.symm O8.out M8.out.below
  · go_enter Try.func29, Try.ntmps29
    go_upto_region 11 with (first
      | (go_at_call 25; (with_reducible refine (rbyte_at _ _ [] _ (byteI u.kind 0) HM.out.wat K0.out (by simp)).mono ?_); rintro e w1 ⟨rfl, hw⟩; rw [← HL1.out] at hw; have M1 := Lib.hid (HM.out.wrote hw); have c1 := M1.out.label; clear hw)
      | (go_at_call 23; (with_reducible refine (rint _ _ l1 u.label M1.out.wat (by have := HE1.out; omega)).mono ?_); rintro e w2 ⟨rfl, hw⟩; rw [← HL2.out] at hw; have M2 := Lib.hid (M1.out.wrote hw); have c2 := M2.out.number; clear hw))
    go_cut [5] from 6 to 58 (fun r5 wx => r5 = .pointer (some ⟨w.heap.size + 1, 0, none⟩) ∧ Hid (Mk 39 w w.heap.size (w.heap.size + 1) u A n c wx l3))
    case first =>
      go_wp2_with (go_at_call 23; (with_reducible refine (rint _ _ l2 u.number M2.out.wat (by have := HE2.out; omega)).mono ?_); rintro e w3 ⟨rfl, hw⟩; rw [← HL3.out] at hw; have M3 := Lib.hid (M2.out.wrote hw); clear hw)
      go_meet
      exact ⟨rfl, M3⟩
    case rest =>
    obtain ⟨rfl, M3⟩ := hcut
    go_upto_region 12 with fail
    obtain ⟨A12, n12, c12, hp12, ho12⟩ := M3.out.wat
    have q12 := cell_of_one hp12
    have hpl12 := lt_of_block hp12
    have hn12 : n12 = 9 := by have := ho12.1; have := HE3.out; omega
    subst hn12
    have HP12 := Lib.hid hp12; have HO12 := Lib.hid ho12
    have c123 := M3.out.row
    have HW12 := Lib.hid (fun (W w1 : World) (hW : Upd (fun _ => False) wc W) (hg : W.grownBy w1 (blk A12)) => wat_kept (T := 39) (by decide) HP12.out HO12.out hW hg)
    clear hp12 ho12
    have B1 : IntKind.u8.wrap ((n : Int) / 256) = K (byteI (n : Int) 1) := by rw [← S1.out, IntKind.wrap_u8]; omega
    have B0 : IntKind.u8.wrap (Go.bits .and .i64 (n : Int) 255) = K (byteI (n : Int) 0) := by rw [I_and255 n (by omega), ← S0.out, IntKind.wrap_u8]; omega
    have HRD : Hid (Reads ((wc.alloc (.cells #[.int .u8 (IntKind.u8.wrap ((n : Int) / 256)), .int .u8 (IntKind.u8.wrap (Go.bits .and .i64 (n : Int) 255))] 5)).drew) (some ⟨wc.heap.size, 0, none⟩) 2 [byteI (n : Int) 1, byteI (n : Int) 0]) := by
      unfold Hid; rw [B1, B0]; exact Reads.two _ _ _ 5
    clear B1 B0
    go_cut [5] from 59 to 77 (fun r5 wx => r5 = .pointer (some ⟨w.heap.size + 1, 0, none⟩) ∧ Hid (Mk 39 w w.heap.size (w.heap.size + 1) u A n c wx l4))
    case first =>
      go_region_law ((refine step_app rfl (.tmp 63) (.tmp 74) 22 rfl Try.underlying22 info5 rfl rfl ((HO12.out.alloc _).drew) HRD.out (fun h => by cases h) (by omega) (Nat.zero_le _) ?_; (intro A' c' w1' own gr hat); (obtain ⟨hc1, hf1⟩ := HW12.out _ _ (((Upd.refl _ _).alloc _).drew) gr); (have WR := Lib.hid (WAt.wrote (T := 39) (by decide) HP12.out HO12.out (((Upd.refl _ _).alloc _).drew) gr own hat)); (clear own gr hat)))
      all_goals (go_wp2_with fail; go_meet; exact ⟨rfl, by rw [HL4.out]; exact M3.out.wrote WR.out⟩)
    case rest =>
    obtain ⟨rfl, M4⟩ := hcut
    clear q12 c123 hpl12 HW12
    go_upto_region 13 with fail
    have HLD := Lib.hid (M4.out.load.below ((Below.refl wc.heap.size wc).trans ⟨rfl, rfl, rfl, Nat.le_refl _, fun _ _ => rfl⟩ : Below wc.heap.size wc wc.drew))
    obtain ⟨A13, n13, c13, hp13, ho13⟩ := M4.out.wat
    have q13 := cell_of_one hp13
    have hpl13 := lt_of_block hp13
    have hn13 : n13 = 11 := by have := ho13.1; have := HE4.out; omega
    subst hn13
    have HP13 := Lib.hid hp13; have HO13 := Lib.hid ho13
    have c133 := M4.out.row
    have HW13 := Lib.hid (fun (W w1 : World) (hW : Upd (fun _ => False) wc W) (hg : W.grownBy w1 (blk A13)) => wat_kept (T := 39) (by decide) HP13.out HO13.out hW hg)
    clear hp13 ho13
    go_cut [5] from 78 to 87 (fun r5 wx => r5 = .pointer (some ⟨w.heap.size + 1, 0, none⟩) ∧ Hid (Mk 39 w w.heap.size (w.heap.size + 1) u A n c wx l5))
    case first =>
      go_region_law ((refine step_app rfl (.tmp 82) (.tmp 84) 22 rfl Try.underlying22 info5 rfl rfl (HO13.out.drew) (HLD.out.1) HLD.out.2.2 (by omega) (Nat.zero_le _) ?_; (intro A' c' w1' own gr hat); (obtain ⟨hc1, hf1⟩ := HW13.out _ _ ((Upd.refl _ _).drew) gr); (have WR := Lib.hid (WAt.wrote (T := 39) (by decide) HP13.out HO13.out ((Upd.refl _ _).drew) gr own hat)); (clear own gr hat)))
      all_goals (go_wp2_with fail; go_meet; exact ⟨rfl, by rw [HL5.out]; exact M4.out.wrote WR.out⟩)
    case rest =>
    obtain ⟨rfl, M5⟩ := hcut
    clear q13 c133 hpl13 HW13
    go_upto_region 14 with fail
    have hy : Hid (IntKind.i64.wrap ((64 : Int) - (n : Int)) = ((r - n : Nat) : Int)) := by unfold Hid; have := hr9.out; rw [IntKind.wrap_i64]; omega
    obtain ⟨A14, n14, c14, hp14, ho14⟩ := M5.out.wat
    have q14 := cell_of_one hp14
    have hpl14 := lt_of_block hp14
    have hn14 : n14 = 11 + n := by have := ho14.1; have := HE5.out; omega
    subst hn14
    have HP14 := Lib.hid hp14; have HO14 := Lib.hid ho14
    have c143 := M5.out.row
    have HW14 := Lib.hid (fun (W w1 : World) (hW : Upd (fun _ => False) wc W) (hg : W.grownBy w1 (blk A14)) => wat_kept (T := 39) (by decide) HP14.out HO14.out hW hg)
    clear hp14 ho14
    go_cut [5] from 88 to 100 (fun r5 wx => r5 = .pointer (some ⟨w.heap.size + 1, 0, none⟩) ∧ Hid (Mk 39 w w.heap.size (w.heap.size + 1) u A n c wx l6))
    case first =>
      go_region_law ((refine step_zeros rfl (.tmp 92) (.tmp 97) 22 3 rfl Try.underlying22 Try.underlying3 info5 rfl rfl hy.out (HO14.out.drew) (by omega) (Nat.zero_le _) ?_; (intro A' c' w1' own gr hat); (obtain ⟨hc1, hf1⟩ := HW14.out _ _ ((Upd.refl _ _).drew) gr); (have WR := Lib.hid (WAt.wrote (T := 39) (by decide) HP14.out HO14.out ((Upd.refl _ _).drew) gr own hat)); (clear own gr hat)))
      all_goals (go_wp2_with fail; go_meet; exact ⟨rfl, by rw [HL6.out]; exact M5.out.wrote WR.out⟩)
    case rest =>
    obtain ⟨rfl, M6⟩ := hcut
    clear q14 c143 hpl14 HW14
    obtain ⟨A6, n6, c6, hp6, ho6⟩ := M6.out.wat
    have q6 := cell_of_one hp6
    have hn6 : n6 = 11 + r := by have := ho6.1; have := HE6.out; omega
    subst hn6
    have HO6 := Lib.hid ho6
    clear hp6 ho6
    go_wp2_with (first
      | (go_at_call 52; (with_reducible refine (crc_at _ _ _ l6 _ J1 HJ.out HO6.out.reads (by omega)).mono ?_); rintro e w7 ⟨rfl, rfl⟩)
      | (go_at_call 23; (with_reducible refine (rint _ _ l6 J1 M6.out.wat (by have := HE6.out; omega)).mono ?_); rintro e w8 ⟨rfl, hw⟩; have M8 := Lib.hid (M6.out.wrote hw); obtain ⟨A8, n8, c8, hp8, ho8⟩ := hw.1; have q8 := cell_of_one hp8; have O8 := Lib.hid (own_raise ho8 (fun b hb => (M8.out.foot b (.inr ⟨_, _, _, _, hp8, hb⟩)).2)); clear hp8 ho8 hw))
    go_ret2
    exact put_mk HC.out HMK.out.symm O8.out M8.out.below
end Go.Proofs.Ytpgceeeokjadpaa.Code
