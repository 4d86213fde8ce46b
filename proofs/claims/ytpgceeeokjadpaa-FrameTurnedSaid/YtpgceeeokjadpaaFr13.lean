/- FrameTurned's walk. Conditions: the load lies where the slice says. -/
import Derived.Test.YtpgceeeokjadpaaFr12
import Derived.BigRegion
namespace Go.Proofs.Ytpgceeeokjadpaa.Code
open Go.RowKit Go.Joins Go.Proofs.Ytpgceeeokjadpaa.Crc Go.Proofs.Ytpgceeeokjadpaa.Mem
/-- What is no block is answered by 2. -/
theorem get_two (w : World) (A : Option Addr) (n c : Nat) (l : List UInt8) (h : Sl w A n c l) (hn : n ≤ 140737488351232) (hg : getE l = 2) :
    Calls Try.prog 30 #[.slice A n c] w fun e w' => ∃ U A' n' c', e = .returned (.tuple #[uv U A' n' c', .int .i64 2]) ∧ Below w.heap.size w w' :=
  (get_any w A n c l h hn).mono (by rintro e w' ⟨A', n', c', rfl, _, hb⟩; rw [hg]; exact ⟨_, _, _, _, rfl, hb⟩)
set_option maxHeartbeats 8000000 in
set_option maxRecDepth 100000 in
theorem turned_some (w : World) (u : Un) (A : Option Addr) (n c : Nat) (h : Sl w A n c u.load) (hchk : chk u = 0) (m : Nat) (hm : m ≤ 9223372036854775807) (bit : Int) (k : Nat) (hk : k < 8) (hbit : Go.bits .and .i64 bit 7 = (k : Int)) (q : Nat) (hq : q ≤ 9223372036854775807) :
    Calls Try.prog 7 #[uv u A n c, .int .i64 (m : Int), .int .i64 bit, .int .i64 (q : Int)] w fun e w' => e = .returned (.bool true) ∧ Below w.heap.size w w' := by
  have hb := unew_below u A n c (Below.refl w.heap.size w)
  have HB := Lib.hid hb
  have HS := Lib.hid h
  have HU : Hid (Ub (unew w u A n c) w.heap.size u A n c) := unew_at w u A n c
  have hroom := room_le u.kind
  have hlen := mk_len (chk_zero hchk).2.2.2.2.2.2
  obtain ⟨nn, hnn⟩ : ∃ k, k = 15 + room u.kind := ⟨_, rfl⟩
  have h15 : 15 ≤ nn := by omega
  have h94 : nn ≤ 94 := by omega
  rw [← hnn] at hlen
  have HLEN := Lib.hid hlen
  have hi : m % nn < nn := Nat.mod_lt _ (by omega)
  have hi2 : q % nn < nn := Nat.mod_lt _ (by omega)
  have hl : m % nn < (mk u).length := by rw [hlen]; exact hi
  obtain ⟨y, hy⟩ : ∃ y, y = (mk u)[m % nn] := ⟨_, rfl⟩
  have HG1 : Hid (getE ((mk u).set (m % nn) (y ^^^ bitOf k)) = 2) := getE_bad (turned hchk _ hl _ (by rw [← hy]; exact bit_ne k hk y))
  have HG2 : Hid (getE ((mk u).take (q % nn)) = 2) := getE_bad (shorter hchk _ (by rw [hlen]; exact hi2))
  have HG3 : Hid (getE (mk u ++ [0]) = 2) := getE_bad (longer hchk 0)
  have HPB : Hid (putB u = mk u) := putB_ok hchk
  have HC := Lib.hid hchk
  have HY := Lib.hid hy
  have HX := Lib.hid (xor_bit k hk y)
  have HL := Lib.hid hl
  clear h hb hroom hlen hnn hy hchk
  unfold uv
  go_enter Try.func7, Try.ntmps7
  go_upto_region 2 with (first
    | (go_at_call 27; (with_reducible refine (alive9_any _).mono ?_); rintro e w1 ⟨rfl, hb⟩; have HB1 := Lib.hid (below_then HB.out hb HB.out.size); have HU1 := Lib.hid (HU.out.below hb); obtain ⟨a0, a1, a2, a3⟩ := HU1.out.cells; have S1 := Lib.hid (HS.out.below (below_then HB.out hb HB.out.size)); clear hb))
  go_upto_region 5 with (first
    | (go_at_call 29; (with_reducible refine (putref_any _ u _ _ _ S1.out).mono ?_); rintro e w3 ⟨A5, m5, c5, rfl, hown, hb⟩; rw [HC.out]; rw [HPB.out] at hown; have HB3 := Lib.hid (below_then HB1.out hb HB1.out.size); have hm5 := hown.len; rw [HLEN.out] at hm5; have HOWN := Lib.hid hown; clear hown hb))
  subst hm5
  clear HB HS HU HU1 S1 a0 a1 a2 a3
  obtain ⟨g5, rfl, O5⟩ : ∃ g5, A5 = some ⟨g5, 0, none⟩ ∧ Hid (Sl w3 (some ⟨g5, 0, none⟩) nn c5 (mk u)) := by
    rcases HOWN.out.shape with ⟨_, h0, _⟩ | ⟨g5, _, h1, _⟩
    · omega
    · exact ⟨g5, h1, h1 ▸ HOWN.out.sl⟩
  have hcap5 := O5.out.2.1
  clear HOWN
  go_upto_region 6 with (first
    | (at_builtin; refine app_law rfl (.const (.slice none 0 0)) (.tmp 40) 22 rfl Try.underlying22 info5 rfl rfl (Own.nil _ w3.heap.size) (sl_reads O5.out) (fun h => by cases h) (by omega) (Nat.le_refl _) ?_; intro A7 c7 w4 own gr _; simp only [Nat.zero_add, List.nil_append] at own ⊢; have hb := (Below.refl w3.heap.size w3).grown gr (Nat.le_refl _) (by simp [blk]); have HB4 := Lib.hid (below_then HB3.out hb HB3.out.size); have O54 := Lib.hid (O5.out.below hb); have HB34 := Lib.hid hb; obtain ⟨g, rfl, hg1, hg2, hcell, hfro, hset⟩ := own.at (m % nn) HL.out; rw [← HY.out] at hcell; have HSET := Lib.hid hset; clear own gr hb hset))
  go_region
  rw [HX.out]
  have own4 := HSET.out (y ^^^ bitOf k)
  have hb4 : Below w3.heap.size w3 (w4.setCell ⟨g, m % nn, none⟩ (.int .u8 (K (y ^^^ bitOf k)))).drew := (HB34.out.setCell hg1 _).drew
  have own5 : Own (w4.setCell ⟨g, m % nn, none⟩ (.int .u8 (K (y ^^^ bitOf k)))).drew w3.heap.size (some ⟨g, 0, none⟩) nn c7 ((mk u).set (m % nn) (y ^^^ bitOf k)) := own4.move (fun _ _ _ => rfl)
  generalize (w4.setCell ⟨g, m % nn, none⟩ (.int .u8 (K (y ^^^ bitOf k)))).drew = w5 at hb4 own5 ⊢
  have O55 := Lib.hid (O5.out.below hb4)
  have OC := Lib.hid own5.sl
  have HB5 := Lib.hid (below_then HB3.out hb4 HB3.out.size)
  clear own4 own5 hb4 hcell hfro hg1 hg2 HB34 O54 HB4 HB3 O5 HSET HX HY
  go_wp2_with (first
    | (go_at_call 30; (with_reducible refine (get_two _ _ _ _ _ OC.out (by omega) HG1.out).mono ?_); rintro e w6 ⟨U8, A8, n8, c8, rfl, hb⟩; have hb' := unew_below U8 A8 n8 c8 hb; have HB6 := Lib.hid (below_then HB5.out hb' HB5.out.size); have O56 := Lib.hid (O55.out.below hb'); clear hb hb')
    | (go_at_call 30; (with_reducible refine (get_two _ _ _ _ _ (O56.out.take (q % nn) (Nat.le_of_lt hi2)) (by omega) HG2.out).mono ?_); rintro e w7 ⟨U9, A9, n9, c9, rfl, hb⟩; have hb' := unew_below U9 A9 n9 c9 hb; have HB7 := Lib.hid (below_then HB6.out hb' HB6.out.size); have O57 := Lib.hid (O56.out.below hb'); clear hb hb')
    | (at_builtin; refine app_law rfl (.const (.slice none 0 0)) (.tmp 76) 22 rfl Try.underlying22 info5 rfl rfl (Own.nil _ _) (sl_reads O57.out) (fun h => by cases h) (by omega) (Nat.le_refl _) ?_; intro A7 c7 w8 own gr _; simp only [Nat.zero_add, List.nil_append] at own ⊢; have hb := Below.grown (Below.refl _ _) gr (Nat.le_refl _) (by simp [blk]); have HB8 := Lib.hid (below_then HB7.out hb HB7.out.size); have OWN8 := Lib.hid (own.lower HB7.out.size); clear own gr hb)
    | (at_builtin; refine app_law rfl (.tmp 77) (.tmp 78) 22 rfl Try.underlying22 info5 rfl rfl (OWN8.out.alloc _) (Reads.one _ 0 _) (fun h => by cases h) (by omega) ?_ ?_; (have hs8 := HB8.out.size); (simp only [World.size_alloc]); omega; intro A10 c10 w9 own gr _; have HB9 := Lib.hid ((HB8.out.alloc HB8.out.size _).grown gr (HB8.out.alloc HB8.out.size _).size (fun k hk => (OWN8.out.blk_ge k hk).1)); have OC9 := Lib.hid own.sl; clear own gr)
    | (go_at_call 30; (with_reducible refine (get_two _ _ _ _ _ OC9.out (by omega) HG3.out).mono ?_); rintro e w10 ⟨U11, A11, n11, c11, rfl, hb⟩; have hb' := unew_below U11 A11 n11 c11 hb; have HB10 := Lib.hid (below_then HB9.out hb' HB9.out.size); clear hb hb')
    | (go_at_call 32; (with_reducible refine (num_any _ _).mono ?_); rintro e wx ⟨rfl, rfl⟩))
  go_ret
  exact ⟨rfl, HB10.out⟩
set_option maxHeartbeats 8000000 in
theorem turned_any (w : World) (u : Un) (A : Option Addr) (n c : Nat) (m : Int) (hm : (Lit.int .i64 m).wf = true) (bit : Int) (_hb : (Lit.int .i64 bit).wf = true) (q : Int) (hq : (Lit.int .i64 q).wf = true) (h : Sl w A n c u.load) :
    Calls Try.prog 7 #[uv u A n c, .int .i64 m, .int .i64 bit, .int .i64 q] w fun e w' => e = .returned (.bool true) ∧ Below w.heap.size w w' := by
  by_cases h0 : chk u = 0 ∧ 0 ≤ m ∧ 0 ≤ q
  · obtain ⟨h1, h2, h3⟩ := h0
    obtain ⟨k, hk, hbit⟩ := and7 bit
    obtain ⟨m, rfl⟩ := Int.eq_ofNat_of_zero_le h2
    obtain ⟨q, rfl⟩ := Int.eq_ofNat_of_zero_le h3
    refine turned_some w u A n c h h1 m ?_ bit k hk hbit q ?_
    · simp [Lit.wf, IntKind.min, IntKind.max, IntKind.bits, IntKind.signed] at hm
      omega
    · simp [Lit.wf, IntKind.min, IntKind.max, IntKind.bits, IntKind.signed] at hq
      omega
  · have hb := unew_below u A n c (Below.refl w.heap.size w)
    have HB := Lib.hid hb
    have HS := Lib.hid h
    have HU : Hid (Ub (unew w u A n c) w.heap.size u A n c) := unew_at w u A n c
    obtain ⟨x, hx⟩ : ∃ x, x = chk u := ⟨_, rfl⟩
    rw [← hx] at h0
    have HX := Lib.hid hx
    have h' : x ≠ 0 ∨ (x = 0 ∧ m < 0) ∨ (x = 0 ∧ 0 ≤ m ∧ q < 0) := by omega
    clear h hb hx h0 hm _hb hq
    unfold uv
    rcases h' with h1 | ⟨rfl, h1⟩ | ⟨rfl, h1, h2⟩
    · have t0 : (x != 0) = true := bne_iff_ne.mpr h1
      clear h1
      go_enter Try.func7, Try.ntmps7
      go_wp2_with (first
        | (go_at_call 27; (with_reducible refine (alive9_any _).mono ?_); rintro e w1 ⟨rfl, hb⟩; have HB1 := Lib.hid (below_then HB.out hb HB.out.size); obtain ⟨a0, a1, a2, a3⟩ := (HU.out.below hb).cells; have S1 := Lib.hid (HS.out.below (below_then HB.out hb HB.out.size)); clear hb)
        | (go_at_call 29; (with_reducible refine (putref_any _ u _ _ _ S1.out).mono ?_); rintro e w3 ⟨A5, m5, c5, rfl, hown, hb⟩; rw [← HX.out]; have HB3 := Lib.hid (below_then HB1.out hb HB1.out.size); clear hown hb))
      go_ret
      exact ⟨rfl, HB3.out⟩
    · have t0 : ((0 : Int) != 0) = false := rfl
      go_enter Try.func7, Try.ntmps7
      go_wp2_with (first
        | (go_at_call 27; (with_reducible refine (alive9_any _).mono ?_); rintro e w1 ⟨rfl, hb⟩; have HB1 := Lib.hid (below_then HB.out hb HB.out.size); obtain ⟨a0, a1, a2, a3⟩ := (HU.out.below hb).cells; have S1 := Lib.hid (HS.out.below (below_then HB.out hb HB.out.size)); clear hb)
        | (go_at_call 29; (with_reducible refine (putref_any _ u _ _ _ S1.out).mono ?_); rintro e w3 ⟨A5, m5, c5, rfl, hown, hb⟩; rw [← HX.out]; have HB3 := Lib.hid (below_then HB1.out hb HB1.out.size); clear hown hb))
      go_ret
      exact ⟨rfl, HB3.out⟩
    · have t0 : ((0 : Int) != 0) = false := rfl
      go_enter Try.func7, Try.ntmps7
      go_wp2_with (first
        | (go_at_call 27; (with_reducible refine (alive9_any _).mono ?_); rintro e w1 ⟨rfl, hb⟩; have HB1 := Lib.hid (below_then HB.out hb HB.out.size); obtain ⟨a0, a1, a2, a3⟩ := (HU.out.below hb).cells; have S1 := Lib.hid (HS.out.below (below_then HB.out hb HB.out.size)); clear hb)
        | (go_at_call 29; (with_reducible refine (putref_any _ u _ _ _ S1.out).mono ?_); rintro e w3 ⟨A5, m5, c5, rfl, hown, hb⟩; rw [← HX.out]; have HB3 := Lib.hid (below_then HB1.out hb HB1.out.size); clear hown hb))
      go_ret
      exact ⟨rfl, HB3.out⟩
end Go.Proofs.Ytpgceeeokjadpaa.Code
