/- FaultDeep: an error that was made deep gives its code and its spot, and is the same as the fresh one. Conditions: none. -/
import Derived.Test.YtppablpbpimloaaDoorIsl
import Derived.Test.YtppablpbpimloaaDoorRw
namespace Go.Proofs.YtppablpbpimloaaDoor.Code
open Go Go.RowKit Go.Joins Go.Extern.Stop Go.Stop Go.Extern Go.Proofs.YtppablpbpimloaaDoor.Rl Go.Proofs.YtppablpbpimloaaDoor.Mem
set_option maxHeartbeats 8000000 in
theorem deep_out (w : World) (a l b n : Int) (hg : Ety w) (h : a = 0 ∨ n < 0 ∨ 100 < n) :
    Calls Tryd.prog 6 #[.int .i64 a, .int .i64 l, .int .i64 b, .int .i64 n] w (Gives w (.bool true)) := by
  have HG := Lib.hid hg
  have h4 : a = 0 ∨ (a ≠ 0 ∧ n < 0) ∨ (a ≠ 0 ∧ ¬ n < 0 ∧ 100 < n) := by omega
  clear hg h
  rcases h4 with rfl | ⟨h1, h2⟩ | ⟨h1, h2, h3⟩
  · go_enter Tryd.func6, Tryd.ntmps6
    go_wp2_with (go_at_call 7; (with_reducible refine (alive_any _ HG.out).mono ?_); rintro r w' ⟨rfl, hb⟩; have HB := Lib.hid hb; clear hb)
    go_ret
    exact ⟨rfl, HB.out⟩
  · have h4 : (a == 0) = false := beq_eq_false_iff_ne.mpr h1
    go_enter Tryd.func6, Tryd.ntmps6
    go_wp2_with (go_at_call 7; (with_reducible refine (alive_any _ HG.out).mono ?_); rintro r w' ⟨rfl, hb⟩; have HB := Lib.hid hb; clear hb)
    go_ret
    exact ⟨rfl, HB.out⟩
  · have h4 : (a == 0) = false := beq_eq_false_iff_ne.mpr h1
    go_enter Tryd.func6, Tryd.ntmps6
    go_wp2_with (go_at_call 7; (with_reducible refine (alive_any _ HG.out).mono ?_); rintro r w' ⟨rfl, hb⟩; have HB := Lib.hid hb; clear hb)
    go_ret
    exact ⟨rfl, HB.out⟩
theorem nw_apart2 {w w1 w2 w3 : World} (h : w1.heap.size ≤ w2.heap.size) : ∀ k, Nw w w1 k → ¬ Nw w2 w3 k := fun _ h1 h2 => absurd (Nat.lt_of_lt_of_le h1.2 (Nat.le_trans h h2.1)) (Nat.lt_irrefl _)
theorem hid_agr_yes (c l b : Int) : Hid (Agr true c l b c l b) := ⟨fun _ => ⟨rfl, rfl, rfl⟩, fun _ => rfl⟩
theorem hid_agr_blk (c l b : Int) : Hid (Agr false c l b c l (Go.bits .xor .i64 b 1)) := ⟨fun h => (by cases h), fun h => absurd h.2.2 (fun e => xor1_ne b (by first | exact e | exact e.symm))⟩
theorem hid_agr_code (c l b : Int) : Hid (Agr false c l b (Go.bits .xor .i64 c 1) l b) := ⟨fun h => (by cases h), fun h => absurd h.1 (fun e => xor1_ne c (by first | exact e | exact e.symm))⟩
set_option maxHeartbeats 8000000 in
theorem deep_in (w : World) (a l b : Int) (hw : (Lit.int .i64 a).wf = true) (n : Nat) (hg : Ety w) (ha : a ≠ 0) (hn : n ≤ 100) :
    Calls Tryd.prog 6 #[.int .i64 a, .int .i64 l, .int .i64 b, .int .i64 (n : Int)] w (Gives w (.bool true)) := by
  have HG := Lib.hid hg
  have HA := Lib.hid ha
  have HAX : Hid (a ≠ 1 → Go.bits .xor .i64 a 1 ≠ 0) := fun h e => h (xor1_zero a hw e)
  have h4 : (a == 0) = false := beq_eq_false_iff_ne.mpr ha
  have h5 : ¬ ((n : Int) < 0) := by omega
  have h6 : ¬ (100 : Int) < (n : Int) := by omega
  clear hg ha hw
  go_enter Tryd.func6, Tryd.ntmps6
  go_wp2_with (go_at_call 7; (with_reducible refine (alive_any _ HG.out).mono ?_); rintro r w1 ⟨rfl, hb⟩; have HG1 := Lib.hid (HG.out.below hb); have HB1 := Lib.hid hb; clear hb)
  go_loopw [10, 11] (fun v i wr => ∃ m A c, m ≤ n ∧ v = .slice A m c ∧ i = .int .i64 (m : Int) ∧ SR wr w1.heap.size A m c ∧ Below w1.heap.size w1 wr) (fun _ i _ => n - (intOf i).toNat)
  case atStart => exact ⟨0, none, 0, Nat.zero_le _, rfl, rfl, SR.nil _ _, Below.refl _ _⟩
  case round =>
    obtain ⟨m, A, c, hm, rfl, rfl, hsr, hbl⟩ := hrel
    have HSR := Lib.hid hsr
    have HBL := Lib.hid hbl
    clear hsr hbl
    by_cases hmn : m < n
    · have hmn' : (m : Int) < (n : Int) := by omega
      go_wp2_with (at_builtin; refine app_sr rfl (.tmp 37) (.tmp 38) rfl rfl rfl (HSR.out.alloc _) (HBL.out.alloc HBL.out.size _).size (heap_alloc_new wr _) (by omega) ?_; intro A1 c1 w2 hsr hb; have HSR2 := Lib.hid hsr; have HBL2 := Lib.hid ((HBL.out.alloc HBL.out.size _).trans hb); clear hsr hb)
      go_roundw
      case rel => exact ⟨m + 1, A1, c1, by omega, rfl, by go_num, HSR2.out, HBL2.out⟩
      case measure => simp [intOf]; omega
    · obtain rfl : m = n := by omega
      have hmn' : ¬ ((m : Int) < (m : Int)) := by omega
      have hbl2 := HBL.out.alloc HBL.out.size (.cells #[.int .i64 l, .int .i64 b] 25)
      have HX := Lib.hid ((HSR.out.alloc (.cells #[.int .i64 l, .int .i64 b] 25)).strs)
      have HB2 := Lib.hid (HB1.out.trans (hbl2.mono HB1.out.size))
      have HG2 := Lib.hid (HG1.out.below hbl2)
      have K1 := Lib.hid (heap_alloc_new wr (.cells #[.int .i64 l, .int .i64 b] 25))
      have k0 := cell_of_block K1.out 0
      have k1 := cell_of_block K1.out 1
      have HN : Hid (m ≤ 1000) := by unfold Hid; omega
      clear hbl2 HSR HBL HG1 HB1 HG hn hm
      rcases Decidable.em (a = 1) with hq0 | hq0
      · have hq : (a == 1) = true := beq_iff_eq.mpr hq0
        clear hq0 HAX
        go_wp2_with (first
          | (go_at_call 8; (with_reducible refine (new_any _ a l b A m c HX.out HA.out HN.out).mono ?_); rintro r w2 ⟨e, v, rfl, hm⟩; have HM1 := Lib.hid hm.1; have HM2 := Lib.hid hm.2.1; have hb := hm.2.2; have k2 := (hb.block _ (lt_of_block K1.out)).trans K1.out; have K2 := Lib.hid k2; have HG3 := Lib.hid (HG2.out.below hb); have HB3 := Lib.hid (HB2.out.trans (hb.mono HB2.out.size)); clear hm hb k2)
          | (go_at_call 10; (with_reducible refine (where_any _ e m v a l b HM1.out.ch HM2.out HG3.out).mono ?_); rintro r w3 ⟨rfl, hb0⟩; have hb := hb0.alloc hb0.size (.cells #[.int .i64 l, .int .i64 b] 25); have K4 := Lib.hid ((hb.block _ (lt_of_block K2.out)).trans K2.out); have L4 := Lib.hid (heap_alloc_new w3 (.cells #[.int .i64 l, .int .i64 b] 25)); have HG4 := Lib.hid (HG3.out.below hb); have HV4 := Lib.hid (HM1.out.move hb); have HF4 := Lib.hid (HM2.out.below hb); have HB4 := Lib.hid (HB3.out.trans (hb.mono HB3.out.size)); have HS4 := Lib.hid hb.size; clear hb hb0)
          | (go_at_call 13; (with_reducible refine (code_any _ e m v a l b HV4.out.ch HF4.out HG4.out).mono ?_); rintro r w5 ⟨rfl, hb⟩; have k5 := (hb.block _ (lt_of_block K4.out)).trans K4.out; have g5 := cell_of_block k5 0; have h5 := cell_of_block k5 1; have l5 := (hb.block _ (lt_of_block L4.out)).trans L4.out; have l50 := cell_of_block l5 0; have l51 := cell_of_block l5 1; have K5 := Lib.hid k5; have HG5 := Lib.hid (HG4.out.below hb); have HV5 := Lib.hid (HV4.out.move hb); have HF5 := Lib.hid (HF4.out.below hb); have HB5 := Lib.hid (HB4.out.trans (hb.mono HB4.out.size)); have HS5 := Lib.hid (Nat.le_trans HS4.out hb.size); clear hb k5 l5)
          | (go_at_call 12; (with_reducible refine (num_any _ a).mono ?_); rintro r w' ⟨rfl, hz⟩; obtain rfl := hz.symm)
          | (go_at_call 8; (with_reducible refine (new_any _ a l b none 0 0 (Strs.nil _ _) HA.out (Nat.zero_le _)).mono ?_); rintro r w6 ⟨f6, u6, rfl, hm⟩; have U6 := Lib.hid hm.1; have W6 := Lib.hid hm.2.1; have hb := hm.2.2; have K6 := Lib.hid ((hb.block _ (lt_of_block K5.out)).trans K5.out); have HG6 := Lib.hid (HG5.out.below hb); have HV6 := Lib.hid (HV5.out.move hb); have HF6 := Lib.hid (HF5.out.below hb); have HB6 := Lib.hid (HB5.out.trans (hb.mono HB5.out.size)); have HS6 := Lib.hid (Nat.le_trans HS5.out hb.size); clear hm hb)
          | (go_at_call 15; (with_reducible refine (same_agr _ _ _ e m v f6 0 u6 a l b a l b HV6.out U6.out (nw_apart2 HS5.out) HF6.out W6.out HG6.out true (hid_agr_yes a l b).out).mono ?_); rintro r w7 ⟨rfl, hb⟩; have k7 := (hb.block _ (lt_of_block K6.out)).trans K6.out; have g7 := cell_of_block k7 0; have h7 := cell_of_block k7 1; have K7 := Lib.hid k7; have HG7 := Lib.hid (HG6.out.below hb); have HV7 := Lib.hid (HV6.out.move hb); have HF7 := Lib.hid (HF6.out.below hb); have HB7 := Lib.hid (HB6.out.trans (hb.mono HB6.out.size)); have HS7 := Lib.hid (Nat.le_trans HS6.out hb.size); clear hb k7)
          | (go_at_call 8; (with_reducible refine (new_any _ a l (Go.bits .xor .i64 b 1) none 0 0 (Strs.nil _ _) HA.out (Nat.zero_le _)).mono ?_); rintro r w8 ⟨f8, u8, rfl, hm⟩; have U8 := Lib.hid hm.1; have W8 := Lib.hid hm.2.1; have hb := hm.2.2; have K8 := Lib.hid ((hb.block _ (lt_of_block K7.out)).trans K7.out); have HG8 := Lib.hid (HG7.out.below hb); have HV8 := Lib.hid (HV7.out.move hb); have HF8 := Lib.hid (HF7.out.below hb); have HB8 := Lib.hid (HB7.out.trans (hb.mono HB7.out.size)); have HS8 := Lib.hid (Nat.le_trans HS7.out hb.size); clear hm hb)
          | (go_at_call 15; (with_reducible refine (same_agr _ _ _ e m v f8 0 u8 a l b a l (Go.bits .xor .i64 b 1) HV8.out U8.out (nw_apart2 HS7.out) HF8.out W8.out HG8.out false (hid_agr_blk a l b).out).mono ?_); rintro r w9 ⟨rfl, hb⟩; have k9 := (hb.block _ (lt_of_block K8.out)).trans K8.out; have g9 := cell_of_block k9 0; have h9 := cell_of_block k9 1; have K9 := Lib.hid k9; have HG9 := Lib.hid (HG8.out.below hb); have HV9 := Lib.hid (HV8.out.move hb); have HF9 := Lib.hid (HF8.out.below hb); have HB9 := Lib.hid (HB8.out.trans (hb.mono HB8.out.size)); have HS9 := Lib.hid (Nat.le_trans HS8.out hb.size); clear hb k9))
        go_ret
        exact ⟨rfl, HB9.out⟩
      · have hq : (a == 1) = false := beq_eq_false_iff_ne.mpr hq0
        have HAX := Lib.hid (HAX.out hq0)
        clear hq0
        go_wp2_with (first
          | (go_at_call 8; (with_reducible refine (new_any _ a l b A m c HX.out HA.out HN.out).mono ?_); rintro r w2 ⟨e, v, rfl, hm⟩; have HM1 := Lib.hid hm.1; have HM2 := Lib.hid hm.2.1; have hb := hm.2.2; have k2 := (hb.block _ (lt_of_block K1.out)).trans K1.out; have K2 := Lib.hid k2; have HG3 := Lib.hid (HG2.out.below hb); have HB3 := Lib.hid (HB2.out.trans (hb.mono HB2.out.size)); clear hm hb k2)
          | (go_at_call 10; (with_reducible refine (where_any _ e m v a l b HM1.out.ch HM2.out HG3.out).mono ?_); rintro r w3 ⟨rfl, hb0⟩; have hb := hb0.alloc hb0.size (.cells #[.int .i64 l, .int .i64 b] 25); have K4 := Lib.hid ((hb.block _ (lt_of_block K2.out)).trans K2.out); have L4 := Lib.hid (heap_alloc_new w3 (.cells #[.int .i64 l, .int .i64 b] 25)); have HG4 := Lib.hid (HG3.out.below hb); have HV4 := Lib.hid (HM1.out.move hb); have HF4 := Lib.hid (HM2.out.below hb); have HB4 := Lib.hid (HB3.out.trans (hb.mono HB3.out.size)); have HS4 := Lib.hid hb.size; clear hb hb0)
          | (go_at_call 13; (with_reducible refine (code_any _ e m v a l b HV4.out.ch HF4.out HG4.out).mono ?_); rintro r w5 ⟨rfl, hb⟩; have k5 := (hb.block _ (lt_of_block K4.out)).trans K4.out; have g5 := cell_of_block k5 0; have h5 := cell_of_block k5 1; have l5 := (hb.block _ (lt_of_block L4.out)).trans L4.out; have l50 := cell_of_block l5 0; have l51 := cell_of_block l5 1; have K5 := Lib.hid k5; have HG5 := Lib.hid (HG4.out.below hb); have HV5 := Lib.hid (HV4.out.move hb); have HF5 := Lib.hid (HF4.out.below hb); have HB5 := Lib.hid (HB4.out.trans (hb.mono HB4.out.size)); have HS5 := Lib.hid (Nat.le_trans HS4.out hb.size); clear hb k5 l5)
          | (go_at_call 12; (with_reducible refine (num_any _ a).mono ?_); rintro r w' ⟨rfl, hz⟩; obtain rfl := hz.symm)
          | (go_at_call 8; (with_reducible refine (new_any _ a l b none 0 0 (Strs.nil _ _) HA.out (Nat.zero_le _)).mono ?_); rintro r w6 ⟨f6, u6, rfl, hm⟩; have U6 := Lib.hid hm.1; have W6 := Lib.hid hm.2.1; have hb := hm.2.2; have K6 := Lib.hid ((hb.block _ (lt_of_block K5.out)).trans K5.out); have HG6 := Lib.hid (HG5.out.below hb); have HV6 := Lib.hid (HV5.out.move hb); have HF6 := Lib.hid (HF5.out.below hb); have HB6 := Lib.hid (HB5.out.trans (hb.mono HB5.out.size)); have HS6 := Lib.hid (Nat.le_trans HS5.out hb.size); clear hm hb)
          | (go_at_call 15; (with_reducible refine (same_agr _ _ _ e m v f6 0 u6 a l b a l b HV6.out U6.out (nw_apart2 HS5.out) HF6.out W6.out HG6.out true (hid_agr_yes a l b).out).mono ?_); rintro r w7 ⟨rfl, hb⟩; have k7 := (hb.block _ (lt_of_block K6.out)).trans K6.out; have g7 := cell_of_block k7 0; have h7 := cell_of_block k7 1; have K7 := Lib.hid k7; have HG7 := Lib.hid (HG6.out.below hb); have HV7 := Lib.hid (HV6.out.move hb); have HF7 := Lib.hid (HF6.out.below hb); have HB7 := Lib.hid (HB6.out.trans (hb.mono HB6.out.size)); have HS7 := Lib.hid (Nat.le_trans HS6.out hb.size); clear hb k7)
          | (go_at_call 8; (with_reducible refine (new_any _ a l (Go.bits .xor .i64 b 1) none 0 0 (Strs.nil _ _) HA.out (Nat.zero_le _)).mono ?_); rintro r w8 ⟨f8, u8, rfl, hm⟩; have U8 := Lib.hid hm.1; have W8 := Lib.hid hm.2.1; have hb := hm.2.2; have K8 := Lib.hid ((hb.block _ (lt_of_block K7.out)).trans K7.out); have HG8 := Lib.hid (HG7.out.below hb); have HV8 := Lib.hid (HV7.out.move hb); have HF8 := Lib.hid (HF7.out.below hb); have HB8 := Lib.hid (HB7.out.trans (hb.mono HB7.out.size)); have HS8 := Lib.hid (Nat.le_trans HS7.out hb.size); clear hm hb)
          | (go_at_call 15; (with_reducible refine (same_agr _ _ _ e m v f8 0 u8 a l b a l (Go.bits .xor .i64 b 1) HV8.out U8.out (nw_apart2 HS7.out) HF8.out W8.out HG8.out false (hid_agr_blk a l b).out).mono ?_); rintro r w9 ⟨rfl, hb⟩; have k9 := (hb.block _ (lt_of_block K8.out)).trans K8.out; have g9 := cell_of_block k9 0; have h9 := cell_of_block k9 1; have K9 := Lib.hid k9; have HG9 := Lib.hid (HG8.out.below hb); have HV9 := Lib.hid (HV8.out.move hb); have HF9 := Lib.hid (HF8.out.below hb); have HB9 := Lib.hid (HB8.out.trans (hb.mono HB8.out.size)); have HS9 := Lib.hid (Nat.le_trans HS8.out hb.size); clear hb k9)
          | (go_at_call 8; (with_reducible refine (new_any _ (Go.bits .xor .i64 a 1) l b none 0 0 (Strs.nil _ _) HAX.out (Nat.zero_le _)).mono ?_); rintro r w10 ⟨f10, u10, rfl, hm⟩; have U10 := Lib.hid hm.1; have W10 := Lib.hid hm.2.1; have hb := hm.2.2; have K10 := Lib.hid ((hb.block _ (lt_of_block K9.out)).trans K9.out); have HG10 := Lib.hid (HG9.out.below hb); have HV10 := Lib.hid (HV9.out.move hb); have HF10 := Lib.hid (HF9.out.below hb); have HB10 := Lib.hid (HB9.out.trans (hb.mono HB9.out.size)); have HS10 := Lib.hid (Nat.le_trans HS9.out hb.size); clear hm hb)
          | (go_at_call 15; (with_reducible refine (same_agr _ _ _ e m v f10 0 u10 a l b (Go.bits .xor .i64 a 1) l b HV10.out U10.out (nw_apart2 HS9.out) HF10.out W10.out HG10.out false (hid_agr_code a l b).out).mono ?_); rintro r w11 ⟨rfl, hb⟩; have k11 := (hb.block _ (lt_of_block K10.out)).trans K10.out; have g11 := cell_of_block k11 0; have h11 := cell_of_block k11 1; have K11 := Lib.hid k11; have HG11 := Lib.hid (HG10.out.below hb); have HV11 := Lib.hid (HV10.out.move hb); have HF11 := Lib.hid (HF10.out.below hb); have HB11 := Lib.hid (HB10.out.trans (hb.mono HB10.out.size)); have HS11 := Lib.hid (Nat.le_trans HS10.out hb.size); clear hb k11))
        go_ret
        exact ⟨rfl, HB11.out⟩
theorem deep_any (w : World) (a : Int) (ha : (Lit.int .i64 a).wf = true) (l : Int) (_hl : (Lit.int .i64 l).wf = true) (b : Int) (_hb : (Lit.int .i64 b).wf = true) (n : Int) (_hn : (Lit.int .i64 n).wf = true) (hg : Ety w) :
    Calls Tryd.prog 6 #[.int .i64 a, .int .i64 l, .int .i64 b, .int .i64 n] w (Gives w (.bool true)) := by
  by_cases h : a = 0 ∨ n < 0 ∨ 100 < n
  · exact deep_out w a l b n hg h
  · obtain ⟨N, rfl⟩ := Int.eq_ofNat_of_zero_le (show 0 ≤ n by omega)
    exact deep_in w a l b ha N hg (fun e => h (.inl e)) (by omega)
end Go.Proofs.YtppablpbpimloaaDoor.Code
