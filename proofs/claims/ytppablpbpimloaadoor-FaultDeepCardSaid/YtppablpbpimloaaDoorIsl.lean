/- FaultIs: two errors are the same just if their codes and spots are. Conditions: none. -/
import Derived.Test.YtppablpbpimloaaDoorTxt
namespace Go.Proofs.YtppablpbpimloaaDoor.Code
open Go Go.RowKit Go.Joins Go.Extern.Stop Go.Stop Go.Extern Go.Proofs.YtppablpbpimloaaDoor.Rl
/-- r tells whether two faults say the same. -/
def Agr (r : Bool) (c l b c' l' b' : Int) : Prop := r = true ↔ Alike c l b c' l' b'
theorem same_agr (w : World) (X Y : Nat → Prop) (e n : Nat) (v : Value) (f m : Nat) (u : Value) (c l b c' l' b' : Int) (hv : Lay w X e n v) (hu : Lay w Y f m u) (hXY : ∀ k, X k → ¬ Y k) (he : Flt w e c l b) (hf : Flt w f c' l' b') (hg : Ety w) (r : Bool) (hr : Agr r c l b c' l' b') : Calls Tryd.prog 15 #[v, u] w (Gives w (.bool r)) :=
  same_diff w X Y e n v f m u c l b c' l' b' hv hu hXY he hf hg r hr
theorem nw_apart (w w1 w2 : World) : ∀ k, Nw w w1 k → ¬ Nw w1 w2 k := fun _ h1 h2 => absurd (Nat.lt_of_lt_of_le h1.2 h2.1) (Nat.lt_irrefl _)
abbrev sp (x y : Int) : Value := .agg #[.int .i64 x, .int .i64 y]
set_option maxHeartbeats 8000000 in
theorem isl_out (w : World) (a b s1 s2 t1 t2 : Int) (A A2 : Option Addr) (n c n2 c2 : Nat) (hg : Ety w) (h : 10 < n ∨ 10 < n2 ∨ a = 0 ∨ b = 0) :
    Calls Tryd.prog 5 #[.int .i64 a, .int .i64 b, sp s1 s2, sp t1 t2, .slice A n c, .slice A2 n2 c2] w (Gives w (.bool true)) := by
  have hb1 := (Below.refl w.heap.size w).alloc (Nat.le_refl _) (.cells #[.int .i64 s1, .int .i64 s2] 25)
  have hb2 := hb1.alloc hb1.size (.cells #[.int .i64 t1, .int .i64 t2] 25)
  have HB2 := Lib.hid hb2
  have HG := Lib.hid (hg.below hb2)
  have h4 : (10 : Int) < (n : Int) ∨ ((n : Int) ≤ 10 ∧ (10 : Int) < (n2 : Int)) ∨ ((n : Int) ≤ 10 ∧ (n2 : Int) ≤ 10 ∧ a = 0) ∨ ((n : Int) ≤ 10 ∧ (n2 : Int) ≤ 10 ∧ a ≠ 0 ∧ b = 0) := by omega
  clear hb1 hb2 hg h
  unfold sp
  rcases h4 with h | ⟨h1, h⟩ | ⟨h1, h2, rfl⟩ | ⟨h1, h2, h3, rfl⟩
  · go_enter Tryd.func5, Tryd.ntmps5
    go_wp2_with (go_at_call 7; (with_reducible refine (alive_any _ HG.out).mono ?_); rintro r w' ⟨rfl, hb⟩; have HB := Lib.hid hb; clear hb)
    go_ret
    exact ⟨rfl, HB2.out.trans (HB.out.mono HB2.out.size)⟩
  · go_enter Tryd.func5, Tryd.ntmps5
    go_wp2_with (go_at_call 7; (with_reducible refine (alive_any _ HG.out).mono ?_); rintro r w' ⟨rfl, hb⟩; have HB := Lib.hid hb; clear hb)
    go_ret
    exact ⟨rfl, HB2.out.trans (HB.out.mono HB2.out.size)⟩
  · go_enter Tryd.func5, Tryd.ntmps5
    go_wp2_with (go_at_call 7; (with_reducible refine (alive_any _ HG.out).mono ?_); rintro r w' ⟨rfl, hb⟩; have HB := Lib.hid hb; clear hb)
    go_ret
    exact ⟨rfl, HB2.out.trans (HB.out.mono HB2.out.size)⟩
  · have h4 : (a == 0) = false := beq_eq_false_iff_ne.mpr h3
    go_enter Tryd.func5, Tryd.ntmps5
    go_wp2_with (go_at_call 7; (with_reducible refine (alive_any _ HG.out).mono ?_); rintro r w' ⟨rfl, hb⟩; have HB := Lib.hid hb; clear hb)
    go_ret
    exact ⟨rfl, HB2.out.trans (HB.out.mono HB2.out.size)⟩
set_option maxHeartbeats 8000000 in
theorem isl_in (w : World) (a b s1 s2 t1 t2 : Int) (A A2 : Option Addr) (n c n2 c2 : Nat) (hx : Strs w A n) (hy : Strs w A2 n2) (hg : Ety w) (hn : n ≤ 10) (hn2 : n2 ≤ 10) (ha : a ≠ 0) (hb : b ≠ 0) :
    Calls Tryd.prog 5 #[.int .i64 a, .int .i64 b, sp s1 s2, sp t1 t2, .slice A n c, .slice A2 n2 c2] w (Gives w (.bool true)) := by
  have hb1 := (Below.refl w.heap.size w).alloc (Nat.le_refl _) (.cells #[.int .i64 s1, .int .i64 s2] 25)
  have hb2 := hb1.alloc hb1.size (.cells #[.int .i64 t1, .int .i64 t2] 25)
  have HB2 := Lib.hid hb2
  have HG := Lib.hid (hg.below hb2)
  have HX := Lib.hid (hx.below hb2)
  have HY := Lib.hid (hy.below hb2)
  have hn' : ¬ (10 : Int) < (n : Int) := by omega
  have hn2' : ¬ (10 : Int) < (n2 : Int) := by omega
  have ha0 : (a == 0) = false := beq_eq_false_iff_ne.mpr ha
  have hb0 : (b == 0) = false := beq_eq_false_iff_ne.mpr hb
  have HA := Lib.hid ha
  have HN : Hid (n ≤ 1000) := by unfold Hid; omega
  have HN2 : Hid (n2 ≤ 1000) := by unfold Hid; omega
  have HBB := Lib.hid hb
  have k1 : ((w.alloc (.cells #[.int .i64 s1, .int .i64 s2] 25)).alloc (.cells #[.int .i64 t1, .int .i64 t2] 25)).heap[w.heap.size]? = some (.cells #[.int .i64 s1, .int .i64 s2] 25 (0, 0)) := (heap_alloc_old _ _ (by simp)).trans (heap_alloc_new w _)
  have k2 := heap_alloc2 w (.cells #[.int .i64 s1, .int .i64 s2] 25) (.cells #[.int .i64 t1, .int .i64 t2] 25)
  have K1 := Lib.hid k1
  have K2 := Lib.hid k2
  clear hb1 hb2 hg hx hy ha hb k1 k2
  unfold sp
  have hcase : (b = a ∧ t1 = s1 ∧ t2 = s2) ∨ (b ≠ a) ∨ (b = a ∧ t1 ≠ s1) ∨ (b = a ∧ t1 = s1 ∧ t2 ≠ s2) := by omega
  rcases hcase with ⟨rfl, rfl, rfl⟩ | h0 | ⟨rfl, h0⟩ | ⟨rfl, rfl, h0⟩
  · have HAL : Hid (Agr true b t1 t2 b t1 t2) := ⟨fun _ => ⟨rfl, rfl, rfl⟩, fun _ => rfl⟩
    go_enter Tryd.func5, Tryd.ntmps5
    go_wp2_with (first
      | (go_at_call 7; (with_reducible refine (alive_any _ HG.out).mono ?_); rintro r w1 ⟨rfl, hb⟩; have y1 := (hb.block _ (lt_of_block K1.out)).trans K1.out; have c0 := cell_of_block y1 0; have c1 := cell_of_block y1 1; have Y1 := Lib.hid y1; have Y2 := Lib.hid ((hb.block _ (lt_of_block K2.out)).trans K2.out); have HG1 := Lib.hid (HG.out.below hb); have HX1 := Lib.hid (HX.out.below hb); have HY1 := Lib.hid (HY.out.below hb); have HB1 := Lib.hid (HB2.out.trans (hb.mono HB2.out.size)); clear hb y1)
      | (go_at_call 8; (with_reducible refine (new_any _ b t1 t2 A n c HX1.out HA.out HN.out).mono ?_); rintro r w2 ⟨e, v, rfl, hm⟩; obtain ⟨T, k, hv, hT⟩ := hm.1.ch.shape; subst hv; have HT := Lib.hid hT; have HM1 := Lib.hid hm.1; have HM2 := Lib.hid hm.2.1; have hb := hm.2.2; have y2 := (hb.block _ (lt_of_block Y2.out)).trans Y2.out; have d0 := cell_of_block y2 0; have d1 := cell_of_block y2 1; have Z1 := Lib.hid ((hb.block _ (lt_of_block Y1.out)).trans Y1.out); have Z2 := Lib.hid y2; have HG2 := Lib.hid (HG1.out.below hb); have HY2 := Lib.hid (HY1.out.below hb); have HB3 := Lib.hid (HB1.out.trans (hb.mono HB1.out.size)); clear hm hT hb y2)
      | (go_at_call 8; (with_reducible refine (new_any _ b t1 t2 A2 n2 c2 HY2.out HBB.out HN2.out).mono ?_); rintro r w3 ⟨f, u, rfl, hm⟩; have HU1 := Lib.hid hm.1; have HU2 := Lib.hid hm.2.1; have hb := hm.2.2; have y3 := (hb.block _ (lt_of_block Z1.out)).trans Z1.out; have y4 := (hb.block _ (lt_of_block Z2.out)).trans Z2.out; have Z3 := Lib.hid y3; have Z4 := Lib.hid y4; have HG3 := Lib.hid (HG2.out.below hb); have HV3 := Lib.hid (HM1.out.move hb); have HF3 := Lib.hid (HM2.out.below hb); have HB4 := Lib.hid (HB3.out.trans (hb.mono HB3.out.size)); clear hm hb y3 y4)
      | (go_at_call 15; (with_reducible refine (same_agr _ _ _ e n _ f n2 u b t1 t2 b t1 t2 HV3.out HU1.out (nw_apart _ _ _) HF3.out HU2.out HG3.out true HAL.out).mono ?_); rintro r w4 ⟨rfl, hb⟩; have y3 := (hb.block _ (lt_of_block Z3.out)).trans Z3.out; have g0 := cell_of_block y3 0; have g1 := cell_of_block y3 1; have y4 := (hb.block _ (lt_of_block Z4.out)).trans Z4.out; have l0 := cell_of_block y4 0; have l1 := cell_of_block y4 1; have HB5 := Lib.hid (HB4.out.trans (hb.mono HB4.out.size)); clear hb y3 y4)
      | (go_at_call 15; (with_reducible refine (same_self _ T k HT.out).mono ?_); rintro r w' ⟨rfl, hz⟩; obtain rfl := hz.symm))
    go_ret
    exact ⟨rfl, HB5.out⟩
  · have HAL : Hid (Agr false a s1 s2 b t1 t2) := ⟨fun h => (by cases h), fun h => absurd h.1 h0⟩
    have hq : (a == b) = false := beq_eq_false_iff_ne.mpr (fun e => h0 e.symm)
    clear h0
    go_enter Tryd.func5, Tryd.ntmps5
    go_wp2_with (first
      | (go_at_call 7; (with_reducible refine (alive_any _ HG.out).mono ?_); rintro r w1 ⟨rfl, hb⟩; have y1 := (hb.block _ (lt_of_block K1.out)).trans K1.out; have c0 := cell_of_block y1 0; have c1 := cell_of_block y1 1; have Y1 := Lib.hid y1; have Y2 := Lib.hid ((hb.block _ (lt_of_block K2.out)).trans K2.out); have HG1 := Lib.hid (HG.out.below hb); have HX1 := Lib.hid (HX.out.below hb); have HY1 := Lib.hid (HY.out.below hb); have HB1 := Lib.hid (HB2.out.trans (hb.mono HB2.out.size)); clear hb y1)
      | (go_at_call 8; (with_reducible refine (new_any _ a s1 s2 A n c HX1.out HA.out HN.out).mono ?_); rintro r w2 ⟨e, v, rfl, hm⟩; obtain ⟨T, k, hv, hT⟩ := hm.1.ch.shape; subst hv; have HT := Lib.hid hT; have HM1 := Lib.hid hm.1; have HM2 := Lib.hid hm.2.1; have hb := hm.2.2; have y2 := (hb.block _ (lt_of_block Y2.out)).trans Y2.out; have d0 := cell_of_block y2 0; have d1 := cell_of_block y2 1; have Z1 := Lib.hid ((hb.block _ (lt_of_block Y1.out)).trans Y1.out); have Z2 := Lib.hid y2; have HG2 := Lib.hid (HG1.out.below hb); have HY2 := Lib.hid (HY1.out.below hb); have HB3 := Lib.hid (HB1.out.trans (hb.mono HB1.out.size)); clear hm hT hb y2)
      | (go_at_call 8; (with_reducible refine (new_any _ b t1 t2 A2 n2 c2 HY2.out HBB.out HN2.out).mono ?_); rintro r w3 ⟨f, u, rfl, hm⟩; have HU1 := Lib.hid hm.1; have HU2 := Lib.hid hm.2.1; have hb := hm.2.2; have y3 := (hb.block _ (lt_of_block Z1.out)).trans Z1.out; have y4 := (hb.block _ (lt_of_block Z2.out)).trans Z2.out; have Z3 := Lib.hid y3; have Z4 := Lib.hid y4; have HG3 := Lib.hid (HG2.out.below hb); have HV3 := Lib.hid (HM1.out.move hb); have HF3 := Lib.hid (HM2.out.below hb); have HB4 := Lib.hid (HB3.out.trans (hb.mono HB3.out.size)); clear hm hb y3 y4)
      | (go_at_call 15; (with_reducible refine (same_agr _ _ _ e n _ f n2 u a s1 s2 b t1 t2 HV3.out HU1.out (nw_apart _ _ _) HF3.out HU2.out HG3.out false HAL.out).mono ?_); rintro r w4 ⟨rfl, hb⟩; have y3 := (hb.block _ (lt_of_block Z3.out)).trans Z3.out; have g0 := cell_of_block y3 0; have g1 := cell_of_block y3 1; have y4 := (hb.block _ (lt_of_block Z4.out)).trans Z4.out; have l0 := cell_of_block y4 0; have l1 := cell_of_block y4 1; have HB5 := Lib.hid (HB4.out.trans (hb.mono HB4.out.size)); clear hb y3 y4)
      | (go_at_call 15; (with_reducible refine (same_self _ T k HT.out).mono ?_); rintro r w' ⟨rfl, hz⟩; obtain rfl := hz.symm))
    go_ret
    exact ⟨rfl, HB5.out⟩
  · have HAL : Hid (Agr false b s1 s2 b t1 t2) := ⟨fun h => (by cases h), fun h => absurd h.2.1 h0⟩
    have hq : (s1 == t1) = false := beq_eq_false_iff_ne.mpr (fun e => h0 e.symm)
    clear h0
    go_enter Tryd.func5, Tryd.ntmps5
    go_wp2_with (first
      | (go_at_call 7; (with_reducible refine (alive_any _ HG.out).mono ?_); rintro r w1 ⟨rfl, hb⟩; have y1 := (hb.block _ (lt_of_block K1.out)).trans K1.out; have c0 := cell_of_block y1 0; have c1 := cell_of_block y1 1; have Y1 := Lib.hid y1; have Y2 := Lib.hid ((hb.block _ (lt_of_block K2.out)).trans K2.out); have HG1 := Lib.hid (HG.out.below hb); have HX1 := Lib.hid (HX.out.below hb); have HY1 := Lib.hid (HY.out.below hb); have HB1 := Lib.hid (HB2.out.trans (hb.mono HB2.out.size)); clear hb y1)
      | (go_at_call 8; (with_reducible refine (new_any _ b s1 s2 A n c HX1.out HA.out HN.out).mono ?_); rintro r w2 ⟨e, v, rfl, hm⟩; obtain ⟨T, k, hv, hT⟩ := hm.1.ch.shape; subst hv; have HT := Lib.hid hT; have HM1 := Lib.hid hm.1; have HM2 := Lib.hid hm.2.1; have hb := hm.2.2; have y2 := (hb.block _ (lt_of_block Y2.out)).trans Y2.out; have d0 := cell_of_block y2 0; have d1 := cell_of_block y2 1; have Z1 := Lib.hid ((hb.block _ (lt_of_block Y1.out)).trans Y1.out); have Z2 := Lib.hid y2; have HG2 := Lib.hid (HG1.out.below hb); have HY2 := Lib.hid (HY1.out.below hb); have HB3 := Lib.hid (HB1.out.trans (hb.mono HB1.out.size)); clear hm hT hb y2)
      | (go_at_call 8; (with_reducible refine (new_any _ b t1 t2 A2 n2 c2 HY2.out HBB.out HN2.out).mono ?_); rintro r w3 ⟨f, u, rfl, hm⟩; have HU1 := Lib.hid hm.1; have HU2 := Lib.hid hm.2.1; have hb := hm.2.2; have y3 := (hb.block _ (lt_of_block Z1.out)).trans Z1.out; have y4 := (hb.block _ (lt_of_block Z2.out)).trans Z2.out; have Z3 := Lib.hid y3; have Z4 := Lib.hid y4; have HG3 := Lib.hid (HG2.out.below hb); have HV3 := Lib.hid (HM1.out.move hb); have HF3 := Lib.hid (HM2.out.below hb); have HB4 := Lib.hid (HB3.out.trans (hb.mono HB3.out.size)); clear hm hb y3 y4)
      | (go_at_call 15; (with_reducible refine (same_agr _ _ _ e n _ f n2 u b s1 s2 b t1 t2 HV3.out HU1.out (nw_apart _ _ _) HF3.out HU2.out HG3.out false HAL.out).mono ?_); rintro r w4 ⟨rfl, hb⟩; have y3 := (hb.block _ (lt_of_block Z3.out)).trans Z3.out; have g0 := cell_of_block y3 0; have g1 := cell_of_block y3 1; have y4 := (hb.block _ (lt_of_block Z4.out)).trans Z4.out; have l0 := cell_of_block y4 0; have l1 := cell_of_block y4 1; have HB5 := Lib.hid (HB4.out.trans (hb.mono HB4.out.size)); clear hb y3 y4)
      | (go_at_call 15; (with_reducible refine (same_self _ T k HT.out).mono ?_); rintro r w' ⟨rfl, hz⟩; obtain rfl := hz.symm))
    go_ret
    exact ⟨rfl, HB5.out⟩
  · have HAL : Hid (Agr false b t1 s2 b t1 t2) := ⟨fun h => (by cases h), fun h => absurd h.2.2 h0⟩
    have hq : (s2 == t2) = false := beq_eq_false_iff_ne.mpr (fun e => h0 e.symm)
    clear h0
    go_enter Tryd.func5, Tryd.ntmps5
    go_wp2_with (first
      | (go_at_call 7; (with_reducible refine (alive_any _ HG.out).mono ?_); rintro r w1 ⟨rfl, hb⟩; have y1 := (hb.block _ (lt_of_block K1.out)).trans K1.out; have c0 := cell_of_block y1 0; have c1 := cell_of_block y1 1; have Y1 := Lib.hid y1; have Y2 := Lib.hid ((hb.block _ (lt_of_block K2.out)).trans K2.out); have HG1 := Lib.hid (HG.out.below hb); have HX1 := Lib.hid (HX.out.below hb); have HY1 := Lib.hid (HY.out.below hb); have HB1 := Lib.hid (HB2.out.trans (hb.mono HB2.out.size)); clear hb y1)
      | (go_at_call 8; (with_reducible refine (new_any _ b t1 s2 A n c HX1.out HA.out HN.out).mono ?_); rintro r w2 ⟨e, v, rfl, hm⟩; obtain ⟨T, k, hv, hT⟩ := hm.1.ch.shape; subst hv; have HT := Lib.hid hT; have HM1 := Lib.hid hm.1; have HM2 := Lib.hid hm.2.1; have hb := hm.2.2; have y2 := (hb.block _ (lt_of_block Y2.out)).trans Y2.out; have d0 := cell_of_block y2 0; have d1 := cell_of_block y2 1; have Z1 := Lib.hid ((hb.block _ (lt_of_block Y1.out)).trans Y1.out); have Z2 := Lib.hid y2; have HG2 := Lib.hid (HG1.out.below hb); have HY2 := Lib.hid (HY1.out.below hb); have HB3 := Lib.hid (HB1.out.trans (hb.mono HB1.out.size)); clear hm hT hb y2)
      | (go_at_call 8; (with_reducible refine (new_any _ b t1 t2 A2 n2 c2 HY2.out HBB.out HN2.out).mono ?_); rintro r w3 ⟨f, u, rfl, hm⟩; have HU1 := Lib.hid hm.1; have HU2 := Lib.hid hm.2.1; have hb := hm.2.2; have y3 := (hb.block _ (lt_of_block Z1.out)).trans Z1.out; have y4 := (hb.block _ (lt_of_block Z2.out)).trans Z2.out; have Z3 := Lib.hid y3; have Z4 := Lib.hid y4; have HG3 := Lib.hid (HG2.out.below hb); have HV3 := Lib.hid (HM1.out.move hb); have HF3 := Lib.hid (HM2.out.below hb); have HB4 := Lib.hid (HB3.out.trans (hb.mono HB3.out.size)); clear hm hb y3 y4)
      | (go_at_call 15; (with_reducible refine (same_agr _ _ _ e n _ f n2 u b t1 s2 b t1 t2 HV3.out HU1.out (nw_apart _ _ _) HF3.out HU2.out HG3.out false HAL.out).mono ?_); rintro r w4 ⟨rfl, hb⟩; have y3 := (hb.block _ (lt_of_block Z3.out)).trans Z3.out; have g0 := cell_of_block y3 0; have g1 := cell_of_block y3 1; have y4 := (hb.block _ (lt_of_block Z4.out)).trans Z4.out; have l0 := cell_of_block y4 0; have l1 := cell_of_block y4 1; have HB5 := Lib.hid (HB4.out.trans (hb.mono HB4.out.size)); clear hb y3 y4)
      | (go_at_call 15; (with_reducible refine (same_self _ T k HT.out).mono ?_); rintro r w' ⟨rfl, hz⟩; obtain rfl := hz.symm))
    go_ret
    exact ⟨rfl, HB5.out⟩
theorem isl_any (w : World) (a : Int) (_ha : (Lit.int .i64 a).wf = true) (b : Int) (_hb : (Lit.int .i64 b).wf = true) (s1 s2 t1 t2 : Int) (A : Option Addr) (n c : Nat) (hx : Strs w A n) (A2 : Option Addr) (n2 c2 : Nat) (hy : Strs w A2 n2) (hg : Ety w) :
    Calls Tryd.prog 5 #[.int .i64 a, .int .i64 b, sp s1 s2, sp t1 t2, .slice A n c, .slice A2 n2 c2] w (Gives w (.bool true)) := by
  by_cases h : 10 < n ∨ 10 < n2 ∨ a = 0 ∨ b = 0
  · exact isl_out w a b s1 s2 t1 t2 A A2 n c n2 c2 hg h
  · exact isl_in w a b s1 s2 t1 t2 A A2 n c n2 c2 hx hy hg (by omega) (by omega) (fun e => h (.inr (.inr (.inl e)))) (fun e => h (.inr (.inr (.inr e))))
end Go.Proofs.YtppablpbpimloaaDoor.Code
