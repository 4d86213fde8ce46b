-- PRINTED BY print.sh 35421559b90ae4d0a3588c463048766b98c2df88dd9212a6774a882060cdf62d: not written by this session
import Derived.Test.YtnbibgbelhaenaaPGfTellsx0
import Derived.Test.YtnbibgbelhaenaaPGfTellsx1
namespace Go.Proofs.Ytnbibgbelhaenaa.PGfTells
open Go.RowKit Go.Proofs.YtnbibgbelhaenaaW.PrintWords Go.Proofs.YtnbibgbelhaenaaW.PrintLast Go.Proofs.YtnbibgbelhaenaaW.PrintMore
attribute [local go_sem] max2_int min2_int max_two min_two max_three min_three max_four min_four   -- for this text's walks alone
set_option linter.unusedVariables false
set_option linter.unusedSimpArgs false

/-! ### cartridgeref1_Pow: function 28 -/
mutual
def cartridgeref1_Pow.j0 : Nat → Int → Int → Option (Int)
  | 0, _, _ => none
  | k + 1, x0, x1 => if (Int.tmod x1 255) < 0 then (cartridgeref1_Pow.j1 k x0 (wrap64 (-(Int.tmod x1 255)))) else (cartridgeref1_Pow.j1 k x0 (Int.tmod x1 255))
def cartridgeref1_Pow.j1 : Nat → Int → Int → Option (Int)
  | 0, _, _ => none
  | k + 1, x0, x5 => if x0 = 0 then (some 0) else (cartridgeref1_Pow.l0 k x0 x5 1 0)
def cartridgeref1_Pow.l0 : Nat → Int → Int → Int → Int → Option (Int)
  | 0, _, _, _, _ => none
  | k + 1, x0, x5, x6, x7 => if x7 < x5 then ((cartridgeref1_Mul.f k x6 x0).bind fun t114 => (cartridgeref1_Pow.l0 k x0 x5 t114 (wrap64 (x7 + 1)))) else (some x6)
end
def cartridgeref1_Pow.f (k : Nat) (a0 : Int) (a1 : Int) : Option (Int) := if a1 = 0 then (some 1) else (if a1 < 0 then ((cartridgeref1_Inv.f k a0).bind fun t113 => (cartridgeref1_Pow.j0 k t113 a1)) else (cartridgeref1_Pow.j0 k a0 a1))
theorem cartridgeref1_Pow.mono_l : ∀ k, (∀ y0 y1, LeO (cartridgeref1_Pow.j0 k y0 y1) (cartridgeref1_Pow.j0 (k + 1) y0 y1)) ∧ (∀ y0 y1, LeO (cartridgeref1_Pow.j1 k y0 y1) (cartridgeref1_Pow.j1 (k + 1) y0 y1)) ∧ (∀ y0 y1 y2 y3, LeO (cartridgeref1_Pow.l0 k y0 y1 y2 y3) (cartridgeref1_Pow.l0 (k + 1) y0 y1 y2 y3))
  | 0 => ⟨fun _ _ r h => by simp [cartridgeref1_Pow.j0] at h, fun _ _ r h => by simp [cartridgeref1_Pow.j1] at h, fun _ _ _ _ r h => by simp [cartridgeref1_Pow.l0] at h⟩
  | k + 1 => by
    obtain ⟨ih0, ih1, ih2⟩ := cartridgeref1_Pow.mono_l k
    refine ⟨?_, ?_, ?_⟩
    · intro y0 y1
      unfold cartridgeref1_Pow.j0
      repeat' first
      | (with_reducible exact ih0 _ _)
      | (with_reducible exact ih1 _ _)
      | (with_reducible exact ih2 _ _ _ _)
      | (with_reducible exact cartridgeref1_Inv.mono _ _)
      | (with_reducible exact cartridgeref1_Mul.mono _ _ _)
      | (with_reducible exact LeO.refl _)
      | (with_reducible exact LeO.none _)
      | (with_reducible refine LeO.ite ?_ ?_)
      | (with_reducible refine LeO.bind ?_ (fun _ => ?_))
      | exact ih0 _ _
      | exact ih1 _ _
      | exact ih2 _ _ _ _
      | exact cartridgeref1_Inv.mono _ _
      | exact cartridgeref1_Mul.mono _ _ _
      | exact LeO.none _
      | refine LeO.ite ?_ ?_
      | refine LeO.bind ?_ (fun _ => ?_)
    · intro y0 y1
      unfold cartridgeref1_Pow.j1
      repeat' first
      | (with_reducible exact ih0 _ _)
      | (with_reducible exact ih1 _ _)
      | (with_reducible exact ih2 _ _ _ _)
      | (with_reducible exact cartridgeref1_Inv.mono _ _)
      | (with_reducible exact cartridgeref1_Mul.mono _ _ _)
      | (with_reducible exact LeO.refl _)
      | (with_reducible exact LeO.none _)
      | (with_reducible refine LeO.ite ?_ ?_)
      | (with_reducible refine LeO.bind ?_ (fun _ => ?_))
      | exact ih0 _ _
      | exact ih1 _ _
      | exact ih2 _ _ _ _
      | exact cartridgeref1_Inv.mono _ _
      | exact cartridgeref1_Mul.mono _ _ _
      | exact LeO.none _
      | refine LeO.ite ?_ ?_
      | refine LeO.bind ?_ (fun _ => ?_)
    · intro y0 y1 y2 y3
      unfold cartridgeref1_Pow.l0
      repeat' first
      | (with_reducible exact ih0 _ _)
      | (with_reducible exact ih1 _ _)
      | (with_reducible exact ih2 _ _ _ _)
      | (with_reducible exact cartridgeref1_Inv.mono _ _)
      | (with_reducible exact cartridgeref1_Mul.mono _ _ _)
      | (with_reducible exact LeO.refl _)
      | (with_reducible exact LeO.none _)
      | (with_reducible refine LeO.ite ?_ ?_)
      | (with_reducible refine LeO.bind ?_ (fun _ => ?_))
      | exact ih0 _ _
      | exact ih1 _ _
      | exact ih2 _ _ _ _
      | exact cartridgeref1_Inv.mono _ _
      | exact cartridgeref1_Mul.mono _ _ _
      | exact LeO.none _
      | refine LeO.ite ?_ ?_
      | refine LeO.bind ?_ (fun _ => ?_)
theorem cartridgeref1_Pow.mono : ∀ a0 a1 k, LeO (cartridgeref1_Pow.f k a0 a1) (cartridgeref1_Pow.f (k + 1) a0 a1) := by
  intro a0 a1 k
  obtain ⟨ih0, ih1, ih2⟩ := cartridgeref1_Pow.mono_l k
  unfold cartridgeref1_Pow.f
  repeat' first
      | (with_reducible exact ih0 _ _)
      | (with_reducible exact ih1 _ _)
      | (with_reducible exact ih2 _ _ _ _)
      | (with_reducible exact cartridgeref1_Inv.mono _ _)
      | (with_reducible exact cartridgeref1_Mul.mono _ _ _)
      | (with_reducible exact LeO.refl _)
      | (with_reducible exact LeO.none _)
      | (with_reducible refine LeO.ite ?_ ?_)
      | (with_reducible refine LeO.bind ?_ (fun _ => ?_))
      | exact ih0 _ _
      | exact ih1 _ _
      | exact ih2 _ _ _ _
      | exact cartridgeref1_Inv.mono _ _
      | exact cartridgeref1_Mul.mono _ _ _
      | exact LeO.none _
      | refine LeO.ite ?_ ?_
      | refine LeO.bind ?_ (fun _ => ?_)
set_option maxHeartbeats 8000000 in
set_option maxRecDepth 100000 in
theorem cartridgeref1_Pow.calls (k : Nat) (a0 : Int) (a1 : Int) (r : Int) (w : World) (h : cartridgeref1_Pow.f k a0 a1 = some r) :
    Calls Try.prog 28 #[.int .u8 a0, .int .i64 a1] w fun e w' => e = .returned (.int .u8 r) ∧ Drawn0 w w' := by
  have H : (if a1 = 0 then (some 1) else (if a1 < 0 then ((cartridgeref1_Inv.f k a0).bind fun t113 => (cartridgeref1_Pow.j0 k t113 a1)) else (cartridgeref1_Pow.j0 k a0 a1))) = some r := h
  clear h
  by_cases c3 : a1 = 0
  · rw [if_pos c3] at H
    have c3b0 : (a1 == 0) = true := beq_iff_eq.mpr c3
    have c3b1 : (a1 != 0) = false := bne_eq_false_iff_eq.mpr c3
    clear c3
    obtain rfl := Option.some.inj H
    go_enter Try.func28, Try.ntmps28
    go_wp2
    go_ret
    exact ⟨by first | rfl | (simp; done) | (simp [*]; done), by repeat (first | exact Drawn0.refl _ | apply Drawn0.step)⟩
  · rw [if_neg c3] at H
    have c3b0 : (a1 == 0) = false := beq_eq_false_iff_ne.mpr c3
    have c3b1 : (a1 != 0) = true := bne_iff_ne.mpr c3
    have HC4 := Aside0.mk H
    clear H
    go_enter Try.func28, Try.ntmps28
    go_upto_if 11 with (fail)
    go_cut [0] (fun v0 wc => ∃ (kq : Nat) (x0_3 : Int), v0 = .int .u8 x0_3 ∧ Aside0 (cartridgeref1_Pow.j0 kq x0_3 a1 = some r) ∧ Aside0 (kq ≤ k) ∧ Drawn0 w wc)
    case first =>
      have H := HC4.out
      clear HC4
      by_cases c5 : a1 < 0
      · rw [if_pos c5] at H
        have c5b0 : decide (a1 < 0) = true := decide_eq_true c5
        clear c5
        (first | rw [c5b0] | (simp only [i64_w, i32_w]; rw [c5b0]) | skip)
        replace H := Option.bind_eq_some_iff.mp H
        obtain ⟨t113, A60, H⟩ := H
        replace H : (cartridgeref1_Pow.j0 k t113 a1) = some r := H
        have A6 := Aside0.mk A60
        clear A60
        have H' := Aside0.mk H
        clear H
        go_wp2_with (first | ((with_reducible refine gate_callee (f := 27) rfl ?_); refine goesL_ (some 13) rfl rfl Try.func27 (by kernel_rfl) rfl #[.int .u8 a0] rfl (by (try simp only [List.map_toArray, List.map_cons, List.map_nil]); first | done | rfl | (simp only [List.length_drop, List.length_take]; rfl)) ?_; (with_reducible refine (cartridgeref1_Inv.calls k a0 t113 _ A6.out).mono ?_); rintro e w' ⟨rfl, ⟨nd, rfl⟩⟩; refine ⟨_, rfl, ?_⟩))
        go_meet
        case rel => exact ⟨_, (t113), (by first | rfl | (simp; done) | (simp [*]; done)), H', ⟨by first | omega | exact Nat.le_refl _⟩, by repeat (first | exact Drawn0.refl _ | apply Drawn0.step)⟩
      · rw [if_neg c5] at H
        have c5b0 : decide (a1 < 0) = false := decide_eq_false c5
        clear c5
        (first | rw [c5b0] | (simp only [i64_w, i32_w]; rw [c5b0]) | skip)
        have H' := Aside0.mk H
        clear H
        go_wp2
        go_meet
        case rel => exact ⟨_, (a0), (by first | rfl | (simp; done) | (simp [*]; done)), H', ⟨by first | omega | exact Nat.le_refl _⟩, by repeat (first | exact Drawn0.refl _ | apply Drawn0.step)⟩
    case rest =>
      clear HC4
      try clear c2
      try clear p2
      try clear c3
      try clear c3b0
      try clear c3b1
      try clear c5
      try clear c5b0
      obtain ⟨kq, x0_3, rfl, HA, HJ3, ⟨mc3, rfl⟩⟩ := hcut
      cases kq with
      | zero => exact absurd HA.out (by simp [cartridgeref1_Pow.j0])
      | succ kj3 =>
        have H := HA.out
        clear HA
        simp only [cartridgeref1_Pow.j0] at H
        have HC7 := Aside0.mk H
        clear H
        go_upto_if 17 with (fail)
        go_cut [5] (fun v5 wc => ∃ (kq : Nat) (x5_6 : Int), v5 = .int .i64 x5_6 ∧ Aside0 (cartridgeref1_Pow.j1 kq x0_3 x5_6 = some r) ∧ Aside0 (kq ≤ kj3) ∧ Drawn0 w wc)
        case first =>
          have H := HC7.out
          clear HC7
          by_cases c8 : (Int.tmod a1 255) < 0
          · rw [if_pos c8] at H
            have c8b0 : decide ((Int.tmod a1 255) < 0) = true := decide_eq_true c8
            clear c8
            (first | rw [c8b0] | (simp only [i64_w, i32_w]; rw [c8b0]) | skip)
            have H' := Aside0.mk H
            clear H
            go_wp2
            go_meet
            case rel => exact ⟨_, (wrap64 (-(Int.tmod a1 255))), (by first | rfl | (simp; done) | (simp [*]; done)), H', ⟨by have := HJ3.out; first | omega | exact Nat.le_refl _⟩, by repeat (first | exact Drawn0.refl _ | apply Drawn0.step)⟩
          · rw [if_neg c8] at H
            have c8b0 : decide ((Int.tmod a1 255) < 0) = false := decide_eq_false c8
            clear c8
            (first | rw [c8b0] | (simp only [i64_w, i32_w]; rw [c8b0]) | skip)
            have H' := Aside0.mk H
            clear H
            go_wp2
            go_meet
            case rel => exact ⟨_, (Int.tmod a1 255), (by first | rfl | (simp; done) | (simp [*]; done)), H', ⟨by have := HJ3.out; first | omega | exact Nat.le_refl _⟩, by repeat (first | exact Drawn0.refl _ | apply Drawn0.step)⟩
        case rest =>
          clear HC7
          try clear c2
          try clear p2
          try clear c3
          try clear c3b0
          try clear c3b1
          try clear c5
          try clear c5b0
          try clear p6
          try clear c8
          try clear c8b0
          try clear p2
          obtain ⟨kq, x5_6, rfl, HA, HJ6, ⟨mc6, rfl⟩⟩ := hcut
          cases kq with
          | zero => exact absurd HA.out (by simp [cartridgeref1_Pow.j1])
          | succ kj6 =>
            have H := HA.out
            clear HA
            simp only [cartridgeref1_Pow.j1] at H
            by_cases c9 : x0_3 = 0
            · rw [if_pos c9] at H
              have c9b0 : (x0_3 == 0) = true := beq_iff_eq.mpr c9
              have c9b1 : (x0_3 != 0) = false := bne_eq_false_iff_eq.mpr c9
              clear c9
              obtain rfl := Option.some.inj H
              go_wp2
              go_ret
              exact ⟨by first | rfl | (simp; done) | (simp [*]; done), by repeat (first | exact Drawn0.refl _ | apply Drawn0.step)⟩
            · rw [if_neg c9] at H
              have c9b0 : (x0_3 == 0) = false := beq_eq_false_iff_ne.mpr c9
              have c9b1 : (x0_3 != 0) = true := bne_iff_ne.mpr c9
              have H' := Aside0.mk H
              clear H
              go_wp2
              go_loopg [6, 7] kj6 (fun kq v6 v7 w' => ∃ (x6_3 : Int) (x7_3 : Int), v6 = .int .u8 x6_3 ∧ v7 = .int .i64 x7_3 ∧ Aside0 (cartridgeref1_Pow.l0 kq x0_3 x5_6 x6_3 x7_3 = some r) ∧ Aside0 (kq ≤ kj6) ∧ Drawn0 w w')
              case atStart => exact ⟨(1), (0), (by first | rfl | (simp; done) | (simp [*]; done)), (by first | rfl | (simp; done) | (simp [*]; done)), H', ⟨Nat.le_refl _⟩, by repeat (first | exact Drawn0.refl _ | apply Drawn0.step)⟩
              case round =>
                clear H'
                try clear c2
                try clear p2
                try clear c3
                try clear c3b0
                try clear c3b1
                try clear c5
                try clear c5b0
                try clear c6
                try clear p6
                try clear c8
                try clear c8b0
                try clear c9
                try clear c9b0
                try clear c9b1
                try clear p2
                try clear p6
                obtain ⟨x6_3, x7_3, rfl, rfl, HA, HK3, ⟨m3, rfl⟩⟩ := hrel
                cases gk with
                | zero => exact absurd HA.out (by simp [cartridgeref1_Pow.l0])
                | succ k3 =>
                  have H := HA.out
                  clear HA
                  simp only [cartridgeref1_Pow.l0] at H
                  by_cases c10 : x7_3 < x5_6
                  · rw [if_pos c10] at H
                    have c10b0 : decide (x7_3 < x5_6) = true := decide_eq_true c10
                    clear c10
                    replace H := Option.bind_eq_some_iff.mp H
                    obtain ⟨t114, A110, H⟩ := H
                    replace H : (cartridgeref1_Pow.l0 k3 x0_3 x5_6 t114 (wrap64 (x7_3 + 1))) = some r := H
                    have A11 := Aside0.mk A110
                    clear A110
                    have H' := Aside0.mk H
                    clear H
                    go_wp2_with (first | ((with_reducible refine gate_callee (f := 25) rfl ?_); refine goesL_ (some 29) rfl rfl Try.func25 (by kernel_rfl) rfl #[.int .u8 x6_3, .int .u8 x0_3] rfl (by (try simp only [List.map_toArray, List.map_cons, List.map_nil]); first | done | rfl | (simp only [List.length_drop, List.length_take]; rfl)) ?_; (with_reducible refine (cartridgeref1_Mul.calls k3 x6_3 x0_3 t114 _ A11.out).mono ?_); rintro e w' ⟨rfl, ⟨nd, rfl⟩⟩; refine ⟨_, rfl, ?_⟩))
                    go_roundg k3
                    case measure => have := HJ3.out; have := HJ6.out; have := HK3.out; omega
                    case rel => exact ⟨(t114), (wrap64 (x7_3 + 1)), (by first | rfl | (simp; done) | (simp [*]; done)), (by first | rfl | (simp; done) | (simp [*]; done)), H', ⟨by have := HJ3.out; have := HJ6.out; have := HK3.out; omega⟩, by repeat (first | exact Drawn0.refl _ | apply Drawn0.step)⟩
                  · rw [if_neg c10] at H
                    have c10b0 : decide (x7_3 < x5_6) = false := decide_eq_false c10
                    clear c10
                    obtain rfl := Option.some.inj H
                    go_wp2
                    go_ret
                    exact ⟨by first | rfl | (simp; done) | (simp [*]; done), by repeat (first | exact Drawn0.refl _ | apply Drawn0.step)⟩

/-! ### cartridgelaw1_GfTells: function 11 -/
def cartridgelaw1_GfTells.f (k : Nat) (a0 : Int) (a1 : Int) (a2 : Int) : Option (Bool) := (cartridgelaw1_alive.f k).bind fun t115 => (if t115 = true then ((gf_Add.f a0 a1).bind fun t116 => (if t116 = (Go.bits .xor .u8 a0 a1) then ((gf_Mul.f k a0 a1).bind fun t117 => ((cartridgeref1_Mul.f k a0 a1).bind fun t118 => (if t117 = t118 then ((gf_Inv.f k a0).bind fun t119 => ((cartridgeref1_Inv.f k a0).bind fun t120 => (if t119 = t120 then ((gf_Div.f k a0 a1).bind fun t121 => ((cartridgeref1_Inv.f k a1).bind fun t122 => ((cartridgeref1_Mul.f k a0 t122).bind fun t123 => (if t121 = t123 then ((gf_Pow.f k a0 a2).bind fun t124 => ((cartridgeref1_Pow.f k a0 a2).bind fun t125 => (some (t124 == t125)))) else (some false))))) else (some false)))) else (some false)))) else (some false))) else (some false))
theorem cartridgelaw1_GfTells.mono : ∀ a0 a1 a2 k, LeO (cartridgelaw1_GfTells.f k a0 a1 a2) (cartridgelaw1_GfTells.f (k + 1) a0 a1 a2) := by
  intro a0 a1 a2 k
  unfold cartridgelaw1_GfTells.f
  repeat' first
      | (with_reducible exact cartridgelaw1_alive.mono _)
      | (with_reducible exact cartridgeref1_Inv.mono _ _)
      | (with_reducible exact cartridgeref1_Mul.mono _ _ _)
      | (with_reducible exact cartridgeref1_Pow.mono _ _ _)
      | (with_reducible exact gf_Div.mono _ _ _)
      | (with_reducible exact gf_Inv.mono _ _)
      | (with_reducible exact gf_Mul.mono _ _ _)
      | (with_reducible exact gf_Pow.mono _ _ _)
      | (with_reducible exact LeO.refl _)
      | (with_reducible exact LeO.none _)
      | (with_reducible refine LeO.ite ?_ ?_)
      | (with_reducible refine LeO.bind ?_ (fun _ => ?_))
      | exact cartridgelaw1_alive.mono _
      | exact cartridgeref1_Inv.mono _ _
      | exact cartridgeref1_Mul.mono _ _ _
      | exact cartridgeref1_Pow.mono _ _ _
      | exact gf_Div.mono _ _ _
      | exact gf_Inv.mono _ _
      | exact gf_Mul.mono _ _ _
      | exact gf_Pow.mono _ _ _
      | exact LeO.none _
      | refine LeO.ite ?_ ?_
      | refine LeO.bind ?_ (fun _ => ?_)
set_option maxHeartbeats 8000000 in
set_option maxRecDepth 100000 in
theorem cartridgelaw1_GfTells.calls (k : Nat) (a0 : Int) (a1 : Int) (a2 : Int) (r : Bool) (w : World) (h : cartridgelaw1_GfTells.f k a0 a1 a2 = some r) :
    Calls Try.prog 11 #[.int .u8 a0, .int .u8 a1, .int .i64 a2] w fun e w' => e = .returned (.bool r) ∧ Drawn0 w w' := by
  have H : ((cartridgelaw1_alive.f k).bind fun t115 => (if t115 = true then ((gf_Add.f a0 a1).bind fun t116 => (if t116 = (Go.bits .xor .u8 a0 a1) then ((gf_Mul.f k a0 a1).bind fun t117 => ((cartridgeref1_Mul.f k a0 a1).bind fun t118 => (if t117 = t118 then ((gf_Inv.f k a0).bind fun t119 => ((cartridgeref1_Inv.f k a0).bind fun t120 => (if t119 = t120 then ((gf_Div.f k a0 a1).bind fun t121 => ((cartridgeref1_Inv.f k a1).bind fun t122 => ((cartridgeref1_Mul.f k a0 t122).bind fun t123 => (if t121 = t123 then ((gf_Pow.f k a0 a2).bind fun t124 => ((cartridgeref1_Pow.f k a0 a2).bind fun t125 => (some (t124 == t125)))) else (some false))))) else (some false)))) else (some false)))) else (some false))) else (some false))) = some r := h
  clear h
  replace H := Option.bind_eq_some_iff.mp H
  obtain ⟨t115, A40, H⟩ := H
  replace H : (if t115 = true then ((gf_Add.f a0 a1).bind fun t116 => (if t116 = (Go.bits .xor .u8 a0 a1) then ((gf_Mul.f k a0 a1).bind fun t117 => ((cartridgeref1_Mul.f k a0 a1).bind fun t118 => (if t117 = t118 then ((gf_Inv.f k a0).bind fun t119 => ((cartridgeref1_Inv.f k a0).bind fun t120 => (if t119 = t120 then ((gf_Div.f k a0 a1).bind fun t121 => ((cartridgeref1_Inv.f k a1).bind fun t122 => ((cartridgeref1_Mul.f k a0 t122).bind fun t123 => (if t121 = t123 then ((gf_Pow.f k a0 a2).bind fun t124 => ((cartridgeref1_Pow.f k a0 a2).bind fun t125 => (some (t124 == t125)))) else (some false))))) else (some false)))) else (some false)))) else (some false))) else (some false)) = some r := H
  have A4 := Aside0.mk A40
  clear A40
  by_cases c5 : t115 = true
  · subst c5
    have H1 : ((gf_Add.f a0 a1).bind fun t116 => (if t116 = (Go.bits .xor .u8 a0 a1) then ((gf_Mul.f k a0 a1).bind fun t117 => ((cartridgeref1_Mul.f k a0 a1).bind fun t118 => (if t117 = t118 then ((gf_Inv.f k a0).bind fun t119 => ((cartridgeref1_Inv.f k a0).bind fun t120 => (if t119 = t120 then ((gf_Div.f k a0 a1).bind fun t121 => ((cartridgeref1_Inv.f k a1).bind fun t122 => ((cartridgeref1_Mul.f k a0 t122).bind fun t123 => (if t121 = t123 then ((gf_Pow.f k a0 a2).bind fun t124 => ((cartridgeref1_Pow.f k a0 a2).bind fun t125 => (some (t124 == t125)))) else (some false))))) else (some false)))) else (some false)))) else (some false))) = some r := by rw [if_pos rfl] at H; exact H
    clear H
    have H := H1
    clear H1
    replace H := Option.bind_eq_some_iff.mp H
    obtain ⟨t116, A60, H⟩ := H
    replace H : (if t116 = (Go.bits .xor .u8 a0 a1) then ((gf_Mul.f k a0 a1).bind fun t117 => ((cartridgeref1_Mul.f k a0 a1).bind fun t118 => (if t117 = t118 then ((gf_Inv.f k a0).bind fun t119 => ((cartridgeref1_Inv.f k a0).bind fun t120 => (if t119 = t120 then ((gf_Div.f k a0 a1).bind fun t121 => ((cartridgeref1_Inv.f k a1).bind fun t122 => ((cartridgeref1_Mul.f k a0 t122).bind fun t123 => (if t121 = t123 then ((gf_Pow.f k a0 a2).bind fun t124 => ((cartridgeref1_Pow.f k a0 a2).bind fun t125 => (some (t124 == t125)))) else (some false))))) else (some false)))) else (some false)))) else (some false)) = some r := H
    have A6 := Aside0.mk A60
    clear A60
    by_cases c7 : t116 = (Go.bits .xor .u8 a0 a1)
    · rw [if_pos c7] at H
      have c7b0 : (t116 == (Go.bits .xor .u8 a0 a1)) = true := beq_iff_eq.mpr c7
      have c7b1 : (t116 != (Go.bits .xor .u8 a0 a1)) = false := bne_eq_false_iff_eq.mpr c7
      clear c7
      replace H := Option.bind_eq_some_iff.mp H
      obtain ⟨t117, A80, H⟩ := H
      replace H : ((cartridgeref1_Mul.f k a0 a1).bind fun t118 => (if t117 = t118 then ((gf_Inv.f k a0).bind fun t119 => ((cartridgeref1_Inv.f k a0).bind fun t120 => (if t119 = t120 then ((gf_Div.f k a0 a1).bind fun t121 => ((cartridgeref1_Inv.f k a1).bind fun t122 => ((cartridgeref1_Mul.f k a0 t122).bind fun t123 => (if t121 = t123 then ((gf_Pow.f k a0 a2).bind fun t124 => ((cartridgeref1_Pow.f k a0 a2).bind fun t125 => (some (t124 == t125)))) else (some false))))) else (some false)))) else (some false))) = some r := H
      have A8 := Aside0.mk A80
      clear A80
      replace H := Option.bind_eq_some_iff.mp H
      obtain ⟨t118, A90, H⟩ := H
      replace H : (if t117 = t118 then ((gf_Inv.f k a0).bind fun t119 => ((cartridgeref1_Inv.f k a0).bind fun t120 => (if t119 = t120 then ((gf_Div.f k a0 a1).bind fun t121 => ((cartridgeref1_Inv.f k a1).bind fun t122 => ((cartridgeref1_Mul.f k a0 t122).bind fun t123 => (if t121 = t123 then ((gf_Pow.f k a0 a2).bind fun t124 => ((cartridgeref1_Pow.f k a0 a2).bind fun t125 => (some (t124 == t125)))) else (some false))))) else (some false)))) else (some false)) = some r := H
      have A9 := Aside0.mk A90
      clear A90
      by_cases c10 : t117 = t118
      · rw [if_pos c10] at H
        have c10b0 : (t117 == t118) = true := beq_iff_eq.mpr c10
        have c10b1 : (t117 != t118) = false := bne_eq_false_iff_eq.mpr c10
        clear c10
        replace H := Option.bind_eq_some_iff.mp H
        obtain ⟨t119, A110, H⟩ := H
        replace H : ((cartridgeref1_Inv.f k a0).bind fun t120 => (if t119 = t120 then ((gf_Div.f k a0 a1).bind fun t121 => ((cartridgeref1_Inv.f k a1).bind fun t122 => ((cartridgeref1_Mul.f k a0 t122).bind fun t123 => (if t121 = t123 then ((gf_Pow.f k a0 a2).bind fun t124 => ((cartridgeref1_Pow.f k a0 a2).bind fun t125 => (some (t124 == t125)))) else (some false))))) else (some false))) = some r := H
        have A11 := Aside0.mk A110
        clear A110
        replace H := Option.bind_eq_some_iff.mp H
        obtain ⟨t120, A120, H⟩ := H
        replace H : (if t119 = t120 then ((gf_Div.f k a0 a1).bind fun t121 => ((cartridgeref1_Inv.f k a1).bind fun t122 => ((cartridgeref1_Mul.f k a0 t122).bind fun t123 => (if t121 = t123 then ((gf_Pow.f k a0 a2).bind fun t124 => ((cartridgeref1_Pow.f k a0 a2).bind fun t125 => (some (t124 == t125)))) else (some false))))) else (some false)) = some r := H
        have A12 := Aside0.mk A120
        clear A120
        by_cases c13 : t119 = t120
        · rw [if_pos c13] at H
          have c13b0 : (t119 == t120) = true := beq_iff_eq.mpr c13
          have c13b1 : (t119 != t120) = false := bne_eq_false_iff_eq.mpr c13
          clear c13
          replace H := Option.bind_eq_some_iff.mp H
          obtain ⟨t121, A140, H⟩ := H
          replace H : ((cartridgeref1_Inv.f k a1).bind fun t122 => ((cartridgeref1_Mul.f k a0 t122).bind fun t123 => (if t121 = t123 then ((gf_Pow.f k a0 a2).bind fun t124 => ((cartridgeref1_Pow.f k a0 a2).bind fun t125 => (some (t124 == t125)))) else (some false)))) = some r := H
          have A14 := Aside0.mk A140
          clear A140
          replace H := Option.bind_eq_some_iff.mp H
          obtain ⟨t122, A150, H⟩ := H
          replace H : ((cartridgeref1_Mul.f k a0 t122).bind fun t123 => (if t121 = t123 then ((gf_Pow.f k a0 a2).bind fun t124 => ((cartridgeref1_Pow.f k a0 a2).bind fun t125 => (some (t124 == t125)))) else (some false))) = some r := H
          have A15 := Aside0.mk A150
          clear A150
          replace H := Option.bind_eq_some_iff.mp H
          obtain ⟨t123, A160, H⟩ := H
          replace H : (if t121 = t123 then ((gf_Pow.f k a0 a2).bind fun t124 => ((cartridgeref1_Pow.f k a0 a2).bind fun t125 => (some (t124 == t125)))) else (some false)) = some r := H
          have A16 := Aside0.mk A160
          clear A160
          by_cases c17 : t121 = t123
          · rw [if_pos c17] at H
            have c17b0 : (t121 == t123) = true := beq_iff_eq.mpr c17
            have c17b1 : (t121 != t123) = false := bne_eq_false_iff_eq.mpr c17
            clear c17
            replace H := Option.bind_eq_some_iff.mp H
            obtain ⟨t124, A180, H⟩ := H
            replace H : ((cartridgeref1_Pow.f k a0 a2).bind fun t125 => (some (t124 == t125))) = some r := H
            have A18 := Aside0.mk A180
            clear A180
            replace H := Option.bind_eq_some_iff.mp H
            obtain ⟨t125, A190, H⟩ := H
            replace H : (some (t124 == t125)) = some r := H
            have A19 := Aside0.mk A190
            clear A190
            obtain rfl := Option.some.inj H
            go_enter Try.func11, Try.ntmps11
            go_wp2_with (first | ((with_reducible refine gate_callee (f := 17) rfl ?_); refine goesL_ (some 8) rfl rfl Try.func17 (by kernel_rfl) rfl #[] rfl (by (try simp only [List.map_toArray, List.map_cons, List.map_nil]); first | done | rfl | (simp only [List.length_drop, List.length_take]; rfl)) ?_; (with_reducible refine (cartridgelaw1_alive.calls k  true _ A4.out).mono ?_); rintro e w' ⟨rfl, ⟨nd, rfl⟩⟩; refine ⟨_, rfl, ?_⟩) | (go_at_call 19; (with_reducible refine (gf_Add.calls a0 a1 t116 _ A6.out).mono ?_); rintro e w' ⟨rfl, ⟨nd, rfl⟩⟩) | (go_at_call 18; (with_reducible refine (gf_Mul.calls k a0 a1 t117 _ A8.out).mono ?_); rintro e w' ⟨rfl, ⟨nd, rfl⟩⟩) | (go_at_call 25; (with_reducible refine (cartridgeref1_Mul.calls k a0 a1 t118 _ A9.out).mono ?_); rintro e w' ⟨rfl, ⟨nd, rfl⟩⟩) | (go_at_call 26; (with_reducible refine (gf_Inv.calls k a0 t119 _ A11.out).mono ?_); rintro e w' ⟨rfl, ⟨nd, rfl⟩⟩) | (go_at_call 27; (with_reducible refine (cartridgeref1_Inv.calls k a0 t120 _ A12.out).mono ?_); rintro e w' ⟨rfl, ⟨nd, rfl⟩⟩) | (go_at_call 20; (with_reducible refine (gf_Div.calls k a0 a1 t121 _ A14.out).mono ?_); rintro e w' ⟨rfl, ⟨nd, rfl⟩⟩) | (go_at_call 27; (with_reducible refine (cartridgeref1_Inv.calls k a1 t122 _ A15.out).mono ?_); rintro e w' ⟨rfl, ⟨nd, rfl⟩⟩) | (go_at_call 25; (with_reducible refine (cartridgeref1_Mul.calls k a0 t122 t123 _ A16.out).mono ?_); rintro e w' ⟨rfl, ⟨nd, rfl⟩⟩) | (go_at_call 21; (with_reducible refine (gf_Pow.calls k a0 a2 t124 _ A18.out).mono ?_); rintro e w' ⟨rfl, ⟨nd, rfl⟩⟩) | (go_at_call 28; (with_reducible refine (cartridgeref1_Pow.calls k a0 a2 t125 _ A19.out).mono ?_); rintro e w' ⟨rfl, ⟨nd, rfl⟩⟩))
            go_ret
            exact ⟨by first | rfl | (simp; done) | (simp [*]; done), by repeat (first | exact Drawn0.refl _ | apply Drawn0.step)⟩
          · rw [if_neg c17] at H
            have c17b0 : (t121 == t123) = false := beq_eq_false_iff_ne.mpr c17
            have c17b1 : (t121 != t123) = true := bne_iff_ne.mpr c17
            obtain rfl := Option.some.inj H
            go_enter Try.func11, Try.ntmps11
            go_wp2_with (first | ((with_reducible refine gate_callee (f := 17) rfl ?_); refine goesL_ (some 8) rfl rfl Try.func17 (by kernel_rfl) rfl #[] rfl (by (try simp only [List.map_toArray, List.map_cons, List.map_nil]); first | done | rfl | (simp only [List.length_drop, List.length_take]; rfl)) ?_; (with_reducible refine (cartridgelaw1_alive.calls k  true _ A4.out).mono ?_); rintro e w' ⟨rfl, ⟨nd, rfl⟩⟩; refine ⟨_, rfl, ?_⟩) | (go_at_call 19; (with_reducible refine (gf_Add.calls a0 a1 t116 _ A6.out).mono ?_); rintro e w' ⟨rfl, ⟨nd, rfl⟩⟩) | (go_at_call 18; (with_reducible refine (gf_Mul.calls k a0 a1 t117 _ A8.out).mono ?_); rintro e w' ⟨rfl, ⟨nd, rfl⟩⟩) | (go_at_call 25; (with_reducible refine (cartridgeref1_Mul.calls k a0 a1 t118 _ A9.out).mono ?_); rintro e w' ⟨rfl, ⟨nd, rfl⟩⟩) | (go_at_call 26; (with_reducible refine (gf_Inv.calls k a0 t119 _ A11.out).mono ?_); rintro e w' ⟨rfl, ⟨nd, rfl⟩⟩) | (go_at_call 27; (with_reducible refine (cartridgeref1_Inv.calls k a0 t120 _ A12.out).mono ?_); rintro e w' ⟨rfl, ⟨nd, rfl⟩⟩) | (go_at_call 20; (with_reducible refine (gf_Div.calls k a0 a1 t121 _ A14.out).mono ?_); rintro e w' ⟨rfl, ⟨nd, rfl⟩⟩) | (go_at_call 27; (with_reducible refine (cartridgeref1_Inv.calls k a1 t122 _ A15.out).mono ?_); rintro e w' ⟨rfl, ⟨nd, rfl⟩⟩) | (go_at_call 25; (with_reducible refine (cartridgeref1_Mul.calls k a0 t122 t123 _ A16.out).mono ?_); rintro e w' ⟨rfl, ⟨nd, rfl⟩⟩))
            go_ret
            exact ⟨by first | rfl | (simp; done) | (simp [*]; done), by repeat (first | exact Drawn0.refl _ | apply Drawn0.step)⟩
        · rw [if_neg c13] at H
          have c13b0 : (t119 == t120) = false := beq_eq_false_iff_ne.mpr c13
          have c13b1 : (t119 != t120) = true := bne_iff_ne.mpr c13
          obtain rfl := Option.some.inj H
          go_enter Try.func11, Try.ntmps11
          go_wp2_with (first | ((with_reducible refine gate_callee (f := 17) rfl ?_); refine goesL_ (some 8) rfl rfl Try.func17 (by kernel_rfl) rfl #[] rfl (by (try simp only [List.map_toArray, List.map_cons, List.map_nil]); first | done | rfl | (simp only [List.length_drop, List.length_take]; rfl)) ?_; (with_reducible refine (cartridgelaw1_alive.calls k  true _ A4.out).mono ?_); rintro e w' ⟨rfl, ⟨nd, rfl⟩⟩; refine ⟨_, rfl, ?_⟩) | (go_at_call 19; (with_reducible refine (gf_Add.calls a0 a1 t116 _ A6.out).mono ?_); rintro e w' ⟨rfl, ⟨nd, rfl⟩⟩) | (go_at_call 18; (with_reducible refine (gf_Mul.calls k a0 a1 t117 _ A8.out).mono ?_); rintro e w' ⟨rfl, ⟨nd, rfl⟩⟩) | (go_at_call 25; (with_reducible refine (cartridgeref1_Mul.calls k a0 a1 t118 _ A9.out).mono ?_); rintro e w' ⟨rfl, ⟨nd, rfl⟩⟩) | (go_at_call 26; (with_reducible refine (gf_Inv.calls k a0 t119 _ A11.out).mono ?_); rintro e w' ⟨rfl, ⟨nd, rfl⟩⟩) | (go_at_call 27; (with_reducible refine (cartridgeref1_Inv.calls k a0 t120 _ A12.out).mono ?_); rintro e w' ⟨rfl, ⟨nd, rfl⟩⟩))
          go_ret
          exact ⟨by first | rfl | (simp; done) | (simp [*]; done), by repeat (first | exact Drawn0.refl _ | apply Drawn0.step)⟩
      · rw [if_neg c10] at H
        have c10b0 : (t117 == t118) = false := beq_eq_false_iff_ne.mpr c10
        have c10b1 : (t117 != t118) = true := bne_iff_ne.mpr c10
        obtain rfl := Option.some.inj H
        go_enter Try.func11, Try.ntmps11
        go_wp2_with (first | ((with_reducible refine gate_callee (f := 17) rfl ?_); refine goesL_ (some 8) rfl rfl Try.func17 (by kernel_rfl) rfl #[] rfl (by (try simp only [List.map_toArray, List.map_cons, List.map_nil]); first | done | rfl | (simp only [List.length_drop, List.length_take]; rfl)) ?_; (with_reducible refine (cartridgelaw1_alive.calls k  true _ A4.out).mono ?_); rintro e w' ⟨rfl, ⟨nd, rfl⟩⟩; refine ⟨_, rfl, ?_⟩) | (go_at_call 19; (with_reducible refine (gf_Add.calls a0 a1 t116 _ A6.out).mono ?_); rintro e w' ⟨rfl, ⟨nd, rfl⟩⟩) | (go_at_call 18; (with_reducible refine (gf_Mul.calls k a0 a1 t117 _ A8.out).mono ?_); rintro e w' ⟨rfl, ⟨nd, rfl⟩⟩) | (go_at_call 25; (with_reducible refine (cartridgeref1_Mul.calls k a0 a1 t118 _ A9.out).mono ?_); rintro e w' ⟨rfl, ⟨nd, rfl⟩⟩))
        go_ret
        exact ⟨by first | rfl | (simp; done) | (simp [*]; done), by repeat (first | exact Drawn0.refl _ | apply Drawn0.step)⟩
    · rw [if_neg c7] at H
      have c7b0 : (t116 == (Go.bits .xor .u8 a0 a1)) = false := beq_eq_false_iff_ne.mpr c7
      have c7b1 : (t116 != (Go.bits .xor .u8 a0 a1)) = true := bne_iff_ne.mpr c7
      obtain rfl := Option.some.inj H
      go_enter Try.func11, Try.ntmps11
      go_wp2_with (first | ((with_reducible refine gate_callee (f := 17) rfl ?_); refine goesL_ (some 8) rfl rfl Try.func17 (by kernel_rfl) rfl #[] rfl (by (try simp only [List.map_toArray, List.map_cons, List.map_nil]); first | done | rfl | (simp only [List.length_drop, List.length_take]; rfl)) ?_; (with_reducible refine (cartridgelaw1_alive.calls k  true _ A4.out).mono ?_); rintro e w' ⟨rfl, ⟨nd, rfl⟩⟩; refine ⟨_, rfl, ?_⟩) | (go_at_call 19; (with_reducible refine (gf_Add.calls a0 a1 t116 _ A6.out).mono ?_); rintro e w' ⟨rfl, ⟨nd, rfl⟩⟩))
      go_ret
      exact ⟨by first | rfl | (simp; done) | (simp [*]; done), by repeat (first | exact Drawn0.refl _ | apply Drawn0.step)⟩
  · replace c5 := Bool.eq_false_iff.mpr c5
    subst c5
    have H1 : (some false) = some r := by rw [if_neg (show ¬ (false = true) by decide)] at H; exact H
    clear H
    have H := H1
    clear H1
    obtain rfl := Option.some.inj H
    go_enter Try.func11, Try.ntmps11
    go_wp2_with (first | ((with_reducible refine gate_callee (f := 17) rfl ?_); refine goesL_ (some 8) rfl rfl Try.func17 (by kernel_rfl) rfl #[] rfl (by (try simp only [List.map_toArray, List.map_cons, List.map_nil]); first | done | rfl | (simp only [List.length_drop, List.length_take]; rfl)) ?_; (with_reducible refine (cartridgelaw1_alive.calls k  false _ A4.out).mono ?_); rintro e w' ⟨rfl, ⟨nd, rfl⟩⟩; refine ⟨_, rfl, ?_⟩))
    go_ret
    exact ⟨by first | rfl | (simp; done) | (simp [*]; done), by repeat (first | exact Drawn0.refl _ | apply Drawn0.step)⟩

/-- THE ONE PURE STATEMENT of cartridgelaw1_GfTells: yours. -/
def cartridgelaw1_GfTells.Pure : Prop := ∀ (a0 : Int) (a1 : Int) (a2 : Int), (Lit.int .u8 a0).wf = true → (Lit.int .u8 a1).wf = true → (Lit.int .i64 a2).wf = true → ∃ k, cartridgelaw1_GfTells.f k a0 a1 a2 = some true
theorem cartridgelaw1_GfTells.walk (P : cartridgelaw1_GfTells.Pure) (a0 : Int) (a1 : Int) (a2 : Int) (w : World) (w0 : (Lit.int .u8 a0).wf = true) (w1 : (Lit.int .u8 a1).wf = true) (w2 : (Lit.int .i64 a2).wf = true) :
    Calls Try.prog 11 #[.int .u8 a0, .int .u8 a1, .int .i64 a2] w fun e w' => e = .returned (.bool true) ∧ Below w.heap.size w w' := by
  obtain ⟨k, h⟩ := P a0 a1 a2 w0 w1 w2
  refine (cartridgelaw1_GfTells.calls k a0 a1 a2 true w h).mono ?_
  rintro e w' ⟨rfl, hd⟩
  exact ⟨rfl, hd.below⟩

end Go.Proofs.Ytnbibgbelhaenaa.PGfTells
