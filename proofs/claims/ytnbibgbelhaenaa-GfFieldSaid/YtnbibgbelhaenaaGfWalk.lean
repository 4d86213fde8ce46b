/- What the functions of package gf compute, and the walk of GfField over them. Conditions: none beyond those of the statement. -/
import Derived.Test.YtnbibgbelhaenaaPGfOrderx1
import Derived.Test.YtnbibgbelhaenaaGfInt
import Derived.Test.YtnbibgbelhaenaaPureGfOrder
namespace Go.Proofs.Ytnbibgbelhaenaa.GfWalk
open Go.RowKit Go.Proofs.Ytnbibgbelhaenaa.PGfOrder Go.Proofs.YtnbibgbelhaenaaW.PrintWords Go.Proofs.YtnbibgbelhaenaaW.PrintLast Go.Proofs.Ytnbibgbelhaenaa.Gf Go.Proofs.Ytnbibgbelhaenaa.Pure.GfOrder
theorem mul_any (a b : B) (w : World) : Calls Try.prog 18 #[.int .u8 (I a), .int .u8 (I b)] w fun e w' => e = .returned (.int .u8 (I (mul a b))) ∧ ∃ n, w' = w.drewN n :=
  (gf_Mul.calls 10 (I a) (I b) _ w (mul_f 10 (by omega) a b)).mono fun _ _ ⟨h, h'⟩ => ⟨h, h'.out⟩
theorem add_any (a b : B) (w : World) : Calls Try.prog 19 #[.int .u8 (I a), .int .u8 (I b)] w fun e w' => e = .returned (.int .u8 (I (a ^^^ b))) ∧ ∃ n, w' = w.drewN n :=
  (gf_Add.calls (I a) (I b) _ w (add_f a b)).mono fun _ _ ⟨h, h'⟩ => ⟨h, h'.out⟩
theorem div_any (a b : B) (w : World) : Calls Try.prog 20 #[.int .u8 (I a), .int .u8 (I b)] w fun e w' => e = .returned (.int .u8 (I (mul a (inv b)))) ∧ ∃ n, w' = w.drewN n :=
  (gf_Div.calls 30 (I a) (I b) _ w (div_f 30 (by omega) a b)).mono fun _ _ ⟨h, h'⟩ => ⟨h, h'.out⟩
theorem alive_any (w : World) : Calls Try.prog 17 #[] w fun e w' => e = .returned (.bool true) ∧ ∃ n, w' = w.drewN n :=
  (cartridgelaw1_alive.calls 30 _ w (alive_f 30 (by omega))).mono fun _ _ ⟨h, h'⟩ => ⟨h, h'.out⟩
theorem bne_of {x y : Int} (h : x = y) : (x != y) = false := by simp [h]
theorem beq_of {x y : Int} (h : x = y) : (x == y) = true := by simp [h]
theorem mul_one_any (a : B) (w : World) : Calls Try.prog 18 #[.int .u8 (I a), .int .u8 1] w fun e w' => e = .returned (.int .u8 (I a)) ∧ ∃ n, w' = w.drewN n := by
  have := mul_any a 1#8 w
  rwa [mul_one] at this
theorem mul_zero_any (a : B) (w : World) : Calls Try.prog 18 #[.int .u8 (I a), .int .u8 0] w fun e w' => e = .returned (.int .u8 0) ∧ ∃ n, w' = w.drewN n := by
  have := mul_any a 0#8 w
  rwa [mul_zero] at this
theorem field_walk (a b c : B) (w : World) : Calls Try.prog 7 #[.int .u8 (I a), .int .u8 (I b), .int .u8 (I c)] w fun e w' => e = .returned (.bool true) ∧ ∃ n, w' = w.drewN n := by
  have t1 : (I (mul a b) != I (mul b a)) = false := bne_of (by rw [mul_comm])
  have t2 : (I (mul (mul a b) c) != I (mul a (mul b c))) = false := bne_of (by rw [mul_assoc])
  have t3 : (I (mul a (b ^^^ c)) != I (mul a b ^^^ mul a c)) = false := bne_of (by rw [mul_xor_right])
  have t4 : (I a != I a) = false := bne_of rfl
  have t5 : (I (a ^^^ a) != 0) = false := bne_of (by rw [BitVec.xor_self]; rfl)
  by_cases hb : I b = 0
  · have t6 : (I b == 0) = true := beq_of hb
    clear hb
    go_enter Try.func7, Try.ntmps7
    go_wp2_with (first
      | (go_at_call 17; refine (alive_any _).mono ?_; rintro e w' ⟨rfl, nd, rfl⟩)
      | (go_at_call 18; (with_reducible refine (mul_one_any a _).mono ?_); rintro e w' ⟨rfl, nd, rfl⟩)
      | (go_at_call 18; (with_reducible refine (mul_zero_any a _).mono ?_); rintro e w' ⟨rfl, nd, rfl⟩)
      | (go_at_call 18; (with_reducible refine (mul_any _ _ _).mono ?_); rintro e w' ⟨rfl, nd, rfl⟩)
      | (go_at_call 19; (with_reducible refine (add_any _ _ _).mono ?_); rintro e w' ⟨rfl, nd, rfl⟩))
    go_ret
    exact ⟨rfl, _, rfl⟩
  · have t6 : (I b == 0) = false := by simpa using hb
    have hb' : b ≠ 0#8 := fun h => hb (by rw [h]; rfl)
    have t7 : (I (mul (mul a (inv b)) b) == I a) = true := beq_of (by rw [mul_assoc, mul_comm (inv b), mul_inv b hb', mul_one])
    clear hb hb'
    go_enter Try.func7, Try.ntmps7
    go_wp2_with (first
      | (go_at_call 17; refine (alive_any _).mono ?_; rintro e w' ⟨rfl, nd, rfl⟩)
      | (go_at_call 18; (with_reducible refine (mul_one_any a _).mono ?_); rintro e w' ⟨rfl, nd, rfl⟩)
      | (go_at_call 18; (with_reducible refine (mul_zero_any a _).mono ?_); rintro e w' ⟨rfl, nd, rfl⟩)
      | (go_at_call 18; (with_reducible refine (mul_any _ _ _).mono ?_); rintro e w' ⟨rfl, nd, rfl⟩)
      | (go_at_call 19; (with_reducible refine (add_any _ _ _).mono ?_); rintro e w' ⟨rfl, nd, rfl⟩)
      | (go_at_call 20; (with_reducible refine (div_any _ _ _).mono ?_); rintro e w' ⟨rfl, nd, rfl⟩))
    go_ret
    exact ⟨rfl, _, rfl⟩
end Go.Proofs.Ytnbibgbelhaenaa.GfWalk
