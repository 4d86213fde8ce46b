/- The plain law of GfPowers: powers of one element add up, and 2 comes to each but 0. Conditions: none beyond those of the statement. -/
import Derived.Test.YtnbibgbelhaenaaPGfPowersx1
import Derived.Test.YtnbibgbelhaenaaGfInt
namespace Go.Proofs.Ytnbibgbelhaenaa.Pure.GfPowers
open Go.RowKit Go.Proofs.Ytnbibgbelhaenaa.PGfPowers Go.Proofs.YtnbibgbelhaenaaW.PrintWords Go.Proofs.YtnbibgbelhaenaaW.PrintLast Go.Proofs.Ytnbibgbelhaenaa.Gf

theorem mul_l0 (j : Nat) : ∀ (k : Nat) (a b o : B), b.toNat < 2 ^ j → j < k → gf_Mul.l0 k (I a) (I b) (I o) = some (I (mulL j a b o)) := by
  induction j with
  | zero =>
    intro k a b o hb hk
    obtain ⟨k, rfl⟩ : ∃ m, k = m + 1 := ⟨k - 1, by omega⟩
    have hb0 : I b = 0 := by unfold I; omega
    simp only [gf_Mul.l0]; rw [if_pos hb0]; rfl
  | succ j ih =>
    intro k a b o hb hk
    obtain ⟨k, rfl⟩ : ∃ m, k = m + 1 := ⟨k - 1, by omega⟩
    simp only [gf_Mul.l0]
    by_cases hb0 : I b = 0
    · rw [if_pos hb0]
      rw [show b = 0#8 from I_inj hb0, mulL_zero]
    rw [if_neg hb0, I_dbl, I_half, I_xor]
    have h29 : (29 : Int) = I 29#8 := rfl
    rw [h29, I_xor]
    have hr := fun a' o' => ih k a' (b >>> 1) o' (by rw [BitVec.toNat_ushiftRight, Nat.shiftRight_eq_div_pow]; rw [Nat.pow_succ] at hb; omega) (by omega)
    rw [hr, hr, hr, hr]
    simp only [mulL, xt]
    by_cases h1 : b.getLsbD 0 = true
    · rw [if_pos ((I_and1 b).2 h1)]
      by_cases h8 : a.msb = false
      · rw [if_pos ((I_and128 a).2 h8), h1, h8]; simp
      · rw [if_neg (fun h => h8 ((I_and128 a).1 h))]
        rw [Bool.not_eq_false] at h8
        rw [h1, h8]; simp
    · rw [if_neg (fun h => h1 ((I_and1 b).1 h))]
      rw [Bool.not_eq_true] at h1
      by_cases h8 : a.msb = false
      · rw [if_pos ((I_and128 a).2 h8), h1, h8]; simp
      · rw [if_neg (fun h => h8 ((I_and128 a).1 h))]
        rw [Bool.not_eq_false] at h8
        rw [h1, h8]; simp
theorem mul_f (k : Nat) (hk : 8 < k) (a b : B) : gf_Mul.f k (I a) (I b) = some (I (mul a b)) := mul_l0 8 k a b 0#8 b.isLt hk
theorem add_f (a b : B) : gf_Add.f (I a) (I b) = some (I (a ^^^ b)) := by unfold gf_Add.f; rw [I_xor]
theorem and1_i64 (n : Nat) (h : n < 256) : Go.bits .and .i64 (n : Int) 1 = ((n % 2 : Nat) : Int) := by
  have h2 : ∀ n : Fin 256, Go.bits .and .i64 (n.val : Int) 1 = ((n.val % 2 : Nat) : Int) := by decide +kernel
  exact h2 ⟨n, h⟩
theorem power_l0 (d : Nat) : ∀ (n k : Nat) (a o : B), n < 2 ^ d → n < 256 → d + 10 < k → gf_power.l0 k (I a) (n : Int) (I o) = some (I (mul o (pw a n))) := by
  induction d with
  | zero =>
    intro n k a o hn _ hk
    obtain ⟨k, rfl⟩ : ∃ m, k = m + 1 := ⟨k - 1, by omega⟩
    obtain rfl : n = 0 := by omega
    simp only [gf_power.l0]; rw [if_neg (by omega)]
    simp only [pw, mul_one]
  | succ d ih =>
    intro n k a o hn h256 hk
    obtain ⟨k, rfl⟩ : ∃ m, k = m + 1 := ⟨k - 1, by omega⟩
    simp only [gf_power.l0]
    by_cases h0 : n = 0
    · subst h0
      rw [if_neg (by omega)]
      simp only [pw, mul_one]
    rw [if_pos (by omega), and1_i64 n h256, mul_f k (by omega), mul_f k (by omega)]
    simp only [Option.bind_some]
    have h2 : (n : Int) / 2 = ((n / 2 : Nat) : Int) := by omega
    have hr := fun a' o' => ih (n / 2) k a' o' (by rw [Nat.pow_succ] at hn; omega) (by omega) (by omega)
    rw [h2, hr, hr]
    by_cases hb : n % 2 = 1
    · rw [if_pos (by omega), mul_assoc, pw_sq]
      have e : n = 1 + 2 * (n / 2) := by omega
      have : pw a n = mul a (pw a (2 * (n / 2))) := by
        conv => lhs; rw [e, pw_add]
        rw [show pw a 1 = a from by show mul 1#8 a = a; rw [mul_comm, mul_one]]
      rw [this]
    · rw [if_neg (by omega), pw_sq]
      have e : n = 2 * (n / 2) := by omega
      rw [← e]
theorem power_f (k : Nat) (hk : 20 < k) (a : B) (n : Nat) (hn : n < 256) : gf_power.f k (I a) (n : Int) = some (I (pw a n)) := by
  unfold gf_power.f
  rw [show (1 : Int) = I 1#8 from rfl, power_l0 8 n k a 1#8 hn hn (by omega), mul_comm, mul_one]
theorem inv_f (k : Nat) (hk : 20 < k) (a : B) : gf_Inv.f k (I a) = some (I (inv a)) := by
  unfold gf_Inv.f
  rw [show (254 : Int) = ((254 : Nat) : Int) from rfl, power_f k hk a 254 (by omega)]; rfl
theorem alive_f (k : Nat) (hk : 20 < k) : cartridgelaw1_alive.f k = some true := by
  unfold cartridgelaw1_alive.f
  have e2 : (2 : Int) = I 2#8 := rfl
  have e128 : (128 : Int) = I 128#8 := rfl
  have e3 : (3 : Int) = I 3#8 := rfl
  have e5 : (5 : Int) = I 5#8 := rfl
  have e7 : (7 : Int) = I 7#8 := rfl
  rw [e2, e128, e3, e5, e7, mul_f k (by omega), add_f, inv_f k hk]
  simp only [Option.bind_some]
  rw [mul_f k (by omega), mul_inv 7#8 (by decide)]
  rw [if_pos (by decide +kernel), if_pos (by decide +kernel)]
  rfl

theorem wsm {n : Int} (h0 : -3000 ≤ n) (h : n ≤ 3000) : wrap64 n = n := by unfold wrap64; omega
theorem tmod_lo (n : Int) : -254 ≤ Int.tmod n 255 := by
  rcases Int.lt_or_le n 0 with h | h
  · have h1 : Int.tmod n 255 = -(Int.tmod (-n) 255) := by rw [Int.neg_tmod]; omega
    rw [h1, Int.tmod_eq_emod_of_nonneg (by omega)]; omega
  · rw [Int.tmod_eq_emod_of_nonneg h]; omega
theorem exp_eq (n : Int) : Int.tmod (wrap64 (Int.tmod n 255 + 255)) 255 = ((n % 255).toNat : Int) := by
  rcases Int.lt_or_le n 0 with h | h
  · have h1 : Int.tmod n 255 = -(Int.tmod (-n) 255) := by rw [Int.neg_tmod]; omega
    rw [h1, Int.tmod_eq_emod_of_nonneg (by omega : 0 ≤ -n), wsm (by omega) (by omega), Int.tmod_eq_emod_of_nonneg (by omega)]
    omega
  · rw [Int.tmod_eq_emod_of_nonneg h, wsm (by omega) (by omega), Int.tmod_eq_emod_of_nonneg (by omega)]
    omega
/-- a to the n. -/
def gpow (a : B) (n : Int) : B := if n = 0 then 1#8 else if a = 0#8 then 0#8 else pw a (n % 255).toNat
theorem pow_f (k : Nat) (hk : 20 < k) (a : B) (n : Int) : gf_Pow.f k (I a) n = some (I (gpow a n)) := by
  unfold gf_Pow.f gpow
  by_cases h0 : n = 0
  · rw [if_pos h0, if_pos h0]; rfl
  rw [if_neg h0, if_neg h0]
  by_cases ha : a = 0#8
  · rw [if_pos (by rw [ha]; rfl), if_pos ha]; rfl
  · rw [if_neg (I_ne ha), if_neg ha, exp_eq, power_f k hk a _ (by omega)]; rfl
theorem gpow_ne (a : B) (ha : a ≠ 0#8) (n : Int) : gpow a n = pw a (n % 255).toNat := by
  unfold gpow
  by_cases h0 : n = 0
  · subst h0; rfl
  · rw [if_neg h0, if_neg ha]

theorem l0_f (a : B) (d : Nat) : ∀ (k i : Nat), i < 255 → lg a < 255 → E (lg a) = a → i ≤ lg a → lg a - i = d → d + 30 < k → cartridgelaw1_GfPowers.l0 k (I a) (i : Int) = some true := by
  induction d with
  | zero =>
    intro k i hi hl he h1 hd hk
    obtain ⟨k, rfl⟩ : ∃ m, k = m + 1 := ⟨k - 1, by omega⟩
    obtain rfl : i = lg a := by omega
    simp only [cartridgelaw1_GfPowers.l0]
    rw [if_pos (by omega), show (2 : Int) = I 2#8 from rfl, pow_f k (by omega), gpow_ne _ (by decide), two_E, pw_E]
    simp only [Option.bind_some]
    rw [if_pos (by rw [show 1 * (((lg a : Nat) : Int) % 255).toNat = lg a by omega, he])]
  | succ d ih =>
    intro k i hi hl he h1 hd hk
    obtain ⟨k, rfl⟩ : ∃ m, k = m + 1 := ⟨k - 1, by omega⟩
    simp only [cartridgelaw1_GfPowers.l0]
    rw [if_pos (by omega), show (2 : Int) = I 2#8 from rfl, pow_f k (by omega)]
    simp only [Option.bind_some]
    rw [wsm (by omega) (by omega)]
    have := ih k (i + 1) (by omega) hl he (by omega) (by omega) (by omega)
    rw [Int.natCast_succ] at this
    rw [this]
    split <;> rfl

end Go.Proofs.Ytnbibgbelhaenaa.Pure.GfPowers
namespace Go.Proofs.Ytnbibgbelhaenaa.Pure
open Go.RowKit Go.Proofs.Ytnbibgbelhaenaa.PGfPowers Go.Proofs.YtnbibgbelhaenaaW.PrintWords Go.Proofs.YtnbibgbelhaenaaW.PrintLast Go.Proofs.Ytnbibgbelhaenaa.Gf Go.Proofs.Ytnbibgbelhaenaa.Pure.GfPowers

theorem GfPowers : cartridgelaw1_GfPowers.Pure := by
  intro a0 n m h0 h1 h2
  refine ⟨400, ?_⟩
  obtain ⟨a, rfl⟩ := I_of h0
  unfold cartridgelaw1_GfPowers.f
  rw [alive_f 400 (by omega)]
  simp only [Option.bind_some, if_true, cartridgelaw1_GfPowers.j0]
  by_cases b1 : n < -1000
  · rw [if_pos b1]
  rw [if_neg b1]
  by_cases b2 : n > 1000
  · rw [if_pos b2]
  rw [if_neg b2]
  by_cases b3 : m < -1000
  · rw [if_pos b3]
  rw [if_neg b3]
  by_cases b4 : m > 1000
  · rw [if_pos b4]
  rw [if_neg b4]
  by_cases b5 : a = 0#8
  · subst b5; rfl
  rw [if_neg (by simpa using I_ne b5)]
  rw [wsm (by omega) (by omega), pow_f 399 (by omega), pow_f 399 (by omega), pow_f 399 (by omega), pow_f 399 (by omega)]
  simp only [Option.bind_some]
  rw [mul_f 399 (by omega)]
  simp only [Option.bind_some]
  rw [gpow_ne a b5, gpow_ne a b5, gpow_ne a b5, gpow_ne a b5, ← pw_add]
  rw [if_pos (by rw [pw_mod a b5 (m := ((n + m) % 255).toNat) (by omega)])]
  simp only [cartridgelaw1_GfPowers.j1]
  rw [if_neg (by simp only [show ((255 : Int) % 255).toNat = 0 from rfl, pw]; decide)]
  exact l0_f a (lg a) 398 0 (by omega) (lg_lt a b5) (E_lg a b5) (by omega) (by omega) (by have := lg_lt a b5; omega)

end Go.Proofs.Ytnbibgbelhaenaa.Pure
