/- The plain law of GfTells: what two elements are together and what one is to any power, as the document's reference tells. Conditions: none beyond those of the statement. -/
import Derived.Test.YtnbibgbelhaenaaPGfTellsx2
import Derived.Test.YtnbibgbelhaenaaGfInt
namespace Go.Proofs.Ytnbibgbelhaenaa.Pure.GfTells
open Go.RowKit Go.Proofs.Ytnbibgbelhaenaa.PGfTells Go.Proofs.YtnbibgbelhaenaaW.PrintWords Go.Proofs.YtnbibgbelhaenaaW.PrintLast Go.Proofs.YtnbibgbelhaenaaW.PrintMore Go.Proofs.Ytnbibgbelhaenaa.Gf
theorem mul_l0 (j : Nat) : ∀ (k : Nat) (a b o : B), b.toNat < 2 ^ j → j < k → gf_Mul.l0 k (I a) (I b) (I o) = some (I (mulL j a b o)) := by
  induction j with
  | zero =>
    intro k a b o hb hk
    obtain ⟨k, rfl⟩ : ∃ m, k = m + 1 := ⟨k - 1, by omega⟩
    have hb0 : I b = 0 := by unfold I; omega
    simp only [gf_Mul.l0]; rw [if_pos hb0]; rfl
  | succ j ih =>
    intro k a b o hb hk
    obtain ⟨k, rfl⟩ : ∃ m, k = m + 1 := ⟨k - 1, by omega⟩
    simp only [gf_Mul.l0]
    by_cases hb0 : I b = 0
    · rw [if_pos hb0]
      rw [show b = 0#8 from I_inj hb0, mulL_zero]
    rw [if_neg hb0, I_dbl, I_half, I_xor]
    have h29 : (29 : Int) = I 29#8 := rfl
    rw [h29, I_xor]
    have hr := fun a' o' => ih k a' (b >>> 1) o' (by rw [BitVec.toNat_ushiftRight, Nat.shiftRight_eq_div_pow]; rw [Nat.pow_succ] at hb; omega) (by omega)
    rw [hr, hr, hr, hr]
    simp only [mulL, xt]
    by_cases h1 : b.getLsbD 0 = true
    · rw [if_pos ((I_and1 b).2 h1)]
      by_cases h8 : a.msb = false
      · rw [if_pos ((I_and128 a).2 h8), h1, h8]; simp
      · rw [if_neg (fun h => h8 ((I_and128 a).1 h))]
        rw [Bool.not_eq_false] at h8
        rw [h1, h8]; simp
    · rw [if_neg (fun h => h1 ((I_and1 b).1 h))]
      rw [Bool.not_eq_true] at h1
      by_cases h8 : a.msb = false
      · rw [if_pos ((I_and128 a).2 h8), h1, h8]; simp
      · rw [if_neg (fun h => h8 ((I_and128 a).1 h))]
        rw [Bool.not_eq_false] at h8
        rw [h1, h8]; simp
theorem mul_f (k : Nat) (hk : 8 < k) (a b : B) : gf_Mul.f k (I a) (I b) = some (I (mul a b)) := mul_l0 8 k a b 0#8 b.isLt hk
theorem add_f (a b : B) : gf_Add.f (I a) (I b) = some (I (a ^^^ b)) := by unfold gf_Add.f; rw [I_xor]
theorem and1_i64 (n : Nat) (h : n < 256) : Go.bits .and .i64 (n : Int) 1 = ((n % 2 : Nat) : Int) := by
  have h2 : ∀ n : Fin 256, Go.bits .and .i64 (n.val : Int) 1 = ((n.val % 2 : Nat) : Int) := by decide +kernel
  exact h2 ⟨n, h⟩
theorem power_l0 (d : Nat) : ∀ (n k : Nat) (a o : B), n < 2 ^ d → n < 256 → d + 10 < k → gf_power.l0 k (I a) (n : Int) (I o) = some (I (mul o (pw a n))) := by
  induction d with
  | zero =>
    intro n k a o hn _ hk
    obtain ⟨k, rfl⟩ : ∃ m, k = m + 1 := ⟨k - 1, by omega⟩
    obtain rfl : n = 0 := by omega
    simp only [gf_power.l0]; rw [if_neg (by omega)]
    simp only [pw, mul_one]
  | succ d ih =>
    intro n k a o hn h256 hk
    obtain ⟨k, rfl⟩ : ∃ m, k = m + 1 := ⟨k - 1, by omega⟩
    simp only [gf_power.l0]
    by_cases h0 : n = 0
    · subst h0
      rw [if_neg (by omega)]
      simp only [pw, mul_one]
    rw [if_pos (by omega), and1_i64 n h256, mul_f k (by omega), mul_f k (by omega)]
    simp only [Option.bind_some]
    have h2 : (n : Int) / 2 = ((n / 2 : Nat) : Int) := by omega
    have hr := fun a' o' => ih (n / 2) k a' o' (by rw [Nat.pow_succ] at hn; omega) (by omega) (by omega)
    rw [h2, hr, hr]
    by_cases hb : n % 2 = 1
    · rw [if_pos (by omega), mul_assoc, pw_sq]
      have e : n = 1 + 2 * (n / 2) := by omega
      have : pw a n = mul a (pw a (2 * (n / 2))) := by
        conv => lhs; rw [e, pw_add]
        rw [show pw a 1 = a from by show mul 1#8 a = a; rw [mul_comm, mul_one]]
      rw [this]
    · rw [if_neg (by omega), pw_sq]
      have e : n = 2 * (n / 2) := by omega
      rw [← e]
theorem power_f (k : Nat) (hk : 20 < k) (a : B) (n : Nat) (hn : n < 256) : gf_power.f k (I a) (n : Int) = some (I (pw a n)) := by
  unfold gf_power.f
  rw [show (1 : Int) = I 1#8 from rfl, power_l0 8 n k a 1#8 hn hn (by omega), mul_comm, mul_one]
theorem inv_f (k : Nat) (hk : 20 < k) (a : B) : gf_Inv.f k (I a) = some (I (inv a)) := by
  unfold gf_Inv.f
  rw [show (254 : Int) = ((254 : Nat) : Int) from rfl, power_f k hk a 254 (by omega)]; rfl
theorem alive_f (k : Nat) (hk : 20 < k) : cartridgelaw1_alive.f k = some true := by
  unfold cartridgelaw1_alive.f
  have e2 : (2 : Int) = I 2#8 := rfl
  have e128 : (128 : Int) = I 128#8 := rfl
  have e3 : (3 : Int) = I 3#8 := rfl
  have e5 : (5 : Int) = I 5#8 := rfl
  have e7 : (7 : Int) = I 7#8 := rfl
  rw [e2, e128, e3, e5, e7, mul_f k (by omega), add_f, inv_f k hk]
  simp only [Option.bind_some]
  rw [mul_f k (by omega), mul_inv 7#8 (by decide)]
  rw [if_pos (by decide +kernel), if_pos (by decide +kernel)]
  rfl

theorem wsp {n : Int} (h0 : -3000 ≤ n) (h : n ≤ 3000) : wrap64 n = n := by unfold wrap64; omega
theorem tmod_lo (n : Int) : -254 ≤ Int.tmod n 255 := by
  rcases Int.lt_or_le n 0 with h | h
  · have h1 : Int.tmod n 255 = -(Int.tmod (-n) 255) := by rw [Int.neg_tmod]; omega
    rw [h1, Int.tmod_eq_emod_of_nonneg (by omega)]; omega
  · rw [Int.tmod_eq_emod_of_nonneg h]; omega
theorem exp_eq (n : Int) : Int.tmod (wrap64 (Int.tmod n 255 + 255)) 255 = ((n % 255).toNat : Int) := by
  rcases Int.lt_or_le n 0 with h | h
  · have h1 : Int.tmod n 255 = -(Int.tmod (-n) 255) := by rw [Int.neg_tmod]; omega
    rw [h1, Int.tmod_eq_emod_of_nonneg (by omega : 0 ≤ -n), wsp (by omega) (by omega), Int.tmod_eq_emod_of_nonneg (by omega)]
    omega
  · rw [Int.tmod_eq_emod_of_nonneg h, wsp (by omega) (by omega), Int.tmod_eq_emod_of_nonneg (by omega)]
    omega
/-- a to the n. -/
def gpow (a : B) (n : Int) : B := if n = 0 then 1#8 else if a = 0#8 then 0#8 else pw a (n % 255).toNat
theorem pow_f (k : Nat) (hk : 20 < k) (a : B) (n : Int) : gf_Pow.f k (I a) n = some (I (gpow a n)) := by
  unfold gf_Pow.f gpow
  by_cases h0 : n = 0
  · rw [if_pos h0, if_pos h0]; rfl
  rw [if_neg h0, if_neg h0]
  by_cases ha : a = 0#8
  · rw [if_pos (by rw [ha]; rfl), if_pos ha]; rfl
  · rw [if_neg (I_ne ha), if_neg ha, exp_eq, power_f k hk a _ (by omega)]; rfl
theorem gpow_ne (a : B) (ha : a ≠ 0#8) (n : Int) : gpow a n = pw a (n % 255).toNat := by
  unfold gpow
  by_cases h0 : n = 0
  · subst h0; rfl
  · rw [if_neg h0, if_neg ha]

theorem div_f (k : Nat) (hk : 20 < k) (a b : B) : gf_Div.f k (I a) (I b) = some (I (mul a (inv b))) := by
  unfold gf_Div.f
  rw [inv_f k hk]; simp only [Option.bind_some]; rw [mul_f k (by omega)]; rfl

/-! the reference's multiplication: without carry in sixteen places, then reduced -/
abbrev D := BitVec 16
def clL : Nat → Nat → D → B → D → D
  | 0, _, _, _, x => x
  | k + 1, i, a, b, x => clL k (i + 1) a b (bif b.getLsbD i then x ^^^ (a <<< i) else x)
def rdL : Nat → Nat → D → D
  | 0, _, x => x
  | k + 1, i, x => rdL k (i - 1) (bif x.getLsbD i then x ^^^ (0x11d#16 <<< (i - 8)) else x)
theorem clL_xor (k : Nat) : ∀ i a b d x y, clL k i a (b ^^^ d) (x ^^^ y) = clL k i a b x ^^^ clL k i a d y := by
  induction k with
  | zero => intros; rfl
  | succ k ih =>
    intro i a b d x y
    simp only [clL]
    rw [← ih, BitVec.getLsbD_xor]
    congr 1
    cases b.getLsbD i <;> cases d.getLsbD i <;> simp
    · ac_rfl
    · ac_rfl
    · have : x ^^^ a <<< i ^^^ (y ^^^ a <<< i) = (x ^^^ y) ^^^ (a <<< i ^^^ a <<< i) := by ac_rfl
      rw [this]; simp
theorem rdL_xor (k : Nat) : ∀ i x y, rdL k i (x ^^^ y) = rdL k i x ^^^ rdL k i y := by
  induction k with
  | zero => intros; rfl
  | succ k ih =>
    intro i x y
    simp only [rdL]
    rw [← ih, BitVec.getLsbD_xor]
    congr 1
    cases x.getLsbD i <;> cases y.getLsbD i <;> simp
    · ac_rfl
    · ac_rfl
    · generalize 0x11d#16 <<< (i - 8) = c
      have : x ^^^ c ^^^ (y ^^^ c) = (x ^^^ y) ^^^ (c ^^^ c) := by ac_rfl
      rw [this]; simp
def rmul (a b : B) : B := (rdL 7 14 (clL 8 0 (a.setWidth 16) b 0#16)).setWidth 8
theorem rmul_base : ∀ i : Fin 8, ∀ a : B, rmul a (1#8 <<< i.val) = mul a (1#8 <<< i.val) := by decide +kernel
theorem rmul_zero : ∀ a : B, rmul a 0#8 = 0#8 := by decide +kernel
theorem rmul_eq (a b : B) : rmul a b = mul a b := by
  refine lin_ind (fun b => rmul a b = mul a b) ?_ ?_ ?_ b
  · rw [rmul_zero, mul_zero]
  · intro c d hc hd
    rw [mul_xor_right, ← hc, ← hd]
    unfold rmul
    have := clL_xor 8 0 (a.setWidth 16) c d 0#16 0#16
    rw [BitVec.xor_self] at this
    rw [this, rdL_xor, BitVec.setWidth_xor]
  · intro i hi
    exact rmul_base ⟨i, hi⟩ a
def J (x : D) : Int := (x.toNat : Int)
theorem bv64_xor (n m : Nat) (hn : n < 18446744073709551616) (hm : m < 18446744073709551616) : (BitVec.ofNat 64 n ^^^ BitVec.ofNat 64 m).toNat = n ^^^ m := by
  rw [BitVec.toNat_xor, BitVec.toNat_ofNat, BitVec.toNat_ofNat, Nat.mod_eq_of_lt hn, Nat.mod_eq_of_lt hm]
theorem bv64_and (n m : Nat) (hn : n < 18446744073709551616) (hm : m < 18446744073709551616) : (BitVec.ofNat 64 n &&& BitVec.ofNat 64 m).toNat = n &&& m := by
  rw [BitVec.toNat_and, BitVec.toNat_ofNat, BitVec.toNat_ofNat, Nat.mod_eq_of_lt hn, Nat.mod_eq_of_lt hm]
theorem J_xor (a b : D) : Go.bits .xor .i64 (J a) (J b) = J (a ^^^ b) := by
  show IntKind.i64.wrap (((BitVec.ofInt 64 (a.toNat : Int)) ^^^ (BitVec.ofInt 64 (b.toNat : Int))).toNat : Int) = ((a ^^^ b).toNat : Int)
  have ha := a.isLt
  have hb := b.isLt
  rw [BitVec.ofInt_natCast, BitVec.ofInt_natCast, bv64_xor _ _ (by omega) (by omega), ← BitVec.toNat_xor, IntKind.wrap_i64]
  have := (a ^^^ b).isLt
  omega
theorem u64_nat (i : Nat) (h : i < 100) : IntKind.u64.wrap (i : Int) = (i : Int) := by
  have h2 : ∀ n : Fin 100, IntKind.u64.wrap (n.val : Int) = (n.val : Int) := by decide +kernel
  exact h2 ⟨i, h⟩
theorem bit_b : ∀ i : Fin 8, ∀ b : B, (Go.bits .and .u8 (shr .u8 (I b) (i.val : Int)) 1 = (1 : Int)) ↔ b.getLsbD i.val = true := by decide +kernel
theorem shl_a : ∀ i : Fin 8, ∀ a : B, shl .i64 (wrap64 (I a)) (i.val : Int) = J (a.setWidth 16 <<< i.val) := by decide +kernel
theorem shl_p : ∀ i : Fin 8, shl .i64 285 (i.val : Int) = J (0x11d#16 <<< i.val) := by decide +kernel
theorem and1_J (n : Nat) (h : n < 18446744073709551616) : Go.bits .and .i64 (n : Int) 1 = ((n % 2 : Nat) : Int) := by
  show IntKind.i64.wrap (((BitVec.ofInt 64 (n : Int)) &&& (BitVec.ofNat 64 1)).toNat : Int) = _
  rw [BitVec.ofInt_natCast, bv64_and _ _ h (by omega), Nat.and_one_is_mod, IntKind.wrap_i64]
  omega
theorem bit_x (x : D) (i : Nat) (hi : i < 16) : (Go.bits .and .i64 (shr .i64 (J x) (i : Int)) 1 = (1 : Int)) ↔ x.getLsbD i = true := by
  have e : shr .i64 (J x) (i : Int) = ((x.toNat >>> i : Nat) : Int) := by
    unfold shr J
    rw [show min (i : Int).toNat IntKind.i64.bits = i by simp only [IntKind.bits, Int.toNat_natCast]; omega, Nat.shiftRight_eq_div_pow]
    simp
  have hx := x.isLt
  have hle : x.toNat >>> i ≤ x.toNat := by rw [Nat.shiftRight_eq_div_pow]; exact Nat.div_le_self _ _
  rw [e, and1_J _ (by omega), BitVec.getLsbD, Nat.testBit_eq_decide_div_mod_eq, ← Nat.shiftRight_eq_div_pow]
  simp only [decide_eq_true_eq]
  omega
theorem wsm {n : Int} (h0 : -1 ≤ n) (h : n ≤ 300) : wrap64 n = n := by unfold wrap64; omega
theorem rl1 (d : Nat) : ∀ (k i : Nat) (x : D), i ≤ 14 → i + 1 = d + 8 → d < k → cartridgeref1_Mul.l1 k (J x) (i : Int) = some (I ((rdL d i x).setWidth 8)) := by
  induction d with
  | zero =>
    intro k i x hi hd hk
    obtain ⟨k, rfl⟩ : ∃ m, k = m + 1 := ⟨k - 1, by omega⟩
    simp only [cartridgeref1_Mul.l1]
    rw [if_neg (by omega)]
    simp only [rdL]
    unfold I J
    rw [BitVec.toNat_setWidth]
    simp
  | succ d ih =>
    intro k i x hi hd hk
    obtain ⟨k, rfl⟩ : ∃ m, k = m + 1 := ⟨k - 1, by omega⟩
    simp only [cartridgeref1_Mul.l1]
    have h8 : (8 : Int) = ((8 : Nat) : Int) := rfl
    have e8 : wrap64 ((i : Int) - 8) = ((i - 8 : Nat) : Int) := by rw [wsm (by omega) (by omega)]; omega
    have e1 : wrap64 ((i : Int) - 1) = ((i - 1 : Nat) : Int) := by rw [wsm (by omega) (by omega)]; omega
    rw [if_pos (by omega), e8, e1, u64_nat i (by omega), u64_nat (i - 8) (by omega), if_pos (by omega)]
    simp only [rdL]
    by_cases hb : x.getLsbD i = true
    · rw [if_pos ((bit_x x i (by omega)).2 hb), if_pos (by omega), shl_p ⟨i - 8, by omega⟩, J_xor, ih k (i - 1) _ (by omega) (by omega) (by omega), hb]
      rfl
    · rw [if_neg (fun h => hb ((bit_x x i (by omega)).1 h)), ih k (i - 1) _ (by omega) (by omega) (by omega)]
      rw [Bool.not_eq_true] at hb
      rw [hb]; rfl
theorem rl0 (a b : B) (d : Nat) : ∀ (k i : Nat) (x : D), i ≤ 8 → i + d = 8 → d + 8 < k → cartridgeref1_Mul.l0 k (I a) (I b) (J x) (i : Int) = some (I ((rdL 7 14 (clL d i (a.setWidth 16) b x)).setWidth 8)) := by
  induction d with
  | zero =>
    intro k i x hi hd hk
    obtain ⟨k, rfl⟩ : ∃ m, k = m + 1 := ⟨k - 1, by omega⟩
    simp only [cartridgeref1_Mul.l0]
    rw [if_neg (by omega)]
    exact rl1 7 k 14 x (by omega) (by omega) (by omega)
  | succ d ih =>
    intro k i x hi hd hk
    obtain ⟨k, rfl⟩ : ∃ m, k = m + 1 := ⟨k - 1, by omega⟩
    simp only [cartridgeref1_Mul.l0]
    have e1 : wrap64 ((i : Int) + 1) = ((i + 1 : Nat) : Int) := by rw [wsm (by omega) (by omega)]; omega
    rw [if_pos (by omega), e1, u64_nat i (by omega), if_pos (by omega)]
    simp only [clL]
    by_cases hb : b.getLsbD i = true
    · rw [if_pos ((bit_b ⟨i, by omega⟩ b).2 hb), shl_a ⟨i, by omega⟩, J_xor, ih k (i + 1) _ (by omega) (by omega) (by omega), hb]
      rfl
    · rw [if_neg (fun h => hb ((bit_b ⟨i, by omega⟩ b).1 h)), ih k (i + 1) _ (by omega) (by omega) (by omega)]
      rw [Bool.not_eq_true] at hb
      rw [hb]; rfl
theorem rmul_f (k : Nat) (hk : 16 < k) (a b : B) : cartridgeref1_Mul.f k (I a) (I b) = some (I (mul a b)) := by
  unfold cartridgeref1_Mul.f
  rw [← rmul_eq]
  exact rl0 a b 8 k 0 0#16 (by omega) (by omega) (by omega)
theorem rinv_l0 (a : B) (d : Nat) : ∀ (k i : Nat), i ≤ 254 → i + d = 254 → d + 20 < k → cartridgeref1_Inv.l0 k (I a) (I (pw a i)) (i : Int) = some (I (inv a)) := by
  induction d with
  | zero =>
    intro k i hi hd hk
    obtain ⟨k, rfl⟩ : ∃ m, k = m + 1 := ⟨k - 1, by omega⟩
    obtain rfl : i = 254 := by omega
    simp only [cartridgeref1_Inv.l0]
    rw [if_neg (by omega)]; rfl
  | succ d ih =>
    intro k i hi hd hk
    obtain ⟨k, rfl⟩ : ∃ m, k = m + 1 := ⟨k - 1, by omega⟩
    simp only [cartridgeref1_Inv.l0]
    have e1 : wrap64 ((i : Int) + 1) = ((i + 1 : Nat) : Int) := by rw [wsm (by omega) (by omega)]; omega
    rw [if_pos (by omega), rmul_f k (by omega), e1]
    exact ih k (i + 1) (by omega) (by omega) (by omega)
theorem rinv_f (k : Nat) (hk : 280 < k) (a : B) : cartridgeref1_Inv.f k (I a) = some (I (inv a)) := by
  unfold cartridgeref1_Inv.f
  exact rinv_l0 a 254 k 0 (by omega) (by omega) (by omega)
theorem rpow_l0 (a : B) (n : Nat) (hn : n < 255) (d : Nat) : ∀ (k i : Nat), i ≤ n → i + d = n → d + 20 < k → cartridgeref1_Pow.l0 k (I a) (n : Int) (I (pw a i)) (i : Int) = some (I (pw a n)) := by
  induction d with
  | zero =>
    intro k i hi hd hk
    obtain ⟨k, rfl⟩ : ∃ m, k = m + 1 := ⟨k - 1, by omega⟩
    obtain rfl : i = n := by omega
    simp only [cartridgeref1_Pow.l0]
    rw [if_neg (by omega)]
  | succ d ih =>
    intro k i hi hd hk
    obtain ⟨k, rfl⟩ : ∃ m, k = m + 1 := ⟨k - 1, by omega⟩
    simp only [cartridgeref1_Pow.l0]
    have e1 : wrap64 ((i : Int) + 1) = ((i + 1 : Nat) : Int) := by rw [wsm (by omega) (by omega)]; omega
    rw [if_pos (by omega), rmul_f k (by omega), e1]
    exact ih k (i + 1) (by omega) (by omega) (by omega)
theorem rpow_j1 (k : Nat) (hk : 280 < k) (a : B) (n : Nat) (hn : n < 255) : cartridgeref1_Pow.j1 k (I a) (n : Int) = some (I (if a = 0#8 then 0#8 else pw a n)) := by
  obtain ⟨k, rfl⟩ : ∃ m, k = m + 1 := ⟨k - 1, by omega⟩
  simp only [cartridgeref1_Pow.j1]
  by_cases ha : a = 0#8
  · rw [if_pos (by rw [ha]; rfl), if_pos ha]; rfl
  · rw [if_neg (I_ne ha), if_neg ha]
    exact rpow_l0 a n hn n k 0 (by omega) (by omega) (by omega)
theorem rpow_j0 (k : Nat) (hk : 281 < k) (a : B) (n : Int) : cartridgeref1_Pow.j0 k (I a) n = some (I (if a = 0#8 then 0#8 else pw a (Int.tmod n 255).natAbs)) := by
  obtain ⟨k, rfl⟩ : ∃ m, k = m + 1 := ⟨k - 1, by omega⟩
  simp only [cartridgeref1_Pow.j0]
  have hb : (Int.tmod n 255).natAbs < 255 := by
    rcases Int.lt_or_le n 0 with h | h
    · have h1 : Int.tmod n 255 = -(Int.tmod (-n) 255) := by rw [Int.neg_tmod]; omega
      rw [h1, Int.tmod_eq_emod_of_nonneg (by omega)]; omega
    · rw [Int.tmod_eq_emod_of_nonneg h]; omega
  have ht : -254 ≤ Int.tmod n 255 ∧ Int.tmod n 255 ≤ 254 := by omega
  generalize hm : Int.tmod n 255 = m at *
  by_cases h : m < 0
  · rw [if_pos h, wsm (by omega) (by omega), show -m = ((m.natAbs : Nat) : Int) by omega]
    exact rpow_j1 k (by omega) a _ hb
  · rw [if_neg h]
    conv => lhs; rw [show m = ((m.natAbs : Nat) : Int) by omega]
    exact rpow_j1 k (by omega) a _ hb
theorem tmod_abs_pos (n : Int) (h : 0 ≤ n) : (Int.tmod n 255).natAbs = (n % 255).toNat := by
  rw [Int.tmod_eq_emod_of_nonneg h]; omega
theorem tmod_abs_neg (n : Int) (h : n < 0) : ((Int.tmod n 255).natAbs + (n % 255).toNat) % 255 = 0 := by
  have h1 : Int.tmod n 255 = -(Int.tmod (-n) 255) := by rw [Int.neg_tmod]; omega
  rw [h1, Int.tmod_eq_emod_of_nonneg (by omega)]; omega
theorem inv_eq_zero (a : B) : inv a = 0#8 ↔ a = 0#8 := by
  constructor
  · intro h
    by_cases ha : a = 0#8
    · exact ha
    · have := mul_inv a ha
      rw [h, mul_zero] at this
      exact absurd this (by decide)
  · rintro rfl; exact inv_zero
theorem rpow_f (k : Nat) (hk : 290 < k) (a : B) (n : Int) : cartridgeref1_Pow.f k (I a) n = some (I (gpow a n)) := by
  unfold cartridgeref1_Pow.f gpow
  by_cases h0 : n = 0
  · rw [if_pos h0, if_pos h0]; rfl
  rw [if_neg h0, if_neg h0]
  by_cases hn : n < 0
  · rw [if_pos hn, rinv_f k (by omega)]
    simp only [Option.bind_some]
    rw [rpow_j0 k (by omega)]
    by_cases ha : a = 0#8
    · rw [if_pos ((inv_eq_zero a).2 ha), if_pos ha]
    · rw [if_neg (fun h => ha ((inv_eq_zero a).1 h)), if_neg ha, pw_inv a ha (tmod_abs_neg n hn)]
  · rw [if_neg hn, rpow_j0 k (by omega), tmod_abs_pos n (by omega)]

end Go.Proofs.Ytnbibgbelhaenaa.Pure.GfTells
namespace Go.Proofs.Ytnbibgbelhaenaa.Pure
open Go.RowKit Go.Proofs.Ytnbibgbelhaenaa.PGfTells Go.Proofs.YtnbibgbelhaenaaW.PrintWords Go.Proofs.YtnbibgbelhaenaaW.PrintLast Go.Proofs.Ytnbibgbelhaenaa.Gf Go.Proofs.Ytnbibgbelhaenaa.Pure.GfTells

theorem GfTells : cartridgelaw1_GfTells.Pure := by
  intro a0 a1 n h0 h1 h2
  refine ⟨400, ?_⟩
  obtain ⟨a, rfl⟩ := I_of h0
  obtain ⟨b, rfl⟩ := I_of h1
  unfold cartridgelaw1_GfTells.f
  rw [alive_f 400 (by omega), add_f, mul_f 400 (by omega), rmul_f 400 (by omega), inv_f 400 (by omega), rinv_f 400 (by omega), div_f 400 (by omega), rinv_f 400 (by omega), pow_f 400 (by omega), rpow_f 400 (by omega)]
  simp only [Option.bind_some, if_true]
  rw [rmul_f 400 (by omega), I_xor]
  simp only [Option.bind_some, if_true, beq_self_eq_true]

end Go.Proofs.Ytnbibgbelhaenaa.Pure
