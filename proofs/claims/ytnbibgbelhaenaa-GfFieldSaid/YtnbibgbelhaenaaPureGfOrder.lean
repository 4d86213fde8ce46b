/- The plain law of GfOrder: sums have no order, each is its own opposite, what is divided by itself is 1. Conditions: none beyond those of the statement. -/
import Derived.Test.YtnbibgbelhaenaaPGfOrderx1
import Derived.Test.YtnbibgbelhaenaaGfInt
namespace Go.Proofs.Ytnbibgbelhaenaa.Pure.GfOrder
open Go.RowKit Go.Proofs.Ytnbibgbelhaenaa.PGfOrder Go.Proofs.YtnbibgbelhaenaaW.PrintWords Go.Proofs.YtnbibgbelhaenaaW.PrintLast Go.Proofs.Ytnbibgbelhaenaa.Gf

theorem mul_l0 (j : Nat) : ∀ (k : Nat) (a b o : B), b.toNat < 2 ^ j → j < k → gf_Mul.l0 k (I a) (I b) (I o) = some (I (mulL j a b o)) := by
  induction j with
  | zero =>
    intro k a b o hb hk
    obtain ⟨k, rfl⟩ : ∃ m, k = m + 1 := ⟨k - 1, by omega⟩
    have hb0 : I b = 0 := by unfold I; omega
    simp only [gf_Mul.l0]; rw [if_pos hb0]; rfl
  | succ j ih =>
    intro k a b o hb hk
    obtain ⟨k, rfl⟩ : ∃ m, k = m + 1 := ⟨k - 1, by omega⟩
    simp only [gf_Mul.l0]
    by_cases hb0 : I b = 0
    · rw [if_pos hb0]
      rw [show b = 0#8 from I_inj hb0, mulL_zero]
    rw [if_neg hb0, I_dbl, I_half, I_xor]
    have h29 : (29 : Int) = I 29#8 := rfl
    rw [h29, I_xor]
    have hr := fun a' o' => ih k a' (b >>> 1) o' (by rw [BitVec.toNat_ushiftRight, Nat.shiftRight_eq_div_pow]; rw [Nat.pow_succ] at hb; omega) (by omega)
    rw [hr, hr, hr, hr]
    simp only [mulL, xt]
    by_cases h1 : b.getLsbD 0 = true
    · rw [if_pos ((I_and1 b).2 h1)]
      by_cases h8 : a.msb = false
      · rw [if_pos ((I_and128 a).2 h8), h1, h8]; simp
      · rw [if_neg (fun h => h8 ((I_and128 a).1 h))]
        rw [Bool.not_eq_false] at h8
        rw [h1, h8]; simp
    · rw [if_neg (fun h => h1 ((I_and1 b).1 h))]
      rw [Bool.not_eq_true] at h1
      by_cases h8 : a.msb = false
      · rw [if_pos ((I_and128 a).2 h8), h1, h8]; simp
      · rw [if_neg (fun h => h8 ((I_and128 a).1 h))]
        rw [Bool.not_eq_false] at h8
        rw [h1, h8]; simp
theorem mul_f (k : Nat) (hk : 8 < k) (a b : B) : gf_Mul.f k (I a) (I b) = some (I (mul a b)) := mul_l0 8 k a b 0#8 b.isLt hk
theorem add_f (a b : B) : gf_Add.f (I a) (I b) = some (I (a ^^^ b)) := by unfold gf_Add.f; rw [I_xor]
theorem and1_i64 (n : Nat) (h : n < 256) : Go.bits .and .i64 (n : Int) 1 = ((n % 2 : Nat) : Int) := by
  have h2 : ∀ n : Fin 256, Go.bits .and .i64 (n.val : Int) 1 = ((n.val % 2 : Nat) : Int) := by decide +kernel
  exact h2 ⟨n, h⟩
theorem power_l0 (d : Nat) : ∀ (n k : Nat) (a o : B), n < 2 ^ d → n < 256 → d + 10 < k → gf_power.l0 k (I a) (n : Int) (I o) = some (I (mul o (pw a n))) := by
  induction d with
  | zero =>
    intro n k a o hn _ hk
    obtain ⟨k, rfl⟩ : ∃ m, k = m + 1 := ⟨k - 1, by omega⟩
    obtain rfl : n = 0 := by omega
    simp only [gf_power.l0]; rw [if_neg (by omega)]
    simp only [pw, mul_one]
  | succ d ih =>
    intro n k a o hn h256 hk
    obtain ⟨k, rfl⟩ : ∃ m, k = m + 1 := ⟨k - 1, by omega⟩
    simp only [gf_power.l0]
    by_cases h0 : n = 0
    · subst h0
      rw [if_neg (by omega)]
      simp only [pw, mul_one]
    rw [if_pos (by omega), and1_i64 n h256, mul_f k (by omega), mul_f k (by omega)]
    simp only [Option.bind_some]
    have h2 : (n : Int) / 2 = ((n / 2 : Nat) : Int) := by omega
    have hr := fun a' o' => ih (n / 2) k a' o' (by rw [Nat.pow_succ] at hn; omega) (by omega) (by omega)
    rw [h2, hr, hr]
    by_cases hb : n % 2 = 1
    · rw [if_pos (by omega), mul_assoc, pw_sq]
      have e : n = 1 + 2 * (n / 2) := by omega
      have : pw a n = mul a (pw a (2 * (n / 2))) := by
        conv => lhs; rw [e, pw_add]
        rw [show pw a 1 = a from by show mul 1#8 a = a; rw [mul_comm, mul_one]]
      rw [this]
    · rw [if_neg (by omega), pw_sq]
      have e : n = 2 * (n / 2) := by omega
      rw [← e]
theorem power_f (k : Nat) (hk : 20 < k) (a : B) (n : Nat) (hn : n < 256) : gf_power.f k (I a) (n : Int) = some (I (pw a n)) := by
  unfold gf_power.f
  rw [show (1 : Int) = I 1#8 from rfl, power_l0 8 n k a 1#8 hn hn (by omega), mul_comm, mul_one]
theorem inv_f (k : Nat) (hk : 20 < k) (a : B) : gf_Inv.f k (I a) = some (I (inv a)) := by
  unfold gf_Inv.f
  rw [show (254 : Int) = ((254 : Nat) : Int) from rfl, power_f k hk a 254 (by omega)]; rfl
theorem alive_f (k : Nat) (hk : 20 < k) : cartridgelaw1_alive.f k = some true := by
  unfold cartridgelaw1_alive.f
  have e2 : (2 : Int) = I 2#8 := rfl
  have e128 : (128 : Int) = I 128#8 := rfl
  have e3 : (3 : Int) = I 3#8 := rfl
  have e5 : (5 : Int) = I 5#8 := rfl
  have e7 : (7 : Int) = I 7#8 := rfl
  rw [e2, e128, e3, e5, e7, mul_f k (by omega), add_f, inv_f k hk]
  simp only [Option.bind_some]
  rw [mul_f k (by omega), mul_inv 7#8 (by decide)]
  rw [if_pos (by decide +kernel), if_pos (by decide +kernel)]
  rfl

theorem div_f (k : Nat) (hk : 20 < k) (a b : B) : gf_Div.f k (I a) (I b) = some (I (mul a (inv b))) := by
  unfold gf_Div.f
  rw [inv_f k hk]; simp only [Option.bind_some]; rw [mul_f k (by omega)]; rfl

theorem wsm {n : Int} (h0 : -1 ≤ n) (h : n ≤ 200) : wrap64 n = n := by unfold wrap64; omega
theorem rd_I (l : List B) (i : Nat) (h : i < l.length) : rd (l.map I) (i : Int) = I l[i] := by
  unfold rd; simp [h]
def X (l : List B) : B := l.foldl (· ^^^ ·) 0#8
theorem foldl_xor (l : List B) : ∀ a b : B, l.foldl (· ^^^ ·) (a ^^^ b) = a ^^^ l.foldl (· ^^^ ·) b := by
  induction l with
  | nil => intro a b; rfl
  | cons x l ih => intro a b; simp only [List.foldl_cons]; rw [BitVec.xor_assoc, ih]
theorem X_snoc (l : List B) (b : B) : X (l ++ [b]) = X l ^^^ b := by unfold X; rw [List.foldl_append]; rfl
theorem X_cons (l : List B) (b : B) : X (b :: l) = b ^^^ X l := by
  unfold X; rw [List.foldl_cons]
  have := foldl_xor l b 0#8
  rw [BitVec.xor_comm 0#8 b, this]
theorem X_mul (c : B) (l : List B) : X (l.map (mul c)) = mul c (X l) := by
  induction l with
  | nil => exact (mul_zero c).symm
  | cons a l ih => rw [List.map_cons, X_cons, X_cons, ih, mul_xor_right]
theorem take_snoc (l : List B) (i : Nat) (h : i < l.length) : l.take (i + 1) = l.take i ++ [l[i]] := List.take_succ_eq_append_getElem h
theorem drop_cons (l : List B) (i : Nat) (h : i < l.length) : l.drop i = l[i] :: l.drop (i + 1) := List.drop_eq_getElem_cons h
/-- The second loop and the end. -/
theorem l1_f (l : List B) (c : B) (hl : l.length ≤ 100) (x : B) (hx : x = X l) (d : Nat) : ∀ (k i : Nat), i ≤ l.length → l.length - i = d → d + 30 < k →
    cartridgelaw1_GfOrder.l1 k (l.map I) (I c) (I x) (I x) (I (X ((l.take i).map (mul c)))) (i : Int) = some true := by
  induction d with
  | zero =>
    intro k i hi hd hk
    obtain ⟨k, rfl⟩ : ∃ m, k = m + 1 := ⟨k - 1, by omega⟩
    obtain rfl : i = l.length := by omega
    simp only [cartridgelaw1_GfOrder.l1]
    rw [if_neg (by simp)]
    rw [if_pos trivial, mul_f k (by omega), div_f k (by omega)]
    simp only [Option.bind_some]
    rw [List.take_length, X_mul, ← hx, if_pos rfl]
    by_cases hc : c = 0#8
    · subst hc
      rw [if_pos I_zero, zero_mul, if_pos I_zero]
    · rw [if_neg (I_ne hc), mul_inv c hc]; rfl
  | succ d ih =>
    intro k i hi hd hk
    obtain ⟨k, rfl⟩ : ∃ m, k = m + 1 := ⟨k - 1, by omega⟩
    have hlt : i < l.length := by omega
    simp only [cartridgelaw1_GfOrder.l1]
    rw [if_pos (by rw [List.length_map]; omega), if_pos (by omega), rd_I l i hlt, mul_f k (by omega)]
    simp only [Option.bind_some]
    rw [add_f]; simp only [Option.bind_some]
    rw [wsm (by omega) (by omega)]
    have hs : X ((l.take i).map (mul c)) ^^^ mul c l[i] = X ((l.take (i + 1)).map (mul c)) := by
      rw [take_snoc l i hlt, List.map_append, List.map_cons, List.map_nil, X_snoc]
    rw [hs]
    exact ih k (i + 1) (by omega) (by omega) (by omega)
/-- The first loop. -/
theorem l0_f (l : List B) (c : B) (hl : l.length ≤ 100) (d : Nat) : ∀ (k i : Nat), i ≤ l.length → l.length - i = d → d + 140 < k →
    cartridgelaw1_GfOrder.l0 k (l.map I) (I c) (I (X (l.take i))) (I (X (l.drop (l.length - i)))) (i : Int) = some true := by
  induction d with
  | zero =>
    intro k i hi hd hk
    obtain ⟨k, rfl⟩ : ∃ m, k = m + 1 := ⟨k - 1, by omega⟩
    obtain rfl : i = l.length := by omega
    simp only [cartridgelaw1_GfOrder.l0]
    rw [if_neg (by simp)]
    rw [Nat.sub_self, List.drop_zero, List.take_length]
    exact l1_f l c hl (X l) rfl l.length k 0 (by omega) (by omega) (by omega)
  | succ d ih =>
    intro k i hi hd hk
    obtain ⟨k, rfl⟩ : ∃ m, k = m + 1 := ⟨k - 1, by omega⟩
    have hlt : i < l.length := by omega
    simp only [cartridgelaw1_GfOrder.l0]
    have hw : wrap64 (wrap64 (((l.map I).length : Int) - 1) - (i : Int)) = ((l.length - 1 - i : Nat) : Int) := by
      have e1 : wrap64 ((l.length : Int) - 1) = (l.length : Int) - 1 := wsm (by omega) (by omega)
      rw [List.length_map, e1, wsm (by omega) (by omega)]; omega
    rw [hw, if_pos (by rw [List.length_map]; omega), if_pos (by omega), rd_I l i hlt, add_f]
    simp only [Option.bind_some]
    have hj : l.length - 1 - i < l.length := by omega
    rw [if_pos (by omega), if_pos (by rw [List.length_map]; omega), rd_I l _ hj, add_f]
    simp only [Option.bind_some]
    rw [wsm (by omega) (by omega), ← X_snoc, ← take_snoc l i hlt, ← X_cons]
    have e : l.length - i = l.length - 1 - i + 1 := by omega
    rw [e, ← drop_cons l _ hj, show l.length - 1 - i = l.length - (i + 1) by omega]
    exact ih k (i + 1) (by omega) (by omega) (by omega)

end Go.Proofs.Ytnbibgbelhaenaa.Pure.GfOrder
namespace Go.Proofs.Ytnbibgbelhaenaa.Pure
open Go.RowKit Go.Proofs.Ytnbibgbelhaenaa.PGfOrder Go.Proofs.YtnbibgbelhaenaaW.PrintWords Go.Proofs.YtnbibgbelhaenaaW.PrintLast Go.Proofs.Ytnbibgbelhaenaa.Gf Go.Proofs.Ytnbibgbelhaenaa.Pure.GfOrder

theorem GfOrder : cartridgelaw1_GfOrder.Pure := by
  intro l0 a1 h0 h1 h2 h3
  refine ⟨400, ?_⟩
  obtain ⟨c, rfl⟩ := I_of h3
  obtain ⟨l, rfl⟩ : ∃ l : List B, l0 = l.map I := by
    clear h0 h1
    induction l0 with
    | nil => exact ⟨[], rfl⟩
    | cons x xs ih =>
      obtain ⟨l, rfl⟩ := ih (fun y hy => h2 y (List.mem_cons_of_mem _ hy))
      obtain ⟨b, rfl⟩ := I_of (h2 x List.mem_cons_self)
      exact ⟨b :: l, rfl⟩
  unfold cartridgelaw1_GfOrder.f
  rw [alive_f 400 (by omega)]
  simp only [Option.bind_some, if_true, cartridgelaw1_GfOrder.j0]
  by_cases h : ((l.map I).length : Int) > 100
  · rw [if_pos (by simpa using h)]
  · rw [if_neg (by simpa using h)]
    have hl : l.length ≤ 100 := by rw [List.length_map] at h; omega
    have := l0_f l c hl l.length 399 0 (by omega) (by omega) (by omega)
    simpa [X, I_zero] using this

end Go.Proofs.Ytnbibgbelhaenaa.Pure
