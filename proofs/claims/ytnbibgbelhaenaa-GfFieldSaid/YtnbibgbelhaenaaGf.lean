/- Plain mathematics of the field of 256 elements (no program in sight): multiplication by shifts, powers of 2, logarithms. Conditions: none. -/
namespace Go.Proofs.Ytnbibgbelhaenaa.Gf
abbrev B := BitVec 8
def xt (a : B) : B := (a <<< 1) ^^^ (bif a.msb then 29#8 else 0#8)
theorem xt_xor (a c : B) : xt (a ^^^ c) = xt a ^^^ xt c := by
  unfold xt
  rw [BitVec.msb_xor, BitVec.shiftLeft_xor_distrib]
  cases a.msb <;> cases c.msb <;> simp
  · ac_rfl
  · ac_rfl
  · generalize a <<< 1 = x; generalize c <<< 1 = y
    have : x ^^^ 29#8 ^^^ (y ^^^ 29#8) = (x ^^^ y) ^^^ (29#8 ^^^ 29#8) := by ac_rfl
    rw [this]; simp
def mulL : Nat → B → B → B → B
  | 0, _, _, o => o
  | k + 1, a, b, o => mulL k (xt a) (b >>> 1) (bif b.getLsbD 0 then o ^^^ a else o)
def mul (a b : B) : B := mulL 8 a b 0#8
theorem mulL_zero (k : Nat) : ∀ a o, mulL k a 0#8 o = o := by
  induction k with
  | zero => intro a o; rfl
  | succ k ih => intro a o; simp [mulL, ih]
theorem mulL_out (k : Nat) : ∀ a b o p, mulL k a b (o ^^^ p) = mulL k a b o ^^^ p := by
  induction k with
  | zero => intro a b o p; rfl
  | succ k ih =>
    intro a b o p
    simp only [mulL]
    cases b.getLsbD 0
    · exact ih _ _ _ _
    · simp only [cond_true]
      rw [← ih]; congr 1; ac_rfl
theorem mulL_right (k : Nat) : ∀ a b d o p, mulL k a (b ^^^ d) (o ^^^ p) = mulL k a b o ^^^ mulL k a d p := by
  induction k with
  | zero => intro a b d o p; rfl
  | succ k ih =>
    intro a b d o p
    simp only [mulL]
    rw [BitVec.ushiftRight_xor_distrib, ← ih, BitVec.getLsbD_xor]
    congr 1
    cases b.getLsbD 0 <;> cases d.getLsbD 0 <;> simp
    · ac_rfl
    · ac_rfl
    · have : o ^^^ a ^^^ (p ^^^ a) = (o ^^^ p) ^^^ (a ^^^ a) := by ac_rfl
      rw [this]; simp
theorem mulL_left (k : Nat) : ∀ a c b o p, mulL k (a ^^^ c) b (o ^^^ p) = mulL k a b o ^^^ mulL k c b p := by
  induction k with
  | zero => intro a b d o p; rfl
  | succ k ih =>
    intro a c b o p
    simp only [mulL]
    rw [xt_xor, ← ih]
    congr 1
    cases b.getLsbD 0 <;> simp
    ac_rfl
theorem mulL_xt (k : Nat) : ∀ a b o, mulL k (xt a) b (xt o) = xt (mulL k a b o) := by
  induction k with
  | zero => intro a b o; rfl
  | succ k ih =>
    intro a b o
    simp only [mulL]
    rw [← ih]
    congr 1
    cases b.getLsbD 0 <;> simp [xt_xor]
theorem mul_xor_right (a b d : B) : mul a (b ^^^ d) = mul a b ^^^ mul a d := by
  unfold mul; rw [← mulL_right]; simp
theorem mul_xor_left (a c b : B) : mul (a ^^^ c) b = mul a b ^^^ mul c b := by
  unfold mul; rw [← mulL_left]; simp
theorem mul_zero (a : B) : mul a 0#8 = 0#8 := mulL_zero _ _ _
theorem zero_mul (b : B) : mul 0#8 b = 0#8 := by
  have := mul_xor_left 0#8 0#8 b
  simpa using this
def part (a : B) (i : Nat) : B := bif a.getLsbD i then 1#8 <<< i else 0#8
theorem parts : ∀ a : B, a = part a 0 ^^^ part a 1 ^^^ part a 2 ^^^ part a 3 ^^^ part a 4 ^^^ part a 5 ^^^ part a 6 ^^^ part a 7 := by decide +kernel
theorem lin_ind (P : B → Prop) (h0 : P 0#8) (hx : ∀ a b, P a → P b → P (a ^^^ b)) (hb : ∀ i, i < 8 → P (1#8 <<< i)) (a : B) : P a := by
  have hp : ∀ i, i < 8 → P (part a i) := by
    intro i hi
    unfold part
    cases a.getLsbD i
    · exact h0
    · exact hb i hi
  rw [parts a]
  repeat first
    | exact hp _ (by decide)
    | refine hx _ _ ?_ (hp _ (by decide))
theorem base_ok : ∀ i : Fin 8, ∀ a : B, mul (xt a) (1#8 <<< i.val) = mul a (xt (1#8 <<< i.val)) := by decide +kernel
theorem xt_mul (a b : B) : mul a (xt b) = xt (mul a b) := by
  have h1 : xt (mul a b) = mul (xt a) b := by
    unfold mul; rw [← mulL_xt]; rfl
  rw [h1]
  refine lin_ind (fun b => mul a (xt b) = mul (xt a) b) ?_ ?_ ?_ b
  · rw [show xt 0#8 = 0#8 from rfl, mul_zero, mul_zero]
  · intro c d hc hd
    simp only [xt_xor, mul_xor_right] at *
    rw [hc, hd]
  · intro i hi
    exact (base_ok ⟨i, hi⟩ a).symm
theorem mul_one : ∀ a : B, mul a 1#8 = a := by decide +kernel
def xtn : Nat → B → B
  | 0, a => a
  | k + 1, a => xt (xtn k a)
theorem xtn_add (i j : Nat) (a : B) : xtn (i + j) a = xtn i (xtn j a) := by
  induction i with
  | zero => rw [Nat.zero_add]; rfl
  | succ i ih => rw [Nat.succ_add]; simp only [xtn]; rw [ih]
theorem mul_xtn (i : Nat) (a b : B) : mul a (xtn i b) = xtn i (mul a b) := by
  induction i with
  | zero => rfl
  | succ i ih => simp only [xtn]; rw [xt_mul, ih]
def E (i : Nat) : B := xtn i 1#8
theorem mul_E (i j : Nat) : mul (E i) (E j) = E (i + j) := by
  unfold E; rw [mul_xtn, mul_one, ← xtn_add, Nat.add_comm]
theorem E_zero : E 0 = 1#8 := rfl
theorem E_255 : E 255 = 1#8 := by decide +kernel
theorem E_add_mul (i n : Nat) : E (i + 255 * n) = E i := by
  induction n with
  | zero => rfl
  | succ n ih =>
    rw [show i + 255 * (n + 1) = (i + 255 * n) + 255 by omega, ← mul_E, E_255, mul_one, ih]
theorem E_mod (i : Nat) : E (i % 255) = E i := by
  have := E_add_mul (i % 255) (i / 255)
  rw [← this]; congr 1; omega
theorem E_congr {i j : Nat} (h : i % 255 = j % 255) : E i = E j := by rw [← E_mod i, ← E_mod j, h]
def lgo : Nat → Nat → B → B → Nat
  | 0, i, _, _ => i
  | k + 1, i, c, a => bif c == a then i else lgo k (i + 1) (xt c) a
def lg (a : B) : Nat := lgo 255 0 1#8 a
theorem lgo_spec (k : Nat) : ∀ i c a, c = E i → lgo k i c a < i + k → E (lgo k i c a) = a := by
  induction k with
  | zero => intro i c a _ h; simp [lgo] at h
  | succ k ih =>
    intro i c a hc h
    by_cases e : c = a
    · subst e; simp only [lgo, beq_self_eq_true, cond_true]; exact hc.symm
    · have e' : (c == a) = false := by simp [e]
      have e2 : lgo (k + 1) i c a = lgo k (i + 1) (xt c) a := by simp only [lgo]; rw [e']; rfl
      rw [e2] at h ⊢
      exact ih (i + 1) (xt c) a (by rw [hc]; rfl) (by omega)
theorem lg_lt : ∀ a : B, a ≠ 0#8 → lg a < 255 := by
  have h : ∀ a : B, (a == 0#8 || Nat.blt (lg a) 255) = true := by decide +kernel
  intro a ha
  have := h a
  simp [ha] at this
  exact this
theorem E_lg (a : B) (ha : a ≠ 0#8) : E (lg a) = a :=
  lgo_spec 255 0 1#8 a rfl (by have := lg_lt a ha; unfold lg at this; omega)
theorem E_ne (i : Nat) : E i ≠ 0#8 := by
  intro h
  have h1 : mul (E i) (E (254 * i)) = 0#8 := by rw [h, zero_mul]
  rw [mul_E, E_congr (j := 0) (by omega), E_zero] at h1
  exact absurd h1 (by decide)
theorem log (a : B) (ha : a ≠ 0#8) : ∃ i, i < 255 ∧ a = E i := ⟨lg a, lg_lt a ha, (E_lg a ha).symm⟩
theorem mul_comm (a b : B) : mul a b = mul b a := by
  by_cases ha : a = 0#8
  · rw [ha, mul_zero, zero_mul]
  by_cases hb : b = 0#8
  · rw [hb, mul_zero, zero_mul]
  obtain ⟨i, -, rfl⟩ := log a ha
  obtain ⟨j, -, rfl⟩ := log b hb
  rw [mul_E, mul_E, Nat.add_comm]
theorem mul_assoc (a b c : B) : mul (mul a b) c = mul a (mul b c) := by
  by_cases ha : a = 0#8
  · simp only [ha, zero_mul]
  by_cases hb : b = 0#8
  · simp only [hb, zero_mul, mul_zero]
  by_cases hc : c = 0#8
  · simp only [hc, mul_zero]
  obtain ⟨i, -, rfl⟩ := log a ha
  obtain ⟨j, -, rfl⟩ := log b hb
  obtain ⟨k, -, rfl⟩ := log c hc
  simp only [mul_E, Nat.add_assoc]
def pw (a : B) : Nat → B
  | 0 => 1#8
  | n + 1 => mul (pw a n) a
theorem pw_E (i n : Nat) : pw (E i) n = E (i * n) := by
  induction n with
  | zero => rfl
  | succ n ih => simp only [pw]; rw [ih, mul_E]; rfl
theorem pw_zero (n : Nat) (h : n ≠ 0) : pw 0#8 n = 0#8 := by
  cases n with
  | zero => exact absurd rfl h
  | succ n => simp only [pw, mul_zero]
theorem pw_add (a : B) (n m : Nat) : pw a (n + m) = mul (pw a n) (pw a m) := by
  induction m with
  | zero => simp only [Nat.add_zero, pw, mul_one]
  | succ m ih => rw [← Nat.add_assoc]; simp only [pw]; rw [ih, mul_assoc]
theorem pw_sq (a : B) (n : Nat) : pw (mul a a) n = pw a (2 * n) := by
  induction n with
  | zero => rfl
  | succ n ih =>
    rw [show 2 * (n + 1) = 2 * n + 1 + 1 by omega]
    simp only [pw]; rw [ih, mul_assoc]
def inv (a : B) : B := pw a 254
theorem mul_inv (a : B) (ha : a ≠ 0#8) : mul a (inv a) = 1#8 := by
  obtain ⟨i, -, rfl⟩ := log a ha
  unfold inv
  rw [pw_E, mul_E, E_congr (j := 0) (by omega), E_zero]
theorem inv_zero : inv 0#8 = 0#8 := pw_zero _ (by decide)
theorem pw_255 (a : B) (ha : a ≠ 0#8) : pw a 255 = 1#8 := by
  obtain ⟨i, -, rfl⟩ := log a ha
  rw [pw_E, E_congr (j := 0) (by omega), E_zero]
theorem pw_mod (a : B) (ha : a ≠ 0#8) {n m : Nat} (h : n % 255 = m % 255) : pw a n = pw a m := by
  obtain ⟨i, -, rfl⟩ := log a ha
  rw [pw_E, pw_E]
  refine E_congr ?_
  rw [Nat.mul_mod, h, ← Nat.mul_mod]
theorem pw_inv (a : B) (ha : a ≠ 0#8) {n m : Nat} (h : (n + m) % 255 = 0) : pw (inv a) n = pw a m := by
  obtain ⟨i, -, rfl⟩ := log a ha
  unfold inv
  rw [pw_E, pw_E, pw_E]
  refine E_congr ?_
  have h2 : i * 254 * n + i * (n + m) = i * m + 255 * (i * n) := by
    rw [Nat.mul_add, Nat.mul_assoc]
    have : i * (254 * n) = 254 * (i * n) := by rw [← Nat.mul_assoc, Nat.mul_comm i 254, Nat.mul_assoc]
    omega
  have h3 : (i * (n + m)) % 255 = 0 := by rw [Nat.mul_mod, h]; simp
  omega
theorem two_E : (2#8 : B) = E 1 := rfl
end Go.Proofs.Ytnbibgbelhaenaa.Gf
