/- Plain mathematics of CRC-32C (no program in sight): it is linear, no turned bit is lost, and bytes with their own sum behind have one sum. Conditions: none. -/
namespace Go.Proofs.Ytnnhigojgdcdlaa.Crc
abbrev W32 := BitVec 32
abbrev ones : W32 := 0xffffffff#32
def st (x : W32) : W32 := (x >>> 1) ^^^ (bif x.getLsbD 0 then 0x82f63b78#32 else 0#32)
def stN : Nat → W32 → W32
  | 0, x => x
  | k + 1, x => stN k (st x)
def wide (c : UInt8) : W32 := c.toBitVec.setWidth 32
def one (x : W32) (c : UInt8) : W32 := stN 8 (x ^^^ wide c)
def feed (x : W32) (l : List UInt8) : W32 := l.foldl one x
def more (s : W32) (l : List UInt8) : W32 := feed (s ^^^ ones) l ^^^ ones
def sum (l : List UInt8) : W32 := more 0#32 l
theorem st_xor (x y : W32) : st (x ^^^ y) = st x ^^^ st y := by
  unfold st
  rw [BitVec.getLsbD_xor, BitVec.ushiftRight_xor_distrib]
  cases x.getLsbD 0 <;> cases y.getLsbD 0 <;> simp
  · ac_rfl
  · ac_rfl
  · generalize x >>> 1 = a; generalize y >>> 1 = b
    have : a ^^^ 0x82f63b78#32 ^^^ (b ^^^ 0x82f63b78#32) = (a ^^^ b) ^^^ (0x82f63b78#32 ^^^ 0x82f63b78#32) := by ac_rfl
    rw [this]; simp
theorem stN_xor (k : Nat) : ∀ x y, stN k (x ^^^ y) = stN k x ^^^ stN k y := by
  induction k with
  | zero => intro x y; rfl
  | succ k ih => intro x y; simp only [stN]; rw [st_xor, ih]
theorem stN_add (i j : Nat) : ∀ x, stN (i + j) x = stN j (stN i x) := by
  induction i with
  | zero => intro x; rw [Nat.zero_add]; rfl
  | succ i ih => intro x; rw [Nat.succ_add]; simp only [stN]; rw [ih]
theorem st_zero {x : W32} (h : st x = 0#32) : x = 0#32 := by
  have h31 : (st x).getLsbD 31 = x.getLsbD 0 := by
    unfold st
    rw [BitVec.getLsbD_xor, BitVec.getLsbD_ushiftRight]
    rw [BitVec.getLsbD_of_ge x (1 + 31) (by omega)]
    cases x.getLsbD 0 <;> simp
  rw [h] at h31
  have h0 : x.getLsbD 0 = false := by rw [← h31]; simp
  unfold st at h
  rw [h0] at h
  simp at h
  apply BitVec.eq_of_getLsbD_eq
  intro i hi
  cases i with
  | zero => rw [h0]; simp
  | succ i =>
    have := congrArg (fun v => v.getLsbD i) h
    simp only [BitVec.getLsbD_ushiftRight] at this
    rw [Nat.add_comm 1 i] at this
    rw [this]; simp
theorem stN_zero (k : Nat) : ∀ {x : W32}, stN k x = 0#32 → x = 0#32 := by
  induction k with
  | zero => intro x h; exact h
  | succ k ih => intro x h; exact st_zero (ih h)
theorem xor_eq_zero {n : Nat} {x y : BitVec n} (h : x ^^^ y = 0#n) : x = y := by
  have : (x ^^^ y) ^^^ y = y := by rw [h]; simp
  rw [BitVec.xor_assoc, BitVec.xor_self, BitVec.xor_zero] at this
  exact this
theorem stN_inj (k : Nat) {x y : W32} (h : stN k x = stN k y) : x = y := by
  apply xor_eq_zero
  apply stN_zero k
  rw [stN_xor, h, BitVec.xor_self]
theorem xor_right_inj {n : Nat} {x y z : BitVec n} (h : x ^^^ z = y ^^^ z) : x = y := by
  have := congrArg (· ^^^ z) h
  simpa [BitVec.xor_assoc] using this
theorem xor_left_inj {n : Nat} {x y z : BitVec n} (h : z ^^^ x = z ^^^ y) : x = y := by
  rw [BitVec.xor_comm z x, BitVec.xor_comm z y] at h
  exact xor_right_inj h
theorem one_inj {x y : W32} {c : UInt8} (h : one x c = one y c) : x = y := xor_right_inj (stN_inj 8 h)
theorem wide_inj {c d : UInt8} (h : wide c = wide d) : c = d := by
  unfold wide at h
  have h2 : c.toBitVec.toNat = d.toBitVec.toNat := by
    have := congrArg BitVec.toNat h
    rw [BitVec.toNat_setWidth, BitVec.toNat_setWidth] at this
    have h3 := c.toBitVec.isLt
    have h4 := d.toBitVec.isLt
    omega
  exact UInt8.toBitVec_inj.1 (BitVec.eq_of_toNat_eq h2)
theorem one_inj_right {x : W32} {c d : UInt8} (h : one x c = one x d) : c = d := wide_inj (xor_left_inj (stN_inj 8 h))
theorem feed_append (x : W32) (a b : List UInt8) : feed x (a ++ b) = feed (feed x a) b := by unfold feed; rw [List.foldl_append]
theorem feed_inj (l : List UInt8) : ∀ {x y : W32}, feed x l = feed y l → x = y := by
  induction l with
  | nil => intro x y h; exact h
  | cons c l ih => intro x y h; exact one_inj (ih h)
/-- Of two rows that differ in one byte alone the sums differ. -/
theorem more_set (s : W32) (l : List UInt8) (i : Nat) (c : UInt8) (hi : i < l.length) (h : c ≠ l[i]) : more s (l.set i c) ≠ more s l := by
  intro he
  have h1 := xor_right_inj he
  have e1 : l = l.take i ++ (l[i] :: l.drop (i + 1)) := by
    rw [← List.drop_eq_getElem_cons hi, List.take_append_drop]
  have e2 : l.set i c = l.take i ++ (c :: l.drop (i + 1)) := by
    rw [List.set_eq_take_append_cons_drop, if_pos hi]
  rw [e2] at h1
  conv at h1 => rhs; rw [e1]
  rw [feed_append, feed_append] at h1
  have h2 : feed (one (feed (s ^^^ ones) (l.take i)) c) (l.drop (i + 1)) = feed (one (feed (s ^^^ ones) (l.take i)) l[i]) (l.drop (i + 1)) := h1
  exact h (one_inj_right (feed_inj _ h2))
theorem sum_append (a b : List UInt8) : more (sum a) b = sum (a ++ b) := by
  unfold sum more
  rw [feed_append]
  simp [BitVec.xor_assoc]
/-- The bytes of a sum, the lowest first. -/
def byteAt (s : W32) (i : Nat) : UInt8 := ⟨(s >>> (8 * i)).setWidth 8⟩
def low (s : W32) : List UInt8 := [byteAt s 0, byteAt s 1, byteAt s 2, byteAt s 3]
theorem stN_shl (k : Nat) : ∀ z : W32, (z <<< k) >>> k = z → stN k (z <<< k) = z := by
  induction k with
  | zero => intro z h; simp [stN]
  | succ k ih =>
    intro z h
    have hb : ∀ j, j + k + 1 ≥ 32 → z.getLsbD j = false := by
      intro j hj
      by_cases h32 : j < 32
      · have := congrArg (fun v => v.getLsbD j) h
        simp only [BitVec.getLsbD_ushiftRight] at this
        rw [BitVec.getLsbD_of_ge _ (k + 1 + j) (by omega)] at this
        exact this.symm
      · exact BitVec.getLsbD_of_ge z j (by omega)
    have e : st (z <<< (k + 1)) = z <<< k := by
      unfold st
      have e0 : (z <<< (k + 1)).getLsbD 0 = false := by simp
      rw [e0]
      simp only [cond_false, BitVec.xor_zero]
      apply BitVec.eq_of_getLsbD_eq
      intro i hi
      rw [BitVec.getLsbD_ushiftRight, BitVec.getLsbD_shiftLeft, BitVec.getLsbD_shiftLeft]
      by_cases hk : i < k
      · simp [hk]; omega
      · by_cases h31 : 1 + i < 32
        · simp only [h31, hi, decide_true, Bool.true_and]
          have a1 : decide (1 + i < k + 1) = false := decide_eq_false (by omega)
          have a2 : decide (i < k) = false := decide_eq_false hk
          rw [a1, a2, show 1 + i - (k + 1) = i - k by omega]
        · simp only [h31, decide_false, Bool.false_and]
          have := hb (i - k) (by omega)
          rw [this]; simp
    simp only [stN]
    rw [e]
    refine ih z ?_
    apply BitVec.eq_of_getLsbD_eq
    intro i hi
    rw [BitVec.getLsbD_ushiftRight, BitVec.getLsbD_shiftLeft]
    by_cases h2 : k + i < 32
    · simp [h2]
    · simp only [h2, decide_false, Bool.false_and]
      exact (hb i (by omega)).symm
theorem split8 (s : W32) : s = wide (byteAt s 0) ^^^ ((s >>> 8) <<< 8) := by
  unfold wide byteAt
  apply BitVec.eq_of_getLsbD_eq
  intro i hi
  rw [BitVec.getLsbD_xor, BitVec.getLsbD_setWidth, BitVec.getLsbD_shiftLeft]
  by_cases h : i < 8
  · simp [h, hi]
  · simp only [hi, decide_true, Bool.true_and, BitVec.getLsbD_setWidth, h, decide_false, Bool.false_and, Bool.false_xor, Bool.not_false]
    rw [BitVec.getLsbD_ushiftRight, show 8 + (i - 8) = i by omega]
theorem stN8 (s : W32) : stN 8 s = stN 8 (wide (byteAt s 0)) ^^^ (s >>> 8) := by
  conv => lhs; rw [split8 s]
  rw [stN_xor, stN_shl 8 (s >>> 8)]
  apply BitVec.eq_of_getLsbD_eq
  intro i hi
  rw [BitVec.getLsbD_ushiftRight, BitVec.getLsbD_shiftLeft, BitVec.getLsbD_ushiftRight]
  by_cases h2 : 8 + i < 32
  · simp [h2]
  · simp only [h2, decide_false, Bool.false_and]
    rw [BitVec.getLsbD_ushiftRight, BitVec.getLsbD_of_ge _ _ (by omega)]
theorem one_step (x s : W32) : stN 8 (x ^^^ s) = one x (byteAt s 0) ^^^ (s >>> 8) := by
  unfold one
  rw [stN_xor, stN8 s, stN_xor, BitVec.xor_assoc]
theorem byteAt_shift (s : W32) (i j : Nat) : byteAt (s >>> (8 * i)) j = byteAt s (i + j) := by
  unfold byteAt
  rw [← BitVec.shiftRight_add, Nat.mul_add]
theorem feed_low (x s : W32) : feed x (low s) = stN 32 (x ^^^ s) := by
  have h1 : stN 32 (x ^^^ s) = stN 24 (stN 8 (x ^^^ s)) := stN_add 8 24 _
  have h2 (y : W32) : stN 24 y = stN 16 (stN 8 y) := stN_add 8 16 _
  have h3 (y : W32) : stN 16 y = stN 8 (stN 8 y) := stN_add 8 8 _
  rw [h1, one_step, h2, one_step, h3, one_step, one_step]
  have e1 : byteAt (s >>> 8) 0 = byteAt s 1 := byteAt_shift s 1 0
  have e2 : byteAt (s >>> 8 >>> 8) 0 = byteAt s 2 := by rw [← BitVec.shiftRight_add]; exact byteAt_shift s 2 0
  have e3 : byteAt (s >>> 8 >>> 8 >>> 8) 0 = byteAt s 3 := by rw [← BitVec.shiftRight_add, ← BitVec.shiftRight_add]; exact byteAt_shift s 3 0
  have e4 : s >>> 8 >>> 8 >>> 8 >>> 8 = 0#32 := by
    rw [← BitVec.shiftRight_add, ← BitVec.shiftRight_add, ← BitVec.shiftRight_add]
    apply BitVec.eq_of_getLsbD_eq
    intro i hi
    rw [BitVec.getLsbD_ushiftRight, BitVec.getLsbD_of_ge _ _ (by omega)]; simp
  rw [e1, e2, e3, e4, BitVec.xor_zero]
  rfl
theorem sum_end (l : List UInt8) : sum (l ++ low (sum l)) = 0x48674BC7#32 := by
  have h : sum (l ++ low (sum l)) = feed (feed (0#32 ^^^ ones) l) (low (sum l)) ^^^ ones := by
    show feed (0#32 ^^^ ones) (l ++ low (sum l)) ^^^ ones = _
    rw [feed_append]
  rw [h, feed_low]
  have e : feed (0#32 ^^^ ones) l ^^^ sum l = ones := by
    show feed (0#32 ^^^ ones) l ^^^ (feed (0#32 ^^^ ones) l ^^^ ones) = ones
    rw [← BitVec.xor_assoc, BitVec.xor_self, BitVec.zero_xor]
  rw [e]
  decide +kernel
theorem sum_nil : sum [] = 0#32 := by decide
theorem sum_nine : sum [49, 50, 51, 52, 53, 54, 55, 56, 57] = 0xE3069283#32 := by decide +kernel
end Go.Proofs.Ytnnhigojgdcdlaa.Crc
