/- Plain law: Go's whole numbers of kind u32 and u8 as 32 bits and as bytes. Conditions: none. -/
import Derived.Laws.BitsLemmas
import Derived.RowKit
import Derived.Test.YtnnhigojgdcdlaaCrc
namespace Go.Proofs.Ytnnhigojgdcdlaa.Crc
def J (x : W32) : Int := (x.toNat : Int)
def K (c : UInt8) : Int := (c.toNat : Int)
theorem J_lo (a : W32) : 0 ≤ J a := Int.natCast_nonneg _
theorem J_hi (a : W32) : J a < 4294967296 := by unfold J; have := a.isLt; omega
theorem K_lo (a : UInt8) : 0 ≤ K a := Int.natCast_nonneg _
theorem K_hi (a : UInt8) : K a < 256 := by unfold K; have := a.toNat_lt; omega
theorem J_inj {a b : W32} (h : J a = J b) : a = b := BitVec.eq_of_toNat_eq (by unfold J at h; omega)
theorem K_inj {a b : UInt8} (h : K a = K b) : a = b := UInt8.toNat_inj.1 (by unfold K at h; omega)
theorem J_of {x : Int} (h : (Lit.int .u32 x).wf = true) : ∃ a, x = J a := by
  simp [Lit.wf, IntKind.min, IntKind.max, IntKind.bits, IntKind.signed] at h
  refine ⟨BitVec.ofNat 32 x.toNat, ?_⟩
  unfold J
  rw [BitVec.toNat_ofNat]
  omega
theorem K_of {x : Int} (h : (Lit.int .u8 x).wf = true) : ∃ a, x = K a := by
  simp [Lit.wf, IntKind.min, IntKind.max, IntKind.bits, IntKind.signed] at h
  refine ⟨UInt8.ofNat x.toNat, ?_⟩
  unfold K
  rw [UInt8.toNat_ofNat']
  omega
theorem J_wf (a : W32) : (Lit.int .u32 (J a)).wf = true := by
  have h1 := J_lo a; have h2 := J_hi a
  simp [Lit.wf, IntKind.min, IntKind.max, IntKind.bits, IntKind.signed]; omega
theorem K_wf (a : UInt8) : (Lit.int .u8 (K a)).wf = true := by
  have h1 := K_lo a; have h2 := K_hi a
  simp [Lit.wf, IntKind.min, IntKind.max, IntKind.bits, IntKind.signed]; omega
theorem J_xor (a b : W32) : Go.bits .xor .u32 (J a) (J b) = J (a ^^^ b) := by
  show IntKind.u32.wrap (((BitVec.ofInt 32 (a.toNat : Int)) ^^^ (BitVec.ofInt 32 (b.toNat : Int))).toNat : Int) = ((a ^^^ b).toNat : Int)
  rw [BitVec.ofInt_natCast, BitVec.ofInt_natCast, BitVec.ofNat_toNat, BitVec.ofNat_toNat, BitVec.setWidth_eq, BitVec.setWidth_eq, IntKind.wrap_u32]
  have := (a ^^^ b).isLt
  exact Int.emod_eq_of_lt (Int.natCast_nonneg _) (by omega)
theorem J_and1 (a : W32) : Go.bits .and .u32 (J a) 1 = ((a.toNat % 2 : Nat) : Int) := by
  show IntKind.u32.wrap (((BitVec.ofInt 32 (a.toNat : Int)) &&& (BitVec.ofNat 32 1)).toNat : Int) = _
  rw [BitVec.ofInt_natCast, BitVec.ofNat_toNat, BitVec.setWidth_eq, BitVec.toNat_and, BitVec.toNat_ofNat, IntKind.wrap_u32]
  rw [show 1 % 2 ^ 32 = 1 from rfl, Nat.and_one_is_mod]
  omega
theorem J_odd (a : W32) : (a.toNat % 2 = 1) ↔ a.getLsbD 0 = true := by
  rw [BitVec.getLsbD, Nat.testBit_zero]; simp
theorem J_half (a : W32) : J a / (2 : Int) = J (a >>> 1) := by
  unfold J; rw [BitVec.toNat_ushiftRight, Nat.shiftRight_eq_div_pow]; simp
theorem J_wide (c : UInt8) : K c = J (wide c) := by
  unfold K J wide
  rw [BitVec.toNat_setWidth]
  have := c.toNat_lt
  have : c.toBitVec.toNat = c.toNat := rfl
  omega
theorem st_odd {a : W32} (h : a.getLsbD 0 = true) : Go.bits .xor .u32 (J a / (2 : Int)) 2197175160 = J (st a) := by
  rw [J_half, show (2197175160 : Int) = J 0x82f63b78#32 from rfl, J_xor]
  unfold st; rw [h]; rfl
theorem st_even {a : W32} (h : a.getLsbD 0 = false) : J a / (2 : Int) = J (st a) := by
  rw [J_half]; unfold st; rw [h]; simp
theorem stN_succ (k : Nat) (x : W32) : stN (k + 1) x = st (stN k x) := stN_add k 1 x
theorem feed_take (x : W32) (l : List UInt8) (i : Nat) (h : i < l.length) : feed x (l.take (i + 1)) = stN 8 (feed x (l.take i) ^^^ wide l[i]) := by
  rw [List.take_succ_eq_append_getElem h, feed_append]; rfl
theorem K_xor (a b : UInt8) : Go.bits .xor .u8 (K a) (K b) = K (a ^^^ b) := by
  show IntKind.u8.wrap (((BitVec.ofInt 8 (a.toNat : Int)) ^^^ (BitVec.ofInt 8 (b.toNat : Int))).toNat : Int) = ((a ^^^ b).toNat : Int)
  have ha : BitVec.ofInt 8 (a.toNat : Int) = a.toBitVec := by rw [BitVec.ofInt_natCast, ← UInt8.toNat_toBitVec, BitVec.ofNat_toNat, BitVec.setWidth_eq]
  have hb : BitVec.ofInt 8 (b.toNat : Int) = b.toBitVec := by rw [BitVec.ofInt_natCast, ← UInt8.toNat_toBitVec, BitVec.ofNat_toNat, BitVec.setWidth_eq]
  rw [ha, hb, ← UInt8.toBitVec_xor, UInt8.toNat_toBitVec, IntKind.wrap_u8]
  have := (a ^^^ b).toNat_lt
  omega
/-- One bit of a byte. -/
def bitOf (k : Nat) : UInt8 := UInt8.ofNat (2 ^ k)
theorem bit_pow (k : Nat) (hk : k < 8) : (2 : Int) ^ k % 256 = K (bitOf k) := by
  have h : ∀ k : Fin 8, (2 : Int) ^ k.val % 256 = K (bitOf k.val) := by decide +kernel
  exact h ⟨k, hk⟩
theorem bit_ne (k : Nat) (hk : k < 8) (y : UInt8) : y ^^^ bitOf k ≠ y := by
  intro h
  have h2 : bitOf k = 0 := by
    have h3 : y ^^^ (y ^^^ bitOf k) = y ^^^ y := by rw [h]
    rw [← UInt8.xor_assoc, UInt8.xor_self, UInt8.zero_xor] at h3
    exact h3
  have h4 : ∀ k : Fin 8, bitOf k.val ≠ 0 := by decide +kernel
  exact h4 ⟨k, hk⟩ h2
theorem xor_bit (k : Nat) (hk : k < 8) (y : UInt8) : Go.bits .xor .u8 (K y) ((2 : Int) ^ k % 256) = K (y ^^^ bitOf k) := by rw [bit_pow k hk, K_xor]
theorem and7 (x : Int) : ∃ k : Nat, k < 8 ∧ Go.bits .and .i64 x 7 = (k : Int) := by
  refine ⟨(BitVec.ofInt 64 x &&& BitVec.ofNat 64 7).toNat, ?_, ?_⟩
  · rw [BitVec.toNat_and]
    exact Nat.lt_of_le_of_lt Nat.and_le_right (by decide)
  · show IntKind.i64.wrap (((BitVec.ofInt 64 x) &&& (BitVec.ofNat 64 7)).toNat : Int) = _
    rw [IntKind.wrap_i64]
    have : (BitVec.ofInt 64 x &&& BitVec.ofNat 64 7).toNat < 8 := by
      rw [BitVec.toNat_and]
      exact Nat.lt_of_le_of_lt Nat.and_le_right (by decide)
    omega
theorem K_byte (s : W32) (i : Nat) : K (byteAt s i) = J s / (2 : Int) ^ (8 * i) % 256 := by
  unfold K byteAt J
  have h : (UInt8.ofBitVec ((s >>> (8 * i)).setWidth 8)).toNat = s.toNat / 2 ^ (8 * i) % 256 := by
    show ((s >>> (8 * i)).setWidth 8).toNat = _
    rw [BitVec.toNat_setWidth, BitVec.toNat_ushiftRight, Nat.shiftRight_eq_div_pow]
  rw [h]
  simp
theorem J_and255 (x : Int) (h0 : 0 ≤ x) (h1 : x < 4294967296) : Go.bits .and .u32 x 255 = x % 256 := by
  have := bits_mask .u32 32 (by decide) (fun n h0 h1 => by rw [IntKind.wrap_u32]; omega) 8 (by decide) x h0 (by simpa using h1)
  simpa using this
theorem low_0 (s : W32) : Go.bits .and .u32 (J s) 255 % 256 = K (byteAt s 0) := by
  have h0 := J_lo s; have h1 := J_hi s
  rw [J_and255 _ h0 h1, K_byte]; simp
theorem low_1 (s : W32) : Go.bits .and .u32 (J s / 256) 255 % 256 = K (byteAt s 1) := by
  have h0 := J_lo s; have h1 := J_hi s
  rw [J_and255 _ (by omega) (by omega), K_byte]; simp
theorem low_2 (s : W32) : Go.bits .and .u32 (J s / 65536) 255 % 256 = K (byteAt s 2) := by
  have h0 := J_lo s; have h1 := J_hi s
  rw [J_and255 _ (by omega) (by omega), K_byte]; simp
theorem low_3 (s : W32) : J s / 16777216 % 256 = K (byteAt s 3) := by rw [K_byte]; simp
/-- Byte i of a whole number, the lowest first. -/
def byteI (b : Int) (i : Nat) : UInt8 := UInt8.ofNat (b / (2 : Int) ^ (8 * i) % 256).toNat
theorem K_byteI (b : Int) (i : Nat) : K (byteI b i) = b / (2 : Int) ^ (8 * i) % 256 := by
  unfold K byteI
  rw [UInt8.toNat_ofNat']
  have h0 : 0 ≤ b / (2 : Int) ^ (8 * i) % 256 := Int.emod_nonneg _ (by decide)
  have h1 : b / (2 : Int) ^ (8 * i) % 256 < 256 := Int.emod_lt_of_pos _ (by decide)
  omega
/-- The low four bytes of a number, the highest first. -/
def be4 (b : Int) : List UInt8 := [byteI b 3, byteI b 2, byteI b 1, byteI b 0]
theorem be_3 (b : Int) : b % 4294967296 / 16777216 = K (byteI b 3) := by rw [K_byteI]; simp; omega
theorem be_2 (b : Int) : b % 4294967296 / 65536 % 256 = K (byteI b 2) := by rw [K_byteI]; simp; omega
theorem be_1 (b : Int) : b % 4294967296 / 256 % 256 = K (byteI b 1) := by rw [K_byteI]; simp; omega
theorem be_0 (b : Int) : b % 256 = K (byteI b 0) := by rw [K_byteI]; simp
theorem wrap_u64 (n : Int) : IntKind.u64.wrap n = n % 18446744073709551616 := by simp [IntKind.wrap, IntKind.bits, IntKind.signed]
theorem U_and255 (x : Int) (h0 : 0 ≤ x) (h1 : x < 18446744073709551616) : Go.bits .and .u64 x 255 = x % 256 := by
  have := bits_mask .u64 64 (by decide) (fun n h0 h1 => by rw [wrap_u64]; omega) 8 (by decide) x h0 (by simpa using h1)
  simpa using this
theorem re_3 (b : Int) : Go.bits .and .u64 (IntKind.u64.wrap b / 16777216) 255 % 256 = K (byteI b 3) := by
  rw [wrap_u64, U_and255 _ (by omega) (by omega), K_byteI]; simp; omega
theorem re_2 (b : Int) : Go.bits .and .u64 (IntKind.u64.wrap b / 65536) 255 % 256 = K (byteI b 2) := by
  rw [wrap_u64, U_and255 _ (by omega) (by omega), K_byteI]; simp; omega
theorem re_1 (b : Int) : Go.bits .and .u64 (IntKind.u64.wrap b / 256) 255 % 256 = K (byteI b 1) := by
  rw [wrap_u64, U_and255 _ (by omega) (by omega), K_byteI]; simp; omega
theorem re_0 (b : Int) : Go.bits .and .u64 (IntKind.u64.wrap b) 255 % 256 = K (byteI b 0) := by
  rw [wrap_u64, U_and255 _ (by omega) (by omega), K_byteI]; simp
theorem K_nat (n : Nat) (h : n < 256) : K (UInt8.ofNat n) = (n : Int) := by
  unfold K; rw [UInt8.toNat_ofNat']; omega
/-- A text as it is written: its length, and it. -/
def tx (l : List UInt8) : List UInt8 := UInt8.ofNat (l.take 255).length :: l.take 255
end Go.Proofs.Ytnnhigojgdcdlaa.Crc
