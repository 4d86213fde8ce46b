/- Plain law: what a reader of bytes is (the bytes that are left, whether some were missing), and what it reads. Conditions: none. -/
import Derived.Test.YtnnhigojgdcdlaaCrcInt
namespace Go.Proofs.Ytnnhigojgdcdlaa.Crc
/-- The bytes that are left; whether bytes were missing (then none are left). -/
structure Rs where
  l : List UInt8
  bad : Bool
def Rs.ok (s : Rs) (k : Nat) : Bool := !s.bad && decide (k ≤ s.l.length)
def Rs.got (s : Rs) (k : Nat) : List UInt8 := bif s.ok k then s.l.take k else []
def Rs.step (s : Rs) (k : Nat) : Rs := bif s.ok k then ⟨s.l.drop k, false⟩ else ⟨[], true⟩
def beN (l : List UInt8) : Nat := l.foldl (fun n c => n * 256 + c.toNat) 0
def Rs.int (s : Rs) : Int := (beN (s.got 4) : Int)
def Rs.byte (s : Rs) : UInt8 := (s.got 1).headD 0
def Rs.text (s : Rs) : List UInt8 := (s.step 1).got s.byte.toNat
def Rs.text' (s : Rs) : Rs := (s.step 1).step s.byte.toNat
def Rs.left (s : Rs) : Nat := s.l.length
/-- Where bytes were missing none are left. -/
def Rs.fit (s : Rs) : Prop := s.bad = true → s.l = []
theorem Rs.fit_step (s : Rs) (k : Nat) : (s.step k).fit := by
  unfold Rs.step Rs.fit
  cases s.ok k <;> simp
theorem beN_snoc (l : List UInt8) (c : UInt8) : beN (l ++ [c]) = beN l * 256 + c.toNat := by unfold beN; rw [List.foldl_append]; rfl
theorem beN_take (l : List UInt8) (i : Nat) (h : i < l.length) : beN (l.take (i + 1)) = beN (l.take i) * 256 + l[i].toNat := by
  rw [List.take_succ_eq_append_getElem h, beN_snoc]
theorem beN_lt (l : List UInt8) : ∀ i, beN (l.take i) < 256 ^ i := by
  intro i
  induction i with
  | zero => simp [beN]
  | succ i ih =>
    by_cases h : i < l.length
    · rw [beN_take l i h, Nat.pow_succ]
      have := l[i].toNat_lt
      omega
    · rw [List.take_of_length_le (by omega)]
      rw [List.take_of_length_le (by omega)] at ih
      exact Nat.lt_of_lt_of_le ih (Nat.pow_le_pow_right (by decide) (by omega))
theorem beN_lt4 (l : List UInt8) (i : Nat) (h : i < 4) : beN (l.take i) < 16777216 := by
  have h1 := beN_lt l i
  have h2 : 256 ^ i ≤ 256 ^ 3 := Nat.pow_le_pow_right (by decide) (by omega)
  omega
theorem or_u32 (x : Nat) (c : UInt8) (h : x < 16777216) : Go.bits .or .u32 ((x : Int) * 256 % 4294967296) (K c) = ((x * 256 + c.toNat : Nat) : Int) := by
  have h0 := K_lo c; have h1 := K_hi c
  have := bits_join .u32 32 (by decide) (fun n h0 h1 => by rw [IntKind.wrap_u32]; omega) 8 ((x : Int) * 256 % 4294967296) (K c) (by omega) (by omega) (by omega) h0 (by simpa using h1) (by omega)
  rw [this]
  unfold K
  omega
theorem or_u32b (x : Nat) (c : UInt8) (h : x < 16777216) : Go.bits .or .u32 ((x : Int) * 256) (K c) = ((x * 256 + c.toNat : Nat) : Int) := by
  rw [← or_u32 x c h]
  congr 1
  omega
theorem or_i64 (x : Nat) (c : UInt8) (h : x < 16777216) : Go.bits .or .i64 ((x : Int) * 256) (K c) = ((x * 256 + c.toNat : Nat) : Int) := by
  have h0 := K_lo c; have h1 := K_hi c
  have := bits_join .i64 63 (by decide) (fun n h0 h1 => by rw [IntKind.wrap_i64]; omega) 8 ((x : Int) * 256) (K c) (by omega) (by omega) (by omega) h0 (by simpa using h1) (by omega)
  rw [this]
  unfold K
  omega
theorem or_u32_0 (c : UInt8) : Go.bits .or .u32 0 (K c) = ((c.toNat : Nat) : Int) := by
  have := or_u32 0 c (by omega)
  simpa using this
theorem got_take (s : Rs) (k : Nat) (h : s.ok k = true) : s.got k = s.l.take k := by unfold Rs.got; rw [h]; rfl
theorem got_nil (s : Rs) (k : Nat) (h : s.ok k = false) : s.got k = [] := by unfold Rs.got; rw [h]; rfl
theorem step_ok (s : Rs) (k : Nat) (h : s.ok k = true) : s.step k = ⟨s.l.drop k, false⟩ := by unfold Rs.step; rw [h]; rfl
theorem step_bad (s : Rs) (k : Nat) (h : s.ok k = false) : s.step k = ⟨[], true⟩ := by unfold Rs.step; rw [h]; rfl
end Go.Proofs.Ytnnhigojgdcdlaa.Crc
