/- Plain law: Go's whole numbers of kind u8 as the 256 elements: what xor, and, shifts of them are. Conditions: none. -/
import Derived.Laws.BitsLemmas
import Derived.RowKit
import Derived.Test.YtnbibgbelhaenaaGf
namespace Go.Proofs.Ytnbibgbelhaenaa.Gf
def I (a : B) : Int := (a.toNat : Int)
theorem I_lo (a : B) : 0 ≤ I a := Int.natCast_nonneg _
theorem I_hi (a : B) : I a < 256 := by unfold I; have := a.isLt; omega
theorem I_inj {a b : B} (h : I a = I b) : a = b := BitVec.eq_of_toNat_eq (by unfold I at h; omega)
theorem I_zero : I 0#8 = 0 := rfl
theorem I_eq {a b : B} : I a = I b ↔ a = b := ⟨I_inj, fun h => by rw [h]⟩
theorem I_of {x : Int} (h : (Lit.int .u8 x).wf = true) : ∃ a, x = I a := by
  simp [Lit.wf, IntKind.min, IntKind.max, IntKind.bits, IntKind.signed] at h
  refine ⟨BitVec.ofNat 8 x.toNat, ?_⟩
  unfold I
  rw [BitVec.toNat_ofNat]
  omega
theorem I_xor (a b : B) : Go.bits .xor .u8 (I a) (I b) = I (a ^^^ b) := by
  unfold I Go.bits
  simp only [IntKind.bits, BitVec.ofInt_natCast, BitVec.ofNat_toNat, BitVec.setWidth_eq]
  show IntKind.u8.wrap ((a ^^^ b).toNat : Int) = ((a ^^^ b).toNat : Int)
  rw [IntKind.wrap_u8]
  have := (a ^^^ b).isLt
  exact Int.emod_eq_of_lt (Int.natCast_nonneg _) (by omega)
theorem I_and1 : ∀ b : B, (Go.bits .and .u8 (I b) 1 = (1 : Int)) ↔ b.getLsbD 0 = true := by decide +kernel
theorem I_and128 : ∀ b : B, (Go.bits .and .u8 (I b) 128 = (0 : Int)) ↔ b.msb = false := by decide +kernel
theorem I_dbl : ∀ b : B, (I b * (2 : Int)) % (256 : Int) = I (b <<< 1) := by decide +kernel
theorem I_half : ∀ b : B, I b / (2 : Int) = I (b >>> 1) := by decide +kernel
theorem I_ne {a : B} (h : a ≠ 0#8) : I a ≠ 0 := fun h' => h (I_inj h')
end Go.Proofs.Ytnbibgbelhaenaa.Gf
