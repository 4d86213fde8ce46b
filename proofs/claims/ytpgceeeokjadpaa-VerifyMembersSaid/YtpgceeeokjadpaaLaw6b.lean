/- The walks of CodeReads and CodeLong. Conditions: what comes in reads as bytes and items. -/
import Derived.Test.YtpgceeeokjadpaaLaw6
namespace Go.Proofs.Ytpgceeeokjadpaa.Crc
theorem tx_len (z : List UInt8) : (z.take 255).length < 256 := by rw [List.length_take]; omega
theorem Rs.byte_cons (c : UInt8) (r : List UInt8) : (⟨c :: r, false⟩ : Rs).byte = c := by simp [Rs.byte, Rs.got, Rs.ok]
theorem Rs.step_cons (c : UInt8) (r : List UInt8) : (⟨c :: r, false⟩ : Rs).step 1 = ⟨r, false⟩ := by simp [Rs.step, Rs.ok]
theorem Rs.ok_app (a r : List UInt8) : (⟨a ++ r, false⟩ : Rs).ok a.length = true := by simp [Rs.ok]
theorem tx_byte (z r : List UInt8) : (⟨tx z ++ r, false⟩ : Rs).byte.toNat = (z.take 255).length := by
  have := tx_len z
  unfold tx
  rw [List.cons_append, Rs.byte_cons, UInt8.toNat_ofNat']
  omega
theorem tx_text (z r : List UInt8) : (⟨tx z ++ r, false⟩ : Rs).text = z.take 255 := by
  rw [Rs.text, tx_byte]
  unfold tx
  rw [List.cons_append, Rs.step_cons, got_take _ _ (Rs.ok_app _ _), List.take_left]
theorem tx_text' (z r : List UInt8) : (⟨tx z ++ r, false⟩ : Rs).text' = ⟨r, false⟩ := by
  rw [Rs.text', tx_byte]
  unfold tx
  rw [List.cons_append, Rs.step_cons, step_ok _ _ (Rs.ok_app _ _), List.drop_left]
end Go.Proofs.Ytpgceeeokjadpaa.Crc
namespace Go.Proofs.Ytpgceeeokjadpaa.Code
open Go.RowKit Go.Joins Go.Proofs.Ytpgceeeokjadpaa.Crc Go.Proofs.Ytpgceeeokjadpaa.Mem
/-- CodeReads. -/
theorem creads_any (w : World) (A : Option Addr) (n c : Nat) (l : List UInt8) (h : Sl w A n c l) (hc : c ≤ 9223372036854775807) (A2 : Option Addr) (n2 c2 : Nat) (its : List It) (h2 : Items w A2 n2 its) :
    Calls Try.prog 3 #[.slice A n c, .slice A2 n2 c2] w fun e w' => e = .returned (.bool true) ∧ Below w.heap.size w w' := by
  have HS := Lib.hid h
  have HI := Lib.hid h2
  clear h h2
  by_cases hs : n ≤ 1000 ∧ n2 ≤ 60
  · obtain ⟨h1, h2⟩ := hs
    go_enter Try.func3, Try.ntmps3
    go_wp2_with (first
      | (go_at_call 13; (with_reducible refine (alive_any _).mono ?_); rintro e w1 ⟨rfl, hb⟩; have HB := Lib.hid hb; have HS1 := Lib.hid (HS.out.below hb); have HI1 := Lib.hid (HI.out.below hb); clear hb)
      | (go_at_call 14; (with_reducible refine (reads_any _ _ _ _ l HS1.out (by omega) (by omega) _ _ _ its HI1.out (by omega)).mono ?_); rintro e w2 ⟨rfl, hb⟩; have HB2 := Lib.hid hb; clear hb))
    go_ret
    exact ⟨rfl, below_then HB.out HB2.out HB.out.size⟩
  · have h' : 1000 < n ∨ (n ≤ 1000 ∧ 60 < n2) := by omega
    clear hs
    rcases h' with h1 | ⟨h1, h2⟩
    all_goals
      go_enter Try.func3, Try.ntmps3
      go_wp2_with (first
        | (go_at_call 13; (with_reducible refine (alive_any _).mono ?_); rintro e w1 ⟨rfl, hb⟩; have HB := Lib.hid hb; clear hb))
      go_ret
      exact ⟨rfl, HB.out⟩
theorem own_zeros {w : World} {B n : Nat} {A : Option Addr} (h : w.ownsRow B 5 1 (.slice A n n) n (madeCells (Value.int IntKind.u8 0).cells (n * 1)).toList) : Own w B A n n (List.replicate n 0) := by
  refine ⟨by simp, ?_⟩
  have e : (madeCells (Value.int IntKind.u8 0).cells (n * 1)).toList = (List.replicate n (0 : UInt8)).map kv := by
    have e0 : (Value.int IntKind.u8 0).cells = #[.int .u8 0] := rfl
    rw [e0, Nat.mul_one]
    apply List.ext_getElem
    · simp [size_madeCells]
    · intro i h1 h2
      simp [madeCells, kv, K]
      rw [Nat.mod_one]; rfl
  rw [← e]
  exact h
end Go.Proofs.Ytpgceeeokjadpaa.Code
