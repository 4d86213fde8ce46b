/- VerifyFinds' walk, whole. Conditions: the numbers lie where the slice says. -/
import Derived.Test.YtpgceeeokjadpaaFin2
import Derived.Test.YtpgceeeokjadpaaUnits2
namespace Go.Proofs.Ytpgceeeokjadpaa.Open
open Go.ChangeShapes Go.WideShapes Go.Deep Go.RowKit Go.Proofs.Ytpgceeeokjadpaa.Crc Go.Proofs.Ytpgceeeokjadpaa.Mem Go.Proofs.Ytpgceeeokjadpaa.Code
theorem ints_top {H : Type} {enc : TypeId × Value → H} {w : World} {base : Nat} {spare : Nat → Bool} {held : Bool} {a : Option Addr} {n c : Nat} {d : DataW H} {ps : List MemPlace} (h : DataW.Trod enc Try.prog w base spare held 61 (.slice a n c) d ps) : ∃ xs, Ints w a n xs := by
  obtain ⟨fuel, hf⟩ := h
  obtain ⟨A, len, cap, xs, hx, hi⟩ := ints_of (x := .slice a n c) hf
  injection hx with h1 h2 h3
  subst h1 h2 h3
  exact ⟨xs, hi⟩
end Go.Proofs.Ytpgceeeokjadpaa.Open
namespace Go.Proofs.Ytpgceeeokjadpaa.Code
open Go.RowKit Go.Joins Go.Proofs.Ytpgceeeokjadpaa.Crc Go.Proofs.Ytpgceeeokjadpaa.Mem
theorem finds_any (w : World) (n : Int) (_hn : (Lit.int .i64 n).wf = true) (A2 : Option Addr) (n2 c2 : Nat) (xs : List Int) (hx : Ints w A2 n2 xs) :
    Calls Try.prog 10 #[.int .i64 n, .slice A2 n2 c2] w fun e w' => e = .returned (.bool true) ∧ Below w.heap.size w w' := by
  have h : n < 1 ∨ (1 ≤ n ∧ 30 < n) ∨ (1 ≤ n ∧ n ≤ 30 ∧ 30 < n2) ∨ (1 ≤ n ∧ n ≤ 30 ∧ n2 ≤ 30) := by omega
  clear _hn
  rcases h with h | ⟨h, h2⟩ | ⟨h, h2, h3⟩ | ⟨h, h2, h3⟩
  · clear hx
    go_enter Try.func10, Try.ntmps10
    go_wp2_with (go_at_call 34; (with_reducible refine (alive16_any _).mono ?_); rintro e w1 ⟨rfl, hb⟩; have HB1 := Lib.hid hb; clear hb)
    go_ret
    exact ⟨rfl, HB1.out⟩
  · clear hx
    go_enter Try.func10, Try.ntmps10
    go_wp2_with (go_at_call 34; (with_reducible refine (alive16_any _).mono ?_); rintro e w1 ⟨rfl, hb⟩; have HB1 := Lib.hid hb; clear hb)
    go_ret
    exact ⟨rfl, HB1.out⟩
  · clear hx
    go_enter Try.func10, Try.ntmps10
    go_wp2_with (go_at_call 34; (with_reducible refine (alive16_any _).mono ?_); rintro e w1 ⟨rfl, hb⟩; have HB1 := Lib.hid hb; clear hb)
    go_ret
    exact ⟨rfl, HB1.out⟩
  · obtain ⟨m, rfl⟩ := Int.eq_ofNat_of_zero_le (by omega : 0 ≤ n)
    exact finds_some w m (by omega) (by omega) A2 n2 c2 xs hx h3
end Go.Proofs.Ytpgceeeokjadpaa.Code
