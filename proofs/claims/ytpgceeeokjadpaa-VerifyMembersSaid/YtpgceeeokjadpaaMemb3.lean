/- VerifyMembers' walk, whole. Conditions: none. -/
import Derived.Test.YtpgceeeokjadpaaMemb2
namespace Go.Proofs.Ytpgceeeokjadpaa.Code
open Go.RowKit Go.Joins Go.Proofs.Ytpgceeeokjadpaa.Crc Go.Proofs.Ytpgceeeokjadpaa.Mem
set_option maxHeartbeats 8000000 in
theorem members_not0 (w : World) (n a b c : Int)  (h0 : n < 1) :
    Calls Try.prog 12 #[.int .i64 n, .int .i64 a, .int .i64 b, .int .i64 c] w fun e w' => e = .returned (.bool true) ∧ Below w.heap.size w w' := by
  go_enter Try.func12, Try.ntmps12
  go_wp2_with (go_at_call 34; (with_reducible refine (alive16_any _).mono ?_); rintro e w1 ⟨rfl, hb⟩; have HB1 := Lib.hid hb; clear hb)
  go_ret
  exact ⟨rfl, HB1.out⟩
set_option maxHeartbeats 8000000 in
theorem members_not1 (w : World) (n a b c : Int) (h0 : 1 ≤ n) (h1 : 8 < n) :
    Calls Try.prog 12 #[.int .i64 n, .int .i64 a, .int .i64 b, .int .i64 c] w fun e w' => e = .returned (.bool true) ∧ Below w.heap.size w w' := by
  go_enter Try.func12, Try.ntmps12
  go_wp2_with (go_at_call 34; (with_reducible refine (alive16_any _).mono ?_); rintro e w1 ⟨rfl, hb⟩; have HB1 := Lib.hid hb; clear hb)
  go_ret
  exact ⟨rfl, HB1.out⟩
set_option maxHeartbeats 8000000 in
theorem members_not2 (w : World) (n a b c : Int) (h0 : 1 ≤ n) (h1 : n ≤ 8) (h2 : a < 0) :
    Calls Try.prog 12 #[.int .i64 n, .int .i64 a, .int .i64 b, .int .i64 c] w fun e w' => e = .returned (.bool true) ∧ Below w.heap.size w w' := by
  go_enter Try.func12, Try.ntmps12
  go_wp2_with (go_at_call 34; (with_reducible refine (alive16_any _).mono ?_); rintro e w1 ⟨rfl, hb⟩; have HB1 := Lib.hid hb; clear hb)
  go_ret
  exact ⟨rfl, HB1.out⟩
set_option maxHeartbeats 8000000 in
theorem members_not3 (w : World) (n a b c : Int) (h0 : 1 ≤ n) (h1 : n ≤ 8) (h2 : 0 ≤ a) (h3 : b < 0) :
    Calls Try.prog 12 #[.int .i64 n, .int .i64 a, .int .i64 b, .int .i64 c] w fun e w' => e = .returned (.bool true) ∧ Below w.heap.size w w' := by
  go_enter Try.func12, Try.ntmps12
  go_wp2_with (go_at_call 34; (with_reducible refine (alive16_any _).mono ?_); rintro e w1 ⟨rfl, hb⟩; have HB1 := Lib.hid hb; clear hb)
  go_ret
  exact ⟨rfl, HB1.out⟩
set_option maxHeartbeats 8000000 in
theorem members_not4 (w : World) (n a b c : Int) (h0 : 1 ≤ n) (h1 : n ≤ 8) (h2 : 0 ≤ a) (h3 : 0 ≤ b) (h4 : c < 0) :
    Calls Try.prog 12 #[.int .i64 n, .int .i64 a, .int .i64 b, .int .i64 c] w fun e w' => e = .returned (.bool true) ∧ Below w.heap.size w w' := by
  go_enter Try.func12, Try.ntmps12
  go_wp2_with (go_at_call 34; (with_reducible refine (alive16_any _).mono ?_); rintro e w1 ⟨rfl, hb⟩; have HB1 := Lib.hid hb; clear hb)
  go_ret
  exact ⟨rfl, HB1.out⟩
set_option maxHeartbeats 8000000 in
theorem members_not5 (w : World) (n a b c : Int) (h0 : 1 ≤ n) (h1 : n ≤ 8) (h2 : 0 ≤ a) (h3 : 0 ≤ b) (h4 : 0 ≤ c) (h5 : n < a) :
    Calls Try.prog 12 #[.int .i64 n, .int .i64 a, .int .i64 b, .int .i64 c] w fun e w' => e = .returned (.bool true) ∧ Below w.heap.size w w' := by
  go_enter Try.func12, Try.ntmps12
  go_wp2_with (go_at_call 34; (with_reducible refine (alive16_any _).mono ?_); rintro e w1 ⟨rfl, hb⟩; have HB1 := Lib.hid hb; clear hb)
  go_ret
  exact ⟨rfl, HB1.out⟩
set_option maxHeartbeats 8000000 in
theorem members_not6 (w : World) (n a b c : Int) (h0 : 1 ≤ n) (h1 : n ≤ 8) (h2 : 0 ≤ a) (h3 : 0 ≤ b) (h4 : 0 ≤ c) (h5 : a ≤ n) (h6 : n < b) :
    Calls Try.prog 12 #[.int .i64 n, .int .i64 a, .int .i64 b, .int .i64 c] w fun e w' => e = .returned (.bool true) ∧ Below w.heap.size w w' := by
  go_enter Try.func12, Try.ntmps12
  go_wp2_with (go_at_call 34; (with_reducible refine (alive16_any _).mono ?_); rintro e w1 ⟨rfl, hb⟩; have HB1 := Lib.hid hb; clear hb)
  go_ret
  exact ⟨rfl, HB1.out⟩
set_option maxHeartbeats 8000000 in
theorem members_not7 (w : World) (n a b c : Int) (h0 : 1 ≤ n) (h1 : n ≤ 8) (h2 : 0 ≤ a) (h3 : 0 ≤ b) (h4 : 0 ≤ c) (h5 : a ≤ n) (h6 : b ≤ n) (h7 : n < c) :
    Calls Try.prog 12 #[.int .i64 n, .int .i64 a, .int .i64 b, .int .i64 c] w fun e w' => e = .returned (.bool true) ∧ Below w.heap.size w w' := by
  go_enter Try.func12, Try.ntmps12
  go_wp2_with (go_at_call 34; (with_reducible refine (alive16_any _).mono ?_); rintro e w1 ⟨rfl, hb⟩; have HB1 := Lib.hid hb; clear hb)
  go_ret
  exact ⟨rfl, HB1.out⟩
set_option maxHeartbeats 8000000 in
theorem members_not8 (w : World) (n a b c : Int) (h0 : 1 ≤ n) (h1 : n ≤ 8) (h2 : 0 ≤ a) (h3 : 0 ≤ b) (h4 : 0 ≤ c) (h5 : a ≤ n) (h6 : b ≤ n) (h7 : c ≤ n) (h8 : n < a + b + c) :
    Calls Try.prog 12 #[.int .i64 n, .int .i64 a, .int .i64 b, .int .i64 c] w fun e w' => e = .returned (.bool true) ∧ Below w.heap.size w w' := by
  go_enter Try.func12, Try.ntmps12
  go_wp2_with (go_at_call 34; (with_reducible refine (alive16_any _).mono ?_); rintro e w1 ⟨rfl, hb⟩; have HB1 := Lib.hid hb; clear hb)
  go_ret
  exact ⟨rfl, HB1.out⟩
theorem members_any (w : World) (n : Int) (_hn : (Lit.int .i64 n).wf = true) (a : Int) (_ha : (Lit.int .i64 a).wf = true) (b : Int) (_hb : (Lit.int .i64 b).wf = true) (c : Int) (_hc : (Lit.int .i64 c).wf = true) :
    Calls Try.prog 12 #[.int .i64 n, .int .i64 a, .int .i64 b, .int .i64 c] w fun e w' => e = .returned (.bool true) ∧ Below w.heap.size w w' := by
  by_cases k0 : n < 1
  · exact members_not0 w n a b c  k0
  by_cases k1 : 8 < n
  · exact members_not1 w n a b c (Int.not_lt.1 k0) k1
  by_cases k2 : a < 0
  · exact members_not2 w n a b c (Int.not_lt.1 k0) (Int.not_lt.1 k1) k2
  by_cases k3 : b < 0
  · exact members_not3 w n a b c (Int.not_lt.1 k0) (Int.not_lt.1 k1) (Int.not_lt.1 k2) k3
  by_cases k4 : c < 0
  · exact members_not4 w n a b c (Int.not_lt.1 k0) (Int.not_lt.1 k1) (Int.not_lt.1 k2) (Int.not_lt.1 k3) k4
  by_cases k5 : n < a
  · exact members_not5 w n a b c (Int.not_lt.1 k0) (Int.not_lt.1 k1) (Int.not_lt.1 k2) (Int.not_lt.1 k3) (Int.not_lt.1 k4) k5
  by_cases k6 : n < b
  · exact members_not6 w n a b c (Int.not_lt.1 k0) (Int.not_lt.1 k1) (Int.not_lt.1 k2) (Int.not_lt.1 k3) (Int.not_lt.1 k4) (Int.not_lt.1 k5) k6
  by_cases k7 : n < c
  · exact members_not7 w n a b c (Int.not_lt.1 k0) (Int.not_lt.1 k1) (Int.not_lt.1 k2) (Int.not_lt.1 k3) (Int.not_lt.1 k4) (Int.not_lt.1 k5) (Int.not_lt.1 k6) k7
  by_cases k8 : n < a + b + c
  · exact members_not8 w n a b c (Int.not_lt.1 k0) (Int.not_lt.1 k1) (Int.not_lt.1 k2) (Int.not_lt.1 k3) (Int.not_lt.1 k4) (Int.not_lt.1 k5) (Int.not_lt.1 k6) (Int.not_lt.1 k7) k8
  obtain ⟨n, rfl⟩ := Int.eq_ofNat_of_zero_le (by omega : 0 ≤ n)
  obtain ⟨a, rfl⟩ := Int.eq_ofNat_of_zero_le (Int.not_lt.1 k2)
  obtain ⟨b, rfl⟩ := Int.eq_ofNat_of_zero_le (Int.not_lt.1 k3)
  obtain ⟨c, rfl⟩ := Int.eq_ofNat_of_zero_le (Int.not_lt.1 k4)
  exact members_some w n a b c (by omega) (by omega) (by omega)
end Go.Proofs.Ytpgceeeokjadpaa.Code
