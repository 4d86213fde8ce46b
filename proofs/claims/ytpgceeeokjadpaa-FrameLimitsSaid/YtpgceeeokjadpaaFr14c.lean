/- FrameLimits' walk, whole. Conditions: none. -/
import Derived.Test.YtpgceeeokjadpaaFr14b
namespace Go.Proofs.Ytpgceeeokjadpaa.Code
open Go.RowKit Go.Joins Go.Proofs.Ytpgceeeokjadpaa.Crc Go.Proofs.Ytpgceeeokjadpaa.Mem
theorem limits_any (w : World) (i : Int) (_hi : (Lit.int .i64 i).wf = true) (b : Bool) :
    Calls Try.prog 8 #[.int .i64 i, .bool b] w fun e w' => e = .returned (.bool true) ∧ Below w.heap.size w w' := by
  have h : i < 0 ∨ (0 ≤ i ∧ 5 < i) ∨ (0 ≤ i ∧ i ≤ 5) := by omega
  clear _hi
  rcases h with h | ⟨h, h2⟩ | ⟨h, h2⟩
  · go_enter Try.func8, Try.ntmps8
    go_wp2_with (first
      | (go_at_call 27; (with_reducible refine (alive9_any _).mono ?_); rintro e w1 ⟨rfl, hb⟩; have HB1 := Lib.hid hb; clear hb))
    go_ret
    exact ⟨rfl, HB1.out⟩
  · go_enter Try.func8, Try.ntmps8
    go_wp2_with (first
      | (go_at_call 27; (with_reducible refine (alive9_any _).mono ?_); rintro e w1 ⟨rfl, hb⟩; have HB1 := Lib.hid hb; clear hb))
    go_ret
    exact ⟨rfl, HB1.out⟩
  · cases b
    · exact limits_kept w i h h2
    · exact limits_over w i h h2
end Go.Proofs.Ytpgceeeokjadpaa.Code
