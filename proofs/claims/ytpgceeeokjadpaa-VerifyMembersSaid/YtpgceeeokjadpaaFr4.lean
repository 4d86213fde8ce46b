/- What the reference's PutFrame makes. Conditions: as each law says. -/
import Derived.Test.YtpgceeeokjadpaaFr3
import Derived.StillTailTactics
namespace Go.Proofs.Ytpgceeeokjadpaa.Code
open Go.RowKit Go.Joins Go.Proofs.Ytpgceeeokjadpaa.Crc Go.Proofs.Ytpgceeeokjadpaa.Mem
set_option maxHeartbeats 4000000 in
set_option maxRecDepth 100000 in
theorem putref_bad (w : World) (u : Un) (A : Option Addr) (n c : Nat) (hl : u.load.length = n) (hc : chk u = 1) : Calls Try.prog 29 #[uv u A n c] w fun e w' => PutPost w u e w' := by
  have HB := Lib.hid ((Below.refl w.heap.size w).alloc (Nat.le_refl _) (.cells #[.int .i64 u.kind, .int .i64 u.label, .int .i64 u.number, .slice A n c] 45))
  have HC := Lib.hid hc
  have hd : u.kind < 1 ∨ (1 ≤ u.kind ∧ 6 < u.kind) ∨ (1 ≤ u.kind ∧ u.kind ≤ 6 ∧ u.label < 1) ∨ (1 ≤ u.kind ∧ u.kind ≤ 6 ∧ 1 ≤ u.label ∧ 2147483647 < u.label) ∨ (1 ≤ u.kind ∧ u.kind ≤ 6 ∧ 1 ≤ u.label ∧ u.label ≤ 2147483647 ∧ u.number < 0) ∨ (1 ≤ u.kind ∧ u.kind ≤ 6 ∧ 1 ≤ u.label ∧ u.label ≤ 2147483647 ∧ 0 ≤ u.number ∧ 2147483647 < u.number) := by
    unfold chk at hc
    split at hc
    · omega
    · split at hc
      · omega
      · split at hc <;> omega
  obtain ⟨kind, label, number, load⟩ := u
  clear hl hc
  unfold uv
  by_cases h6 : kind = 6
  · subst h6
    simp only at hd
    rcases hd with h | ⟨h1, h⟩ | ⟨h1, h2, h⟩ | ⟨h1, h2, h3, h⟩ | ⟨h1, h2, h3, h4, h⟩ | ⟨h1, h2, h3, h4, h5, h⟩
    · omega
    · omega
    all_goals
      go_enter Try.func29, Try.ntmps29
      go_wp2
      go_ret2
      exact put_none HC.out (by decide) HB.out
  · have t : (kind == 6) = false := beq_eq_false_iff_ne.mpr h6
    clear h6
    simp only at hd
    rcases hd with h | ⟨h1, h⟩ | ⟨h1, h2, h⟩ | ⟨h1, h2, h3, h⟩ | ⟨h1, h2, h3, h4, h⟩ | ⟨h1, h2, h3, h4, h5, h⟩
    all_goals
      go_enter Try.func29, Try.ntmps29
      go_wp2
      go_ret2
      exact put_none HC.out (by decide) HB.out
set_option maxHeartbeats 4000000 in
set_option maxRecDepth 100000 in
theorem putref_long (w : World) (u : Un) (A : Option Addr) (n c : Nat) (hl : u.load.length = n) (hc : chk u = 4) : Calls Try.prog 29 #[uv u A n c] w fun e w' => PutPost w u e w' := by
  have HB := Lib.hid ((Below.refl w.heap.size w).alloc (Nat.le_refl _) (.cells #[.int .i64 u.kind, .int .i64 u.label, .int .i64 u.number, .slice A n c] 45))
  have HC := Lib.hid hc
  have hd : 1 ≤ u.kind ∧ u.kind ≤ 6 ∧ 1 ≤ u.label ∧ u.label ≤ 2147483647 ∧ 0 ≤ u.number ∧ u.number ≤ 2147483647 ∧ room u.kind < n := by
    unfold chk at hc
    split at hc
    · omega
    · split at hc
      · omega
      · split at hc <;> omega
  obtain ⟨kind, label, number, load⟩ := u
  clear hl hc
  unfold uv
  obtain ⟨h1, h2, h3, h4, h5, h6, h⟩ := hd
  simp only at h1 h2 h3 h4 h5 h6 h
  by_cases hk : kind = 6
  · subst hk
    have hr : 79 < n := h
    clear h
    go_enter Try.func29, Try.ntmps29
    go_wp2
    go_ret2
    exact put_none HC.out (by decide) HB.out
  · have t : (kind == 6) = false := beq_eq_false_iff_ne.mpr hk
    have hr : 64 < n := by unfold room at h; rw [if_neg hk] at h; exact h
    clear h hk
    go_enter Try.func29, Try.ntmps29
    go_wp2
    go_ret2
    exact put_none HC.out (by decide) HB.out
end Go.Proofs.Ytpgceeeokjadpaa.Code
