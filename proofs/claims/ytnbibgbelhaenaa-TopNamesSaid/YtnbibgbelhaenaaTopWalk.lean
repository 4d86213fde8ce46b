/- The walk of TopNames: each number of package api is what the document says. Conditions: none. -/
import Derived.Test.YtnbibgbelhaenaaMem
import Derived.Deep.QuietTactic
import Derived.BigQuiet
import Derived.LoopTactic
namespace Go.Proofs.Ytnbibgbelhaenaa.TopWalk
open Go.RowKit Go.Proofs.Ytnbibgbelhaenaa.Mem
theorem below_drewN_ {B : Nat} {a w : World} (h : Below B a w) (n : Nat) : Below B a (w.drewN n) := ⟨h.os, h.tape, h.output, h.size, h.block⟩
theorem are_any (w : World) (g n : Nat) (hn : n ≤ 1000) (hc : ∀ i, i < n → ∃ x : Int, w.cell? ⟨g, i * 2, none⟩ = some (.int .i64 x) ∧ w.cell? ⟨g, i * 2 + 1, none⟩ = some (.int .i64 x)) :
    Calls Try.prog 30 #[.slice (some ⟨g, 0, none⟩) n n] w fun e w' => e = .returned (.bool true) ∧ ∃ q, w' = w.drewN q := by
  have HC := Lib.hid hc
  clear hc
  go_enter Try.func30, Try.ntmps30
  go_wp2
  go_loopw [3] (fun i wr => ∃ k : Nat, k ≤ n ∧ i = .int .i64 k ∧ ∃ q, wr = w.drewN q) (fun i _ => n - (intOf i).toNat)
  case atStart => exact ⟨0, Nat.zero_le _, rfl, 0, rfl⟩
  case round =>
    obtain ⟨k, hk, rfl, q, rfl⟩ := hrel
    by_cases hlt : k < n
    · obtain ⟨x, h1, h2⟩ := HC.out k hlt
      go_wp2_with fail
      go_quiet (fail)
      go_wp2
      go_roundw
      case rel => exact ⟨k + 1, by omega, by go_num, _, rfl⟩
      case measure => simp [intOf]; omega
    · go_wp2
      go_ret
      exact ⟨rfl, q, rfl⟩

theorem first_cells (w : World) : ∀ i, i < 15 → ∃ x : Int, (w.alloc (.cells #[.int .i64 0, .int .i64 0, .int .i64 1, .int .i64 1, .int .i64 2, .int .i64 2, .int .i64 3, .int .i64 3, .int .i64 4, .int .i64 4, .int .i64 5, .int .i64 5, .int .i64 6, .int .i64 6, .int .i64 7, .int .i64 7, .int .i64 8, .int .i64 8, .int .i64 9, .int .i64 9, .int .i64 10, .int .i64 10, .int .i64 11, .int .i64 11, .int .i64 12, .int .i64 12, .int .i64 64, .int .i64 64, .int .i64 79, .int .i64 79] 40)).cell? ⟨w.heap.size, i * 2, none⟩ = some (.int .i64 x) ∧ (w.alloc (.cells #[.int .i64 0, .int .i64 0, .int .i64 1, .int .i64 1, .int .i64 2, .int .i64 2, .int .i64 3, .int .i64 3, .int .i64 4, .int .i64 4, .int .i64 5, .int .i64 5, .int .i64 6, .int .i64 6, .int .i64 7, .int .i64 7, .int .i64 8, .int .i64 8, .int .i64 9, .int .i64 9, .int .i64 10, .int .i64 10, .int .i64 11, .int .i64 11, .int .i64 12, .int .i64 12, .int .i64 64, .int .i64 64, .int .i64 79, .int .i64 79] 40)).cell? ⟨w.heap.size, i * 2 + 1, none⟩ = some (.int .i64 x) := by
  intro i hi
  have h : (w.alloc (.cells #[.int .i64 0, .int .i64 0, .int .i64 1, .int .i64 1, .int .i64 2, .int .i64 2, .int .i64 3, .int .i64 3, .int .i64 4, .int .i64 4, .int .i64 5, .int .i64 5, .int .i64 6, .int .i64 6, .int .i64 7, .int .i64 7, .int .i64 8, .int .i64 8, .int .i64 9, .int .i64 9, .int .i64 10, .int .i64 10, .int .i64 11, .int .i64 11, .int .i64 12, .int .i64 12, .int .i64 64, .int .i64 64, .int .i64 79, .int .i64 79] 40)).heap[w.heap.size]? = some (.cells #[.int .i64 0, .int .i64 0, .int .i64 1, .int .i64 1, .int .i64 2, .int .i64 2, .int .i64 3, .int .i64 3, .int .i64 4, .int .i64 4, .int .i64 5, .int .i64 5, .int .i64 6, .int .i64 6, .int .i64 7, .int .i64 7, .int .i64 8, .int .i64 8, .int .i64 9, .int .i64 9, .int .i64 10, .int .i64 10, .int .i64 11, .int .i64 11, .int .i64 12, .int .i64 12, .int .i64 64, .int .i64 64, .int .i64 79, .int .i64 79] 40) := heap_alloc_new w _
  generalize (w.alloc (.cells #[.int .i64 0, .int .i64 0, .int .i64 1, .int .i64 1, .int .i64 2, .int .i64 2, .int .i64 3, .int .i64 3, .int .i64 4, .int .i64 4, .int .i64 5, .int .i64 5, .int .i64 6, .int .i64 6, .int .i64 7, .int .i64 7, .int .i64 8, .int .i64 8, .int .i64 9, .int .i64 9, .int .i64 10, .int .i64 10, .int .i64 11, .int .i64 11, .int .i64 12, .int .i64 12, .int .i64 64, .int .i64 64, .int .i64 79, .int .i64 79] 40)) = W at h ⊢
  simp only [World.cell?, h]
  match i, hi with
    | 0, _ => exact ⟨0, rfl, rfl⟩
    | 1, _ => exact ⟨1, rfl, rfl⟩
    | 2, _ => exact ⟨2, rfl, rfl⟩
    | 3, _ => exact ⟨3, rfl, rfl⟩
    | 4, _ => exact ⟨4, rfl, rfl⟩
    | 5, _ => exact ⟨5, rfl, rfl⟩
    | 6, _ => exact ⟨6, rfl, rfl⟩
    | 7, _ => exact ⟨7, rfl, rfl⟩
    | 8, _ => exact ⟨8, rfl, rfl⟩
    | 9, _ => exact ⟨9, rfl, rfl⟩
    | 10, _ => exact ⟨10, rfl, rfl⟩
    | 11, _ => exact ⟨11, rfl, rfl⟩
    | 12, _ => exact ⟨12, rfl, rfl⟩
    | 13, _ => exact ⟨64, rfl, rfl⟩
    | 14, _ => exact ⟨79, rfl, rfl⟩
set_option maxRecDepth 100000 in
theorem first_any (w : World) : Calls Try.prog 22 #[] w fun e w' => e = .returned (.bool true) ∧ Below w.heap.size w w' := by
  go_enter Try.func22, Try.ntmps22
  go_wp2_with (go_at_call 30; (with_reducible refine (are_any _ w.heap.size 15 (by omega) (first_cells w)).mono ?_); rintro e w' ⟨rfl, q, rfl⟩)
  go_ret
  exact ⟨rfl, below_drewN_ ((Below.refl _ _).alloc (Nat.le_refl _) _) _⟩

theorem second_cells (w : World) : ∀ i, i < 15 → ∃ x : Int, (w.alloc (.cells #[.int .i64 94, .int .i64 94, .int .i64 64, .int .i64 64, .int .i64 24, .int .i64 24, .int .i64 24, .int .i64 24, .int .i64 4000, .int .i64 4000, .int .i64 14, .int .i64 14, .int .i64 30, .int .i64 30, .int .i64 4, .int .i64 4, .int .i64 1, .int .i64 1, .int .i64 2, .int .i64 2, .int .i64 3, .int .i64 3, .int .i64 4, .int .i64 4, .int .i64 5, .int .i64 5, .int .i64 6, .int .i64 6, .int .i64 1, .int .i64 1] 40)).cell? ⟨w.heap.size, i * 2, none⟩ = some (.int .i64 x) ∧ (w.alloc (.cells #[.int .i64 94, .int .i64 94, .int .i64 64, .int .i64 64, .int .i64 24, .int .i64 24, .int .i64 24, .int .i64 24, .int .i64 4000, .int .i64 4000, .int .i64 14, .int .i64 14, .int .i64 30, .int .i64 30, .int .i64 4, .int .i64 4, .int .i64 1, .int .i64 1, .int .i64 2, .int .i64 2, .int .i64 3, .int .i64 3, .int .i64 4, .int .i64 4, .int .i64 5, .int .i64 5, .int .i64 6, .int .i64 6, .int .i64 1, .int .i64 1] 40)).cell? ⟨w.heap.size, i * 2 + 1, none⟩ = some (.int .i64 x) := by
  intro i hi
  have h : (w.alloc (.cells #[.int .i64 94, .int .i64 94, .int .i64 64, .int .i64 64, .int .i64 24, .int .i64 24, .int .i64 24, .int .i64 24, .int .i64 4000, .int .i64 4000, .int .i64 14, .int .i64 14, .int .i64 30, .int .i64 30, .int .i64 4, .int .i64 4, .int .i64 1, .int .i64 1, .int .i64 2, .int .i64 2, .int .i64 3, .int .i64 3, .int .i64 4, .int .i64 4, .int .i64 5, .int .i64 5, .int .i64 6, .int .i64 6, .int .i64 1, .int .i64 1] 40)).heap[w.heap.size]? = some (.cells #[.int .i64 94, .int .i64 94, .int .i64 64, .int .i64 64, .int .i64 24, .int .i64 24, .int .i64 24, .int .i64 24, .int .i64 4000, .int .i64 4000, .int .i64 14, .int .i64 14, .int .i64 30, .int .i64 30, .int .i64 4, .int .i64 4, .int .i64 1, .int .i64 1, .int .i64 2, .int .i64 2, .int .i64 3, .int .i64 3, .int .i64 4, .int .i64 4, .int .i64 5, .int .i64 5, .int .i64 6, .int .i64 6, .int .i64 1, .int .i64 1] 40) := heap_alloc_new w _
  generalize (w.alloc (.cells #[.int .i64 94, .int .i64 94, .int .i64 64, .int .i64 64, .int .i64 24, .int .i64 24, .int .i64 24, .int .i64 24, .int .i64 4000, .int .i64 4000, .int .i64 14, .int .i64 14, .int .i64 30, .int .i64 30, .int .i64 4, .int .i64 4, .int .i64 1, .int .i64 1, .int .i64 2, .int .i64 2, .int .i64 3, .int .i64 3, .int .i64 4, .int .i64 4, .int .i64 5, .int .i64 5, .int .i64 6, .int .i64 6, .int .i64 1, .int .i64 1] 40)) = W at h ⊢
  simp only [World.cell?, h]
  match i, hi with
    | 0, _ => exact ⟨94, rfl, rfl⟩
    | 1, _ => exact ⟨64, rfl, rfl⟩
    | 2, _ => exact ⟨24, rfl, rfl⟩
    | 3, _ => exact ⟨24, rfl, rfl⟩
    | 4, _ => exact ⟨4000, rfl, rfl⟩
    | 5, _ => exact ⟨14, rfl, rfl⟩
    | 6, _ => exact ⟨30, rfl, rfl⟩
    | 7, _ => exact ⟨4, rfl, rfl⟩
    | 8, _ => exact ⟨1, rfl, rfl⟩
    | 9, _ => exact ⟨2, rfl, rfl⟩
    | 10, _ => exact ⟨3, rfl, rfl⟩
    | 11, _ => exact ⟨4, rfl, rfl⟩
    | 12, _ => exact ⟨5, rfl, rfl⟩
    | 13, _ => exact ⟨6, rfl, rfl⟩
    | 14, _ => exact ⟨1, rfl, rfl⟩
set_option maxRecDepth 100000 in
theorem second_any (w : World) : Calls Try.prog 23 #[] w fun e w' => e = .returned (.bool true) ∧ Below w.heap.size w w' := by
  go_enter Try.func23, Try.ntmps23
  go_wp2_with (go_at_call 30; (with_reducible refine (are_any _ w.heap.size 15 (by omega) (second_cells w)).mono ?_); rintro e w' ⟨rfl, q, rfl⟩)
  go_ret
  exact ⟨rfl, below_drewN_ ((Below.refl _ _).alloc (Nat.le_refl _) _) _⟩

theorem third_cells (w : World) : ∀ i, i < 13 → ∃ x : Int, (w.alloc (.cells #[.int .i64 2, .int .i64 2, .int .i64 3, .int .i64 3, .int .i64 4, .int .i64 4, .int .i64 5, .int .i64 5, .int .i64 6, .int .i64 6, .int .i64 7, .int .i64 7, .int .i64 8, .int .i64 8, .int .i64 9, .int .i64 9, .int .i64 20, .int .i64 20, .int .i64 21, .int .i64 21, .int .i64 22, .int .i64 22, .int .i64 23, .int .i64 23, .int .i64 24, .int .i64 24] 40)).cell? ⟨w.heap.size, i * 2, none⟩ = some (.int .i64 x) ∧ (w.alloc (.cells #[.int .i64 2, .int .i64 2, .int .i64 3, .int .i64 3, .int .i64 4, .int .i64 4, .int .i64 5, .int .i64 5, .int .i64 6, .int .i64 6, .int .i64 7, .int .i64 7, .int .i64 8, .int .i64 8, .int .i64 9, .int .i64 9, .int .i64 20, .int .i64 20, .int .i64 21, .int .i64 21, .int .i64 22, .int .i64 22, .int .i64 23, .int .i64 23, .int .i64 24, .int .i64 24] 40)).cell? ⟨w.heap.size, i * 2 + 1, none⟩ = some (.int .i64 x) := by
  intro i hi
  have h : (w.alloc (.cells #[.int .i64 2, .int .i64 2, .int .i64 3, .int .i64 3, .int .i64 4, .int .i64 4, .int .i64 5, .int .i64 5, .int .i64 6, .int .i64 6, .int .i64 7, .int .i64 7, .int .i64 8, .int .i64 8, .int .i64 9, .int .i64 9, .int .i64 20, .int .i64 20, .int .i64 21, .int .i64 21, .int .i64 22, .int .i64 22, .int .i64 23, .int .i64 23, .int .i64 24, .int .i64 24] 40)).heap[w.heap.size]? = some (.cells #[.int .i64 2, .int .i64 2, .int .i64 3, .int .i64 3, .int .i64 4, .int .i64 4, .int .i64 5, .int .i64 5, .int .i64 6, .int .i64 6, .int .i64 7, .int .i64 7, .int .i64 8, .int .i64 8, .int .i64 9, .int .i64 9, .int .i64 20, .int .i64 20, .int .i64 21, .int .i64 21, .int .i64 22, .int .i64 22, .int .i64 23, .int .i64 23, .int .i64 24, .int .i64 24] 40) := heap_alloc_new w _
  generalize (w.alloc (.cells #[.int .i64 2, .int .i64 2, .int .i64 3, .int .i64 3, .int .i64 4, .int .i64 4, .int .i64 5, .int .i64 5, .int .i64 6, .int .i64 6, .int .i64 7, .int .i64 7, .int .i64 8, .int .i64 8, .int .i64 9, .int .i64 9, .int .i64 20, .int .i64 20, .int .i64 21, .int .i64 21, .int .i64 22, .int .i64 22, .int .i64 23, .int .i64 23, .int .i64 24, .int .i64 24] 40)) = W at h ⊢
  simp only [World.cell?, h]
  match i, hi with
    | 0, _ => exact ⟨2, rfl, rfl⟩
    | 1, _ => exact ⟨3, rfl, rfl⟩
    | 2, _ => exact ⟨4, rfl, rfl⟩
    | 3, _ => exact ⟨5, rfl, rfl⟩
    | 4, _ => exact ⟨6, rfl, rfl⟩
    | 5, _ => exact ⟨7, rfl, rfl⟩
    | 6, _ => exact ⟨8, rfl, rfl⟩
    | 7, _ => exact ⟨9, rfl, rfl⟩
    | 8, _ => exact ⟨20, rfl, rfl⟩
    | 9, _ => exact ⟨21, rfl, rfl⟩
    | 10, _ => exact ⟨22, rfl, rfl⟩
    | 11, _ => exact ⟨23, rfl, rfl⟩
    | 12, _ => exact ⟨24, rfl, rfl⟩
set_option maxRecDepth 100000 in
theorem third_any (w : World) : Calls Try.prog 24 #[] w fun e w' => e = .returned (.bool true) ∧ Below w.heap.size w w' := by
  go_enter Try.func24, Try.ntmps24
  go_wp2_with (go_at_call 30; (with_reducible refine (are_any _ w.heap.size 13 (by omega) (third_cells w)).mono ?_); rintro e w' ⟨rfl, q, rfl⟩)
  go_ret
  exact ⟨rfl, below_drewN_ ((Below.refl _ _).alloc (Nat.le_refl _) _) _⟩

theorem top_any (w : World) : Calls Try.prog 10 #[] w fun e w' => e = .returned (.bool true) ∧ Below w.heap.size w w' := by
  go_enter Try.func10, Try.ntmps10
  go_wp2_with (first
    | (go_at_call 22; (with_reducible refine (first_any _).mono ?_); rintro e w1 ⟨rfl, h1⟩; have H1 := Lib.hid h1; clear h1)
    | (go_at_call 23; (with_reducible refine (second_any _).mono ?_); rintro e w2 ⟨rfl, h2⟩; have H2 := Lib.hid h2; clear h2)
    | (go_at_call 24; (with_reducible refine (third_any _).mono ?_); rintro e w3 ⟨rfl, h3⟩; have H3 := Lib.hid h3; clear h3))
  go_ret
  exact ⟨rfl, H1.out.trans ((H2.out.trans (H3.out.mono H2.out.size)).mono H1.out.size)⟩
end Go.Proofs.Ytnbibgbelhaenaa.TopWalk
