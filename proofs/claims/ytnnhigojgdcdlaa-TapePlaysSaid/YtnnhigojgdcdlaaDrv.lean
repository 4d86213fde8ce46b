/- A drive in memory: what its methods that only read answer. Conditions: as each says. -/
import Derived.Test.YtnnhigojgdcdlaaBl
import Derived.BigQuiet
namespace Go.Proofs.Ytnnhigojgdcdlaa.Code
open Go.RowKit Go.Joins Go.Proofs.Ytnnhigojgdcdlaa.Crc Go.Proofs.Ytnnhigojgdcdlaa.Mem
theorem ret_bool {a b : Bool} (h : a = b) : Ending.returned (.bool a) = .returned (.bool b) := by rw [h]
theorem ret_int {k : IntKind} {a b : Int} (h : a = b) : Ending.returned (.int k a) = .returned (.int k b) := by rw [h]
theorem bdrawn {B : Nat} {a w : World} (h : Below B a w) (n : Nat) : Below B a (w.drewN n) := h.trans ⟨rfl, rfl, rfl, Nat.le_refl _, fun _ _ => rfl⟩
theorem below_then {B : Nat} {w0 w w' : World} (h : Below B w0 w) (h' : Below w.heap.size w w') (hB : B ≤ w.heap.size) : Below B w0 w' := h.trans (h'.mono hB)
/-- A drive's block. -/
def Db (w : World) (q : Nat) (t : Tp) (A : Option Addr) (n c : Nat) : Prop := w.heap[q]? = some (.cells #[.int .i64 t.label, .int .i64 t.cap, .slice A n c, .bool t.lost] 58 (0, 0))
theorem Db.cells {w : World} {q : Nat} {t : Tp} {A : Option Addr} {n c : Nat} (h : Db w q t A n c) :
    w.cell? ⟨q, 0, none⟩ = some (.int .i64 t.label) ∧ w.cell? ⟨q, 1, none⟩ = some (.int .i64 t.cap) ∧ w.cell? ⟨q, 2, none⟩ = some (.slice A n c) ∧ w.cell? ⟨q, 3, none⟩ = some (.bool t.lost) :=
  ⟨cell_of_block h 0, cell_of_block h 1, cell_of_block h 2, cell_of_block h 3⟩
theorem Db.below {w w' : World} {q : Nat} {t : Tp} {A : Option Addr} {n c : Nat} (h : Db w q t A n c) (hb : Below w.heap.size w w') : Db w' q t A n c := (hb.block q (lt_of_block h)).trans h
theorem num_any (w : World) (k : Int) : Calls Try.prog 9 #[.int .i64 k] w fun e w' => e = .returned (.int .i64 k) ∧ w' = w := by
  go_enter Try.func9, Try.ntmps9
  go_wp2
  go_ret
  exact ⟨rfl, rfl⟩
theorem wrong_yes (w : World) (A : Option Addr) (n c : Nat) (h : n = 0 ∨ 94 < n) : Calls Try.prog 26 #[.slice A n c] w fun e w' => e = .returned (.bool true) ∧ w' = w := by
  rcases h with rfl | h
  · go_enter Try.func26, Try.ntmps26
    go_wp2
    go_ret
    exact ⟨rfl, rfl⟩
  · have t : ((n : Int) == 0) = false := beq_eq_false_iff_ne.mpr (by omega)
    go_enter Try.func26, Try.ntmps26
    go_wp2
    go_ret
    exact ⟨ret_bool (by rw [decide_eq_true (by omega : (94 : Int) < (n : Int))]; try simp), rfl⟩
theorem wrong_no (w : World) (A : Option Addr) (n c : Nat) (h : 0 < n) (h2 : n ≤ 94) : Calls Try.prog 26 #[.slice A n c] w fun e w' => e = .returned (.bool false) ∧ w' = w := by
  have t : ((n : Int) == 0) = false := beq_eq_false_iff_ne.mpr (by omega)
  go_enter Try.func26, Try.ntmps26
  go_wp2
  go_ret
  exact ⟨ret_bool (by rw [decide_eq_false (by omega : ¬ (94 : Int) < (n : Int))]; try (simp <;> omega)), rfl⟩
theorem len_any (w : World) (q : Nat) (t : Tp) (A : Option Addr) (n c : Nat) (h : Db w q t A n c) : Calls Try.prog 12 #[.pointer (some ⟨q, 0, none⟩)] w fun e w' => e = .returned (.int .i64 (n : Int)) ∧ w' = w := by
  obtain ⟨h0, h1, h2, h3⟩ := h.cells
  clear h
  go_enter Try.func12, Try.ntmps12
  go_wp2
  go_ret
  exact ⟨rfl, rfl⟩
theorem room_any (w : World) (q : Nat) (t : Tp) (A : Option Addr) (n c : Nat) (h : Db w q t A n c) (h0 : (n : Int) ≤ t.cap) (h1 : t.cap ≤ 64) : Calls Try.prog 13 #[.pointer (some ⟨q, 0, none⟩)] w fun e w' => e = .returned (.int .i64 (t.cap - (n : Int))) ∧ ∃ k, w' = w.drewN k := by
  obtain ⟨c0, c1, c2, c3⟩ := h.cells
  clear h
  go_enter Try.func13, Try.ntmps13
  go_wp2
  go_quiet (fail)
  go_wp2
  go_ret
  exact ⟨rfl, _, rfl⟩
theorem is_yes (w : World) (q : Nat) (t : Tp) (A : Option Addr) (n c : Nat) (h : Db w q t A n c) (k : Int) (h1 : 0 ≤ k) (h2 : k < (n : Int)) : Calls Try.prog 29 #[.pointer (some ⟨q, 0, none⟩), .int .i64 k] w fun e w' => e = .returned (.bool true) ∧ w' = w := by
  have HD := Lib.hid h
  clear h
  go_enter Try.func29, Try.ntmps29
  go_wp2_with (go_at_call 12; (with_reducible refine (len_any _ q t A n c HD.out).mono ?_); rintro e w' ⟨rfl, rfl⟩)
  go_ret
  exact ⟨ret_bool (by simp <;> omega), rfl⟩
theorem is_no (w : World) (q : Nat) (t : Tp) (A : Option Addr) (n c : Nat) (h : Db w q t A n c) (k : Int) (h1 : k < 0 ∨ (n : Int) ≤ k) : Calls Try.prog 29 #[.pointer (some ⟨q, 0, none⟩), .int .i64 k] w fun e w' => e = .returned (.bool false) ∧ w' = w := by
  have HD := Lib.hid h
  have hk : k < 0 ∨ (0 ≤ k ∧ (n : Int) ≤ k) := by omega
  clear h h1
  rcases hk with h | ⟨h, h2⟩
  · go_enter Try.func29, Try.ntmps29
    go_wp2
    go_ret
    exact ⟨rfl, rfl⟩
  · go_enter Try.func29, Try.ntmps29
    go_wp2_with (go_at_call 12; (with_reducible refine (len_any _ q t A n c HD.out).mono ?_); rintro e w' ⟨rfl, rfl⟩)
    go_ret
    exact ⟨ret_bool (by simp <;> omega), rfl⟩
end Go.Proofs.Ytnnhigojgdcdlaa.Code
