/- A drive in memory: Read and Append. Conditions: as each says. -/
import Derived.Test.YtnnhigojgdcdlaaDrv
import Derived.Deep.RegionLaw
namespace Go.Proofs.Ytnnhigojgdcdlaa.Code
open Go.RowKit Go.Joins Go.Proofs.Ytnnhigojgdcdlaa.Crc Go.Proofs.Ytnnhigojgdcdlaa.Mem
theorem read_yes (w : World) (q : Nat) (t : Tp) (A : Option Addr) (n c : Nat) (h : Db w q t A n c) (hB : Blks w A n c t.blocks) (k : Nat) (hk : k < n) (b : List UInt8) (hb : t.blocks[k]? = some b) (hl : b.length ≤ 1000000) :
    Calls Try.prog 11 #[.pointer (some ⟨q, 0, none⟩), .int .i64 (k : Int)] w fun e w' => ∃ A' m c', e = .returned (.tuple #[.slice A' m c', .int .i64 0]) ∧ Own w' w.heap.size A' m c' b ∧ Below w.heap.size w w' := by
  have HD := Lib.hid h
  obtain ⟨c0, c1, c2, c3⟩ := h.cells
  obtain ⟨bb, o, A1, n1, c1', l, rfl, hl1, hc, hs, _⟩ := hB.at k hk
  rw [hb] at hl1
  injection hl1 with hl1
  subst hl1
  have hn1 := hs.len
  have HS := Lib.hid hs
  clear h hB hb hs
  go_enter Try.func11, Try.ntmps11
  go_wp2_with (first
    | (go_at_call 29; (with_reducible refine (is_yes _ q t _ n c HD.out (k : Int) (by omega) (by omega)).mono ?_); rintro e w' ⟨rfl, rfl⟩)
    | (go_at_call 28; (with_reducible refine (clone_any _ _ _ _ _ HS.out (by omega)).mono ?_); rintro e w2 ⟨A', c', rfl, hnew⟩; have HN := Lib.hid hnew; clear hnew))
  go_ret2
  exact ⟨A', n1, c', rfl, HN.out.1, HN.out.2⟩
theorem read_no (w : World) (q : Nat) (t : Tp) (A : Option Addr) (n c : Nat) (h : Db w q t A n c) (k : Int) (hk : k < 0 ∨ (n : Int) ≤ k) :
    Calls Try.prog 11 #[.pointer (some ⟨q, 0, none⟩), .int .i64 k] w fun e w' => e = .returned (.tuple #[.slice none 0 0, .int .i64 5]) ∧ w' = w := by
  have HD := Lib.hid h
  have HK := Lib.hid hk
  clear h hk
  go_enter Try.func11, Try.ntmps11
  go_wp2_with (go_at_call 29; (with_reducible refine (is_no _ q t _ n c HD.out k HK.out).mono ?_); rintro e w' ⟨rfl, rfl⟩)
  go_ret2
  exact ⟨rfl, rfl⟩
end Go.Proofs.Ytnnhigojgdcdlaa.Code
