/- A drive in memory: Tape. Conditions: the blocks are few and short. -/
import Derived.Test.YtnnhigojgdcdlaaSame
namespace Go.Proofs.Ytnnhigojgdcdlaa.Code
open Go.RowKit Go.Joins Go.Proofs.Ytnnhigojgdcdlaa.Crc Go.Proofs.Ytnnhigojgdcdlaa.Mem
def Copied (w : World) (t : Tp) (e : Ending) (w' : World) : Prop := ∃ A' n c', e = .returned (tv t A' n c') ∧ Bl w' w.heap.size A' n c' t.blocks ∧ Below w.heap.size w w'
set_option maxHeartbeats 4000000 in
theorem tape_any (w : World) (S : Nat → Prop) (q : Nat) (t : Tp) (h : DrS 58 w S q t) (hn : t.blocks.length ≤ 1000) (hl : ∀ b ∈ t.blocks, b.length ≤ 1000000) :
    Calls Try.prog 17 #[.pointer (some ⟨q, 0, none⟩)] w (Copied w t) := by
  obtain ⟨A, n, c, vs, h⟩ := h
  have hlen := h.len
  have hb1 := (Below.refl w.heap.size w).alloc (Nat.le_refl _) (.cells #[.int .i64 0, .int .i64 0, .slice none 0 0, .bool false] 29)
  have hT := h.below hb1
  obtain ⟨c0, c1, c2, c3⟩ := hT.cells
  obtain ⟨d0, d1, d2, d3⟩ := h.cells
  have HZ : Hid ((w.alloc (.cells #[.int .i64 0, .int .i64 0, .slice none 0 0, .bool false] 29)).heap[w.heap.size]? = some (.cells #[.int .i64 0, .int .i64 0, .slice none 0 0, .bool false] 29 (0, 0))) := heap_alloc_new w _
  have HB1 := Lib.hid hb1
  have HL := Lib.hid hT.blks
  have HS := Lib.hid hl
  have hn1 : n ≤ 1000 := by omega
  clear h hT hb1 hlen hl
  go_enter Try.func17, Try.ntmps17
  go_wp2_with (go_at_call 27; (refine (clonet_any _ t A n c HL.out hn1 HS.out).mono ?_); rintro e w2 ⟨A', c', rfl, hbl, hb⟩; have HN := Lib.hid hbl; have HB := Lib.hid hb; have HZ2 := Lib.hid ((hb.block _ (lt_of_block HZ.out)).trans HZ.out); have r0 := cell_of_block HZ2.out 0; have r1 := cell_of_block HZ2.out 1; have r2 := cell_of_block HZ2.out 2; have r3 := cell_of_block HZ2.out 3; have f0 := unfrozen_of_block HZ2.out 0; have f1 := unfrozen_of_block HZ2.out 1; have f2 := unfrozen_of_block HZ2.out 2; have f3 := unfrozen_of_block HZ2.out 3; clear hbl hb)
  obtain ⟨s0, s1, s2, s3, st, _⟩ := four_set HZ2.out (.int .i64 t.label) (.int .i64 t.cap) (.slice A' n c') (.bool t.lost)
  refine bodyPost_ret (v := tv t A' n c') (by simp [results, Try.results17, go_sem, s0, s1, s2, s3]) rfl ⟨A', n, c', rfl, ?_, ?_⟩
  · exact (HN.out.lower (by simp)).stay st (by decide) (by decide)
  · have hb := HB1.out.trans (HB.out.mono (by simp))
    exact (((hb.setCell (by simp) _).setCell (by simp) _).setCell (by simp) _).setCell (by simp) _
end Go.Proofs.Ytnnhigojgdcdlaa.Code
