/- What package fault finds in an error. Conditions: as each says. -/
import Derived.Test.YtppablpbpimloaaDoorChn
namespace Go.Proofs.YtppablpbpimloaaDoor.Code
open Go Go.RowKit Go.Joins Go.Extern.Stop Go.Stop Go.Extern Go.Proofs.YtppablpbpimloaaDoor.Rl
def Gives (w : World) (v : Value) (e : Ending) (w' : World) : Prop := e = .returned v ∧ Below w.heap.size w w'
theorem find_any (w : World) (e n : Nat) (v : Value) (h : Ch w e n v) (hg : Ety w) : Calls Tryd.prog 17 #[v] w (Gives w (.pointer (some ⟨e, 0, none⟩))) := by
  have hb1 := (Below.refl w.heap.size w).alloc (Nat.le_refl _) (.cells #[.pointer none] 43)
  have HB1 := Lib.hid hb1
  have HC := Lib.hid (h.move hb1)
  have HG := Lib.hid (hg.below hb1)
  have HT : Hid ((w.alloc (.cells #[.pointer none] 43)).heap[w.heap.size]? = some (.cells #[.pointer none] 43 (0, 0))) := heap_alloc_new w _
  clear h hg hb1
  go_enter Tryd.func17, Tryd.ntmps17
  go_wp2_with (go_at_call 20; (refine (as_hit _ e n v HC.out w.heap.size HT.out HG.out).mono ?_); rintro r w' ⟨rfl, hs, hb⟩; have HS := Lib.hid hs; have c0 := cell_of_block hs 0; have HB := Lib.hid (hb w.heap.size (Nat.le_refl _) (by simp)); clear hs hb)
  go_ret
  exact ⟨rfl, HB1.out.trans HB.out⟩
theorem Flt.below {w w' : World} {e : Nat} {c l b : Int} (h : Flt w e c l b) (hb : Below w.heap.size w w') : Flt w' e c l b := (hb.block _ (lt_of_block h)).trans h
theorem num_any (w : World) (k : Int) : Calls Tryd.prog 12 #[.int .i64 k] w fun e w' => e = .returned (.int .i64 k) ∧ w' = w := by
  go_enter Tryd.func12, Tryd.ntmps12
  go_wp2
  go_ret
  exact ⟨rfl, rfl⟩
theorem code_any (w : World) (e n : Nat) (v : Value) (c l b : Int) (h : Ch w e n v) (hf : Flt w e c l b) (hg : Ety w) : Calls Tryd.prog 13 #[v] w (Gives w (.int .i64 c)) := by
  have HC := Lib.hid h
  have HG := Lib.hid hg
  have HF := Lib.hid hf
  obtain ⟨T, b', rfl, hT⟩ := h.shape
  clear h hf hg
  go_enter Tryd.func13, Tryd.ntmps13
  go_wp2_with (go_at_call 17; (refine (find_any _ e n _ HC.out HG.out).mono ?_); rintro r w' ⟨rfl, hb⟩; have hf2 := HF.out.below hb; have c0 := cell_of_block hf2 0; have HB := Lib.hid hb; clear hf2 hb)
  go_ret
  exact ⟨rfl, HB.out⟩
theorem code_nil (w : World) : Calls Tryd.prog 13 #[.nilIface] w fun e w' => e = .returned (.int .i64 0) ∧ w' = w := by
  go_enter Tryd.func13, Tryd.ntmps13
  go_wp2
  go_ret
  exact ⟨rfl, rfl⟩
/-- Two stores into a block of two cells. -/
theorem two_set {w : World} {q : Nat} {x0 x1 : Value} {T : TypeId} (h : w.heap[q]? = some (.cells #[x0, x1] T (0, 0))) (a b : Value) :
    (w.setCell ⟨q, 0, none⟩ a).cell? ⟨q, 0, none⟩ = some a ∧ ((w.setCell ⟨q, 0, none⟩ a).setCell ⟨q, 1, none⟩ b).cell? ⟨q, 1, none⟩ = some b :=
  ⟨cell_of_block (block_setCell (i := 0) h a) 0, cell_of_block (block_setCell (i := 1) (block_setCell (i := 0) h a) b) 1⟩
theorem where_any (w : World) (e n : Nat) (v : Value) (c l b : Int) (h : Ch w e n v) (hf : Flt w e c l b) (hg : Ety w) : Calls Tryd.prog 10 #[v] w (Gives w (.tuple #[.agg #[.int .i64 l, .int .i64 b], .bool true])) := by
  have hb1 := (Below.refl w.heap.size w).alloc (Nat.le_refl _) (.cells #[.int .i64 0, .int .i64 0] 25)
  have HB1 := Lib.hid hb1
  have HC := Lib.hid (h.move hb1)
  have HG := Lib.hid (hg.below hb1)
  have HF := Lib.hid (hf.below hb1)
  have HZ : Hid ((w.alloc (.cells #[.int .i64 0, .int .i64 0] 25)).heap[w.heap.size]? = some (.cells #[.int .i64 0, .int .i64 0] 25 (0, 0))) := heap_alloc_new w _
  clear h hf hg hb1
  go_enter Tryd.func10, Tryd.ntmps10
  go_wp2_with (go_at_call 17; (refine (find_any _ e n v HC.out HG.out).mono ?_); rintro r w' ⟨rfl, hb⟩; have hf2 := HF.out.below hb; have c0 := cell_of_block hf2 0; have c1 := cell_of_block hf2 1; have c2 := cell_of_block hf2 2; have hz2 := (hb.block _ (lt_of_block HZ.out)).trans HZ.out; have z0 := cell_of_block hz2 0; have z1 := cell_of_block hz2 1; have f0 := unfrozen_of_block hz2 0; have f1 := unfrozen_of_block hz2 1; have HZ2 := Lib.hid hz2; have HB := Lib.hid hb; clear hf2 hb hz2)
  obtain ⟨s0, s1⟩ := two_set HZ2.out (.int .i64 l) (.int .i64 b)
  refine bodyPost_ret (v := .tuple #[.agg #[.int .i64 l, .int .i64 b], .bool true]) (by simp [results, Tryd.results10, go_sem, s0, s1]) rfl ⟨rfl, ?_⟩
  exact ((HB1.out.trans (HB.out.mono (by simp))).setCell (by simp) _).setCell (by simp) _
end Go.Proofs.YtppablpbpimloaaDoor.Code
