/- The example of chapter 7 is alive. Conditions: none. -/
import Derived.Test.YtppablpbpimloaaDoorNew
import Derived.Test.YtppablpbpimloaaDoorSme
namespace Go.Proofs.YtppablpbpimloaaDoor.Code
open Go Go.RowKit Go.Joins Go.Extern.Stop Go.Stop Go.Extern Go.Proofs.YtppablpbpimloaaDoor.Rl
theorem itoa8 (w : World) : Calls Tryd.prog 48 #[.int .i64 8] w fun e w' => e = .returned (.string ⟨#[56]⟩) ∧ w' = w := by
  go_enter Tryd.func48, Tryd.ntmps48
  go_wp2
  go_ret
  exact ⟨rfl, rfl⟩
theorem itoa3 (w : World) : Calls Tryd.prog 48 #[.int .i64 3] w fun e w' => e = .returned (.string ⟨#[51]⟩) ∧ w' = w := by
  go_enter Tryd.func48, Tryd.ntmps48
  go_wp2
  go_ret
  exact ⟨rfl, rfl⟩
theorem itoa4 (w : World) : Calls Tryd.prog 48 #[.int .i64 4] w fun e w' => e = .returned (.string ⟨#[52]⟩) ∧ w' = w := by
  go_enter Tryd.func48, Tryd.ntmps48
  go_wp2
  go_ret
  exact ⟨rfl, rfl⟩
/-- w after some draws. -/
def Dn (w wr : World) : Prop := ∃ m, wr = w.drewN m
theorem Dn.below {B : Nat} {w wr : World} (h : Dn w wr) : Below B w wr := by obtain ⟨m, rfl⟩ := h; exact bdrawn (Below.refl _ _) m
def Told (w : World) (s : ByteArray) (r : Ending) (w' : World) : Prop := r = .returned (.string s) ∧ Dn w w'
theorem ferr (w : World) (e : Nat) (hf : Flt w e 8 3 4) : Calls Tryd.prog 46 #[.pointer (some ⟨e, 0, none⟩)] w (Told w ⟨#[101, 114, 114, 111, 114, 32, 56, 32, 97, 116, 32, 51, 47, 52]⟩) := by
  have a0 := cell_of_block hf 0
  have a1 := cell_of_block hf 1
  have a2 := cell_of_block hf 2
  clear hf
  go_enter Tryd.func46, Tryd.ntmps46
  go_wp2
  go_quiet ((first | (go_at_call 48; exact Calls.quiet_of_same (itoa8 _)) | (go_at_call 48; exact Calls.quiet_of_same (itoa3 _)) | (go_at_call 48; exact Calls.quiet_of_same (itoa4 _))))
  go_wp2
  go_ret
  exact ⟨rfl, _, rfl⟩
theorem methodErr46 (v : Value) (w : World) : (Go.method 234 46 v "Error").run Tryd.prog w = .ok (62, v) w := by kernel_rfl
theorem methodErr43 (v : Value) (w : World) : (Go.method 234 43 v "Error").run Tryd.prog w = .ok (46, v) w := by kernel_rfl
theorem Flt.drawn {w : World} {e : Nat} {c l b : Int} (h : Flt w e c l b) (n : Nat) : Flt (w.drewN n) e c l b := h
theorem werr (w : World) (b e : Nat) (hf : Flt w e 8 3 4) (hb : w.heap[b]? = some (.cells #[.string ⟨#[114, 101, 97, 100]⟩, .iface 43 (.pointer (some ⟨e, 0, none⟩))] 48 (0, 0))) : Calls Tryd.prog 62 #[.pointer (some ⟨b, 0, none⟩)] w (Told w ⟨#[114, 101, 97, 100, 58, 32, 101, 114, 114, 111, 114, 32, 56, 32, 97, 116, 32, 51, 47, 52]⟩) := by
  have HF := Lib.hid hf
  have x0 := cell_of_block hb 0
  have x1 := cell_of_block hb 1
  have mE := methodErr43
  clear hf hb
  go_enter Tryd.func62, Tryd.ntmps62
  go_wp2
  go_quiet ((go_at_call 46; exact Calls.quiet_of ((ferr _ e (HF.out.drawn _)).mono (fun _ _ ⟨h1, m, h2⟩ => ⟨h1, m, h2⟩))))
  go_wp2
  go_ret
  exact ⟨rfl, _, rfl⟩
/-- The example's error: one layer, which says 'read'. -/
def One (w wr : World) (v : Value) : Prop := ∃ b e, v = .iface 46 (.pointer (some ⟨b, 0, none⟩)) ∧ wr.heap[b]? = some (.cells #[.string ⟨#[114, 101, 97, 100]⟩, .iface 43 (.pointer (some ⟨e, 0, none⟩))] 48 (0, 0)) ∧ Flt wr e 8 3 4 ∧ Below w.heap.size w wr
def OneR (w : World) (r : Ending) (w' : World) : Prop := ∃ v, r = .returned v ∧ One w w' v
theorem heap_alloc3 (w : World) (o1 o2 o3 : Obj) : (((w.alloc o1).alloc o2).alloc o3).heap[w.heap.size + 1]? = some o2 ∧ (((w.alloc o1).alloc o2).alloc o3).heap[w.heap.size + 1 + 1]? = some o3 := by
  have h2 := heap_alloc2 w o1 o2
  refine ⟨(heap_alloc_old _ _ (lt_of_block h2)).trans h2, ?_⟩
  have h := heap_alloc_new ((w.alloc o1).alloc o2) o3
  rw [World.size_alloc, World.size_alloc] at h
  exact h
theorem new_one (w : World) (q : Nat) (hq : w.cell? ⟨q, 0, none⟩ = some (.string ⟨#[114, 101, 97, 100]⟩)) : Calls Tryd.prog 8 #[.int .i64 8, .agg #[.int .i64 3, .int .i64 4], .slice (some ⟨q, 0, none⟩) 1 1] w (OneR w) := by
  have hb1 := (Below.refl w.heap.size w).alloc (Nat.le_refl _) (.cells #[.int .i64 3, .int .i64 4] 25)
  have hb2 := hb1.alloc hb1.size (.cells #[.int .i64 8, .int .i64 3, .int .i64 4] 45)
  have hq2 := (hb2.cell (World.block_lt_of_cell? _ _ hq)).trans hq
  have HB2 := Lib.hid hb2
  clear hb1 hb2
  go_enter Tryd.func8, Tryd.ntmps8
  go_wp2
  refine wp_loop_rounds 2 ?_
  rw [rounds_succ]
  go_wp2
  rw [rounds_succ]
  go_wp2
  go_ret
  have h3 := heap_alloc3 w (.cells #[.int .i64 3, .int .i64 4] 25) (.cells #[.int .i64 8, .int .i64 3, .int .i64 4] 45) (.cells #[.string ⟨#[114, 101, 97, 100]⟩, .iface 43 (.pointer (some ⟨w.heap.size + 1, 0, none⟩))] 48)
  exact ⟨_, rfl, _, _, rfl, h3.2, h3.1, HB2.out.alloc HB2.out.size _⟩
set_option maxHeartbeats 4000000 in
theorem text_alive (w : World) (q : Nat) (hq : w.cell? ⟨q, 0, none⟩ = some (.string ⟨#[114, 101, 97, 100]⟩)) : Calls Tryd.prog 11 #[.int .i64 8, .agg #[.int .i64 3, .int .i64 4], .slice (some ⟨q, 0, none⟩) 1 1] w (Gives w (.string ⟨#[114, 101, 97, 100, 58, 32, 101, 114, 114, 111, 114, 32, 56, 32, 97, 116, 32, 51, 47, 52]⟩)) := by
  have hb1 := (Below.refl w.heap.size w).alloc (Nat.le_refl _) (.cells #[.int .i64 3, .int .i64 4] 25)
  have HB1 := Lib.hid hb1
  have hq1 := (hb1.cell (World.block_lt_of_cell? _ _ hq)).trans hq
  have HQ1 := Lib.hid hq1
  have mE := methodErr46
  clear hb1 hq hq1
  go_enter Tryd.func11, Tryd.ntmps11
  go_wp2_with (first
    | (go_at_call 8; (with_reducible refine (new_one _ q HQ1.out).mono ?_); rintro r w' ⟨v, rfl, b, e, rfl, hb, hf, hbel⟩; have HW := Lib.hid hb; have HF := Lib.hid hf; have HB := Lib.hid hbel; clear hb hf hbel)
    | (go_at_call 62; (with_reducible refine (werr _ b e HF.out HW.out).mono ?_); rintro r w2 ⟨rfl, hd⟩; have HD := Lib.hid hd; clear hd))
  go_ret
  exact ⟨rfl, (HB1.out.trans (HB.out.mono (by simp))).trans HD.out.below⟩
set_option maxHeartbeats 4000000 in
theorem alive_any (w : World) (hg : Ety w) : Calls Tryd.prog 7 #[] w (Gives w (.bool true)) := by
  have HG := Lib.hid hg
  clear hg
  have HQ : Hid (∀ W : World, (W.alloc (.cells #[.string ⟨#[114, 101, 97, 100]⟩] 9)).cell? ⟨W.heap.size, 0, none⟩ = some (.string ⟨#[114, 101, 97, 100]⟩)) := fun W => cell_of_block (heap_alloc_new W _) 0
  have HB1 : Hid (Below w.heap.size w (w.alloc (.cells #[.string ⟨#[114, 101, 97, 100]⟩] 9))) := (Below.refl w.heap.size w).alloc (Nat.le_refl _) _
  go_enter Tryd.func7, Tryd.ntmps7
  go_wp2_with (first
    | (go_at_call 8; (with_reducible refine (new_one _ w.heap.size (HQ.out w)).mono ?_); rintro r w1 ⟨v, rfl, b, e, rfl, hb, hf, hbel⟩; have HC := Lib.hid (Ch.wrap hb (.base (e := e))); have HF := Lib.hid hf; have HB2 := Lib.hid (HB1.out.trans (hbel.mono HB1.out.size)); clear hb hf hbel)
    | (go_at_call 13; (with_reducible refine (code_nil _).mono ?_); rintro r w' ⟨rfl, hz⟩; obtain rfl := hz.symm)
    | (go_at_call 12; (with_reducible refine (num_any _ _).mono ?_); rintro r w' ⟨rfl, hz⟩; obtain rfl := hz.symm)
    | (go_at_call 13; (with_reducible refine (code_any _ e 1 _ 8 3 4 HC.out HF.out (HG.out.below HB2.out)).mono ?_); rintro r w2 ⟨rfl, hb⟩; have HB3 := Lib.hid (HB2.out.trans (hb.mono HB2.out.size)); clear hb)
    | (go_at_call 11; (with_reducible refine (text_alive _ _ (HQ.out _)).mono ?_); rintro r w3 ⟨rfl, hb⟩; have HB4 := Lib.hid hb; clear hb))
  go_ret
  exact ⟨rfl, (HB3.out.alloc HB3.out.size _).trans (HB4.out.mono (HB3.out.alloc HB3.out.size _).size)⟩
end Go.Proofs.YtppablpbpimloaaDoor.Code
