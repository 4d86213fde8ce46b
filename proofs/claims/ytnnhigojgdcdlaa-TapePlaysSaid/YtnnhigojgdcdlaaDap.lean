/- A drive in memory: Append, with the blocks that it may turn. Conditions: as each says. -/
import Derived.Test.YtnnhigojgdcdlaaFoot
namespace Go.Proofs.Ytnnhigojgdcdlaa.Code
open Go.RowKit Go.Joins Go.Proofs.Ytnnhigojgdcdlaa.Crc Go.Proofs.Ytnnhigojgdcdlaa.Mem
theorem DrS.mono {T : TypeId} {w : World} {S S' : Nat → Prop} {q : Nat} {t : Tp} (h : DrS T w S q t) (hs : ∀ k, S k → S' k) (hl : ∀ k, S' k → k < w.heap.size) : DrS T w S' q t := by
  obtain ⟨A, n, c, vs, h⟩ := h
  exact ⟨A, n, c, vs, h.box, h.rows, hs _ h.mem, h.ins.mono hs, hl⟩
theorem gr_set {S : Nat → Prop} {w w' : World} {p : Addr} {v : Value} (k : Nat) : Gr S w (w'.setCell p v) k ↔ Gr S w w' k := by simp [Gr, Nw, World.setCell]
theorem DrS.gset {T : TypeId} {w w' : World} {S : Nat → Prop} {q : Nat} {t : Tp} {p : Addr} {v : Value} (h : DrS T (w'.setCell p v) (Gr S w w') q t) : DrS T (w'.setCell p v) (Gr S w (w'.setCell p v)) q t := by
  have hl : ∀ k, Gr S w w' k → k < (w'.setCell p v).heap.size := by obtain ⟨A, n, c, vs, h⟩ := h; exact h.lim
  exact h.mono (fun k hk => (gr_set k).2 hk) (fun k hk => hl k ((gr_set k).1 hk))
/-- What a call that turns a tape leaves. -/
def Turned (T : TypeId) (w : World) (S : Nat → Prop) (q : Nat) (t' : Tp) (w' : World) : Prop := DrS T w' (Gr S w w') q t' ∧ Upd S w w'
def Told (T : TypeId) (w : World) (S : Nat → Prop) (q : Nat) (k : Int) (t' : Tp) (e : Ending) (w' : World) : Prop := e = .returned (.int .i64 k) ∧ Turned T w S q t' w'
set_option maxHeartbeats 8000000 in
set_option maxRecDepth 100000 in
theorem append_set (w : World) (S : Nat → Prop) (q : Nat) (t : Tp) (h : DrS 58 w S q t) (A : Option Addr) (n c : Nat) (b : List UInt8) (hs : Sl w A n c b) (h1 : 0 < n) (h2 : n ≤ 94) (hf : (t.blocks.length : Int) < t.cap) (hc : t.cap ≤ 64) :
    Calls Try.prog 10 #[.pointer (some ⟨q, 0, none⟩), .slice A n c] w (Told 58 w S q 0 ⟨t.label, t.cap, t.blocks ++ [b], t.lost⟩) := by
  obtain ⟨A', m, c', vs, ht⟩ := h
  have hl := ht.len
  have HT := Lib.hid ht
  have hd : Db w q t A' m c' := ht.box
  have HD := Lib.hid hd
  clear hd
  have HS := Lib.hid hs
  obtain ⟨x, hx⟩ : ∃ x, x = t.cap - (m : Int) := ⟨_, rfl⟩
  have hx0 : x ≠ 0 := by omega
  have t0 : (x == 0) = false := beq_eq_false_iff_ne.mpr hx0
  have HX := Lib.hid hx
  have HM : Hid ((m : Int) ≤ t.cap) := by unfold Hid; omega
  have hm1 : m ≤ 1000000 := by omega
  have HC := Lib.hid hc
  clear hs hf hc hl hx hx0 ht
  go_enter Try.func10, Try.ntmps10
  go_upto_region 7 with (first
    | (go_at_call 26; (with_reducible refine (wrong_no _ A n c h1 h2).mono ?_); rintro e w' ⟨rfl, hz⟩; obtain rfl := hz.symm)
    | (go_at_call 13; (with_reducible refine (room_any _ q t _ _ _ HD.out HM.out HC.out).mono ?_); rintro e w' ⟨rfl, k, rfl⟩; rw [← HX.out]))
  obtain ⟨W, hW⟩ : ∃ W, W = w.drewN k := ⟨_, rfl⟩
  have hbW : Below w.heap.size w W.drew := by rw [hW]; exact (bdrawn (Below.refl _ _) k).drew
  have htW := HT.out.below hbW
  have HTW := Lib.hid htW
  have HSW := Lib.hid (HS.out.below hbW)
  obtain ⟨d0, d1, d2, d3⟩ := htW.cells
  have HBW := Lib.hid hbW
  have hn0 : n ≤ 140737488351232 := by omega
  rw [← hW]
  clear hW hbW htW HS
  go_region_law (first
    | (refine step_blv rfl (.tmp 20) (.tmp 23) rfl rfl rfl (v := ⟨A7, n, c7⟩) HV8.out HO8.out HN8.out HQ8.out hm1 ?_; (intro A9 c9 w9 hl gr9 hat9); (have hh := HT.out.app (by decide) (by decide) HB8.out hl gr9 hat9 (fun g hg => .inr (HG8.out g hg))); (have hd9 := HT.out.grown_box (by decide) HB8.out gr9); (have x9 := cell_of_block hd9 2); (have f9 := unfrozen_of_block hd9 2); (have HH := Lib.hid hh); (clear hh hl gr9 hat9 hd9))
    | (refine step_call rfl 28 #[.slice A n c] ?_ (clone_any _ _ _ _ _ HSW.out hn0) ?_; (go_simp); (rintro e w7 ⟨A7, c7, rfl, hnew⟩); (refine ⟨_, rfl, ?_⟩); (have hbel := hnew.2.alloc hnew.2.size (.cells #[.slice A7 n c7] 32)); (have ho8 := hnew.1.alloc (.cells #[.slice A7 n c7] 32)); (have HO8 := Lib.hid (ho8.lower (Nat.zero_le _))); (have HQ8 : Hid ((w7.alloc (.cells #[.slice A7 n c7] 32)).heap[w7.heap.size]? = some (.cells #[.slice A7 n c7] 32 (0, 0))) := heap_alloc_new w7 _); (have ht8 := HTW.out.below hbel); (have HV8 := Lib.hid ht8.rows); (have HB8 := Lib.hid (HBW.out.trans (hbel.mono HBW.out.size))); (have HG8 : Hid (∀ g, blk A7 = some g → w.heap.size ≤ g) := fun g hg => Nat.le_trans HBW.out.size (ho8.blk_ge g hg).1); (have HN8 : Hid (∀ (i : Nat) (t' : Sv) (g : Nat), vs[i]? = some t' → blk t'.a = some g → blk A7 ≠ some g) := fun i t' g hi hg e => by have := (HT.out.rows.lt i t' g hi hg).2; have := HG8.out g e; omega); (have hd7 := (HTW.out.below hnew.2).cells); (obtain ⟨y0, y1, y2, y3⟩ := hd7); (obtain ⟨z0, z1, z2, z3⟩ := ht8.cells); (clear hnew hbel ht8 ho8)))
  all_goals go_wp2
  all_goals go_ret
  all_goals exact ⟨rfl, HH.out.1.gset, HH.out.2⟩
end Go.Proofs.Ytnnhigojgdcdlaa.Code
