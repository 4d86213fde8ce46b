/- The reference's Append, Cut and Erase. Conditions: as each says. -/
import Derived.Test.YtnnhigojgdcdlaaRef1
namespace Go.Proofs.Ytnnhigojgdcdlaa.Code
open Go.RowKit Go.Joins Go.Proofs.Ytnnhigojgdcdlaa.Crc Go.Proofs.Ytnnhigojgdcdlaa.Mem
/-- append of bytes, met in a region that draws. -/
theorem step_app5 {ops : Array Oper} {o : Oper} {a : Act} {W : World} {K : Act → World → Prop} {Q : Exit → Act → World → Prop} {E : Prop} (hgd : o.guard = none) (s x : Operand)
    (ho : o.op = .call { callee := .builtin .append, args := #[s, x], argTypes := #[32, 32] }) {B : Nat} {A A2 : Option Addr} {n c m c2 : Nat} {l xs : List UInt8} (hs : a.eval s = .slice A n c) (hx : a.eval x = .slice A2 m c2) (hown : Own W B A n c l) (hr : Reads W A2 m xs) (hnil : A2 = none → m = 0 ∧ c2 = 0) (hb : n + m ≤ 140737488355328) (hB : B ≤ W.heap.size)
    (h : ∀ A' c' w', Own w' B A' (n + m) c' (l ++ xs) → W.grownBy w' (blk A) → K (a.put o.dst (.slice A' (n + m) c')) w') :
    if Region.wanted o (yielded ops a.tmps) = true then Oper.wp Try.prog o a W K Q else E := by
  have hw : Region.wanted o (yielded ops a.tmps) = true := by simp [Region.wanted, hgd]
  rw [if_pos hw]
  obtain ⟨A', c', w', hrun, h1, h2, _⟩ := run_app (ty := o.type) Try.underlying32 info5' hown hr hnil hb hB
  unfold Oper.wp
  simp [execOp, ho, resolve, invoke, builtin, hs, hx, hrun, Result.andThen]
  exact h _ _ _ h1 h2
theorem rapp_wrong (w : World) (q : Nat) (A : Option Addr) (n c : Nat) (hn : n = 0 ∨ 94 < n) :
    Calls Try.prog 21 #[.pointer (some ⟨q, 0, none⟩), .slice A n c] w fun e w' => e = .returned (.int .i64 1) ∧ w' = w := by
  rcases hn with rfl | hn
  all_goals
    go_enter Try.func21, Try.ntmps21
    go_wp2
    go_ret
    exact ⟨rfl, rfl⟩
def Said (k : Int) (w : World) (e : Ending) (w' : World) : Prop := e = .returned (.int .i64 k) ∧ Dn w w'
theorem rapp_full (w : World) (S : Nat → Prop) (q : Nat) (t : Tp) (h : DrS 29 w S q t) (A : Option Addr) (n c : Nat) (h1 : 0 < n) (h2 : n ≤ 94) (hf : t.cap ≤ (t.blocks.length : Int)) :
    Calls Try.prog 21 #[.pointer (some ⟨q, 0, none⟩), .slice A n c] w (Said 6 w) := by
  obtain ⟨A', m, c', vs, ht⟩ := h
  obtain ⟨d0, d1, d2, d3⟩ := ht.cells
  have hle : decide (t.cap ≤ (m : Int)) = true := by have := ht.len; simp; omega
  have hle2 : t.cap ≤ (m : Int) := by have := ht.len; omega
  clear ht hf
  go_enter Try.func21, Try.ntmps21
  go_wp2
  go_quiet (fail)
  go_wp2
  go_ret
  exact ⟨rfl, _, rfl⟩
set_option maxHeartbeats 8000000 in
set_option maxRecDepth 100000 in
theorem rapp_ok (w : World) (S : Nat → Prop) (q : Nat) (t : Tp) (h : DrS 29 w S q t) (A : Option Addr) (n c : Nat) (b : List UInt8) (hs : Sl w A n c b) (h1 : 0 < n) (h2 : n ≤ 94) (hf : (t.blocks.length : Int) < t.cap) (hfew : t.blocks.length ≤ 1000000) :
    Calls Try.prog 21 #[.pointer (some ⟨q, 0, none⟩), .slice A n c] w (Told 29 w S q 0 ⟨t.label, t.cap, t.blocks ++ [b], t.lost⟩) := by
  obtain ⟨A', m, c', vs, ht⟩ := h
  obtain ⟨d0, d1, d2, d3⟩ := ht.cells
  have hle : decide (t.cap ≤ (m : Int)) = false := by have := ht.len; simp; omega
  have hle2 : (m : Int) < t.cap := by have := ht.len; omega
  have hm1 : m ≤ 1000000 := by have := ht.len; omega
  have HT := Lib.hid ht
  have HS := Lib.hid hs
  clear ht hf hs
  go_enter Try.func21, Try.ntmps21
  go_wp2
  go_quiet (fail)
  go_upto_region 5 with (fail)
  obtain ⟨W, hW⟩ : ∃ W, W = w.drewN nq := ⟨_, rfl⟩
  have hbW : Below w.heap.size w W.drew := by rw [hW]; exact (bdrawn (Below.refl _ _) nq).drew
  have htW := HT.out.below hbW
  have HTW := Lib.hid htW
  have HSW := Lib.hid (HS.out.below hbW)
  obtain ⟨e0, e1, e2, e3⟩ := htW.cells
  have HBW := Lib.hid hbW
  have hn0 : 0 + n ≤ 140737488355328 := by omega
  rw [← hW]
  clear hW hbW htW HS d0 d1 d2 d3
  go_region_law (first
    | (refine step_blv (o := ⟨some 31, _, _, _, _, _⟩) rfl (.tmp 27) (.tmp 30) rfl rfl rfl (v := ⟨A7, n, c7⟩) HV8.out HO8.out HN8.out HQ8.out hm1 ?_; (intro A9 c9 w9 hl gr9 hat9); (have hh := HT.out.app (by decide) (by decide) HB8.out hl gr9 hat9 (fun g hg => .inr (HG8.out g hg))); (have hd9 := HT.out.grown_box (by decide) HB8.out gr9); (have x9 := cell_of_block hd9 2); (have f9 := unfrozen_of_block hd9 2); (have HH := Lib.hid hh); (clear hh hl gr9 hat9 hd9))
    | (refine step_app5 (o := ⟨some 29, _, _, _, _, _⟩) rfl (.const (.slice none 0 0)) (.tmp 28) rfl rfl rfl (Own.nil W.drew W.drew.heap.size) HSW.out.1 HSW.out.2.2 hn0 (Nat.le_refl _) ?_; (intro A7 c7 w7 own gr); (simp only [Nat.zero_add, List.nil_append] at own ⊢); (have hb7 := (Below.refl W.drew.heap.size W.drew).grown gr (Nat.le_refl _) (fun k hk => by simp [blk] at hk)); (have hbel := hb7.alloc hb7.size (.cells #[.slice A7 n c7] 32)); (have ho8 := own.alloc (.cells #[.slice A7 n c7] 32)); (have HO8 := Lib.hid (ho8.lower (Nat.zero_le _))); (have HQ8 : Hid ((w7.alloc (.cells #[.slice A7 n c7] 32)).heap[w7.heap.size]? = some (.cells #[.slice A7 n c7] 32 (0, 0))) := heap_alloc_new w7 _); (have ht8 := HTW.out.below hbel); (have HV8 := Lib.hid ht8.rows); (have HB8 := Lib.hid (HBW.out.trans (hbel.mono HBW.out.size))); (have HG8 : Hid (∀ g, blk A7 = some g → w.heap.size ≤ g) := fun g hg => Nat.le_trans HBW.out.size (ho8.blk_ge g hg).1); (have HN8 : Hid (∀ (i : Nat) (t' : Sv) (g : Nat), vs[i]? = some t' → blk t'.a = some g → blk A7 ≠ some g) := fun i t' g hi hg e => by have := (HT.out.rows.lt i t' g hi hg).2; have := HG8.out g e; omega); (have hd7 := (HTW.out.below hb7).cells); (obtain ⟨y0, y1, y2, y3⟩ := hd7); (obtain ⟨z0, z1, z2, z3⟩ := ht8.cells); (clear own gr hb7 hbel ht8 ho8)))
  all_goals go_wp2
  all_goals go_ret
  all_goals exact ⟨rfl, HH.out.1.gset, HH.out.2⟩
/-- A drive's tape is emptied. -/
theorem TpS.clear {T : TypeId} {w : World} {S : Nat → Prop} {q : Nat} {t : Tp} {A : Option Addr} {n c : Nat} {vs : List Sv} (h : TpS T w S q t A n c vs) :
    Turned T w S q ⟨t.label, t.cap, [], t.lost⟩ (w.setCell ⟨q, 2, none⟩ (.slice none 0 0)) := by
  have hu : Upd S w (w.setCell ⟨q, 2, none⟩ (.slice none 0 0)) := (Upd.refl S w).setCell (fun _ => h.mem) _
  refine ⟨⟨none, 0, 0, [], box_set h.box _, BlV.nil _ _, .inl h.mem, ⟨fun g hg => by simp [blk] at hg, fun i s g hs => by simp at hs⟩, fun k hk => ?_⟩, hu⟩
  rcases hk with hk | hk
  · exact Nat.lt_of_lt_of_le (h.lim k hk) hu.size
  · exact hk.2
theorem erase_any (w : World) (S : Nat → Prop) (q : Nat) (t : Tp) (h : DrS 58 w S q t) : Calls Try.prog 24 #[.pointer (some ⟨q, 0, none⟩)] w (Told 58 w S q 0 ⟨t.label, t.cap, [], t.lost⟩) := by
  obtain ⟨A, n, c, vs, ht⟩ := h
  obtain ⟨d0, d1, d2, d3⟩ := ht.cells
  have f2 := unfrozen_of_block ht.box 2
  have HE := Lib.hid ht.clear
  clear ht
  go_enter Try.func24, Try.ntmps24
  go_wp2
  go_ret
  exact ⟨rfl, HE.out⟩
end Go.Proofs.Ytnnhigojgdcdlaa.Code
