/- A drive in memory: Append. Conditions: as each says. -/
import Derived.Test.YtnnhigojgdcdlaaSty
import Derived.Deep.CutRange
namespace Go.Proofs.Ytnnhigojgdcdlaa.Code
open Go.RowKit Go.Joins Go.Proofs.Ytnnhigojgdcdlaa.Crc Go.Proofs.Ytnnhigojgdcdlaa.Mem
theorem Db.stay {T : TypeId} {w w' : World} {q : Nat} {t : Tp} {A : Option Addr} {n c : Nat} (h : Db w q t A n c) (hs : Stay T w w') (hT : 58 ≠ T) : Db w' q t A n c := hs _ _ _ hT h
theorem step_call {P : Program} {ops : Array Oper} {o : Oper} {a : Act} {W : World} {K : Act → World → Prop} {Q : Exit → Act → World → Prop} {E : Prop} {R : Ending → World → Prop} (hgd : o.guard = none) (f : FuncId) (vs : Array Value)
    (hrun : (execOp a.eval o).run P W = .ok (.enter f vs) W) (hc : Calls P f vs W R) (h : ∀ e w', R e w' → ∃ u, e = .returned u ∧ K (a.put o.dst u) w') :
    if Region.wanted o (yielded ops a.tmps) = true then Oper.wp P o a W K Q else E := by
  have hw : Region.wanted o (yielded ops a.tmps) = true := by simp [Region.wanted, hgd]
  rw [if_pos hw]
  unfold Oper.wp
  rw [hrun, Oper.upon_enter]
  exact hc.mono (fun e w' hr => by obtain ⟨u, rfl, hk⟩ := h e w' hr; exact hk)
/-- A drive with a tape; its blocks are the call's own, from block B on. -/
def Dr (w : World) (B q : Nat) (t : Tp) : Prop := ∃ A n c, Db w q t A n c ∧ Bl w B A n c t.blocks ∧ B ≤ q
theorem append_wrong (w : World) (q : Nat) (A : Option Addr) (n c : Nat) (hn : n = 0 ∨ 94 < n) :
    Calls Try.prog 10 #[.pointer (some ⟨q, 0, none⟩), .slice A n c] w fun e w' => e = .returned (.int .i64 1) ∧ w' = w := by
  have HN := Lib.hid hn
  clear hn
  go_enter Try.func10, Try.ntmps10
  go_wp2_with (go_at_call 26; (with_reducible refine (wrong_yes _ A n c HN.out).mono ?_); rintro e w' ⟨rfl, rfl⟩)
  go_ret
  exact ⟨rfl, rfl⟩
theorem append_full (w : World) (B q : Nat) (t : Tp) (h : Dr w B q t) (A : Option Addr) (n c : Nat) (h1 : 0 < n) (h2 : n ≤ 94) (hf : (t.blocks.length : Int) = t.cap) (hc : t.cap ≤ 64) :
    Calls Try.prog 10 #[.pointer (some ⟨q, 0, none⟩), .slice A n c] w fun e w' => e = .returned (.int .i64 6) ∧ ∃ k, w' = w.drewN k := by
  obtain ⟨A', m, c', hd, hb, _⟩ := h
  have HD := Lib.hid hd
  have hl := hb.len
  have hx : t.cap - (m : Int) = 0 := by omega
  have HX := Lib.hid hx
  have HM : Hid ((m : Int) ≤ t.cap) := by unfold Hid; omega
  have HC := Lib.hid hc
  clear hd hb hf hx hc hl
  go_enter Try.func10, Try.ntmps10
  go_wp2_with (first
    | (go_at_call 26; (with_reducible refine (wrong_no _ A n c h1 h2).mono ?_); rintro e w' ⟨rfl, rfl⟩)
    | (go_at_call 13; (with_reducible refine (room_any _ q t _ _ _ HD.out HM.out HC.out).mono ?_); rintro e w' ⟨rfl, k, rfl⟩; rw [HX.out]))
  go_ret
  exact ⟨rfl, _, rfl⟩
set_option maxHeartbeats 8000000 in
set_option maxRecDepth 100000 in
theorem append_ok (w : World) (B q : Nat) (t : Tp) (h : Dr w B q t) (hB : B ≤ w.heap.size) (A : Option Addr) (n c : Nat) (b : List UInt8) (hs : Sl w A n c b) (h1 : 0 < n) (h2 : n ≤ 94) (hf : (t.blocks.length : Int) < t.cap) (hc : t.cap ≤ 64) :
    Calls Try.prog 10 #[.pointer (some ⟨q, 0, none⟩), .slice A n c] w fun e w' => e = .returned (.int .i64 0) ∧ Dr w' B q ⟨t.label, t.cap, t.blocks ++ [b], t.lost⟩ ∧ Below B w w' := by
  obtain ⟨A', m, c', hd, hb, hq⟩ := h
  have HD := Lib.hid hd
  have HL := Lib.hid hb
  have HS := Lib.hid hs
  have hl := hb.len
  obtain ⟨x, hx⟩ : ∃ x, x = t.cap - (m : Int) := ⟨_, rfl⟩
  have hx0 : x ≠ 0 := by omega
  have t0 : (x == 0) = false := beq_eq_false_iff_ne.mpr hx0
  have HX := Lib.hid hx
  have HM : Hid ((m : Int) ≤ t.cap) := by unfold Hid; omega
  have hm64 : m ≤ 64 := by omega
  have HC := Lib.hid hc
  clear hd hb hs hf hc hl hx hx0
  go_enter Try.func10, Try.ntmps10
  go_upto_region 7 with (first
    | (go_at_call 26; (with_reducible refine (wrong_no _ A n c h1 h2).mono ?_); rintro e w' ⟨rfl, hz⟩; obtain rfl := hz.symm)
    | (go_at_call 13; (with_reducible refine (room_any _ q t _ _ _ HD.out HM.out HC.out).mono ?_); rintro e w' ⟨rfl, k, rfl⟩; rw [← HX.out]))
  obtain ⟨W, hW⟩ : ∃ W, W = w.drewN k := ⟨_, rfl⟩
  have hbW : Below w.heap.size w W.drew := by rw [hW]; exact (bdrawn (Below.refl _ _) k).drew
  have hdW := HD.out.below hbW
  have HDW := Lib.hid hdW
  have HLW := Lib.hid (HL.out.below hbW)
  have HSW := Lib.hid (HS.out.below hbW)
  obtain ⟨d0, d1, d2, d3⟩ := hdW.cells
  have HBW := Lib.hid hbW
  have hBW : B ≤ W.drew.heap.size := Nat.le_trans hB hbW.size
  have HBB := Lib.hid hBW
  have hn0 : n ≤ 140737488351232 := by omega
  have hm1 : m ≤ 1000000 := by omega
  rw [← hW]
  clear hW hbW hdW hBW HD HL HS
  go_region_law (first
    | (refine step_bl rfl (.tmp 20) (.tmp 23) rfl rfl rfl (v := ⟨A7, n, c7⟩) (w0 := W.drew) HLW.out HB8.out HBB.out HO8.out HQ8.out hm1 ?_; (intro A9 c9 w9 hl hb9 st); (have HL9 := Lib.hid hl); (have HB9 := Lib.hid hb9); (have hd9 := HD8.out.stay st (by decide)); (have x9 := cell_of_block hd9 2); (have f9 := unfrozen_of_block hd9 2); (have HD9 := Lib.hid hd9); (clear hl hb9 st hd9))
    | (refine step_call rfl 28 #[.slice A n c] ?_ (clone_any _ _ _ _ _ HSW.out hn0) ?_; (go_simp); (rintro e w7 ⟨A7, c7, rfl, hnew⟩); (refine ⟨_, rfl, ?_⟩); (have hbel := hnew.2.alloc hnew.2.size (.cells #[.slice A7 n c7] 32)); (have HB8 := Lib.hid hbel); (have HO8 := Lib.hid (hnew.1.alloc (.cells #[.slice A7 n c7] 32))); (have HQ8 : Hid ((w7.alloc (.cells #[.slice A7 n c7] 32)).heap[w7.heap.size]? = some (.cells #[.slice A7 n c7] 32 (0, 0))) := heap_alloc_new w7 _); (have hd8 := HDW.out.below hbel); (have HD8 := Lib.hid hd8); (have hd7 := (HDW.out.below hnew.2).cells); (obtain ⟨y0, y1, y2, y3⟩ := hd7); (obtain ⟨z0, z1, z2, z3⟩ := hd8.cells); (clear hnew hbel hd8)))
  all_goals go_wp2
  all_goals go_ret
  all_goals exact ⟨rfl, ⟨A9, m + 1, c9, block_setCell (i := 2) HD9.out (.slice A9 (m + 1) c9), HL9.out.stay (stay_set HD9.out _) (by decide) (by decide), hq⟩, (((HBW.out.mono hB).trans (HB8.out.mono HBB.out)).trans HB9.out).setCell hq _⟩
end Go.Proofs.Ytnnhigojgdcdlaa.Code
