/- tape.Clone. Conditions: the tape's blocks are few and short. -/
import Derived.Test.YtnnhigojgdcdlaaDrv6
namespace Go.Proofs.Ytnnhigojgdcdlaa.Code
open Go.RowKit Go.Joins Go.Proofs.Ytnnhigojgdcdlaa.Crc Go.Proofs.Ytnnhigojgdcdlaa.Mem
/-- A tape's block. -/
def Tb (w : World) (q : Nat) (t : Tp) (A : Option Addr) (n c : Nat) : Prop := w.heap[q]? = some (.cells #[.int .i64 t.label, .int .i64 t.cap, .slice A n c, .bool t.lost] 29 (0, 0))
theorem Tb.below {w w' : World} {q : Nat} {t : Tp} {A : Option Addr} {n c : Nat} (h : Tb w q t A n c) (hb : Below w.heap.size w w') : Tb w' q t A n c := (hb.block q (lt_of_block h)).trans h
theorem Tb.stay {T : TypeId} {w w' : World} {q : Nat} {t : Tp} {A : Option Addr} {n c : Nat} (h : Tb w q t A n c) (hs : Stay T w w') (hT : 29 ≠ T) : Tb w' q t A n c := hs _ _ _ hT h
theorem Tb.cells {w : World} {q : Nat} {t : Tp} {A : Option Addr} {n c : Nat} (h : Tb w q t A n c) :
    w.cell? ⟨q, 0, none⟩ = some (.int .i64 t.label) ∧ w.cell? ⟨q, 1, none⟩ = some (.int .i64 t.cap) ∧ w.cell? ⟨q, 2, none⟩ = some (.slice A n c) ∧ w.cell? ⟨q, 3, none⟩ = some (.bool t.lost) :=
  ⟨cell_of_block h 0, cell_of_block h 1, cell_of_block h 2, cell_of_block h 3⟩
theorem heap_alloc2 (w : World) (o1 o2 : Obj) : ((w.alloc o1).alloc o2).heap[w.heap.size + 1]? = some o2 := by
  have h := heap_alloc_new (w.alloc o1) o2
  rw [World.size_alloc] at h
  exact h
theorem Tb.set {w : World} {q : Nat} {t : Tp} {A A' : Option Addr} {n c n' c' : Nat} (h : Tb w q t A n c) : Tb (w.setCell ⟨q, 2, none⟩ (.slice A' n' c')) q t A' n' c' := block_setCell (i := 2) h (.slice A' n' c')
/-- The state at the head of the loop's round k. -/
structure Cl (w wr : World) (t : Tp) (A' : Option Addr) (n c' k : Nat) (vs : List Sv) : Prop where
  box : Tb wr w.heap.size t A' n c'
  res : wr.heap[w.heap.size + 1]? = some (.cells #[.int .i64 0, .int .i64 0, .slice none 0 0, .bool false] 29 (0, 0))
  rows : ∃ ns, ns.length = k ∧ RO 32 1 wr w.heap.size A' n c' ((ns ++ vs.drop k).map Sv.v) ∧ Pb wr w.heap.size ns (t.blocks.take k)
  bel : Below w.heap.size w wr
theorem Cl.drew {w wr : World} {t : Tp} {A' : Option Addr} {n c' k : Nat} {vs : List Sv} (h : Cl w wr t A' n c' k vs) : Cl w wr.drew t A' n c' k vs := by
  obtain ⟨h1, h2, ⟨ns, hn, hr, hp⟩, hb⟩ := h
  exact ⟨h1, h2, ⟨ns, hn, hr.drew, hp.move (fun _ _ _ => rfl)⟩, hb.drew⟩
/-- Row number k, which is not cloned yet. -/
theorem Cl.at {w wr : World} {t : Tp} {A' : Option Addr} {n c' k : Nat} {vs : List Sv} (h : Cl w wr t A' n c' k vs) (hk : k < n) (hv : vs.length = n) (hbl : t.blocks.length = n) (hold : ∀ (i : Nat) s b, vs[i]? = some s → t.blocks[i]? = some b → Sl w s.a s.n s.c b) :
    ∃ (g : Nat) (s : Sv) (b : List UInt8), A' = some ⟨g, 0, none⟩ ∧ g ≠ w.heap.size ∧ t.blocks[k]? = some b ∧ wr.cell? ⟨g, k, none⟩ = some (.slice s.a s.n s.c) ∧ wr.frozen? ⟨g, k, none⟩ = false ∧ Sl wr s.a s.n s.c b ∧
      ∀ (w7 : World) (v : Sv), Below wr.heap.size wr w7 → Own w7 wr.heap.size v.a v.n v.c b → Tb w7 w.heap.size t A' n c' ∧ w7.cell? ⟨g, k, none⟩ = some (.slice s.a s.n s.c) ∧ w7.frozen? ⟨g, k, none⟩ = false ∧ Cl w (w7.setCell ⟨g, k, none⟩ v.v) t A' n c' (k + 1) vs := by
  obtain ⟨h1, h2, ⟨ns, hn, hr, hp⟩, hb⟩ := h
  have hkv : k < vs.length := by omega
  have hkb : k < t.blocks.length := by omega
  have hlen : (ns ++ vs.drop k).length = n := by simp; omega
  have hki : k < ((ns ++ vs.drop k).map Sv.v).length := by rw [List.length_map, hlen]; exact hk
  obtain ⟨g, ha, hBg, hgl, hc, hf, _⟩ := hr.at k hki
  have hsz := hb.size
  have hbox := h1
  have hgT : ∃ cur, wr.heap[g]? = some (.cells cur 32 (0, 0)) := by
    rcases hr.shape with ⟨ha', _⟩ | ⟨g', cur, ha', _, _, hg', _⟩
    · rw [ha] at ha'; cases ha'
    · rw [ha] at ha'; simp at ha'; subst ha'; exact ⟨cur, hg'⟩
  obtain ⟨cur, hcur⟩ := hgT
  have hne : g ≠ w.heap.size := by
    rintro rfl
    rw [h1] at hcur
    simp at hcur
  have hne1 : g ≠ w.heap.size + 1 := by
    rintro rfl
    rw [h2] at hcur
    simp at hcur
  have hel : ((ns ++ vs.drop k).map Sv.v)[k] = (vs[k]).v := by
    rw [List.getElem_map, List.getElem_append_right (by omega)]
    simp [hn]
  rw [hel] at hc
  refine ⟨g, vs[k], t.blocks[k], ha, hne, List.getElem?_eq_getElem _, hc, hf, (hold k _ _ (List.getElem?_eq_getElem hkv) (List.getElem?_eq_getElem hkb)).below hb, fun w7 v hb7 ho => ?_⟩
  have hr7 := hr.below hb7
  obtain ⟨g', ha7, _, _, hc7, hf7, hset⟩ := hr7.at k hki
  rw [ha] at ha7
  simp at ha7
  subst ha7
  rw [hel] at hc7
  have hcur7 : w7.heap[g]? = some (.cells cur 32 (0, 0)) := (hb7.block g hgl).trans hcur
  have hst := stay_set (i := k) hcur7 v.v
  refine ⟨h1.below hb7, hc7, hf7, (h1.below hb7).stay hst (by decide), ?_, ⟨ns ++ [v], by simp [hn], ?_, ?_⟩, ?_⟩
  · exact (Below.heap_setCell w7 ⟨g, k, none⟩ _ _ (fun e => hne1 e.symm)).trans ((hb7.block _ (lt_of_block h2)).trans h2)
  · have hs := hset v.v
    have e : ((ns ++ vs.drop k).map Sv.v).set k v.v = (ns ++ [v] ++ vs.drop (k + 1)).map Sv.v := by
      rw [List.map_append, List.set_append_right _ _ (by simp [hn]), List.drop_eq_getElem_cons hkv, List.map_cons]
      simp [hn]
    rw [e] at hs
    exact hs
  · have hp7 := hp.snoc hb7 hsz v _ ho
    rw [List.take_succ_eq_append_getElem hkb]
    exact hp7.move fun g' cs hg' => Below.heap_setCell w7 ⟨g, k, none⟩ _ _ (fun e => by
      have e : g' = g := e
      subst e
      rw [hcur7] at hg'
      simp at hg')
  · exact (hb.trans (hb7.mono hsz)).setCell hBg _
theorem stay_trans {T : TypeId} {a b c : World} (h : Stay T a b) (h' : Stay T b c) : Stay T a c := fun g cs T' hT hg => h' g cs T' hT (h g cs T' hT hg)
/-- Four stores into a block of four cells. -/
theorem four_set {w : World} {q : Nat} {x0 x1 x2 x3 : Value} {T : TypeId} (h : w.heap[q]? = some (.cells #[x0, x1, x2, x3] T (0, 0))) (a b c d : Value) :
    (w.setCell ⟨q, 0, none⟩ a).cell? ⟨q, 0, none⟩ = some a ∧ ((w.setCell ⟨q, 0, none⟩ a).setCell ⟨q, 1, none⟩ b).cell? ⟨q, 1, none⟩ = some b ∧ (((w.setCell ⟨q, 0, none⟩ a).setCell ⟨q, 1, none⟩ b).setCell ⟨q, 2, none⟩ c).cell? ⟨q, 2, none⟩ = some c ∧
    ((((w.setCell ⟨q, 0, none⟩ a).setCell ⟨q, 1, none⟩ b).setCell ⟨q, 2, none⟩ c).setCell ⟨q, 3, none⟩ d).cell? ⟨q, 3, none⟩ = some d ∧ Stay T w ((((w.setCell ⟨q, 0, none⟩ a).setCell ⟨q, 1, none⟩ b).setCell ⟨q, 2, none⟩ c).setCell ⟨q, 3, none⟩ d) ∧
    ((((w.setCell ⟨q, 0, none⟩ a).setCell ⟨q, 1, none⟩ b).setCell ⟨q, 2, none⟩ c).setCell ⟨q, 3, none⟩ d).heap[q]? = some (.cells #[a, b, c, d] T (0, 0)) := by
  have h0 := block_setCell (i := 0) h a
  have h1 := block_setCell (i := 1) h0 b
  have h2 := block_setCell (i := 2) h1 c
  have h3 := block_setCell (i := 3) h2 d
  exact ⟨cell_of_block h0 0, cell_of_block h1 1, cell_of_block h2 2, cell_of_block h3 3, stay_trans (stay_trans (stay_trans (stay_set h a) (stay_set h0 b)) (stay_set h1 c)) (stay_set h2 d), h3⟩
set_option maxHeartbeats 8000000 in
set_option maxRecDepth 100000 in
theorem clonet_any (w : World) (t : Tp) (A : Option Addr) (n c : Nat) (h : Blks w A n c t.blocks) (hn : n ≤ 1000) (hl : ∀ b ∈ t.blocks, b.length ≤ 1000000) :
    Calls Try.prog 27 #[tv t A n c] w fun e w' => ∃ A' c', e = .returned (tv t A' n c') ∧ Bl w' w.heap.size A' n c' t.blocks ∧ Below w.heap.size w w' := by
  obtain ⟨vs, hvl, hrr, hsl⟩ := h.vs
  have hbl := h.len
  have hz := h.2.2.1
  have hb1 := (Below.refl w.heap.size w).alloc (Nat.le_refl _) (.cells #[.int .i64 t.label, .int .i64 t.cap, .slice A n c, .bool t.lost] 29)
  have hb2 := hb1.alloc hb1.size (.cells #[.int .i64 0, .int .i64 0, .slice none 0 0, .bool false] 29)
  have HT1 : Hid (Tb ((w.alloc (.cells #[.int .i64 t.label, .int .i64 t.cap, .slice A n c, .bool t.lost] 29)).alloc (.cells #[.int .i64 0, .int .i64 0, .slice none 0 0, .bool false] 29)) w.heap.size t A n c) :=
    (heap_alloc_old _ _ (by simp)).trans (heap_alloc_new w _)
  have HT0 : Hid (((w.alloc (.cells #[.int .i64 t.label, .int .i64 t.cap, .slice A n c, .bool t.lost] 29)).alloc (.cells #[.int .i64 0, .int .i64 0, .slice none 0 0, .bool false] 29)).heap[w.heap.size + 1]? = some (.cells #[.int .i64 0, .int .i64 0, .slice none 0 0, .bool false] 29 (0, 0))) := heap_alloc2 _ _ _
  have HB2 := Lib.hid hb2
  have HR2 := Lib.hid (hrr.below hb2)
  have HS := Lib.hid hsl
  have HZ := Lib.hid hz
  have HLN := Lib.hid hl
  have HVL := Lib.hid hvl
  have HBL := Lib.hid hbl
  clear h hb1 hb2 hrr hsl hz hl hvl hbl
  unfold tv
  go_enter Try.func27, Try.ntmps27
  go_upto_region 2 with (go_at_call 33; (with_reducible refine (clone2_any _ A n c vs HR2.out HZ.out (by omega)).mono ?_); rintro e w2 ⟨A', c', rfl, hown, hb⟩; have HO2 := Lib.hid hown; have HB3 := Lib.hid hb; have ht2 := HT1.out.below hb; have HT2 := Lib.hid ht2; have f2 := unfrozen_of_block ht2 2; have c2 := cell_of_block ht2 2; clear hown hb ht2)
  have HC : Hid (Cl w (w2.setCell ⟨w.heap.size, 2, none⟩ (.slice A' n c')) t A' n c' 0 vs) := by
    refine ⟨HT2.out.set, ?_, ⟨[], rfl, ?_, Pb.nil _ _⟩, ?_⟩
    · have h0 := (HB3.out.block (w.heap.size + 1) (by simp)).trans HT0.out
      exact (Below.heap_setCell w2 ⟨w.heap.size, 2, none⟩ _ _ (by simp)).trans h0
    · have hr : RO 32 1 w2 w.heap.size A' n c' (vs.map Sv.v) := HO2.out.lower (by simp; omega)
      exact hr.stay (stay_set HT2.out _) (by decide)
    · exact (HB2.out.trans (HB3.out.mono (by simp; omega))).setCell (Nat.le_refl _) _
  obtain ⟨W3, hW3⟩ : ∃ W, W = w2.setCell ⟨w.heap.size, 2, none⟩ (.slice A' n c') := ⟨_, rfl⟩
  rw [← hW3] at HC ⊢
  have HOLD : Hid (∀ (i : Nat) s b, vs[i]? = some s → t.blocks[i]? = some b → Sl w s.a s.n s.c b) := HS
  clear hW3 HT2 HO2 HB3 HT1 HT0 HR2 HB2 HS f2 c2
  obtain ⟨d0, d1, d2, d3⟩ := HC.out.box.cells
  go_wp2
  go_loopw [12] (fun i wr => ∃ k, k ≤ n ∧ i = .int .i64 (k : Int) ∧ Cl w wr t A' n c' k vs) (fun i _ => n - (intOf i).toNat)
  case atStart => exact ⟨0, Nat.zero_le _, rfl, HC.out⟩
  case round =>
    clear d0 d1 d2 d3 HC
    obtain ⟨k, hk, rfl, hcl⟩ := hrel
    by_cases hkn : k < n
    · obtain ⟨g, s, b, rfl, hne, hb, hc, hf, hsl, hnext⟩ := hcl.drew.at hkn HVL.out HBL.out HOLD.out
      obtain ⟨d0, d1, d2, d3⟩ := hcl.drew.box.cells
      obtain ⟨e0, e1, e2, e3⟩ := hcl.box.cells
      have hc0 : wr.cell? ⟨g, k, none⟩ = some (.slice s.a s.n s.c) := hc
      have HSL := Lib.hid hsl
      have hsn : s.n ≤ 140737488351232 := by have := HLN.out b (List.mem_of_getElem? hb); have := hsl.len; omega
      have HNX := Lib.hid hnext
      clear hsl hnext hb hcl
      go_upto_region 5 with (fail)
      go_region_law ((refine step_call rfl 28 #[.slice s.a s.n s.c] ?_ (clone_any _ _ _ _ _ HSL.out hsn) ?_; (go_simp); (rintro e w7 ⟨A7, c7, rfl, hnew⟩); (refine ⟨_, rfl, ?_⟩); (have hx := HNX.out w7 ⟨A7, s.n, c7⟩ hnew.2 hnew.1); (obtain ⟨x0, x1, x2, x3⟩ := hx); (have HX := Lib.hid x3); (obtain ⟨y0, y1, y2, y3⟩ := x0.cells); (clear hnew x3 x0)))
      all_goals
        go_wp2
        go_roundw
        case rel => exact ⟨k + 1, by omega, by go_num, HX.out⟩
        case measure => simp [intOf]; omega
    · obtain rfl : k = n := by omega
      have HCL := Lib.hid hcl
      have HRES := Lib.hid hcl.res
      obtain ⟨e0, e1, e2, e3⟩ := hcl.box.cells
      have r0 := cell_of_block hcl.res 0
      have r1 := cell_of_block hcl.res 1
      have r2 := cell_of_block hcl.res 2
      have r3 := cell_of_block hcl.res 3
      have f0 := unfrozen_of_block hcl.res 0
      have f1 := unfrozen_of_block hcl.res 1
      have f2 := unfrozen_of_block hcl.res 2
      have f3 := unfrozen_of_block hcl.res 3
      clear hcl
      go_wp2
      obtain ⟨s0, s1, s2, s3, st, _⟩ := four_set HRES.out (.int .i64 t.label) (.int .i64 t.cap) (.slice A' k c') (.bool t.lost)
      refine bodyPost_ret (v := tv t A' k c') (by simp [results, Try.results27, go_sem, s0, s1, s2, s3]) rfl ⟨A', c', rfl, ?_, ?_⟩
      · obtain ⟨ns, hns, hr, hp⟩ := HCL.out.rows
        have hv := HVL.out
        have hbl := HBL.out
        rw [List.drop_of_length_le (by omega), List.append_nil] at hr
        rw [List.take_of_length_le (by omega)] at hp
        have hb : Bl wr w.heap.size A' k c' t.blocks := ⟨ns, hp.blv hr⟩
        exact hb.stay st (by decide) (by decide)
      · exact (((HCL.out.bel.setCell (by simp) _).setCell (by simp) _).setCell (by simp) _).setCell (by simp) _
end Go.Proofs.Ytnnhigojgdcdlaa.Code
