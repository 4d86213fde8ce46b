/- TapePlays: the tapes that are refused; two tapes side by side. Conditions: none. -/
import Derived.Test.YtnnhigojgdcdlaaRef5
import Derived.Deep.CutBlock
namespace Go.Proofs.Ytnnhigojgdcdlaa.Crc
/-- A call. -/
structure Ac where
  way : Int
  n : Int
  m : Int
  b : List UInt8
end Go.Proofs.Ytnnhigojgdcdlaa.Crc
namespace Go.Proofs.Ytnnhigojgdcdlaa.Mem
open Go.RowKit Go.Joins Go.Proofs.Ytnnhigojgdcdlaa.Crc
/-- A slice of calls. -/
def Acs (w : World) (A : Option Addr) (n : Nat) (l : List Ac) : Prop :=
  l.length = n ∧ ∀ i (h : i < l.length), ∃ b o A' n' c', A = some ⟨b, o, none⟩ ∧ w.cell? ⟨b, o + i * 4, none⟩ = some (.int .i64 l[i].way) ∧ w.cell? ⟨b, o + i * 4 + 1, none⟩ = some (.int .i64 l[i].n) ∧ w.cell? ⟨b, o + i * 4 + 2, none⟩ = some (.int .i64 l[i].m) ∧ w.cell? ⟨b, o + i * 4 + 3, none⟩ = some (.slice A' n' c') ∧ Sl w A' n' c' l[i].b
theorem Acs.below {w w' : World} {A : Option Addr} {n : Nat} {l : List Ac} (h : Acs w A n l) (hb : Below w.heap.size w w') : Acs w' A n l := by
  refine ⟨h.1, fun i hi => ?_⟩
  obtain ⟨b, o, A', n', c', ha, h0, h1, h2, h3, hs⟩ := h.2 i hi
  exact ⟨b, o, A', n', c', ha, (hb.cell (World.block_lt_of_cell? _ _ h0)).trans h0, (hb.cell (World.block_lt_of_cell? _ _ h1)).trans h1, (hb.cell (World.block_lt_of_cell? _ _ h2)).trans h2, (hb.cell (World.block_lt_of_cell? _ _ h3)).trans h3, hs.below hb⟩
theorem Acs.look {w w' : World} {A : Option Addr} {n : Nat} {l : List Ac} (h : Acs w A n l) (hb : Below w.heap.size w w') (i : Nat) (hi : i < n) : ∃ b o A' n' c' x, A = some ⟨b, o, none⟩ ∧ w'.cell? ⟨b, o + i * 4, none⟩ = some (.int .i64 (x : Ac).way) ∧ w'.cell? ⟨b, o + i * 4 + 1, none⟩ = some (.int .i64 x.n) ∧ w'.cell? ⟨b, o + i * 4 + 2, none⟩ = some (.int .i64 x.m) ∧ w'.cell? ⟨b, o + i * 4 + 3, none⟩ = some (.slice A' n' c') ∧ Sl w A' n' c' x.b := by
  obtain ⟨b, o, A', n', c', ha, h0, h1, h2, h3, hs⟩ := h.2 i (by rw [h.1]; exact hi)
  exact ⟨b, o, A', n', c', _, ha, (hb.cell (World.block_lt_of_cell? _ _ h0)).trans h0, (hb.cell (World.block_lt_of_cell? _ _ h1)).trans h1, (hb.cell (World.block_lt_of_cell? _ _ h2)).trans h2, (hb.cell (World.block_lt_of_cell? _ _ h3)).trans h3, hs⟩
theorem Acs.at {w : World} {A : Option Addr} {n : Nat} {l : List Ac} (h : Acs w A n l) (i : Nat) (hi : i < n) : ∃ b o A' n' c' x, A = some ⟨b, o, none⟩ ∧ w.cell? ⟨b, o + i * 4, none⟩ = some (.int .i64 (x : Ac).way) ∧ w.cell? ⟨b, o + i * 4 + 1, none⟩ = some (.int .i64 x.n) ∧ w.cell? ⟨b, o + i * 4 + 2, none⟩ = some (.int .i64 x.m) ∧ w.cell? ⟨b, o + i * 4 + 3, none⟩ = some (.slice A' n' c') ∧ Sl w A' n' c' x.b := by
  obtain ⟨b, o, A', n', c', ha, h0, h1, h2, h3, hs⟩ := h.2 i (by rw [h.1]; exact hi)
  exact ⟨b, o, A', n', c', _, ha, h0, h1, h2, h3, hs⟩
end Go.Proofs.Ytnnhigojgdcdlaa.Mem
namespace Go.Proofs.Ytnnhigojgdcdlaa.Code
open Go.RowKit Go.Joins Go.Proofs.Ytnnhigojgdcdlaa.Crc Go.Proofs.Ytnnhigojgdcdlaa.Mem
set_option maxHeartbeats 8000000 in
set_option maxRecDepth 100000 in
theorem plays_few (w : World) (t : Tp) (A : Option Addr) (n c : Nat) (h : Blks w A n c t.blocks) (hn : n ≤ 9223372036854775807) (A2 : Option Addr) (n2 c2 : Nat) (hf : ¬ (n ≤ 90 ∧ ∀ b ∈ t.blocks, b.length ≤ 300)) :
    Calls Try.prog 6 #[tv t A n c, .slice A2 n2 c2] w fun e w' => e = .returned (.bool true) ∧ Below w.heap.size w w' := by
  have hb1 := (Below.refl w.heap.size w).alloc (Nat.le_refl _) (.cells #[.int .i64 t.label, .int .i64 t.cap, .slice A n c, .bool t.lost] 29)
  have HB1 := Lib.hid hb1
  have HL1 := Lib.hid (h.below hb1)
  obtain ⟨W, HW⟩ : ∃ W, Hid (W = w.alloc (.cells #[.int .i64 t.label, .int .i64 t.cap, .slice A n c, .bool t.lost] 29)) := ⟨_, rfl⟩
  have hbox : W.heap[w.heap.size]? = some (.cells #[.int .i64 t.label, .int .i64 t.cap, .slice A n c, .bool t.lost] 29 (0, 0)) := by rw [HW.out]; exact heap_alloc_new w _
  rw [← HW.out] at HB1 HL1
  have HBOX := Lib.hid hbox
  have HF := Lib.hid hf
  clear h hb1 hbox hf
  unfold tv
  go_enter Try.func6, Try.ntmps6
  go_upto_region 1 with (fail)
  rw [← HW.out]
  go_wp2_with (first
    | (go_at_call 7; (with_reducible refine (alive_any _).mono ?_); rintro e w1 ⟨rfl, hb⟩; have HB := Lib.hid hb; have hx := (hb.block _ (lt_of_block HBOX.out)).trans HBOX.out; have x0 := cell_of_block hx 0; have x1 := cell_of_block hx 1; have x2 := cell_of_block hx 2; have x3 := cell_of_block hx 3; clear hb hx)
    | (go_at_call 18; (refine (few_no _ t A n c (HL1.out.below HB.out) hn HF.out).mono ?_); rintro e w2 ⟨rfl, hb⟩; have HB2 := Lib.hid hb; clear hb))
  go_ret
  exact ⟨rfl, below_then (below_then HB1.out HB.out HB1.out.size) HB2.out (Nat.le_trans HB1.out.size HB.out.size)⟩
theorem notbad {t : Tp} {n : Nat} (h : ¬ BadT t n) : 1 ≤ t.label ∧ 0 ≤ t.cap ∧ t.cap ≤ 64 ∧ (n : Int) ≤ t.cap ∧ Right t.blocks := by
  refine ⟨?_, ?_, ?_, ?_, ?_⟩
  · exact Int.not_lt.1 fun e => h (.inl e)
  · exact Int.not_lt.1 fun e => h (.inr (.inl e))
  · exact Int.not_lt.1 fun e => h (.inr (.inr (.inl e)))
  · exact Int.not_lt.1 fun e => h (.inr (.inr (.inr (.inl e))))
  · exact Classical.byContradiction fun e => h (.inr (.inr (.inr (.inr e))))
set_option maxHeartbeats 8000000 in
set_option maxRecDepth 100000 in
theorem plays_long (w : World) (t : Tp) (A : Option Addr) (n c : Nat) (h : Blks w A n c t.blocks) (A2 : Option Addr) (n2 c2 : Nat) (hn : n ≤ 90) (hf : ∀ b ∈ t.blocks, b.length ≤ 300) (h80 : 80 < n2) :
    Calls Try.prog 6 #[tv t A n c, .slice A2 n2 c2] w fun e w' => e = .returned (.bool true) ∧ Below w.heap.size w w' := by
  have hb1 := (Below.refl w.heap.size w).alloc (Nat.le_refl _) (.cells #[.int .i64 t.label, .int .i64 t.cap, .slice A n c, .bool t.lost] 29)
  have HB1 := Lib.hid hb1
  have HL1 := Lib.hid (h.below hb1)
  obtain ⟨W, HW⟩ : ∃ W, Hid (W = w.alloc (.cells #[.int .i64 t.label, .int .i64 t.cap, .slice A n c, .bool t.lost] 29)) := ⟨_, rfl⟩
  have hbox : W.heap[w.heap.size]? = some (.cells #[.int .i64 t.label, .int .i64 t.cap, .slice A n c, .bool t.lost] 29 (0, 0)) := by rw [HW.out]; exact heap_alloc_new w _
  rw [← HW.out] at HB1 HL1
  have HBOX := Lib.hid hbox
  have HF := Lib.hid hf
  have HS6 : Hid (∀ b ∈ t.blocks, b.length ≤ 1000000) := fun b hb => by have := hf b hb; omega
  have hn9 : n ≤ 1000 := by omega
  have h80i : (80 : Int) < (n2 : Int) := by omega
  clear h hb1 hbox hf
  unfold tv
  go_enter Try.func6, Try.ntmps6
  go_upto_region 1 with (fail)
  rw [← HW.out]
  go_wp2_with (first
    | (go_at_call 7; (with_reducible refine (alive_any _).mono ?_); rintro e w1 ⟨rfl, hb⟩; have HB := Lib.hid hb; have hx := (hb.block _ (lt_of_block HBOX.out)).trans HBOX.out; have HX := Lib.hid hx; have x0 := cell_of_block hx 0; have x1 := cell_of_block hx 1; have x2 := cell_of_block hx 2; have x3 := cell_of_block hx 3; clear hb hx)
    | (go_at_call 18; (refine (few_yes _ t A n c (HL1.out.below HB.out) hn HF.out).mono ?_); rintro e w2 ⟨rfl, hb⟩; have HB2 := Lib.hid hb; have hx := (hb.block _ (lt_of_block HX.out)).trans HX.out; have HX2 := Lib.hid hx; have x0 := cell_of_block hx 0; have x1 := cell_of_block hx 1; have x2 := cell_of_block hx 2; have x3 := cell_of_block hx 3; clear hb hx))
  go_ret
  exact ⟨rfl, below_then (below_then HB1.out HB.out HB1.out.size) HB2.out (Nat.le_trans HB1.out.size HB.out.size)⟩
set_option maxHeartbeats 8000000 in
set_option maxRecDepth 100000 in
theorem plays_bad (w : World) (t : Tp) (A : Option Addr) (n c : Nat) (h : Blks w A n c t.blocks) (A2 : Option Addr) (n2 c2 : Nat) (hn : n ≤ 90) (hf : ∀ b ∈ t.blocks, b.length ≤ 300) (h80 : n2 ≤ 80) (hbad : BadT t n) :
    Calls Try.prog 6 #[tv t A n c, .slice A2 n2 c2] w fun e w' => e = .returned (.bool true) ∧ Below w.heap.size w w' := by
  have hb1 := (Below.refl w.heap.size w).alloc (Nat.le_refl _) (.cells #[.int .i64 t.label, .int .i64 t.cap, .slice A n c, .bool t.lost] 29)
  have HB1 := Lib.hid hb1
  have HL1 := Lib.hid (h.below hb1)
  obtain ⟨W, HW⟩ : ∃ W, Hid (W = w.alloc (.cells #[.int .i64 t.label, .int .i64 t.cap, .slice A n c, .bool t.lost] 29)) := ⟨_, rfl⟩
  have hbox : W.heap[w.heap.size]? = some (.cells #[.int .i64 t.label, .int .i64 t.cap, .slice A n c, .bool t.lost] 29 (0, 0)) := by rw [HW.out]; exact heap_alloc_new w _
  rw [← HW.out] at HB1 HL1
  have HBOX := Lib.hid hbox
  have HF := Lib.hid hf
  have HS6 : Hid (∀ b ∈ t.blocks, b.length ≤ 1000000) := fun b hb => by have := hf b hb; omega
  have hn9 : n ≤ 1000 := by omega
  have HBAD := Lib.hid hbad
  clear hbad
  have h80i : ¬ (80 : Int) < (n2 : Int) := by omega
  clear h hb1 hbox hf
  unfold tv
  go_enter Try.func6, Try.ntmps6
  go_upto_region 1 with (fail)
  rw [← HW.out]
  go_wp2_with (first
    | (go_at_call 7; (with_reducible refine (alive_any _).mono ?_); rintro e w1 ⟨rfl, hb⟩; have HB := Lib.hid hb; have hx := (hb.block _ (lt_of_block HBOX.out)).trans HBOX.out; have HX := Lib.hid hx; have x0 := cell_of_block hx 0; have x1 := cell_of_block hx 1; have x2 := cell_of_block hx 2; have x3 := cell_of_block hx 3; clear hb hx)
    | (go_at_call 18; (refine (few_yes _ t A n c (HL1.out.below HB.out) hn HF.out).mono ?_); rintro e w2 ⟨rfl, hb⟩; have HB2 := Lib.hid hb; have hx := (hb.block _ (lt_of_block HX.out)).trans HX.out; have HX2 := Lib.hid hx; have x0 := cell_of_block hx 0; have x1 := cell_of_block hx 1; have x2 := cell_of_block hx 2; have x3 := cell_of_block hx 3; clear hb hx)
    | (go_at_call 19; (refine (copy_any _ t A n c ((HL1.out.below HB.out).below HB2.out) hn9 HS6.out).mono ?_); rintro e w3 ⟨A3, n3, c3, rfl, hbl, hb⟩; have hn3 : n3 = n := (by have e1 := hbl.len; have e2 := HL1.out.len; omega); subst hn3; have HBL3 := Lib.hid hbl.blks; have HB3 := Lib.hid hb; have hx := (hb.block _ (lt_of_block HX2.out)).trans HX2.out; have HX3 := Lib.hid hx; have x0 := cell_of_block hx 0; have x1 := cell_of_block hx 1; have x2 := cell_of_block hx 2; have x3 := cell_of_block hx 3; clear hb hx hbl)
    | (go_at_call 8; (refine (load_arg _ t A3 _ c3 HBL3.out hn9 HBAD.out).mono ?_); rintro e w4 ⟨rfl, hb⟩; have HB4 := Lib.hid hb; have hx := (hb.block _ (lt_of_block HX3.out)).trans HX3.out; have HX4 := Lib.hid hx; have x0 := cell_of_block hx 0; have x1 := cell_of_block hx 1; have x2 := cell_of_block hx 2; have x3 := cell_of_block hx 3; clear hb hx)
    | (go_at_call 20; (refine (lt_bad _ t A _ c ((((HL1.out.below HB.out).below HB2.out).below HB3.out).below HB4.out) (by omega) HBAD.out).mono ?_); rintro e w5 ⟨rfl, hb⟩; have HB5 := Lib.hid hb; clear hb)
    | (go_at_call 9; (with_reducible refine (num_any _ _).mono ?_); rintro e w' ⟨rfl, hz⟩; obtain rfl := hz.symm))
  go_ret
  have z1 := HB1.out.size
  have z2 := Nat.le_trans z1 HB.out.size
  have z3 := Nat.le_trans z2 HB2.out.size
  have z4 := Nat.le_trans z3 HB3.out.size
  have z5 := Nat.le_trans z4 HB4.out.size
  exact ⟨rfl, below_then (below_then (below_then (below_then (below_then HB1.out HB.out z1) HB2.out z2) HB3.out z3) HB4.out z4) HB5.out z5⟩
set_option maxHeartbeats 8000000 in
set_option maxRecDepth 100000 in
theorem plays_lost (w : World) (t : Tp) (A : Option Addr) (n c : Nat) (h : Blks w A n c t.blocks) (A2 : Option Addr) (n2 c2 : Nat) (hn : n ≤ 90) (hf : ∀ b ∈ t.blocks, b.length ≤ 300) (h80 : n2 ≤ 80) (hbad : ¬ BadT t n) (hlo : t.lost = true) :
    Calls Try.prog 6 #[tv t A n c, .slice A2 n2 c2] w fun e w' => e = .returned (.bool true) ∧ Below w.heap.size w w' := by
  have hb1 := (Below.refl w.heap.size w).alloc (Nat.le_refl _) (.cells #[.int .i64 t.label, .int .i64 t.cap, .slice A n c, .bool t.lost] 29)
  have HB1 := Lib.hid hb1
  have HL1 := Lib.hid (h.below hb1)
  obtain ⟨W, HW⟩ : ∃ W, Hid (W = w.alloc (.cells #[.int .i64 t.label, .int .i64 t.cap, .slice A n c, .bool t.lost] 29)) := ⟨_, rfl⟩
  have hbox : W.heap[w.heap.size]? = some (.cells #[.int .i64 t.label, .int .i64 t.cap, .slice A n c, .bool t.lost] 29 (0, 0)) := by rw [HW.out]; exact heap_alloc_new w _
  rw [← HW.out] at HB1 HL1
  have HBOX := Lib.hid hbox
  have HF := Lib.hid hf
  have HS6 : Hid (∀ b ∈ t.blocks, b.length ≤ 1000000) := fun b hb => by have := hf b hb; omega
  have hn9 : n ≤ 1000 := by omega
  have HBAD := Lib.hid hbad
  have HLO := Lib.hid hlo
  have HNB := Lib.hid (notbad hbad)
  clear hbad hlo
  have h80i : ¬ (80 : Int) < (n2 : Int) := by omega
  clear h hb1 hbox hf
  unfold tv
  go_enter Try.func6, Try.ntmps6
  go_upto_region 1 with (fail)
  rw [← HW.out]
  go_wp2_with (first
    | (go_at_call 7; (with_reducible refine (alive_any _).mono ?_); rintro e w1 ⟨rfl, hb⟩; have HB := Lib.hid hb; have hx := (hb.block _ (lt_of_block HBOX.out)).trans HBOX.out; have HX := Lib.hid hx; have x0 := cell_of_block hx 0; have x1 := cell_of_block hx 1; have x2 := cell_of_block hx 2; have x3 := cell_of_block hx 3; clear hb hx)
    | (go_at_call 18; (refine (few_yes _ t A n c (HL1.out.below HB.out) hn HF.out).mono ?_); rintro e w2 ⟨rfl, hb⟩; have HB2 := Lib.hid hb; have hx := (hb.block _ (lt_of_block HX.out)).trans HX.out; have HX2 := Lib.hid hx; have x0 := cell_of_block hx 0; have x1 := cell_of_block hx 1; have x2 := cell_of_block hx 2; have x3 := cell_of_block hx 3; clear hb hx)
    | (go_at_call 19; (refine (copy_any _ t A n c ((HL1.out.below HB.out).below HB2.out) hn9 HS6.out).mono ?_); rintro e w3 ⟨A3, n3, c3, rfl, hbl, hb⟩; have hn3 : n3 = n := (by have e1 := hbl.len; have e2 := HL1.out.len; omega); subst hn3; have HBL3 := Lib.hid hbl.blks; have HB3 := Lib.hid hb; have hx := (hb.block _ (lt_of_block HX2.out)).trans HX2.out; have HX3 := Lib.hid hx; have x0 := cell_of_block hx 0; have x1 := cell_of_block hx 1; have x2 := cell_of_block hx 2; have x3 := cell_of_block hx 3; clear hb hx hbl)
    | (go_at_call 8; (refine (load_lost _ t A3 _ c3 HBL3.out (HNB.out.1) HNB.out.2.1 HNB.out.2.2.1 HNB.out.2.2.2.1 HNB.out.2.2.2.2 HLO.out).mono ?_); rintro e w4 ⟨rfl, hb⟩; have HB4 := Lib.hid hb; have hx := (hb.block _ (lt_of_block HX3.out)).trans HX3.out; have HX4 := Lib.hid hx; have x0 := cell_of_block hx 0; have x1 := cell_of_block hx 1; have x2 := cell_of_block hx 2; have x3 := cell_of_block hx 3; clear hb hx)
    | (go_at_call 20; (refine (lt_lost _ t A _ c ((((HL1.out.below HB.out).below HB2.out).below HB3.out).below HB4.out) (by omega) HBAD.out HLO.out).mono ?_); rintro e w5 ⟨rfl, hb⟩; have HB5 := Lib.hid hb; clear hb)
    | (go_at_call 9; (with_reducible refine (num_any _ _).mono ?_); rintro e w' ⟨rfl, hz⟩; obtain rfl := hz.symm))
  go_ret
  have z1 := HB1.out.size
  have z2 := Nat.le_trans z1 HB.out.size
  have z3 := Nat.le_trans z2 HB2.out.size
  have z4 := Nat.le_trans z3 HB3.out.size
  have z5 := Nat.le_trans z4 HB4.out.size
  exact ⟨rfl, below_then (below_then (below_then (below_then (below_then HB1.out HB.out z1) HB2.out z2) HB3.out z3) HB4.out z4) HB5.out z5⟩
end Go.Proofs.Ytnnhigojgdcdlaa.Code
