/- What volume.Good answers. Conditions: the tape is no lost one, the block is one of its. -/
import Derived.Test.YtpgceeeokjadpaaTap
import Derived.Test.YtpgceeeokjadpaaFr12
namespace Go.Proofs.Ytpgceeeokjadpaa.Crc
/-- Is block i of a tape good? -/
def goodAt (t : Tp) (i : Nat) : Bool := match t.blocks[i]? with
  | none => false
  | some b => decide (Good b) && (decide ((getU b).label = t.label) && decide ((getU b).number = (i : Int)))
theorem goodAt_of {t : Tp} {i : Nat} {b : List UInt8} (h : t.blocks[i]? = some b) : goodAt t i = (decide (Good b) && (decide ((getU b).label = t.label) && decide ((getU b).number = (i : Int)))) := by
  unfold goodAt; rw [h]
end Go.Proofs.Ytpgceeeokjadpaa.Crc
namespace Go.Proofs.Ytpgceeeokjadpaa.Code
open Go.RowKit Go.Joins Go.Proofs.Ytpgceeeokjadpaa.Crc Go.Proofs.Ytpgceeeokjadpaa.Mem
theorem get_endx {F : Func} {p r : Tmp} (hF : F.results = #[.cell p 45, .tmp r]) {R : Ending → World → Prop} {a : Act} {W : World} {q : Nat} {u : Un} {A : Option Addr} {n c : Nat} {x : Value}
    (h2 : a.tmps.getD p undef = .pointer (some ⟨q, 0, none⟩)) (h3 : a.tmps.getD r undef = x) (hd : a.defers = []) (hu : Ub W q u A n c) (hR : R (.returned (.tuple #[uv u A n c, x])) W) : bodyPost Try.prog F R Exit.ret a W := by
  refine bodyPost_ret (v := .tuple #[uv u A n c, x]) ?_ hd hR
  rw [results_cell_tmp hF, h2, h3]
  have h := run_loadVar_row (P := Try.prog) W q 45 45 _ (0, 0) _ hu Try.underlying45 rfl (by kernel_rfl)
  simp only [asAddr, Sem.run_pure, Result.andThen_ok, h]
/-- What Good leaves. -/
def GoodPost (w : World) (b : Bool) (e : Ending) (w' : World) : Prop := ∃ U A n c, e = .returned (.tuple #[uv U A n c, .bool b]) ∧ Below w.heap.size w w'
theorem getE_ok {l : List UInt8} : getE l = 0 ↔ Crc.Good l := by
  unfold getE
  constructor
  · intro h
    by_cases hg : Crc.Good l
    · exact hg
    · rw [if_neg hg] at h; cases h
  · intro h; rw [if_pos h]
set_option maxHeartbeats 8000000 in
set_option maxRecDepth 100000 in
theorem good_any (w : World) (t : Tp) (A : Option Addr) (n c : Nat) (h : Blks w A n c t.blocks) (hl : t.lost = false) (h3 : ∀ b ∈ t.blocks, b.length ≤ 300) (i : Nat) (hi : i < n) (_hn : n ≤ 9223372036854775807) :
    Calls Try.prog 56 #[tv t A n c, .int .i64 (i : Int)] w fun e w' => GoodPost w (goodAt t i) e w' := by
  obtain ⟨b, o, A', n', c', l, rfl, hbi, hc, hs, hm⟩ := h.at i hi
  obtain ⟨label, cap, blocks, lost⟩ := t
  simp only at hl hbi
  subst hl
  have HGA := Lib.hid (goodAt_of (t := ⟨label, cap, blocks, false⟩) hbi)
  have hb1 := (Below.refl w.heap.size w).alloc (Nat.le_refl _) (.cells #[.int .i64 label, .int .i64 cap, .slice (some ⟨b, o, none⟩) n c, .bool false] 65)
  have hb2 := hb1.alloc hb1.size (.cells #[.int .i64 0, .int .i64 0, .int .i64 0, .slice none 0 0] 45)
  have HB := Lib.hid hb2
  have HS := Lib.hid (hs.below hb2)
  have hcell := (hb2.cell (p := ⟨b, o + i, none⟩) (World.block_lt_of_cell? _ _ hc)).trans hc
  have HZ : Hid (Ub ((w.alloc (.cells #[.int .i64 label, .int .i64 cap, .slice (some ⟨b, o, none⟩) n c, .bool false] 65)).alloc (.cells #[.int .i64 0, .int .i64 0, .int .i64 0, .slice none 0 0] 45)) (w.heap.size + 1) Un.zero none 0 0) := by
    have := Ub.new (w.alloc (.cells #[.int .i64 label, .int .i64 cap, .slice (some ⟨b, o, none⟩) n c, .bool false] 65)) Un.zero none 0 0
    rw [World.size_alloc] at this; exact this
  have HT : Hid ((((w.alloc (.cells #[.int .i64 label, .int .i64 cap, .slice (some ⟨b, o, none⟩) n c, .bool false] 65)).alloc (.cells #[.int .i64 0, .int .i64 0, .int .i64 0, .slice none 0 0] 45)).cell? ⟨w.heap.size, 0, none⟩) = some (.int .i64 label)) := by unfold Hid; simp [go_sem]
  obtain ⟨g, hg⟩ : ∃ g, g = getE l := ⟨_, rfl⟩
  obtain ⟨U, hU⟩ : ∃ U, U = getU l := ⟨_, rfl⟩
  have HG := Lib.hid hg
  have HU := Lib.hid hU
  have hnl : n' ≤ 300 := by rw [← hs.len]; exact h3 l (List.mem_of_getElem? hbi)
  clear h h3 hbi hb1 hb2 hc hs hm hg hU
  unfold tv
  go_enter Try.func56, Try.ntmps56
  go_upto_region 4 with (first
    | (go_at_call 30; (with_reducible refine (get_any _ _ _ _ l HS.out (by omega)).mono ?_); rintro e w1 ⟨A2, n2, c2, rfl, hsl, hb⟩; rw [← HG.out, ← HU.out]; rw [← HU.out] at hsl; have HB1 := Lib.hid (unew_below U A2 n2 c2 hb); clear hb hsl))
  obtain ⟨W, hW⟩ : ∃ W, W = w1.alloc (.cells #[.int .i64 U.kind, .int .i64 U.label, .int .i64 U.number, .slice A2 n2 c2] 45) := ⟨_, rfl⟩
  have HBW : Hid (Below ((w.alloc (.cells #[.int .i64 label, .int .i64 cap, .slice (some ⟨b, o, none⟩) n c, .bool false] 65)).alloc (.cells #[.int .i64 0, .int .i64 0, .int .i64 0, .slice none 0 0] 45)).heap.size ((w.alloc (.cells #[.int .i64 label, .int .i64 cap, .slice (some ⟨b, o, none⟩) n c, .bool false] 65)).alloc (.cells #[.int .i64 0, .int .i64 0, .int .i64 0, .slice none 0 0] 45)) W) := by rw [hW]; exact HB1
  have hu : Ub W w1.heap.size U A2 n2 c2 := by rw [hW]; exact unew_at w1 U A2 n2 c2
  rw [← hW]
  have hz := HZ.out.below HBW.out
  have ht := (HBW.out.cell (World.block_lt_of_cell? _ _ HT.out)).trans HT.out
  have z0 := unfrozen_of_block hz 0; have z1 := unfrozen_of_block hz 1; have z2 := unfrozen_of_block hz 2; have z3 := unfrozen_of_block hz 3
  obtain ⟨y0, y1, y2, y3⟩ := hz.cells
  obtain ⟨x0, x1, x2, x3⟩ := hu.cells
  have HZW := Lib.hid hz
  have HBB := Lib.hid (below_then HB.out HBW.out HB.out.size)
  clear hW hu hz HB1 HBW HS HT HZ hcell
  have hgd : g = 0 ↔ Crc.Good l := by rw [HG.out]; exact getE_ok
  by_cases h1 : g = 0 ∧ U.label = label ∧ U.number = (i : Int)
  · obtain ⟨h1, h2, h3⟩ := h1
    have HT : Hid (goodAt ⟨label, cap, blocks, false⟩ i = true) := by unfold Hid; rw [HGA.out, ← HU.out, decide_eq_true (hgd.1 h1), decide_eq_true h2, decide_eq_true h3]; rfl
    have t1 : (g != 0) = false := by rw [h1]; rfl
    have t2 : (U.label != label) = false := by rw [h2]; simp
    have t3 : (U.number != (i : Int)) = false := by rw [h3]; simp
    subst h1
    clear h2 h3 hgd
    go_wp2
    refine get_endx (p := 4) (r := 5) (q := w.heap.size + 1) (u := U) (A := A2) (n := n2) (c := c2) (x := .bool true) ?_ ?_ ?_ ?_ ?_ ?_
    · rfl
    · rfl
    · rfl
    · rfl
    · with_reducible exact ub_put U A2 n2 c2 HZW.out
    · rw [HT.out]
      exact ⟨U, A2, n2, c2, rfl, uput_below U A2 n2 c2 HBB.out (Nat.le_succ _)⟩
  · have HT : Hid (goodAt ⟨label, cap, blocks, false⟩ i = false) := by
      unfold Hid; rw [HGA.out, ← HU.out]
      by_cases ha : Crc.Good l
      · by_cases hb : U.label = label
        · by_cases hc : U.number = (i : Int)
          · exact absurd ⟨hgd.2 ha, hb, hc⟩ h1
          · simp [hc]
        · simp [hb]
      · simp [ha]
    have h' : (g != 0) = true ∨ ((g != 0) = false ∧ (U.label != label) = true) ∨ ((g != 0) = false ∧ (U.label != label) = false ∧ (U.number != (i : Int)) = true) := by
      by_cases ha : g = 0
      · by_cases hb : U.label = label
        · by_cases hc : U.number = (i : Int)
          · exact absurd ⟨ha, hb, hc⟩ h1
          · exact .inr (.inr ⟨by rw [ha]; rfl, by rw [hb]; simp, bne_iff_ne.mpr hc⟩)
        · exact .inr (.inl ⟨by rw [ha]; rfl, bne_iff_ne.mpr hb⟩)
      · exact .inl (bne_iff_ne.mpr ha)
    clear h1 hgd
    rcases h' with t1 | ⟨t1, t2⟩ | ⟨t1, t2, t3⟩
    all_goals
      go_wp2
      refine get_endx (p := 4) (r := 5) (q := w.heap.size + 1) (u := Un.zero) (A := none) (n := 0) (c := 0) (x := .bool false) ?_ ?_ ?_ ?_ ?_ ?_
      · rfl
      · rfl
      · rfl
      · rfl
      · with_reducible exact ub_zero HZW.out
      · rw [HT.out]
        exact ⟨Un.zero, none, 0, 0, rfl, uzero_below HBB.out (Nat.le_succ _)⟩
set_option maxHeartbeats 8000000 in
set_option maxRecDepth 100000 in
theorem goodref_any (w : World) (t : Tp) (A : Option Addr) (n c : Nat) (h : Blks w A n c t.blocks) (hl : t.lost = false) (h3 : ∀ b ∈ t.blocks, b.length ≤ 300) (i : Nat) (hi : i < n) (_hn : n ≤ 9223372036854775807) :
    Calls Try.prog 64 #[tv t A n c, .int .i64 (i : Int)] w fun e w' => GoodPost w (goodAt t i) e w' := by
  obtain ⟨b, o, A', n', c', l, rfl, hbi, hc, hs, hm⟩ := h.at i hi
  obtain ⟨label, cap, blocks, lost⟩ := t
  simp only at hl hbi
  subst hl
  have HGA := Lib.hid (goodAt_of (t := ⟨label, cap, blocks, false⟩) hbi)
  have hb1 := (Below.refl w.heap.size w).alloc (Nat.le_refl _) (.cells #[.int .i64 label, .int .i64 cap, .slice (some ⟨b, o, none⟩) n c, .bool false] 65)
  have hb2 := hb1.alloc hb1.size (.cells #[.int .i64 0, .int .i64 0, .int .i64 0, .slice none 0 0] 45)
  have HB := Lib.hid hb2
  have HS := Lib.hid (hs.below hb2)
  have hcell := (hb2.cell (p := ⟨b, o + i, none⟩) (World.block_lt_of_cell? _ _ hc)).trans hc
  have HZ : Hid (Ub ((w.alloc (.cells #[.int .i64 label, .int .i64 cap, .slice (some ⟨b, o, none⟩) n c, .bool false] 65)).alloc (.cells #[.int .i64 0, .int .i64 0, .int .i64 0, .slice none 0 0] 45)) (w.heap.size + 1) Un.zero none 0 0) := by
    have := Ub.new (w.alloc (.cells #[.int .i64 label, .int .i64 cap, .slice (some ⟨b, o, none⟩) n c, .bool false] 65)) Un.zero none 0 0
    rw [World.size_alloc] at this; exact this
  have HT : Hid ((((w.alloc (.cells #[.int .i64 label, .int .i64 cap, .slice (some ⟨b, o, none⟩) n c, .bool false] 65)).alloc (.cells #[.int .i64 0, .int .i64 0, .int .i64 0, .slice none 0 0] 45)).cell? ⟨w.heap.size, 0, none⟩) = some (.int .i64 label)) := by unfold Hid; simp [go_sem]
  obtain ⟨g, hg⟩ : ∃ g, g = getE l := ⟨_, rfl⟩
  obtain ⟨U, hU⟩ : ∃ U, U = getU l := ⟨_, rfl⟩
  have HG := Lib.hid hg
  have HU := Lib.hid hU
  have hnl : n' ≤ 300 := by rw [← hs.len]; exact h3 l (List.mem_of_getElem? hbi)
  have hcap : c' ≤ 9223372036854775807 := by simpa [maxLen] using hm
  clear h h3 hbi hb1 hb2 hc hs hm hg hU
  unfold tv
  go_enter Try.func64, Try.ntmps64
  go_upto_region 4 with (first
    | (go_at_call 31; (with_reducible refine (getref_any _ _ _ _ l HS.out (by omega) hcap).mono ?_); rintro e w1 ⟨A2, n2, c2, rfl, hsl, hb⟩; rw [← HG.out, ← HU.out]; rw [← HU.out] at hsl; have HB1 := Lib.hid (unew_below U A2 n2 c2 hb); clear hb hsl))
  obtain ⟨W, hW⟩ : ∃ W, W = w1.alloc (.cells #[.int .i64 U.kind, .int .i64 U.label, .int .i64 U.number, .slice A2 n2 c2] 45) := ⟨_, rfl⟩
  have HBW : Hid (Below ((w.alloc (.cells #[.int .i64 label, .int .i64 cap, .slice (some ⟨b, o, none⟩) n c, .bool false] 65)).alloc (.cells #[.int .i64 0, .int .i64 0, .int .i64 0, .slice none 0 0] 45)).heap.size ((w.alloc (.cells #[.int .i64 label, .int .i64 cap, .slice (some ⟨b, o, none⟩) n c, .bool false] 65)).alloc (.cells #[.int .i64 0, .int .i64 0, .int .i64 0, .slice none 0 0] 45)) W) := by rw [hW]; exact HB1
  have hu : Ub W w1.heap.size U A2 n2 c2 := by rw [hW]; exact unew_at w1 U A2 n2 c2
  rw [← hW]
  have hz := HZ.out.below HBW.out
  have ht := (HBW.out.cell (World.block_lt_of_cell? _ _ HT.out)).trans HT.out
  have z0 := unfrozen_of_block hz 0; have z1 := unfrozen_of_block hz 1; have z2 := unfrozen_of_block hz 2; have z3 := unfrozen_of_block hz 3
  obtain ⟨y0, y1, y2, y3⟩ := hz.cells
  obtain ⟨x0, x1, x2, x3⟩ := hu.cells
  have HZW := Lib.hid hz
  have HBB := Lib.hid (below_then HB.out HBW.out HB.out.size)
  clear hW hu hz HB1 HBW HS HT HZ hcell
  have hgd : g = 0 ↔ Crc.Good l := by rw [HG.out]; exact getE_ok
  by_cases h1 : g = 0 ∧ U.label = label ∧ U.number = (i : Int)
  · obtain ⟨h1, h2, h3⟩ := h1
    have HT : Hid (goodAt ⟨label, cap, blocks, false⟩ i = true) := by unfold Hid; rw [HGA.out, ← HU.out, decide_eq_true (hgd.1 h1), decide_eq_true h2, decide_eq_true h3]; rfl
    have t1 : (g != 0) = false := by rw [h1]; rfl
    have t2 : (U.label != label) = false := by rw [h2]; simp
    have t3 : (U.number != (i : Int)) = false := by rw [h3]; simp
    subst h1
    clear h2 h3 hgd
    go_wp2
    refine get_endx (p := 4) (r := 5) (q := w.heap.size + 1) (u := U) (A := A2) (n := n2) (c := c2) (x := .bool true) ?_ ?_ ?_ ?_ ?_ ?_
    · rfl
    · rfl
    · rfl
    · rfl
    · with_reducible exact ub_put U A2 n2 c2 HZW.out
    · rw [HT.out]
      exact ⟨U, A2, n2, c2, rfl, uput_below U A2 n2 c2 HBB.out (Nat.le_succ _)⟩
  · have HT : Hid (goodAt ⟨label, cap, blocks, false⟩ i = false) := by
      unfold Hid; rw [HGA.out, ← HU.out]
      by_cases ha : Crc.Good l
      · by_cases hb : U.label = label
        · by_cases hc : U.number = (i : Int)
          · exact absurd ⟨hgd.2 ha, hb, hc⟩ h1
          · simp [hc]
        · simp [hb]
      · simp [ha]
    have h' : (g != 0) = true ∨ ((g != 0) = false ∧ (U.label != label) = true) ∨ ((g != 0) = false ∧ (U.label != label) = false ∧ (U.number != (i : Int)) = true) := by
      by_cases ha : g = 0
      · by_cases hb : U.label = label
        · by_cases hc : U.number = (i : Int)
          · exact absurd ⟨ha, hb, hc⟩ h1
          · exact .inr (.inr ⟨by rw [ha]; rfl, by rw [hb]; simp, bne_iff_ne.mpr hc⟩)
        · exact .inr (.inl ⟨by rw [ha]; rfl, bne_iff_ne.mpr hb⟩)
      · exact .inl (bne_iff_ne.mpr ha)
    clear h1 hgd
    rcases h' with t1 | ⟨t1, t2⟩ | ⟨t1, t2, t3⟩
    all_goals
      go_wp2
      refine get_endx (p := 4) (r := 5) (q := w.heap.size + 1) (u := Un.zero) (A := none) (n := 0) (c := 0) (x := .bool false) ?_ ?_ ?_ ?_ ?_ ?_
      · rfl
      · rfl
      · rfl
      · rfl
      · with_reducible exact ub_zero HZW.out
      · rw [HT.out]
        exact ⟨Un.zero, none, 0, 0, rfl, uzero_below HBB.out (Nat.le_succ _)⟩
end Go.Proofs.Ytpgceeeokjadpaa.Code
