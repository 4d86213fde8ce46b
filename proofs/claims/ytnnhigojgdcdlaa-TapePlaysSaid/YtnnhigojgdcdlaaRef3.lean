/- The reference's Cut of a tape. Conditions: as each says. -/
import Derived.Test.YtnnhigojgdcdlaaRef2
namespace Go.Proofs.Ytnnhigojgdcdlaa.Code
open Go.RowKit Go.Joins Go.Proofs.Ytnnhigojgdcdlaa.Crc Go.Proofs.Ytnnhigojgdcdlaa.Mem
def Clamp (n hi v : Int) : Prop := (n < 0 ∧ v = 0) ∨ (0 ≤ n ∧ n ≤ hi ∧ v = n) ∨ (hi < n ∧ v = hi)
theorem clamp_any (w : World) (n hi v : Int) (h : 0 ≤ hi) (hv : Clamp n hi v) :
    Calls Try.prog 31 #[.int .i64 n, .int .i64 0, .int .i64 hi] w fun e w' => e = .returned (.int .i64 v) ∧ w' = w := by
  rcases hv with ⟨h1, rfl⟩ | ⟨h1, h2, rfl⟩ | ⟨h1, rfl⟩
  · go_enter Try.func31, Try.ntmps31
    go_wp2
    go_ret
    exact ⟨rfl, rfl⟩
  · go_enter Try.func31, Try.ntmps31
    go_wp2
    go_ret
    exact ⟨rfl, rfl⟩
  · have h2 : ¬ n < 0 := by omega
    go_enter Try.func31, Try.ntmps31
    go_wp2
    go_ret
    exact ⟨rfl, rfl⟩
/-- The rows' slices are copied into a new row: the box holds the new one. -/
theorem TpS.rebase {T : TypeId} {w w1 : World} {S : Nat → Prop} {q : Nat} {t : Tp} {A A3 : Option Addr} {n c k c3 : Nat} {vs : List Sv} (h : TpS T w S q t A n c vs) (hT : T ≠ 32) (hT5 : T ≠ 5) (hk : k ≤ n) (hr : RO 32 1 w1 w.heap.size A3 k c3 ((vs.take k).map Sv.v)) (gr : w.grownBy w1 none) :
    TpS T (w1.setCell ⟨q, 2, none⟩ (.slice A3 k c3)) (Gr S w w1) q ⟨t.label, t.cap, t.blocks.take k, t.lost⟩ A3 k c3 (vs.take k) ∧ Upd S w (w1.setCell ⟨q, 2, none⟩ (.slice A3 k c3)) := by
  have hb : Below w.heap.size w w1 := (Below.refl _ _).grown gr (Nat.le_refl _) (fun k hk => by cases hk)
  have h1 := h.below hb
  have hst := stay_set (i := 2) h1.box (.slice A3 k c3)
  have hrows := h1.rows.take k hk
  have hu : Upd S w (w1.setCell ⟨q, 2, none⟩ (.slice A3 k c3)) := ((Upd.ofBelow hb).mono (fun i hi e => absurd e (by omega))).setCell (fun _ => h.mem) _
  have hz : (w1.setCell ⟨q, 2, none⟩ (.slice A3 k c3)).heap.size = w1.heap.size := by simp [World.setCell]
  refine ⟨⟨box_set h1.box _, ⟨(hr.lower (Nat.zero_le _)).stay hst hT.symm, hrows.len, fun i s d hs hd => ?_, hrows.ne⟩, .inl h.mem, ⟨fun g hg => .inr (hr.blk_ge g hg), fun i s g hs hg => ?_⟩, fun i hi => ?_⟩, hu⟩
  · have ho := hrows.own i s d hs hd
    refine ho.move fun g hg _ => ?_
    rcases ho.shape with ⟨ha, _⟩ | ⟨g', cur, ha, _, _, hg', _⟩
    · rw [ha] at hg; simp [blk] at hg
    · rw [ha] at hg; simp [blk] at hg; subst hg
      exact (hst _ _ _ hT5.symm hg').trans hg'.symm
  · rw [List.getElem?_take] at hs
    split at hs
    · exact .inl (h.ins.2 i s g hs hg)
    · cases hs
  · rw [hz]
    rcases hi with hi | hi
    · exact Nat.lt_of_lt_of_le (h.lim i hi) hb.size
    · exact hi.2
def RCutBy (w : World) (S : Nat → Prop) (q : Nat) (t : Tp) (n bytes : Int) (e : Ending) (w' : World) : Prop := e = .returned (.tuple #[]) ∧ Turned 29 w S q ⟨t.label, t.cap, cutTo t.blocks n bytes, t.lost⟩ w'
theorem rcut_none (w : World) (S : Nat → Prop) (q : Nat) (t : Tp) (h : DrS 29 w S q t) (n bytes : Int) (hn : (t.blocks.length : Int) ≤ n ∨ t.blocks.length = 0) : Calls Try.prog 22 #[.pointer (some ⟨q, 0, none⟩), .int .i64 n, .int .i64 bytes] w (RCutBy w S q t n bytes) := by
  have HE : Hid (RCutBy w S q t n bytes (.returned (.tuple #[])) w) := by
    refine ⟨rfl, ?_⟩
    have : cutTo t.blocks n bytes = t.blocks := by
      unfold cutTo
      rw [List.getElem?_eq_none (by omega)]
    rw [this]
    exact h.same
  obtain ⟨A, m, c, vs, ht⟩ := h
  obtain ⟨d0, d1, d2, d3⟩ := ht.cells
  have HV : Hid (Clamp n m m) := by have := ht.len; unfold Hid Clamp; omega
  clear ht hn
  go_enter Try.func22, Try.ntmps22
  go_wp2_with (go_at_call 31; (with_reducible refine (clamp_any _ n (m : Int) (m : Int) (Int.natCast_nonneg _) HV.out).mono ?_); rintro e w' ⟨rfl, hz⟩; obtain rfl := hz.symm)
  go_end0
  exact HE.out
theorem _root_.Go.Proofs.Ytnnhigojgdcdlaa.Mem.Own.stay {T : TypeId} {w w' : World} {B : Nat} {A : Option Addr} {n c : Nat} {l : List UInt8} (h : Own w B A n c l) (hs : Stay T w w') (hT : 5 ≠ T) : Own w' B A n c l := by
  refine h.move fun g hg _ => ?_
  rcases h.shape with ⟨ha, _⟩ | ⟨g', cur, ha, _, _, hg', _⟩
  · rw [ha] at hg; simp [blk] at hg
  · rw [ha] at hg; simp [blk] at hg; subst hg
    exact (hs _ _ _ hT hg').trans hg'.symm
set_option maxHeartbeats 8000000 in
set_option maxRecDepth 100000 in
theorem rcut_short (w : World) (S : Nat → Prop) (q : Nat) (t : Tp) (h : DrS 29 w S q t) (n : Int) (bytes : Int) (k : Nat) (hr : Right t.blocks) (hfew : t.blocks.length ≤ 1000000) (hk : k < t.blocks.length) (hn : (n < 0 ∧ k = 0) ∨ n = (k : Int)) (hb : bytes ≤ 0) : Calls Try.prog 22 #[.pointer (some ⟨q, 0, none⟩), .int .i64 n, .int .i64 bytes] w (RCutBy w S q t n bytes) := by
  obtain ⟨A, m, c, vs, ht⟩ := h
  have hl := ht.len
  obtain ⟨g, s, b, hrow⟩ := ht.row k (by omega)
  obtain ⟨rfl, hvk, hbk, hc, ho, hSg, hgq⟩ := hrow.resolve_right (by decide)
  obtain ⟨sa, sn, sc⟩ := s
  obtain ⟨d0, d1, d2, d3⟩ := ht.cells
  have hbl : b.length = sn := ho.len
  have hb1 := hr b (List.mem_of_getElem? hbk)
  obtain ⟨p, rfl⟩ : ∃ p, sa = some ⟨p, 0, none⟩ := by
    rcases ho.shape with ⟨_, h0, _⟩ | ⟨g', _, e, _⟩
    · simp only at h0; omega
    · exact ⟨g', e⟩
  have hsc : sn ≤ sc := ho.sl.2.1
  have hkc : (k : Int) ≤ (c : Int) := by have := (ht.rows.row.cap).1; omega
  have hkm : (k : Int) < (m : Int) := by omega
  have hkq : ((k : Int) == (m : Int)) = false := beq_eq_false_iff_ne.mpr (by omega)
  have HV : Hid (Clamp n m k) := by unfold Hid Clamp; omega
  have HRR : Hid (RR 1 w (some ⟨g, 0, none⟩) k ((vs.take k).map Sv.v)) := (ht.rows.take k (by omega)).row.reads
  have HMX : Hid (0 + k ≤ maxLen) := by unfold Hid; simp only [maxLen]; omega
  have HBY : Hid ((0 + k) * 24 ≤ 140737488355328) := by unfold Hid; omega
  have HT := Lib.hid ht
  have HKM : Hid (k ≤ m) := by unfold Hid; omega
  have HV2 : Hid (Clamp bytes sn 0) := by unfold Hid Clamp; omega
  have hcut : cutTo t.blocks n bytes = t.blocks.take k := by
    unfold cutTo
    have e : n.toNat = k := by omega
    simp only [e, hbk]
    rw [if_neg (by omega), List.append_nil]
  have HCUT := Lib.hid hcut
  clear ht hl hvk hbk ho hSg hrow hr hfew hk hn hbl hb1 hcut hb
  go_enter Try.func22, Try.ntmps22
  go_wp2_with (first
    | (go_at_call 31; (with_reducible refine (clamp_any _ n (m : Int) (k : Int) (Int.natCast_nonneg _) HV.out).mono ?_); rintro e w' ⟨rfl, hz⟩; obtain rfl := hz.symm)
    | (go_at_call 31; (with_reducible refine (clamp_any _ bytes (sn : Int) 0 (Int.natCast_nonneg _) HV2.out).mono ?_); rintro e w' ⟨rfl, hz⟩; obtain rfl := hz.symm)
    | (at_builtin; refine appR_law (o := ⟨some 36, _, _, _, _, _⟩) rfl (.const (.slice none 0 0)) (.tmp 35) 27 32 rfl Try.underlying27 info32 rfl (by decide) rfl rfl (RO.nil 32 1 w w.heap.size) HRR.out (one_sv _) (fun h => by cases h) HMX.out HBY.out (Nat.le_refl _) ?_; intro A3 c3 w1 own gr hat; simp only [Nat.zero_add, List.nil_append] at own ⊢; have hre := HT.out.rebase (by decide) (by decide) HKM.out own gr; have hb1 := (Below.refl w.heap.size w).grown gr (Nat.le_refl _) (fun k hk => by cases hk); have h1 := HT.out.below hb1; have q2 := cell_of_block h1.box 2; have qf := unfrozen_of_block h1.box 2; have HB1 := Lib.hid hb1; have HRE := Lib.hid hre; clear own gr hat hre hb1 h1))
  go_end0
  refine ⟨rfl, ?_⟩
  rw [HCUT.out]
  exact ⟨(DrS.gset ⟨_, _, _, _, HRE.out.1⟩), HRE.out.2⟩
set_option maxHeartbeats 8000000 in
set_option maxRecDepth 100000 in
theorem rcut_some (w : World) (S : Nat → Prop) (q : Nat) (t : Tp) (h : DrS 29 w S q t) (n : Int) (j mj : Nat) (k : Nat) (hr : Right t.blocks) (hfew : t.blocks.length ≤ 1000000) (hk : k < t.blocks.length) (hn : (n < 0 ∧ k = 0) ∨ n = (k : Int)) (hj : 0 < j) (hmj : ∀ b, t.blocks[k]? = some b → mj = min j b.length) : Calls Try.prog 22 #[.pointer (some ⟨q, 0, none⟩), .int .i64 n, .int .i64 (j : Int)] w (RCutBy w S q t n (j : Int)) := by
  obtain ⟨A, m, c, vs, ht⟩ := h
  have hl := ht.len
  obtain ⟨g, s, b, hrow⟩ := ht.row k (by omega)
  obtain ⟨rfl, hvk, hbk, hc, ho, hSg, hgq⟩ := hrow.resolve_right (by decide)
  obtain ⟨sa, sn, sc⟩ := s
  obtain ⟨d0, d1, d2, d3⟩ := ht.cells
  have hbl : b.length = sn := ho.len
  have hb1 := hr b (List.mem_of_getElem? hbk)
  obtain ⟨p, rfl⟩ : ∃ p, sa = some ⟨p, 0, none⟩ := by
    rcases ho.shape with ⟨_, h0, _⟩ | ⟨g', _, e, _⟩
    · simp only at h0; omega
    · exact ⟨g', e⟩
  have hsc : sn ≤ sc := ho.sl.2.1
  have hkc : (k : Int) ≤ (c : Int) := by have := (ht.rows.row.cap).1; omega
  have hkm : (k : Int) < (m : Int) := by omega
  have hkq : ((k : Int) == (m : Int)) = false := beq_eq_false_iff_ne.mpr (by omega)
  have HV : Hid (Clamp n m k) := by unfold Hid Clamp; omega
  have HRR : Hid (RR 1 w (some ⟨g, 0, none⟩) k ((vs.take k).map Sv.v)) := (ht.rows.take k (by omega)).row.reads
  have HMX : Hid (0 + k ≤ maxLen) := by unfold Hid; simp only [maxLen]; omega
  have HBY : Hid ((0 + k) * 24 ≤ 140737488355328) := by unfold Hid; omega
  have HT := Lib.hid ht
  have HKM : Hid (k ≤ m) := by unfold Hid; omega
  have hmj' : mj = min j sn := by rw [hmj b hbk, hbl]
  have HV2 : Hid (Clamp (j : Int) sn mj) := by unfold Hid Clamp; omega
  have hmj0 : (0 : Int) < (mj : Int) := by omega
  have hmjc : (mj : Int) ≤ (sc : Int) := by omega
  have hcut : cutTo t.blocks n (j : Int) = t.blocks.take k ++ [b.take mj] := by
    unfold cutTo
    have e : n.toNat = k := by omega
    simp only [e, hbk]
    rw [if_pos (by omega)]
    congr 2
    rw [show (j : Int).toNat = j from rfl, hmj']
    by_cases hjs : j ≤ sn
    · rw [Nat.min_eq_left hjs]
    · rw [Nat.min_eq_right (by omega), List.take_of_length_le (by omega), List.take_of_length_le (by omega)]
  have HCUT := Lib.hid hcut
  have HO := Lib.hid ho
  have HMJ : Hid (mj ≤ sn) := by unfold Hid; omega
  have HBN : Hid (0 + mj ≤ 140737488355328) := by unfold Hid; omega
  have hk1 : k ≤ 1000000 := by omega
  clear ht hl hvk hbk ho hSg hrow hr hfew hk hn hbl hb1 hcut hj hmj hmj'
  go_enter Try.func22, Try.ntmps22
  go_upto_region 6 with (first
    | (go_at_call 31; (with_reducible refine (clamp_any _ n (m : Int) (k : Int) (Int.natCast_nonneg _) HV.out).mono ?_); rintro e w' ⟨rfl, hz⟩; obtain rfl := hz.symm)
    | (go_at_call 31; (with_reducible refine (clamp_any _ (j : Int) (sn : Int) (mj : Int) (Int.natCast_nonneg _) HV2.out).mono ?_); rintro e w' ⟨rfl, hz⟩; obtain rfl := hz.symm)
    | (at_builtin; refine appR_law (o := ⟨some 36, _, _, _, _, _⟩) rfl (.const (.slice none 0 0)) (.tmp 35) 27 32 rfl Try.underlying27 info32 rfl (by decide) rfl rfl (RO.nil 32 1 w w.heap.size) HRR.out (one_sv _) (fun h => by cases h) HMX.out HBY.out (Nat.le_refl _) ?_; intro A3 c3 w1 own gr hat; simp only [Nat.zero_add, List.nil_append] at own ⊢; have hre := HT.out.rebase (by decide) (by decide) HKM.out own gr; have hb1 := (Below.refl w.heap.size w).grown gr (Nat.le_refl _) (fun k hk => by cases hk); have h1 := HT.out.below hb1; have q2 := cell_of_block h1.box 2; have qf := unfrozen_of_block h1.box 2; have HB1 := Lib.hid hb1; have HRE := Lib.hid hre; clear own gr hat hre hb1 h1))
  obtain ⟨W2, hW2⟩ : ∃ W, W = w1.setCell ⟨q, 2, none⟩ (.slice A3 k c3) := ⟨_, rfl⟩
  have HT2 : Hid (TpS 29 W2 (Gr S w w1) q ⟨t.label, t.cap, t.blocks.take k, t.lost⟩ A3 k c3 (vs.take k)) := by rw [hW2]; exact HRE.out.1
  have HO2 : Hid (Own W2 0 (some ⟨p, 0, none⟩) sn sc b) := by
    rw [hW2]
    exact (HO.out.below HB1.out (Nat.le_refl _)).stay (stay_set (HT.out.below HB1.out).box _) (by decide)
  have HTU : Hid (Turned 29 w S q ⟨t.label, t.cap, t.blocks.take k, t.lost⟩ W2) := by rw [hW2]; exact ⟨DrS.gset ⟨_, _, _, _, HRE.out.1⟩, HRE.out.2⟩
  have HG : Hid (Gr S w w1 = Gr S w W2) := by
    rw [hW2]
    funext i
    exact propext (gr_set i).symm
  rw [← hW2]
  clear hW2 HRE HT HO HB1 d0 d1 d2 d3 hc q2 qf
  have hbd : Below W2.heap.size W2 W2.drew := (Below.refl _ _).drew
  have htd := HT2.out.below hbd
  obtain ⟨e0, e1, e2, e3⟩ := htd.cells
  have HTD := Lib.hid htd
  have HOD := Lib.hid ((HO2.out.take mj HMJ.out).below hbd (Nat.le_refl _))
  have HBD := Lib.hid hbd
  clear hbd htd
  go_region_law (first
    | (refine step_blv (o := ⟨some 55, _, _, _, _, _⟩) rfl (.tmp 49) (.tmp 54) rfl rfl rfl (vs := vs.take k) (v := ⟨A7, mj, c7⟩) HV8.out HO8.out HN8.out HQ8.out hk1 ?_; (intro A9 c9 w9 hl gr9 hat9); (have hh := HT2.out.app (by decide) (by decide) HB8.out hl gr9 hat9 (fun g hg => .inr (HG8.out g hg))); (have hd9 := HT2.out.grown_box (by decide) HB8.out gr9); (have x9 := cell_of_block hd9 2); (have f9 := unfrozen_of_block hd9 2); (have HH := Lib.hid hh); (clear hh hl gr9 hat9 hd9))
    | (refine step_app5 (o := ⟨some 53, _, _, _, _, _⟩) rfl (.const (.slice none 0 0)) (.tmp 52) rfl rfl rfl (Own.nil W2.drew W2.drew.heap.size) HOD.out.reads (fun h => by cases h) HBN.out (Nat.le_refl _) ?_; (intro A7 c7 w7 own gr); (simp only [Nat.zero_add, List.nil_append] at own ⊢); (have hb7 := (Below.refl W2.drew.heap.size W2.drew).grown gr (Nat.le_refl _) (fun k hk => by simp [blk] at hk)); (have hbel := hb7.alloc hb7.size (.cells #[.slice A7 mj c7] 32)); (have ho8 := own.alloc (.cells #[.slice A7 mj c7] 32)); (have HO8 := Lib.hid (ho8.lower (Nat.zero_le _))); (have HQ8 : Hid ((w7.alloc (.cells #[.slice A7 mj c7] 32)).heap[w7.heap.size]? = some (.cells #[.slice A7 mj c7] 32 (0, 0))) := heap_alloc_new w7 _); (have ht8 := HTD.out.below hbel); (have HV8 := Lib.hid ht8.rows); (have HB8 := Lib.hid (HBD.out.trans (hbel.mono HBD.out.size))); (have HG8 : Hid (∀ g, blk A7 = some g → W2.heap.size ≤ g) := fun g hg => Nat.le_trans HBD.out.size (ho8.blk_ge g hg).1); (have HN8 : Hid (∀ (i : Nat) (t' : Sv) (g : Nat), (vs.take k)[i]? = some t' → blk t'.a = some g → blk A7 ≠ some g) := fun i t' g hi hg e => by have := (HT2.out.rows.lt i t' g hi hg).2; have := HG8.out g e; omega); (have hd7 := (HTD.out.below hb7).cells); (obtain ⟨y0, y1, y2, y3⟩ := hd7); (obtain ⟨z0, z1, z2, z3⟩ := ht8.cells); (clear own gr hb7 hbel ht8 ho8)))
  all_goals go_wp2
  all_goals go_end0
  all_goals refine ⟨rfl, ?_⟩
  all_goals rw [HCUT.out]
  all_goals refine HTU.out.trans (t2 := ⟨t.label, t.cap, t.blocks.take k ++ [b.take mj], t.lost⟩) ?_
  all_goals rw [← HG.out]
  all_goals exact ⟨HH.out.1.gset, HH.out.2⟩
theorem rcut_any (w : World) (S : Nat → Prop) (q : Nat) (t : Tp) (h : DrS 29 w S q t) (hr : Right t.blocks) (hfew : t.blocks.length ≤ 1000000) (n bytes : Int) : Calls Try.prog 22 #[.pointer (some ⟨q, 0, none⟩), .int .i64 n, .int .i64 bytes] w (RCutBy w S q t n bytes) := by
  by_cases h1 : (t.blocks.length : Int) ≤ n ∨ t.blocks.length = 0
  · exact rcut_none w S q t h n bytes h1
  by_cases h2 : bytes ≤ 0
  · exact rcut_short w S q t h n bytes n.toNat hr hfew (by omega) (by omega) h2
  · obtain ⟨j, rfl⟩ := Int.eq_ofNat_of_zero_le (show 0 ≤ bytes by omega)
    have hk : n.toNat < t.blocks.length := by omega
    exact rcut_some w S q t h n j (min j (t.blocks[n.toNat]).length) n.toNat hr hfew hk (by omega) (by omega) (fun b hb => by rw [List.getElem?_eq_getElem hk] at hb; injection hb with hb; rw [hb])
end Go.Proofs.Ytnnhigojgdcdlaa.Code
