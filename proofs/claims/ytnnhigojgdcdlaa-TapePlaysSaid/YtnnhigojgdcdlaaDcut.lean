/- A drive in memory: Cut. Conditions: the tape's blocks are few. -/
import Derived.Test.YtnnhigojgdcdlaaFills
namespace Go.Proofs.Ytnnhigojgdcdlaa.Crc
/-- What is left behind a cut. -/
def cutTo (bs : List (List UInt8)) (n bytes : Int) : List (List UInt8) :=
  match bs[n.toNat]? with
  | none => bs
  | some f => bs.take n.toNat ++ (if 0 < bytes then [f.take bytes.toNat] else [])
end Go.Proofs.Ytnnhigojgdcdlaa.Crc
namespace Go.Proofs.Ytnnhigojgdcdlaa.Mem
open Go.RowKit Go.Joins Go.Proofs.Ytnnhigojgdcdlaa.Crc
theorem Own.take {w : World} {B : Nat} {A : Option Addr} {n c : Nat} {l : List UInt8} (h : Own w B A n c l) (m : Nat) (hm : m ≤ n) : Own w B A m c (l.take m) := by
  have hl := h.len
  refine ⟨by rw [List.length_take]; omega, ?_⟩
  rcases h.shape with ⟨rfl, rfl, rfl, rfl⟩ | ⟨g, cur, rfl, hB, hlt, hg, hn, hmx, hs, ht⟩
  · obtain rfl : m = 0 := by omega
    exact World.ownsRow_nil _ _ _ _
  · refine ⟨by simp; omega, .inr ⟨g, c, cur, rfl, hB, hg, Nat.le_trans hm hn, hmx, by simp [hs], ?_⟩⟩
    rw [Nat.mul_one, List.map_take, ← ht, List.take_take, Nat.min_eq_left hm]
end Go.Proofs.Ytnnhigojgdcdlaa.Mem
namespace Go.Proofs.Ytnnhigojgdcdlaa.Code
open Go.RowKit Go.Joins Go.Proofs.Ytnnhigojgdcdlaa.Crc Go.Proofs.Ytnnhigojgdcdlaa.Mem
theorem DrS.same {T : TypeId} {w : World} {S : Nat → Prop} {q : Nat} {t : Tp} (h : DrS T w S q t) : Turned T w S q t w :=
  ⟨h.mono (fun _ hk => .inl hk) (fun k hk => by obtain ⟨A, n, c, vs, h⟩ := h; rcases hk with hk | hk; exact h.lim k hk; exact hk.2), Upd.refl _ _⟩
theorem Turned.trans {T : TypeId} {w w1 w2 : World} {S : Nat → Prop} {q : Nat} {t1 t2 : Tp} (h : Turned T w S q t1 w1) (h' : Turned T w1 (Gr S w w1) q t2 w2) : Turned T w S q t2 w2 := by
  obtain ⟨A, n, c, vs, hd⟩ := h'.1
  refine ⟨h'.1.mono (fun k hk => ?_) (fun k hk => ?_), h.2.trans h'.2 fun k hk hg => ?_⟩
  · rcases hk with (hk | hk) | hk
    · exact .inl hk
    · exact .inr ⟨hk.1, Nat.lt_of_lt_of_le hk.2 h'.2.size⟩
    · exact .inr ⟨Nat.le_trans h.2.size hk.1, hk.2⟩
  · rcases hk with hk | hk
    · exact hd.lim k (.inl (.inl hk))
    · exact hk.2
  · rcases hg with hg | hg
    · exact hg
    · have := hg.1; omega
theorem Turned.first {T : TypeId} {w w2 w3 : World} {S : Nat → Prop} {q : Nat} {t : Tp} (hu : Upd S w w2) (hz : w2.heap.size = w.heap.size) (h : Turned T w2 S q t w3) : Turned T w S q t w3 := by
  obtain ⟨A, n, c, vs, hd⟩ := h.1
  refine ⟨h.1.mono (fun k hk => hk.imp id fun e => ⟨hz ▸ e.1, e.2⟩) (fun k hk => hd.lim k (hk.imp id fun e => ⟨by rw [hz]; exact e.1, e.2⟩)), hu.trans h.2 fun _ _ e => e⟩
/-- The box holds the first m rows alone. -/
theorem TpS.short {T : TypeId} {w : World} {S : Nat → Prop} {q : Nat} {t : Tp} {A : Option Addr} {n c : Nat} {vs : List Sv} (h : TpS T w S q t A n c vs) (hT : T ≠ 32) (hT5 : T ≠ 5) (m : Nat) (hm : m ≤ n) :
    TpS T (w.setCell ⟨q, 2, none⟩ (.slice A m c)) S q ⟨t.label, t.cap, t.blocks.take m, t.lost⟩ A m c (vs.take m) ∧ Upd S w (w.setCell ⟨q, 2, none⟩ (.slice A m c)) := by
  have hst := stay_set (i := 2) h.box (.slice A m c)
  have hu : Upd S w (w.setCell ⟨q, 2, none⟩ (.slice A m c)) := (Upd.refl S w).setCell (fun _ => h.mem) _
  have hb := h.rows.take m hm
  refine ⟨⟨box_set h.box _, ⟨hb.row.stay hst hT.symm, hb.len, fun i s d hs hd => ?_, hb.ne⟩, h.mem, ⟨h.ins.1, fun i s g hs hg => ?_⟩, fun k hk => Nat.lt_of_lt_of_le (h.lim k hk) hu.size⟩, hu⟩
  · have ho := hb.own i s d hs hd
    refine ho.move fun g hg _ => ?_
    rcases ho.shape with ⟨ha, _⟩ | ⟨g', cur, ha, _, _, hg', _⟩
    · rw [ha] at hg; simp [blk] at hg
    · rw [ha] at hg; simp [blk] at hg; subst hg
      exact (hst _ _ _ hT5.symm hg').trans hg'.symm
  · rw [List.getElem?_take] at hs
    split at hs
    · exact h.ins.2 i s g hs hg
    · cases hs
def CutBy (w : World) (S : Nat → Prop) (q : Nat) (t : Tp) (n bytes : Int) (e : Ending) (w' : World) : Prop := e = .returned (.tuple #[]) ∧ Turned 58 w S q ⟨t.label, t.cap, cutTo t.blocks n bytes, t.lost⟩ w'
theorem cut_none (w : World) (S : Nat → Prop) (q : Nat) (t : Tp) (h : DrS 58 w S q t) (n bytes : Int) (hn : (t.blocks.length : Int) ≤ n ∨ t.blocks.length = 0) : Calls Try.prog 14 #[.pointer (some ⟨q, 0, none⟩), .int .i64 n, .int .i64 bytes] w (CutBy w S q t n bytes) := by
  have HE : Hid (CutBy w S q t n bytes (.returned (.tuple #[])) w) := by
    refine ⟨rfl, ?_⟩
    have : cutTo t.blocks n bytes = t.blocks := by
      unfold cutTo
      rw [List.getElem?_eq_none (by omega)]
    rw [this]
    exact h.same
  obtain ⟨A, m, c, vs, ht⟩ := h
  have hd : Db w q t A m c := ht.box
  have hl := ht.len
  have HD := Lib.hid hd
  by_cases h0 : 0 < n
  · have HX : Hid (n < 0 ∨ (m : Int) ≤ n) := by unfold Hid; omega
    clear ht hd hl hn
    go_enter Try.func14, Try.ntmps14
    go_wp2_with (go_at_call 29; (with_reducible refine (is_no _ q t _ m c HD.out n HX.out).mono ?_); rintro e w' ⟨rfl, hz⟩; obtain rfl := hz.symm)
    go_end0
    exact HE.out
  · have HX : Hid ((0 : Int) < 0 ∨ (m : Int) ≤ 0) := by unfold Hid; omega
    clear ht hd hl hn
    go_enter Try.func14, Try.ntmps14
    go_wp2_with (go_at_call 29; (with_reducible refine (is_no _ q t _ m c HD.out 0 HX.out).mono ?_); rintro e w' ⟨rfl, hz⟩; obtain rfl := hz.symm)
    go_end0
    exact HE.out
/-- Row number k. -/
theorem TpS.row {T : TypeId} {w : World} {S : Nat → Prop} {q : Nat} {t : Tp} {A : Option Addr} {n c : Nat} {vs : List Sv} (h : TpS T w S q t A n c vs) (k : Nat) (hk : k < n) :
    ∃ (g : Nat) (s : Sv) (b : List UInt8), A = some ⟨g, 0, none⟩ ∧ vs[k]? = some s ∧ t.blocks[k]? = some b ∧ w.cell? ⟨g, k, none⟩ = some (.slice s.a s.n s.c) ∧ Own w 0 s.a s.n s.c b ∧ S g ∧ g ≠ q ∨ T = 32 := by
  by_cases hT : T = 32
  · exact ⟨0, ⟨none, 0, 0⟩, [], .inr hT⟩
  obtain ⟨c1, c2⟩ := h.rows.count
  have hkv : k < vs.length := by omega
  have hkb : k < t.blocks.length := by omega
  obtain ⟨g, ha, _, hgl, hc, _, _⟩ := h.rows.row.at k (by rw [List.length_map]; exact hkv)
  rw [List.getElem_map] at hc
  refine ⟨g, vs[k], t.blocks[k], .inl ⟨ha, List.getElem?_eq_getElem _, List.getElem?_eq_getElem _, hc, h.rows.own k _ _ (List.getElem?_eq_getElem hkv) (List.getElem?_eq_getElem hkb), h.ins.1 g (by rw [ha]; rfl), ?_⟩⟩
  rintro rfl
  rcases h.rows.row.shape with ⟨ha', _⟩ | ⟨g', cur, ha', _, _, hg', _⟩
  · rw [ha] at ha'; cases ha'
  · rw [ha] at ha'
    simp at ha'
    subst ha'
    rw [h.box] at hg'
    simp at hg'
    exact hT hg'.2
set_option maxHeartbeats 8000000 in
theorem cut_short (w : World) (S : Nat → Prop) (q : Nat) (t : Tp) (h : DrS 58 w S q t) (n bytes : Int) (k : Nat) (hk : k < t.blocks.length) (hn : n = (k : Int) ∨ (n < 0 ∧ k = 0)) (hb : bytes ≤ 0) : Calls Try.prog 14 #[.pointer (some ⟨q, 0, none⟩), .int .i64 n, .int .i64 bytes] w (CutBy w S q t n bytes) := by
  obtain ⟨A, m, c, vs, ht⟩ := h
  have hd : Db w q t A m c := ht.box
  have hl := ht.len
  obtain ⟨g, s, b, hrow⟩ := ht.row k (by omega)
  obtain ⟨rfl, hvk, hbk, hc, ho, hSg, hgq⟩ := hrow.resolve_right (by decide)
  obtain ⟨d0, d1, d2, d3⟩ := hd.cells
  have f2 := unfrozen_of_block hd 2
  have HD := Lib.hid hd
  have HE : Hid (CutBy w S q t n bytes (.returned (.tuple #[])) (w.setCell ⟨q, 2, none⟩ (.slice (some ⟨g, 0, none⟩) k c))) := by
    refine ⟨rfl, ?_⟩
    have hsh := ht.short (by decide) (by decide) k (by omega)
    have e : cutTo t.blocks n bytes = t.blocks.take k := by
      unfold cutTo
      have : n.toNat = k := by omega
      simp only [this, hbk]
      rw [if_neg (by omega), List.append_nil]
    rw [e]
    have := (DrS.same ⟨_, _, _, _, hsh.1⟩ : Turned 58 _ S q _ _)
    exact ⟨this.1.mono (fun j hj => hj.imp id fun e => (show False by have := e.1; have := e.2; omega).elim) (fun j hj => hj.elim (hsh.1.lim j) fun e => e.2), hsh.2⟩
  have hkc : (k : Int) ≤ (c : Int) := by have := (ht.rows.row.cap).1; omega
  have hkm : (k : Int) < (m : Int) := by omega
  have HK : Hid ((0 : Int) ≤ (k : Int) ∧ (k : Int) < (m : Int)) := by unfold Hid; omega
  clear ht hd hl ho hvk hbk hrow
  rcases hn with rfl | ⟨hn, rfl⟩
  · by_cases h0 : 0 < (k : Int)
    · go_enter Try.func14, Try.ntmps14
      go_wp2_with (go_at_call 29; (with_reducible refine (is_yes _ q t _ m c HD.out (k : Int) HK.out.1 HK.out.2).mono ?_); rintro e w' ⟨rfl, hz⟩; obtain rfl := hz.symm)
      go_end0
      exact HE.out
    · obtain rfl : k = 0 := by omega
      have HK0 : Hid ((0 : Int) ≤ 0 ∧ (0 : Int) < (m : Int)) := by unfold Hid; omega
      go_enter Try.func14, Try.ntmps14
      go_wp2_with (go_at_call 29; (with_reducible refine (is_yes _ q t _ m c HD.out 0 HK0.out.1 HK0.out.2).mono ?_); rintro e w' ⟨rfl, hz⟩; obtain rfl := hz.symm)
      go_end0
      exact HE.out
  · have h0 : ¬ 0 < n := by omega
    have HK0 : Hid ((0 : Int) ≤ 0 ∧ (0 : Int) < (m : Int)) := by unfold Hid; omega
    clear hn
    go_enter Try.func14, Try.ntmps14
    go_wp2_with (go_at_call 29; (with_reducible refine (is_yes _ q t _ m c HD.out 0 HK0.out.1 HK0.out.2).mono ?_); rintro e w' ⟨rfl, hz⟩; obtain rfl := hz.symm)
    go_end0
    exact HE.out
set_option maxHeartbeats 8000000 in
set_option maxRecDepth 100000 in
theorem cut_some (w : World) (S : Nat → Prop) (q : Nat) (t : Tp) (h : DrS 58 w S q t) (n : Int) (j k : Nat) (hr : Right t.blocks) (hfew : t.blocks.length ≤ 1000000) (hk : k < t.blocks.length) (hn : (0 < k ∧ n = (k : Int)) ∨ (k = 0 ∧ ¬ 0 < n)) (hj : 0 < j) : Calls Try.prog 14 #[.pointer (some ⟨q, 0, none⟩), .int .i64 n, .int .i64 (j : Int)] w (CutBy w S q t n (j : Int)) := by
  obtain ⟨A, m, c, vs, ht⟩ := h
  have hd : Db w q t A m c := ht.box
  have hl := ht.len
  obtain ⟨g, s, b, hrow⟩ := ht.row k (by omega)
  obtain ⟨rfl, hvk, hbk, hc, ho, hSg, hgq⟩ := hrow.resolve_right (by decide)
  obtain ⟨sa, sn, sc⟩ := s
  obtain ⟨d0, d1, d2, d3⟩ := hd.cells
  have f2 := unfrozen_of_block hd 2
  have HD := Lib.hid hd
  have hbl : b.length = sn := ho.len
  have hb1 := hr b (List.mem_of_getElem? hbk)
  obtain ⟨p, rfl⟩ : ∃ p, sa = some ⟨p, 0, none⟩ := by
    rcases ho.shape with ⟨_, h0, _⟩ | ⟨g', _, e, _⟩
    · simp only at h0; omega
    · exact ⟨g', e⟩
  have hsh := ht.short (by decide) (by decide) k (by omega)
  have HU2 := Lib.hid hsh.2
  have HT2 := Lib.hid hsh.1
  have hsc : sn ≤ sc := ho.sl.2.1
  have hkc : (k : Int) ≤ (c : Int) := by have := (ht.rows.row.cap).1; omega
  have hkm : (k : Int) < (m : Int) := by omega
  have HK : Hid ((0 : Int) ≤ (k : Int) ∧ (k : Int) < (m : Int)) := by unfold Hid; omega
  have HNE : Hid (∀ (i : Nat) (t' : Sv) (g' : Nat), (vs.take k)[i]? = some t' → blk t'.a = some g' → blk (some ⟨p, 0, none⟩ : Option Addr) ≠ some g') := by
    intro i t' g' hi hg' e
    rw [List.getElem?_take] at hi
    split at hi
    · exact ht.rows.ne i k t' _ g' hi hvk (by omega) hg' e
    · cases hi
  have HSp : Hid (S p) := ht.ins.2 k _ p hvk rfl
  have hqp : q ≠ p := by
    rcases ho.shape with ⟨e, _⟩ | ⟨g', cur, e, _, _, hg', _⟩
    · cases e
    · simp at e
      subst e
      rintro rfl
      rw [ht.box] at hg'
      simp at hg'
  have HO2 : Hid (Own (w.setCell ⟨q, 2, none⟩ (.slice (some ⟨g, 0, none⟩) k c)) 0 (some ⟨p, 0, none⟩) sn sc b) :=
    ho.move fun g' hg' _ => Below.heap_setCell _ _ _ _ (fun e => by
      have e : g' = q := e
      subst e
      simp [blk] at hg'
      exact hqp hg'.symm)
  have hcut : cutTo t.blocks n (j : Int) = t.blocks.take k ++ [b.take (min j sn)] := by
    unfold cutTo
    have e : n.toNat = k := by omega
    simp only [e, hbk]
    rw [if_pos (by omega)]
    congr 2
    rw [show (j : Int).toNat = j from rfl]
    by_cases hjs : j ≤ sn
    · rw [Nat.min_eq_left hjs]
    · rw [Nat.min_eq_right (by omega), List.take_of_length_le (by omega), List.take_of_length_le (by omega)]
  have HCUT := Lib.hid hcut
  have HBL := Lib.hid hbl
  have hk1 : k ≤ 1000000 := by omega
  have hsn : sn ≤ 94 := by omega
  have HLT := Lib.hid ht.lim
  clear ht hd hl ho hvk hbk hrow hsh hr hfew hk hcut hbl hb1 hSg
  have HK0 : Hid ((0 : Int) ≤ 0 ∧ (0 : Int) < (m : Int)) := by have := HK.out; unfold Hid; omega
  obtain ⟨W2, HW2⟩ : ∃ W, Hid (W = w.setCell ⟨q, 2, none⟩ (.slice (some ⟨g, 0, none⟩) k c)) := ⟨_, rfl⟩
  rw [← HW2.out] at HT2 HU2 HO2
  have HZ : Hid (W2.heap.size = w.heap.size) := by rw [HW2.out]; unfold Hid; simp [World.setCell]
  rcases hn with ⟨hk0, rfl⟩ | ⟨rfl, hn0⟩
  all_goals by_cases hjs : sn < j
  all_goals
    go_enter Try.func14, Try.ntmps14
    go_upto_region 5 with (first
      | (go_at_call 29; (with_reducible refine (is_yes _ q t _ m c HD.out (k : Int) HK.out.1 HK.out.2).mono ?_); rintro e w' ⟨rfl, hz⟩; obtain rfl := hz.symm)
      | (go_at_call 29; (with_reducible refine (is_yes _ q t _ m c HD.out 0 HK0.out.1 HK0.out.2).mono ?_); rintro e w' ⟨rfl, hz⟩; obtain rfl := hz.symm))
    rw [← HW2.out]
    clear HW2 d0 d1 d2 d3 f2 hc HD
    have hbd : Below W2.heap.size W2 W2.drew := (Below.refl _ _).drew
    have hT := HT2.out.below hbd
    obtain ⟨e0, e1, e2, e3⟩ := hT.cells
    clear hbd hT
  · have hbA : Below W2.heap.size W2 (W2.alloc (Obj.cells #[.slice (some ⟨p, 0, none⟩) sn sc] 32)).drew := ((Below.refl W2.heap.size W2).alloc (Nat.le_refl _) _).drew
    have HBA := Lib.hid hbA
    have HRW := Lib.hid (HT2.out.below hbA).rows
    have hoj : Own (W2.alloc (Obj.cells #[.slice (some ⟨p, 0, none⟩) sn sc] 32)).drew 0 (some ⟨p, 0, none⟩) sn sc (b.take (min j sn)) := by
      have h1 := (HO2.out.take sn (by omega)).below hbA (Nat.le_refl _)
      rw [Nat.min_eq_right (by omega)]
      exact h1
    have HOJ := Lib.hid hoj
    have HQW : Hid ((W2.alloc (Obj.cells #[.slice (some ⟨p, 0, none⟩) sn sc] 32)).drew.heap[W2.heap.size]? = some (.cells #[.slice (some ⟨p, 0, none⟩) sn sc] 32 (0, 0))) := heap_alloc_new W2 _
    have hjc : (sn : Int) ≤ (sc : Int) := by omega
    obtain ⟨b0, b1, b2, b3⟩ := (HT2.out.below hbA).cells
    clear hbA hoj
    go_region_law (refine step_blv (o := ⟨some 47, _, _, _, _, _⟩) rfl (.tmp 39) (.tmp 46) rfl rfl rfl (vs := vs.take k) (v := ⟨some ⟨p, 0, none⟩, sn, sc⟩) HRW.out HOJ.out HNE.out HQW.out hk1 ?_; (intro A9 c9 w9 hl gr9 hat9); (have hh := HT2.out.app (by decide) (by decide) HBA.out hl gr9 hat9 (fun g' hg' => .inl (by simp [blk] at hg'; subst hg'; exact HSp.out))); (have hd9 := HT2.out.grown_box (by decide) HBA.out gr9); (have x9 := cell_of_block hd9 2); (have f9 := unfrozen_of_block hd9 2); (have HH := Lib.hid hh); (clear hh hl gr9 hat9 hd9))
    all_goals
      go_wp2
      go_end0
      exact ⟨rfl, by rw [HCUT.out]; exact Turned.first HU2.out HZ.out ⟨HH.out.1.gset, HH.out.2⟩⟩
  · have hbA : Below W2.heap.size W2 (W2.alloc (Obj.cells #[.slice (some ⟨p, 0, none⟩) j sc] 32)).drew := ((Below.refl W2.heap.size W2).alloc (Nat.le_refl _) _).drew
    have HBA := Lib.hid hbA
    have HRW := Lib.hid (HT2.out.below hbA).rows
    have hoj : Own (W2.alloc (Obj.cells #[.slice (some ⟨p, 0, none⟩) j sc] 32)).drew 0 (some ⟨p, 0, none⟩) j sc (b.take (min j sn)) := by
      have h1 := (HO2.out.take j (by omega)).below hbA (Nat.le_refl _)
      rw [Nat.min_eq_left (by omega)]
      exact h1
    have HOJ := Lib.hid hoj
    have HQW : Hid ((W2.alloc (Obj.cells #[.slice (some ⟨p, 0, none⟩) j sc] 32)).drew.heap[W2.heap.size]? = some (.cells #[.slice (some ⟨p, 0, none⟩) j sc] 32 (0, 0))) := heap_alloc_new W2 _
    have hjc : (j : Int) ≤ (sc : Int) := by omega
    obtain ⟨b0, b1, b2, b3⟩ := (HT2.out.below hbA).cells
    clear hbA hoj
    go_region_law (refine step_blv (o := ⟨some 47, _, _, _, _, _⟩) rfl (.tmp 39) (.tmp 46) rfl rfl rfl (vs := vs.take k) (v := ⟨some ⟨p, 0, none⟩, j, sc⟩) HRW.out HOJ.out HNE.out HQW.out hk1 ?_; (intro A9 c9 w9 hl gr9 hat9); (have hh := HT2.out.app (by decide) (by decide) HBA.out hl gr9 hat9 (fun g' hg' => .inl (by simp [blk] at hg'; subst hg'; exact HSp.out))); (have hd9 := HT2.out.grown_box (by decide) HBA.out gr9); (have x9 := cell_of_block hd9 2); (have f9 := unfrozen_of_block hd9 2); (have HH := Lib.hid hh); (clear hh hl gr9 hat9 hd9))
    all_goals
      go_wp2
      go_end0
      exact ⟨rfl, by rw [HCUT.out]; exact Turned.first HU2.out HZ.out ⟨HH.out.1.gset, HH.out.2⟩⟩
  · have hbA : Below W2.heap.size W2 (W2.alloc (Obj.cells #[.slice (some ⟨p, 0, none⟩) sn sc] 32)).drew := ((Below.refl W2.heap.size W2).alloc (Nat.le_refl _) _).drew
    have HBA := Lib.hid hbA
    have HRW := Lib.hid (HT2.out.below hbA).rows
    have hoj : Own (W2.alloc (Obj.cells #[.slice (some ⟨p, 0, none⟩) sn sc] 32)).drew 0 (some ⟨p, 0, none⟩) sn sc (b.take (min j sn)) := by
      have h1 := (HO2.out.take sn (by omega)).below hbA (Nat.le_refl _)
      rw [Nat.min_eq_right (by omega)]
      exact h1
    have HOJ := Lib.hid hoj
    have HQW : Hid ((W2.alloc (Obj.cells #[.slice (some ⟨p, 0, none⟩) sn sc] 32)).drew.heap[W2.heap.size]? = some (.cells #[.slice (some ⟨p, 0, none⟩) sn sc] 32 (0, 0))) := heap_alloc_new W2 _
    have hjc : (sn : Int) ≤ (sc : Int) := by omega
    obtain ⟨b0, b1, b2, b3⟩ := (HT2.out.below hbA).cells
    clear hbA hoj
    go_region_law (refine step_blv (o := ⟨some 47, _, _, _, _, _⟩) rfl (.tmp 39) (.tmp 46) rfl rfl rfl (vs := vs.take 0) (v := ⟨some ⟨p, 0, none⟩, sn, sc⟩) HRW.out HOJ.out HNE.out HQW.out hk1 ?_; (intro A9 c9 w9 hl gr9 hat9); (have hh := HT2.out.app (by decide) (by decide) HBA.out hl gr9 hat9 (fun g' hg' => .inl (by simp [blk] at hg'; subst hg'; exact HSp.out))); (have hd9 := HT2.out.grown_box (by decide) HBA.out gr9); (have x9 := cell_of_block hd9 2); (have f9 := unfrozen_of_block hd9 2); (have HH := Lib.hid hh); (clear hh hl gr9 hat9 hd9))
    all_goals
      go_wp2
      go_end0
      exact ⟨rfl, by rw [HCUT.out]; exact Turned.first HU2.out HZ.out ⟨HH.out.1.gset, HH.out.2⟩⟩
  · have hbA : Below W2.heap.size W2 (W2.alloc (Obj.cells #[.slice (some ⟨p, 0, none⟩) j sc] 32)).drew := ((Below.refl W2.heap.size W2).alloc (Nat.le_refl _) _).drew
    have HBA := Lib.hid hbA
    have HRW := Lib.hid (HT2.out.below hbA).rows
    have hoj : Own (W2.alloc (Obj.cells #[.slice (some ⟨p, 0, none⟩) j sc] 32)).drew 0 (some ⟨p, 0, none⟩) j sc (b.take (min j sn)) := by
      have h1 := (HO2.out.take j (by omega)).below hbA (Nat.le_refl _)
      rw [Nat.min_eq_left (by omega)]
      exact h1
    have HOJ := Lib.hid hoj
    have HQW : Hid ((W2.alloc (Obj.cells #[.slice (some ⟨p, 0, none⟩) j sc] 32)).drew.heap[W2.heap.size]? = some (.cells #[.slice (some ⟨p, 0, none⟩) j sc] 32 (0, 0))) := heap_alloc_new W2 _
    have hjc : (j : Int) ≤ (sc : Int) := by omega
    obtain ⟨b0, b1, b2, b3⟩ := (HT2.out.below hbA).cells
    clear hbA hoj
    go_region_law (refine step_blv (o := ⟨some 47, _, _, _, _, _⟩) rfl (.tmp 39) (.tmp 46) rfl rfl rfl (vs := vs.take 0) (v := ⟨some ⟨p, 0, none⟩, j, sc⟩) HRW.out HOJ.out HNE.out HQW.out hk1 ?_; (intro A9 c9 w9 hl gr9 hat9); (have hh := HT2.out.app (by decide) (by decide) HBA.out hl gr9 hat9 (fun g' hg' => .inl (by simp [blk] at hg'; subst hg'; exact HSp.out))); (have hd9 := HT2.out.grown_box (by decide) HBA.out gr9); (have x9 := cell_of_block hd9 2); (have f9 := unfrozen_of_block hd9 2); (have HH := Lib.hid hh); (clear hh hl gr9 hat9 hd9))
    all_goals
      go_wp2
      go_end0
      exact ⟨rfl, by rw [HCUT.out]; exact Turned.first HU2.out HZ.out ⟨HH.out.1.gset, HH.out.2⟩⟩
theorem cut_any (w : World) (S : Nat → Prop) (q : Nat) (t : Tp) (h : DrS 58 w S q t) (hr : Right t.blocks) (hfew : t.blocks.length ≤ 1000000) (n bytes : Int) : Calls Try.prog 14 #[.pointer (some ⟨q, 0, none⟩), .int .i64 n, .int .i64 bytes] w (CutBy w S q t n bytes) := by
  by_cases h1 : (t.blocks.length : Int) ≤ n ∨ t.blocks.length = 0
  · exact cut_none w S q t h n bytes h1
  by_cases h2 : bytes ≤ 0
  · exact cut_short w S q t h n bytes n.toNat (by omega) (by omega) h2
  · obtain ⟨j, rfl⟩ := Int.eq_ofNat_of_zero_le (show 0 ≤ bytes by omega)
    exact cut_some w S q t h n j n.toNat hr hfew (by omega) (by omega) (by omega)
end Go.Proofs.Ytnnhigojgdcdlaa.Code
