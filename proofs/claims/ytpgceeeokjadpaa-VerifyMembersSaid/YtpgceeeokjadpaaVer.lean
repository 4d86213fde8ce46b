/- What verify.Spots tells. Conditions: the tapes are few, their blocks short. -/
import Derived.Test.YtpgceeeokjadpaaVerPure
namespace Go.Proofs.Ytpgceeeokjadpaa.Code
open Go.RowKit Go.Joins Go.Proofs.Ytpgceeeokjadpaa.Crc Go.Proofs.Ytpgceeeokjadpaa.Mem
theorem info69 : (Try.prog.info? 69).map (fun i => (i.zero, i.size, i.bytes)) = some (some (.agg #[.int .i64 0, .int .i64 0]), 2, 16) := by kernel_rfl
theorem info3r : (Try.prog.info? 3).map (fun i => (i.zero, i.size, i.bytes)) = some (some (.int .i64 0), 1, 8) := by kernel_rfl
/-- A tape's block. -/
def Tb (w : World) (q : Nat) (t : Tp) (A : Option Addr) (n c : Nat) : Prop := w.heap[q]? = some (.cells #[.int .i64 t.label, .int .i64 t.cap, .slice A n c, .bool t.lost] 65 (0, 0))
theorem Tb.cells {w : World} {q : Nat} {t : Tp} {A : Option Addr} {n c : Nat} (h : Tb w q t A n c) :
    w.cell? ⟨q, 0, none⟩ = some (.int .i64 t.label) ∧ w.cell? ⟨q, 1, none⟩ = some (.int .i64 t.cap) ∧ w.cell? ⟨q, 2, none⟩ = some (.slice A n c) ∧ w.cell? ⟨q, 3, none⟩ = some (.bool t.lost) :=
  ⟨cell_of_block h 0, cell_of_block h 1, cell_of_block h 2, cell_of_block h 3⟩
theorem Tb.new (w : World) (t : Tp) (A : Option Addr) (n c : Nat) : Tb (w.alloc (.cells #[.int .i64 t.label, .int .i64 t.cap, .slice A n c, .bool t.lost] 65)) w.heap.size t A n c := heap_alloc_new w _
theorem Tb.below {w w' : World} {q : Nat} {t : Tp} {A : Option Addr} {n c : Nat} (h : Tb w q t A n c) (hb : Below w.heap.size w w') : Tb w' q t A n c := (hb.block q (lt_of_block h)).trans h
/-- The tapes are few, their blocks short. -/
def FewT (l : List Tp) : Prop := wt l ≤ 1000000 ∧ ∀ t ∈ l, ∀ b ∈ t.blocks, b.length ≤ 300
/-- What Spots leaves. -/
def SpotPost (w : World) (l : List (Int × Int)) (e : Ending) (w' : World) : Prop :=
  ∃ A m c, e = .returned (.slice A m c) ∧ RO 69 2 w' w.heap.size A m c (spc l) ∧ m = l.length ∧ Below w.heap.size w w'
/-- Tape number k of a slice of tapes. -/
theorem tps_at {w : World} {A : Option Addr} {n : Nat} {l : List Tp} (h : Tps w A n l) (k : Nat) (hk : k < n) : ∃ b o A' n' c' t, A = some ⟨b, o, none⟩ ∧ l[k]? = some t ∧ w.cell? ⟨b, o + k * 4, none⟩ = some (.int .i64 t.label) ∧ w.cell? ⟨b, o + k * 4 + 1, none⟩ = some (.int .i64 t.cap) ∧ w.cell? ⟨b, o + k * 4 + 2, none⟩ = some (.slice A' n' c') ∧ w.cell? ⟨b, o + k * 4 + 3, none⟩ = some (.bool t.lost) ∧ Blks w A' n' c' t.blocks := by
  obtain ⟨b, o, A', n', c', ha, h0, h1, h2, h3, hs⟩ := h.2 k (by rw [h.1]; exact hk)
  exact ⟨b, o, A', n', c', _, ha, List.getElem?_eq_getElem _, h0, h1, h2, h3, hs⟩
theorem wt_ge (l : List Tp) : l.length ≤ wt l := by
  induction l with
  | nil => simp
  | cons t l ih =>
    unfold wt at *
    simp only [List.length_cons, List.map_cons, List.sum_cons]
    omega
theorem spots_take' {l : List Tp} {k : Nat} {t : Tp} (h : l[k]? = some t) : spots (l.take (k + 1)) = spots (l.take k) ++ spotsOf t := by
  obtain ⟨hk, rfl⟩ := List.getElem?_eq_some_iff.1 h
  exact spots_take l k hk
theorem spots_room {l : List Tp} {k : Nat} {t : Tp} (h : l[k]? = some t) (hw : wt l ≤ 1000000) : (spots (l.take k)).length + t.blocks.length + 1 ≤ 1000000 := by
  obtain ⟨hk, rfl⟩ := List.getElem?_eq_some_iff.1 h
  have := wt_take l k hk
  have := spots_len (l.take k)
  omega
theorem ones2 (x y : Int) : ∀ u ∈ spc [(x, y)], u.oneCell' = true := by
  intro u hu
  rw [spc_one] at hu
  simp at hu
  rcases hu with rfl | rfl <;> rfl
theorem app_spot {ops : Array Oper} {rest : List Oper} {o : Oper} {a : Act} {Q : Exit → Act → World → Prop} {W : World} (hgd : o.guard = none) (s x : Operand)
    (ho : o.op = .call { callee := .builtin .append, args := #[s, x], argTypes := #[67, 67] }) {B : Nat} {A : Option Addr} {n c q : Nat} {l : List (Int × Int)} {lab num : Int} (hs : a.eval s = .slice A n c) (hx : a.eval x = .slice (some ⟨q, 0, none⟩) 1 1)
    (hown : RO 69 2 W B A n c (spc l)) (hq : W.heap[q]? = some (.cells #[.int .i64 lab, .int .i64 num] 69 (0, 0))) (hn : n ≤ 1000000) (hB : B ≤ W.heap.size)
    (h : ∀ A' c' w', RO 69 2 w' B A' (n + 1) c' (spc (l ++ [(lab, num)])) → W.grownBy w' (blk A) → wpList Try.prog ops Q rest (a.put o.dst (.slice A' (n + 1) c')) w') : wpList Try.prog ops Q (o :: rest) a W := by
  refine appR_law hgd s x 67 69 ho Try.underlying67 info69 rfl (by decide) hs hx hown (RR.block (cs := spc [(lab, num)]) hq rfl ?_) (ones2 lab num) (fun h => by cases h) (by simp only [maxLen]; omega) (by omega) hB ?_
  · intro i hi
    have : i < 2 := hi
    have : i = 0 ∨ i = 1 := by omega
    rcases this with rfl | rfl <;> rfl
  · intro A' c' w' own gr _
    rw [← spc_append] at own
    exact h A' c' w' own gr
theorem ro_tb {w : World} {B q : Nat} {A : Option Addr} {n c : Nat} {cs : List Value} {t : Tp} {A1 : Option Addr} {n1 c1 : Nat} (h : RO 69 2 w B A n c cs) (ht : Tb w q t A1 n1 c1) : some q ≠ blk A := by
  intro e
  rcases h.shape with ⟨rfl, _⟩ | ⟨g, cur, rfl, _, _, hg, _⟩
  · simp [blk] at e
  · simp [blk] at e
    subst e
    unfold Tb at ht
    rw [hg] at ht
    simp at ht
theorem Tb.grown {w w' : World} {B q : Nat} {A : Option Addr} {n c : Nat} {cs : List Value} {t : Tp} {A1 : Option Addr} {n1 c1 : Nat} (ht : Tb w q t A1 n1 c1) (h : RO 69 2 w B A n c cs) (hg : w.grownBy w' (blk A)) : Tb w' q t A1 n1 c1 :=
  (hg.block q (lt_of_block ht) (ro_tb h ht)).trans ht
theorem below_app {B : Nat} {w0 w w' : World} {T k : Nat} {A : Option Addr} {n c : Nat} {cs : List Value} (h : Below B w0 w) (hB : B ≤ w.heap.size) (ho : RO T k w B A n c cs) (hg : w.grownBy w' (blk A)) : Below B w0 w' :=
  h.grown hg hB (fun k hk => (ho.blk_ge k hk).1)
theorem heap2 (w : World) (a b : Obj) : ((w.alloc a).alloc b).heap[w.heap.size + 1]? = some b := by
  have := heap_alloc_new (w.alloc a) b
  rwa [World.size_alloc] at this
set_option maxHeartbeats 8000000 in
set_option maxRecDepth 100000 in
theorem spots_any (w : World) (A : Option Addr) (n c : Nat) (l : List Tp) (h : Tps w A n l) (hf : FewT l) :
    Calls Try.prog 36 #[.slice A n c] w fun e w' => SpotPost w (spots l) e w' := by
  have HT := Lib.hid h
  have HF := Lib.hid hf
  have hlen := h.1
  have hn : n ≤ 1000000 := by have := wt_ge l; have := hf.1; omega
  clear h hf
  go_enter Try.func36, Try.ntmps36
  go_wp2
  go_loopw [3, 11] (fun out i wr => ∃ k A' m c', k ≤ n ∧ i = .int .i64 (k : Int) ∧ out = .slice A' m c' ∧ m = (spots (l.take k)).length ∧ Hid (RO 69 2 wr w.heap.size A' m c' (spc (spots (l.take k)))) ∧ Hid (Below w.heap.size w wr)) (fun _ i _ => n - (intOf i).toNat)
  case atStart => exact ⟨0, none, 0, 0, Nat.zero_le _, rfl, rfl, rfl, RO.nil _ _ _ _, Below.refl _ _⟩
  case round =>
    obtain ⟨k, A', m, c', hk, rfl, rfl, hm, HO, HB⟩ := hrel
    by_cases hkn : k < n
    · obtain ⟨b, o, A1, n1, c1, t, rfl, hkt, k0, k1, k2, k3, hblk⟩ := tps_at HT.out k hkn
      have HKT := Lib.hid hkt
      have hroom := spots_room hkt HF.out.1
      have hmem := List.mem_of_getElem? hkt
      have h300 := Lib.hid (HF.out.2 t hmem)
      have hbl := hblk.len
      rw [hbl, ← hm] at hroom
      replace k0 := (HB.out.cell (World.block_lt_of_cell? _ _ k0)).trans k0
      replace k1 := (HB.out.cell (World.block_lt_of_cell? _ _ k1)).trans k1
      replace k2 := (HB.out.cell (World.block_lt_of_cell? _ _ k2)).trans k2
      replace k3 := (HB.out.cell (World.block_lt_of_cell? _ _ k3)).trans k3
      have HBLK := Lib.hid hblk
      have HM := Lib.hid hm
      clear hkt hmem hblk hm
      cases hl : t.lost with
      | true =>
        rw [hl] at k3
        have HS : Hid (spots (l.take (k + 1)) = spots (l.take k) ++ [(t.label, -1)]) := by unfold Hid; rw [spots_take' HKT.out]; unfold spotsOf; rw [if_pos hl]
        clear hl
        go_wp2_with (at_builtin; refine app_spot rfl (.tmp 17) (.tmp 21) rfl rfl rfl ((HO.out.alloc _).alloc _) (heap2 _ _ _) (by omega) ?_ ?_; (have h9 := HB.out.size); (simp only [World.size_alloc]); omega; intro A2 c2 w2 own gr; have HB2 := Lib.hid (below_app ((HB.out.alloc HB.out.size _).alloc (HB.out.alloc HB.out.size _).size _) ((HB.out.alloc HB.out.size _).alloc (HB.out.alloc HB.out.size _).size _).size ((HO.out.alloc _).alloc _) gr); rw [← HS.out] at own; have HO2 := Lib.hid own; clear own gr)
        go_roundw
        case rel => exact ⟨k + 1, A2, _, c2, by omega, by go_num, rfl, by rw [HS.out, List.length_append, ← HM.out]; rfl, HO2, HB2⟩
        case measure => simp [intOf]; omega
      | false =>
        rw [hl] at k3
        have HS : Hid (spots (l.take (k + 1)) = spots (l.take k) ++ spotsTo t n1) := by unfold Hid; rw [spots_take' HKT.out]; unfold spotsOf; rw [hl, if_neg Bool.false_ne_true, hbl]
        have HL := Lib.hid hl
        clear hl
        obtain ⟨q, hq⟩ : ∃ q, q = wr.heap.size := ⟨_, rfl⟩
        have HTB : Hid (Tb (wr.alloc (.cells #[.int .i64 t.label, .int .i64 t.cap, .slice A1 n1 c1, .bool false] 65)) q t A1 n1 c1) := by
          have := Tb.new wr t A1 n1 c1; rw [HL.out, ← hq] at this; exact this
        have HO1 := Lib.hid (HO.out.alloc (.cells #[.int .i64 t.label, .int .i64 t.cap, .slice A1 n1 c1, .bool false] 65))
        have HB1 := Lib.hid (HB.out.alloc HB.out.size (.cells #[.int .i64 t.label, .int .i64 t.cap, .slice A1 n1 c1, .bool false] 65))
        go_wp2
        rw [← hq]
        clear hq k0 k1 k2 k3
        go_loopw [3, 26] (fun out i wx => ∃ j A2 m2 c2, j ≤ n1 ∧ i = .int .i64 (j : Int) ∧ out = .slice A2 m2 c2 ∧ m2 = (spots (l.take k) ++ spotsTo t j).length ∧ Hid (RO 69 2 wx w.heap.size A2 m2 c2 (spc (spots (l.take k) ++ spotsTo t j))) ∧ Hid (Below w.heap.size w wx) ∧ Hid (Tb wx q t A1 n1 c1)) (fun _ i _ => n1 - (intOf i).toNat)
        case atStart => exact ⟨0, A', m, c', Nat.zero_le _, rfl, rfl, by rw [HM.out]; simp [spotsTo, bads], by unfold Hid; rw [show spotsTo t 0 = [] by rfl, List.append_nil]; exact HO1.out, HB1, HTB⟩
        case round =>
          obtain ⟨j, A2, m2, c2, hj, rfl, rfl, hm2, HO2, HB2, HTB2⟩ := hrel
          have HM2 := Lib.hid hm2
          have hroom2 : m2 ≤ m + n1 := by rw [hm2, List.length_append, ← HM.out]; have := spotsTo_len t j; omega
          clear hm2
          obtain ⟨d0, d1, d2, d3⟩ := HTB2.out.cells
          by_cases hjn : j < n1
          · cases hgd : goodAt t j with
            | true =>
              have HGD := Lib.hid hgd
              have HSS : Hid (spots (l.take k) ++ spotsTo t (j + 1) = spots (l.take k) ++ spotsTo t j) := by unfold Hid; rw [spotsTo_succ, if_pos hgd, List.append_nil]
              clear hgd
              go_wp2_with (go_at_call 56; (with_reducible refine (good_any _ t A1 n1 c1 (HBLK.out.below HB2.out) HL.out h300.out j hjn (by omega)).mono ?_); rintro e w3 ⟨U, A5, n5, c5, rfl, hb⟩; rw [HGD.out]; have hb' := unew_below U A5 n5 c5 hb; have HO3 := Lib.hid (HO2.out.below hb'); have HB3 := Lib.hid (below_then HB2.out hb' HB2.out.size); have HTB3 := Lib.hid (HTB2.out.below hb'); clear hb hb')
              go_roundw
              case rel => exact ⟨j + 1, A2, m2, c2, by omega, by go_num, rfl, by rw [HSS.out]; exact HM2.out, by rw [HSS.out]; exact HO3, HB3, HTB3⟩
              case measure => simp [intOf]; omega
            | false =>
              have HGD := Lib.hid hgd
              have HSS : Hid (spots (l.take k) ++ spotsTo t (j + 1) = (spots (l.take k) ++ spotsTo t j) ++ [(t.label, (j : Int))]) := by unfold Hid; rw [spotsTo_succ, hgd, if_neg Bool.false_ne_true, List.append_assoc]
              clear hgd
              go_wp2_with (first
                | (go_at_call 56; (with_reducible refine (good_any _ t A1 n1 c1 (HBLK.out.below HB2.out) HL.out h300.out j hjn (by omega)).mono ?_); rintro e w3 ⟨U, A5, n5, c5, rfl, hb⟩; rw [HGD.out]; have hb' := unew_below U A5 n5 c5 hb; have HO3 := Lib.hid (HO2.out.below hb'); have HB3 := Lib.hid (below_then HB2.out hb' HB2.out.size); have HTB3 := Lib.hid (HTB2.out.below hb'); obtain ⟨e0, _, _, _⟩ := HTB3.out.cells; clear hb hb')
                | (at_builtin; refine app_spot rfl (.tmp 37) (.tmp 42) rfl rfl rfl (HO3.out.alloc _) (heap2 _ _ _) (by omega) ?_ ?_; (have h9 := HB3.out.size); (simp only [World.size_alloc] at h9 ⊢); omega; intro A6 c6 w6 own gr; have HB6 := Lib.hid (below_app (HB3.out.alloc HB3.out.size _) (HB3.out.alloc HB3.out.size _).size (HO3.out.alloc _) gr); have HTB6 := Lib.hid (Tb.grown (HTB3.out.below ((Below.refl _ _).alloc (Nat.le_refl _) _)) (HO3.out.alloc _) gr); rw [← HSS.out] at own; have HO6 := Lib.hid own; clear own gr))
              go_roundw
              case rel => exact ⟨j + 1, A6, m2 + 1, c6, by omega, by go_num, rfl, by rw [HSS.out, List.length_append, ← HM2.out]; rfl, HO6, HB6, HTB6⟩
              case measure => simp [intOf]; omega
          · obtain rfl : j = n1 := by omega
            go_wp2
            go_roundw
            case rel => exact ⟨k + 1, A2, m2, c2, by omega, by go_num, rfl, by rw [HS.out]; exact HM2.out, by rw [HS.out]; exact HO2, HB2⟩
            case measure => simp [intOf]; omega
    · obtain rfl : k = n := by omega
      rw [List.take_of_length_le (by omega)] at hm HO
      go_wp2
      go_ret
      exact ⟨A', m, c', rfl, HO.out, hm, HB.out⟩
end Go.Proofs.Ytpgceeeokjadpaa.Code
