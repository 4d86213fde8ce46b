/- What the reference's Spots tells. Conditions: the tapes are few, their blocks short. -/
import Derived.Test.YtpgceeeokjadpaaVer2
import Derived.Deep.CutRange
namespace Go.Proofs.Ytpgceeeokjadpaa.Code
open Go.RowKit Go.Joins Go.Proofs.Ytpgceeeokjadpaa.Crc Go.Proofs.Ytpgceeeokjadpaa.Mem
theorem step_appR {P : Program} {ops : Array Oper} {o : Oper} {a : Act} {W : World} {K : Act → World → Prop} {Q : Exit → Act → World → Prop} {E : Prop} (hgd : o.guard = none) (s x : Operand) (t T : TypeId) {k by_ : Nat} {z : Value}
    (ho : o.op = .call { callee := .builtin .append, args := #[s, x], argTypes := #[t, t] }) (ht : P.underlying t = some (.slice T)) (hinfo : (P.info? T).map (fun i => (i.zero, i.size, i.bytes)) = some (some z, k, by_)) (hzs : z.cells.size = k) (hk : 0 < k)
    {B : Nat} {A A2 : Option Addr} {n c m c2 : Nat} {l xs : List Value} (hs : a.eval s = .slice A n c) (hx : a.eval x = .slice A2 m c2) (hown : RO T k W B A n c l) (hr : RR k W A2 m xs) (h1 : ∀ u ∈ xs, u.oneCell' = true) (hnil : A2 = none → m = 0 ∧ c2 = 0) (hmax : n + m ≤ maxLen) (hb : (n + m) * by_ ≤ 140737488355328) (hB : B ≤ W.heap.size)
    (h : ∀ A' c' w', RO T k w' B A' (n + m) c' (l ++ xs) → W.grownBy w' (blk A) → K (a.put o.dst (.slice A' (n + m) c')) w') :
    if Region.wanted o (yielded ops a.tmps) = true then Oper.wp P o a W K Q else E := by
  have hw : Region.wanted o (yielded ops a.tmps) = true := by simp [Region.wanted, hgd]
  rw [if_pos hw]
  obtain ⟨A', c', w', hrun, h1, h2, _⟩ := run_appR (ty := o.type) ht hinfo hzs hk hown hr h1 hnil hmax hb hB
  unfold Oper.wp
  simp [execOp, ho, resolve, invoke, builtin, hs, hx, hrun, Result.andThen]
  exact h _ _ _ h1 h2
theorem step_spot {ops : Array Oper} {o : Oper} {a : Act} {W : World} {K : Act → World → Prop} {Q : Exit → Act → World → Prop} {E : Prop} (hgd : o.guard = none) (s x : Operand)
    (ho : o.op = .call { callee := .builtin .append, args := #[s, x], argTypes := #[67, 67] }) {B : Nat} {A : Option Addr} {n c q : Nat} {l : List (Int × Int)} {lab num : Int} (hs : a.eval s = .slice A n c) (hx : a.eval x = .slice (some ⟨q, 0, none⟩) 1 1)
    (hown : RO 69 2 W B A n c (spc l)) (hq : W.heap[q]? = some (.cells #[.int .i64 lab, .int .i64 num] 69 (0, 0))) (hn : n ≤ 1000000) (hB : B ≤ W.heap.size)
    (h : ∀ A' c' w', RO 69 2 w' B A' (n + 1) c' (spc (l ++ [(lab, num)])) → W.grownBy w' (blk A) → K (a.put o.dst (.slice A' (n + 1) c')) w') :
    if Region.wanted o (yielded ops a.tmps) = true then Oper.wp Try.prog o a W K Q else E := by
  refine step_appR hgd s x 67 69 ho Try.underlying67 info69 rfl (by decide) hs hx hown (RR.block (cs := spc [(lab, num)]) hq rfl ?_) (ones2 lab num) (fun h => by cases h) (by simp only [maxLen]; omega) (by omega) hB ?_
  · intro i hi
    have : i < 2 := hi
    have : i = 0 ∨ i = 1 := by omega
    rcases this with rfl | rfl <;> rfl
  · intro A' c' w' own gr
    rw [← spc_append] at own
    exact h A' c' w' own gr
theorem ro_ne {T T' k k' : Nat} (hT : T ≠ T') {w : World} {B B' : Nat} {A A' : Option Addr} {n c n' c' : Nat} {cs cs' : List Value} (h : RO T k w B A n c cs) (h' : RO T' k' w B' A' n' c' cs') : ∀ g, blk A = some g → blk A' ≠ some g := by
  intro g hg hg'
  rcases h.shape with ⟨rfl, _⟩ | ⟨a, cur, rfl, _, _, ha, _⟩
  · simp [blk] at hg
  · rcases h'.shape with ⟨rfl, _⟩ | ⟨b, cur', rfl, _, _, hb, _⟩
    · simp [blk] at hg'
    · simp [blk] at hg hg'
      subst hg hg'
      rw [ha] at hb
      simp at hb
      exact hT hb.2
theorem _root_.Go.Proofs.Ytpgceeeokjadpaa.Mem.RO.drew {T k : Nat} {w : World} {B : Nat} {A : Option Addr} {n c : Nat} {cs : List Value} (h : RO T k w B A n c cs) : RO T k w.drew B A n c cs := h.move (fun _ _ _ => rfl)
theorem ic_at {k : Nat} {w : World} {A : Option Addr} {n c B : Nat} {l : List Nat} (h : RO 3 1 w B A n c (ic l)) (hk : k < l.length) : ∃ b, A = some ⟨b, 0, none⟩ ∧ w.cell? ⟨b, k, none⟩ = some (.int .i64 (l[k] : Int)) := by
  obtain ⟨g, hg, _, _, hc, _⟩ := h.at k (by simpa [ic] using hk)
  exact ⟨g, hg, by simpa [ic] using hc⟩
set_option maxHeartbeats 8000000 in
set_option maxRecDepth 100000 in
theorem rspots_any (w : World) (A : Option Addr) (n c : Nat) (l : List Tp) (h : Tps w A n l) (hf : FewT l) :
    Calls Try.prog 38 #[.slice A n c] w fun e w' => SpotPost w (spots l) e w' := by
  have HT := Lib.hid h
  have HF := Lib.hid hf
  have hlen := h.1
  have hn : n ≤ 1000000 := by have := wt_ge l; have := hf.1; omega
  clear h hf
  go_enter Try.func38, Try.ntmps38
  go_wp2
  go_loopw [3, 4] (fun out i wr => ∃ k A' m c', k ≤ n ∧ i = .int .i64 (k : Int) ∧ out = .slice A' m c' ∧ m = (spots (l.take k)).length ∧ Hid (RO 69 2 wr w.heap.size A' m c' (spc (spots (l.take k)))) ∧ Hid (Below w.heap.size w wr)) (fun _ i _ => n - (intOf i).toNat)
  case atStart => exact ⟨0, none, 0, 0, Nat.zero_le _, rfl, rfl, rfl, RO.nil _ _ _ _, Below.refl _ _⟩
  case round =>
    obtain ⟨k, A', m, c', hk, rfl, rfl, hm, HO, HB⟩ := hrel
    by_cases hkn : k < n
    · obtain ⟨b, o, A1, n1, c1, t, rfl, hkt, k0, k1, k2, k3, hblk⟩ := tps_at HT.out k hkn
      have HKT := Lib.hid hkt
      have hroom := spots_room hkt HF.out.1
      have hmem := List.mem_of_getElem? hkt
      have h300 := Lib.hid (HF.out.2 t hmem)
      have hbl := hblk.len
      rw [hbl, ← hm] at hroom
      have HBLK := Lib.hid hblk
      have HM := Lib.hid hm
      have HK0 := Lib.hid k0; have HK1 := Lib.hid k1; have HK2 := Lib.hid k2; have HK3 := Lib.hid k3
      replace k0 := (HB.out.cell (World.block_lt_of_cell? _ _ k0)).trans k0
      replace k1 := (HB.out.cell (World.block_lt_of_cell? _ _ k1)).trans k1
      replace k2 := (HB.out.cell (World.block_lt_of_cell? _ _ k2)).trans k2
      replace k3 := (HB.out.cell (World.block_lt_of_cell? _ _ k3)).trans k3
      clear hkt hmem hblk hm
      obtain ⟨bl, hbl2⟩ : ∃ bl, bl = badsOf t := ⟨_, rfl⟩
      have hbll : bl.length ≤ n1 := by rw [hbl2, ← hbl]; exact badsOf_len t
      obtain ⟨pre, hpre⟩ : ∃ p, p = spots (l.take k) ++ (if t.lost then [(t.label, (-1 : Int))] else []) := ⟨_, rfl⟩
      have HS : Hid (spots (l.take (k + 1)) = pre ++ bl.map (fun (i : Nat) => (t.label, (i : Int)))) := by unfold Hid; rw [spots_take' HKT.out, spotsOf_bads, hpre, hbl2, List.append_assoc]
      have HBL := Lib.hid hbl2
      have HPRE := Lib.hid hpre
      have hprel : pre.length ≤ m + 1 := by rw [hpre, List.length_append, ← HM.out]; split <;> simp
      clear hbl2 hpre
      obtain ⟨lo, hlo⟩ : ∃ lo, lo = t.lost := ⟨_, rfl⟩
      rw [← hlo] at k3
      have HLO := Lib.hid hlo
      clear hlo
      go_upto_if 17 with fail
      go_cut [3] from 18 to 26 (fun r3 wx => ∃ A2 m2 c2, r3 = .slice A2 m2 c2 ∧ m2 = pre.length ∧ Hid (RO 69 2 wx w.heap.size A2 m2 c2 (spc pre)) ∧ Hid (Below w.heap.size w wx))
      case first =>
        cases lo with
        | true =>
          have HP : Hid (spots (l.take k) ++ [(t.label, -1)] = pre) := by unfold Hid; rw [HPRE.out, if_pos HLO.out.symm]
          go_wp2_with (at_builtin; refine app_spot rfl (.tmp 18) (.tmp 25) rfl rfl rfl (HO.out.alloc _) (heap_alloc_new _ _) (by omega) ?_ ?_; (have h9 := HB.out.size); (simp only [World.size_alloc]); omega; intro A2 c2 w2 own gr; have HB2 := Lib.hid (below_app (HB.out.alloc HB.out.size _) (HB.out.alloc HB.out.size _).size (HO.out.alloc _) gr); rw [HP.out] at own; have HO2 := Lib.hid own; clear own gr)
          go_meet
          exact ⟨A2, _, c2, rfl, by rw [← HP.out, List.length_append, ← HM.out]; rfl, HO2, HB2⟩
        | false =>
          have HP : Hid (spots (l.take k) = pre) := by unfold Hid; rw [HPRE.out, ← HLO.out, if_neg Bool.false_ne_true, List.append_nil]
          go_wp2
          go_meet
          exact ⟨A', m, c', rfl, by rw [← HP.out]; exact HM.out, by rw [← HP.out]; exact HO, HB⟩
      case rest =>
      obtain ⟨A2, m2, c2, rfl, hm2, HO2, HB2⟩ := hcut
      replace k0 := (HB2.out.cell (World.block_lt_of_cell? _ _ HK0.out)).trans HK0.out
      replace k1 := (HB2.out.cell (World.block_lt_of_cell? _ _ HK1.out)).trans HK1.out
      replace k2 := (HB2.out.cell (World.block_lt_of_cell? _ _ HK2.out)).trans HK2.out
      replace k3 := (HB2.out.cell (World.block_lt_of_cell? _ _ HK3.out)).trans HK3.out
      have HM2 := Lib.hid hm2
      rw [← hm2] at hprel
      clear hm2
      go_wp2_with (go_at_call 58; (with_reducible refine (bad_any _ t A1 n1 c1 (HBLK.out.below HB2.out) h300.out (by omega)).mono ?_); rintro e w3 ⟨A5, m5, c5, rfl, hown, hm5, hb⟩; rw [← HBL.out] at hown hm5; have HO3 := Lib.hid (HO2.out.below hb); have HB3 := Lib.hid (below_then HB2.out hb HB2.out.size); have HI3 := Lib.hid hown; have HM5 := Lib.hid hm5; have hm5n : m5 ≤ n1 := (by rw [hm5]; exact hbll); clear hown hb hm5)
      obtain ⟨B3, hB3⟩ : ∃ B3, B3 = wc.heap.size := ⟨_, rfl⟩
      rw [← hB3] at HI3
      go_loopw [3, 6] (fun out i wx => ∃ j A4 m4 c4, j ≤ m5 ∧ i = .int .i64 (j : Int) ∧ out = .slice A4 m4 c4 ∧ m4 = m2 + j ∧ Hid (RO 69 2 wx w.heap.size A4 m4 c4 (spc (pre ++ (bl.take j).map (fun (i : Nat) => (t.label, (i : Int)))))) ∧ Hid (Below w.heap.size w wx) ∧ Hid (RO 3 1 wx B3 A5 m5 c5 (ic bl))) (fun _ i _ => m5 - (intOf i).toNat)
      case atStart => exact ⟨0, A2, m2, c2, Nat.zero_le _, rfl, rfl, rfl, by unfold Hid; rw [List.take_zero, List.map_nil, List.append_nil]; exact HO3.out, HB3, HI3⟩
      case round =>
        obtain ⟨j, A4, m4, c4, hj, rfl, rfl, hm4, HO4, HB4, HI4⟩ := hrel
        by_cases hjm : j < m5
        · obtain ⟨b5, rfl, hcj⟩ := ic_at (k := j) HI4.out (by rw [← HM5.out]; exact hjm)
          obtain ⟨v, hv⟩ : ∃ v, v = bl[j]'(by rw [← HM5.out]; exact hjm) := ⟨_, rfl⟩
          rw [← hv] at hcj
          have HSS : Hid (pre ++ (bl.take (j + 1)).map (fun (i : Nat) => (t.label, (i : Int))) = (pre ++ (bl.take j).map (fun (i : Nat) => (t.label, (i : Int)))) ++ [(t.label, (v : Int))]) := by unfold Hid; rw [List.take_succ_eq_append_getElem (by rw [← HM5.out]; exact hjm), List.map_append, ← List.append_assoc, hv]; rfl
          have x0 := (HB4.out.cell (World.block_lt_of_cell? _ _ HK0.out)).trans HK0.out
          clear hv
          have hnn : m4 ≤ 1000000 := by omega
          have HM4 := Lib.hid hm4
          clear k0 k1 k2 k3 hm4
          go_upto_region 11 with fail
          have HOD := Lib.hid (HO4.out.alloc (.cells #[.int .i64 t.label, .int .i64 (v : Int)] 69)).drew
          have HID := Lib.hid (HI4.out.alloc (.cells #[.int .i64 t.label, .int .i64 (v : Int)] 69)).drew
          have HBD := Lib.hid (HB4.out.alloc HB4.out.size (.cells #[.int .i64 t.label, .int .i64 (v : Int)] 69)).drew
          have HQD : Hid ((wr.alloc (.cells #[.int .i64 t.label, .int .i64 (v : Int)] 69)).drew.heap[wr.heap.size]? = some (.cells #[.int .i64 t.label, .int .i64 (v : Int)] 69 (0, 0))) := heap_alloc_new wr (.cells #[.int .i64 t.label, .int .i64 (v : Int)] 69)
          go_region_law ((refine step_spot rfl (.tmp 38) (.tmp 49) rfl rfl rfl HOD.out HQD.out hnn HBD.out.size ?_; (intro A6 c6 w6 own gr); (have HB6 := Lib.hid (below_app HBD.out HBD.out.size HOD.out gr)); (have HI6 := Lib.hid (HID.out.grown gr (fun g h1 h2 => ro_ne (T := 3) (T' := 69) (by decide) HID.out HOD.out g h1 h2))); (rw [← HSS.out] at own); (have HO6 := Lib.hid own); (clear own gr)))
          all_goals go_wp2
          all_goals go_roundw
          all_goals first
            | exact ⟨j + 1, A6, m4 + 1, c6, by omega, by go_num, rfl, by rw [HM4.out]; rfl, HO6, HB6, HI6⟩
            | (simp [intOf]; omega)
        · obtain rfl : j = m5 := by omega
          have HSE : Hid (spots (l.take (k + 1)) = pre ++ (bl.take j).map (fun (i : Nat) => (t.label, (i : Int)))) := by unfold Hid; rw [HS.out, List.take_of_length_le (Nat.le_of_eq HM5.out.symm)]
          have HL4 : Hid (m4 = (spots (l.take (k + 1))).length) := by unfold Hid; rw [HS.out, hm4, List.length_append, List.length_map, ← HM2.out, ← HM5.out]
          clear k0 k1 k2 k3 hm4
          go_wp2
          go_roundw
          case rel => exact ⟨k + 1, A4, m4, c4, by omega, by go_num, rfl, HL4.out, by rw [HSE.out]; exact HO4, HB4⟩
          case measure => simp [intOf]; omega
    · obtain rfl : k = n := by omega
      rw [List.take_of_length_le (by omega)] at hm HO
      go_wp2
      go_ret
      exact ⟨A', m, c', rfl, HO.out, hm, HB.out⟩
end Go.Proofs.Ytpgceeeokjadpaa.Code
