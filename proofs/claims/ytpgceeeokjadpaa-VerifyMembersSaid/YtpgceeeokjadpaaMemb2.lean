/- VerifyMembers' walk. Conditions: the numbers are as the guard lets in. -/
import Derived.Test.YtpgceeeokjadpaaMemb
namespace Go.Proofs.Ytpgceeeokjadpaa.Code
open Go.RowKit Go.Joins Go.Proofs.Ytpgceeeokjadpaa.Crc Go.Proofs.Ytpgceeeokjadpaa.Mem
theorem putrefm (w : World) (k l m : Int) (load : List UInt8) (A : Option Addr) (n c : Nat) (hs : Sl w A n c load) : Calls Try.prog 29 #[.agg #[.int .i64 k, .int .i64 l, .int .i64 m, .slice A n c]] w fun e w' => PutPost w ⟨k, l, m, load⟩ e w' := putref_any w ⟨k, l, m, load⟩ A n c hs
theorem Sb.stay {T : TypeId} {w w' : World} {q : Nat} {a b c d : Int} {A : Option Addr} {n k : Nat} (h : Sb w q a b c d A n k) (hs : Stay T w w') (hT : 75 ≠ T) : Sb w' q a b c d A n k := hs _ _ _ hT h
theorem Sb.set {w : World} {q : Nat} {a b c d : Int} {A A' : Option Addr} {n k n' k' : Nat} (h : Sb w q a b c d A n k) : Sb (w.setCell ⟨q, 4, none⟩ (.slice A' n' k')) q a b c d A' n' k' := block_setCell (i := 4) h (.slice A' n' k')
theorem ints_labs {w : World} {B : Nat} {A : Option Addr} {n c k : Nat} (h : RO 3 1 w B A n c (ic (labs k))) (hn : n = k) : Ints w A n (labsI k) := by
  subst hn
  have hl : (labs n).length = n := labs_len n
  refine ⟨by simp [labsI], fun i hi => ?_⟩
  have hin : i < n := by simpa [labsI] using hi
  obtain ⟨b, hb, hc⟩ := ic_at h (k := i) (by rw [hl]; exact hin)
  refine ⟨b, 0, hb, ?_⟩
  rw [Nat.zero_add, hc]
  simp [labs, labsI]
theorem bl_one {w : World} {B B' : Nat} {A : Option Addr} {n c : Nat} {l : List UInt8} (h : Own w B' A n c l) (hB : B ≤ B') (hw : B ≤ w.heap.size) : Bl (w.alloc (.cells #[.slice A n c] 22)) B (some ⟨w.heap.size, 0, none⟩) 1 1 [l] := by
  refine ⟨[⟨A, n, c⟩], RO.lit 22 1 w #[.slice A n c] 1 hw rfl (by decide) rfl, rfl, fun i s b hs hb => ?_, fun i j s t g hs ht hij => ?_⟩
  · cases i with
    | zero =>
      simp at hs hb
      subst hs hb
      exact (h.lower hB).alloc _
    | succ i => simp at hs
  · have hi : i < 1 := (List.getElem?_eq_some_iff.1 hs).1
    have hj : j < 1 := (List.getElem?_eq_some_iff.1 ht).1
    omega
theorem wt_ones (l : List Tp) (h : ∀ t ∈ l, t.blocks.length = 1) : wt l = 2 * l.length := by
  induction l with
  | nil => rfl
  | cons t l ih =>
    have h1 := h t (by simp)
    have h2 := ih (fun s hs => h s (by simp [hs]))
    unfold wt at *
    simp only [List.map_cons, List.sum_cons, List.length_cons]
    omega
theorem few_ts (a b c k : Nat) (hk : k ≤ 9) : FewT (tsOf a b c k) := by
  have hall : ∀ t ∈ tsOf a b c k, t.blocks.length = 1 ∧ ∀ b ∈ t.blocks, b.length = 79 := by
    intro t ht
    unfold tsOf at ht
    obtain ⟨i, hi, h⟩ := List.mem_filterMap.1 ht
    exact tp_one (by have := List.mem_range.1 hi; omega) h
  refine ⟨?_, fun t ht x hx => ?_⟩
  · rw [wt_ones _ (fun t ht => (hall t ht).1)]
    have := tsOf_len a b c k
    omega
  · rw [(hall t ht).2 x hx]; omega
/-- What holds at the head of a round. -/
structure Mb (w wx : World) (qs : Nat) (n a b c k : Nat) (AL : Option Addr) (cL : Nat) (A : Option Addr) (m cA : Nat) : Prop where
  seal_ : Sb wx qs 1 0 (n : Int) 1 AL k cL
  labels : RO 3 1 wx w.heap.size AL k cL (ic (labs k))
  tapes : TR wx w.heap.size A m cA (tsOf a b c k)
  below : Below w.heap.size w wx
/-- Behind the label's append. -/
structure Mb3 (w wx : World) (qs : Nat) (n a b c k : Nat) (AL : Option Addr) (cL : Nat) (A : Option Addr) (m cA : Nat) : Prop where
  seal_ : Sb wx qs 1 0 (n : Int) 1 AL (k + 1) cL
  labels : RO 3 1 wx w.heap.size AL (k + 1) cL (ic (labs (k + 1)))
  tapes : TR wx w.heap.size A m cA (tsOf a b c k)
  below : Below w.heap.size w wx
set_option maxHeartbeats 16000000 in
set_option maxRecDepth 100000 in
theorem members_some (w : World) (n a b c : Nat) (h1 : 1 ≤ n) (h8 : n ≤ 8) (habc : a + b + c ≤ n) :
    Calls Try.prog 12 #[.int .i64 (n : Int), .int .i64 (a : Int), .int .i64 (b : Int), .int .i64 (c : Int)] w fun e w' => e = .returned (.bool true) ∧ Below w.heap.size w w' := by
  have ha : a ≤ n := by omega
  have hb0 : b ≤ n := by omega
  have hc0 : c ≤ n := by omega
  go_enter Try.func12, Try.ntmps12
  go_wp2_with (go_at_call 34; (with_reducible refine (alive16_any _).mono ?_); rintro e w1 ⟨rfl, hb⟩; have HB1 := Lib.hid hb; clear hb)
  have hd1 : decide (n < a) = false := decide_eq_false (by omega)
  have hd2 : decide (n < b) = false := decide_eq_false (by omega)
  have hd3 : decide (n < c) = false := decide_eq_false (by omega)
  have hd4 : decide ((n : Int) < (a : Int) + (b : Int) + (c : Int)) = false := decide_eq_false (by omega)
  simp only [hd1, hd2, hd3, hd4, Bool.or_false]
  clear hd1 hd2 hd3 hd4
  have hb2 := HB1.out.alloc HB1.out.size (.cells #[] 3)
  have HM0 : Hid (Mb w ((w1.alloc (.cells #[] 3)).alloc (.cells #[.int .i64 1, .int .i64 0, .int .i64 (n : Int), .int .i64 1, .slice (some ⟨w1.heap.size, 0, none⟩) 0 0] 75)) (w1.heap.size + 1) n a b c 0 (some ⟨w1.heap.size, 0, none⟩) 0 none 0 0) :=
    ⟨heap2 _ _ _, (RO.lit 3 1 w1 #[] 0 HB1.out.size rfl (by decide) rfl).alloc _, TR.nil _ _, hb2.alloc hb2.size _⟩
  obtain ⟨qs, hqs⟩ : ∃ q, q = w1.heap.size + 1 := ⟨_, rfl⟩
  have hqB : w.heap.size ≤ qs := by have := HB1.out.size; omega
  rw [← hqs] at HM0 ⊢
  clear hqs hb2
  go_loopw [11, 12] (fun out i wx => ∃ k AL cL A m cA, k ≤ n + 1 ∧ i = .int .i64 (k : Int) ∧ out = .slice A m cA ∧ Hid (Mb w wx qs n a b c k AL cL A m cA)) (fun _ i _ => n + 1 - (intOf i).toNat)
  case atStart => exact ⟨0, _, _, _, _, _, Nat.zero_le _, rfl, rfl, HM0⟩
  case round =>
    obtain ⟨k, AL, cL, A, m, cA, hk, rfl, rfl, HM⟩ := hrel
    by_cases hkn : k < n + 1
    · have hm9 : m ≤ 9 := by rw [← HM.out.tapes.len]; have := tsOf_len a b c k; omega
      obtain ⟨s0, s1, s2, s3, s4⟩ := HM.out.seal_.cells
      go_upto_region 10 with (first
        | (at_builtin; refine app_int rfl (.tmp 74) (.tmp 77) (num := k + 1) rfl rfl rfl (HM.out.labels.alloc _) (heap_alloc_new _ _) (by omega) (HM.out.below.alloc HM.out.below.size _).size ?_; intro A2 cL2 w2 own gr; have hbA := (Below.refl wr.heap.size wr).alloc (Nat.le_refl _) (.cells #[.int .i64 ((k : Int) + 1)] 3); have st := stay_grown (HM.out.labels.alloc (.cells #[.int .i64 ((k : Int) + 1)] 3)) gr; have hs2 := (HM.out.seal_.below hbA).stay st (by decide); rw [← labs_succ] at own; have HO2 := Lib.hid own; have HT2 := Lib.hid ((HM.out.tapes.below hbA).stay st (by decide) (by decide) (by decide)); have HB2 := Lib.hid (below_app (HM.out.below.alloc HM.out.below.size (.cells #[.int .i64 ((k : Int) + 1)] 3)) (HM.out.below.alloc HM.out.below.size _).size (HM.out.labels.alloc _) gr); have HS2 := Lib.hid hs2; obtain ⟨r0, r1, r2, r3, r4⟩ := hs2.cells; have rf := unfrozen_of_block hs2 4; clear own gr st hs2 hbA))
      obtain ⟨w3, hw3⟩ : ∃ x, x = w2.setCell ⟨qs, 4, none⟩ (.slice A2 (k + 1) cL2) := ⟨_, rfl⟩
      have st3 : Stay 75 w2 w3 := by rw [hw3]; exact stay_set HS2.out _
      have HS3 : Hid (Sb w3 qs 1 0 (n : Int) 1 A2 (k + 1) cL2) := by rw [hw3]; exact HS2.out.set
      have HL3 := Lib.hid (HO2.out.stay st3 (by decide))
      have HT3 := Lib.hid (HT2.out.stay st3 (by decide) (by decide) (by decide))
      have HB3 : Hid (Below w.heap.size w w3) := by rw [hw3]; exact HB2.out.setCell hqB _
      rw [← hw3]
      clear hw3 st3 HS2 HO2 HT2 HB2 r0 r1 r2 r3 r4 rf s0 s1 s2 s3 s4
      have HC : Hid (chk ⟨3, (k : Int) + 1, 0, []⟩ = 0) := um_chk k (by omega)
      have HPB : Hid (putB ⟨3, (k : Int) + 1, 0, []⟩ = fm k) := putB_ok HC.out
      have HLN : Hid ((fm k).length = 79) := fm_len k (by omega)
      go_upto_region 12 with (first
        | (go_at_call 29; (with_reducible refine (putrefm _ 3 ((k : Int) + 1) 0 [] none 0 0 (Sl.nil _)).mono ?_); rintro e w4 ⟨A5, m5, c5, rfl, hown, hb⟩; rw [HC.out]; rw [HPB.out] at hown; obtain rfl : m5 = 79 := hown.len.symm.trans HLN.out; have HO4 := Lib.hid hown; have HB4 := Lib.hid hb; clear hown hb))
      obtain ⟨q22, hq22⟩ : ∃ q, q = w4.heap.size := ⟨_, rfl⟩
      obtain ⟨W, hW⟩ : ∃ W, W = (w4.alloc (.cells #[.slice A5 79 c5] 22)).alloc (.cells #[.int .i64 ((k : Int) + 1), .int .i64 9, .slice (some ⟨w4.heap.size, 0, none⟩) 1 1, .bool false] 65) := ⟨_, rfl⟩
      have hTB : W.heap[q22 + 1]? = some (.cells #[.int .i64 ((k : Int) + 1), .int .i64 9, .slice (some ⟨q22, 0, none⟩) 1 1, .bool false] 65 (0, 0)) := by rw [hW, hq22]; exact heap2 _ _ _
      have hb43 := HB4.out.alloc HB4.out.size (.cells #[.slice A5 79 c5] 22)
      have HBW : Hid (Below w3.heap.size w3 W) := by rw [hW]; exact hb43.alloc hb43.size _
      have hq3 : w3.heap.size ≤ q22 := by rw [hq22]; exact HB4.out.size
      have HBL : Hid (Bl W w.heap.size (some ⟨q22, 0, none⟩) 1 1 [fm k]) := by
        rw [hW, hq22]
        exact (bl_one HO4.out HB3.out.size (Nat.le_trans HB3.out.size HB4.out.size)).below ((Below.refl _ _).alloc (Nat.le_refl _) _)
      have hA5 : W.cell? ⟨q22, 0, none⟩ = some (.slice A5 79 c5) := by
        rw [hW, hq22]
        exact (World.cell?_of_block (((Below.refl _ _).alloc (Nat.le_refl _) (.cells #[.int .i64 ((k : Int) + 1), .int .i64 9, .slice (some ⟨w4.heap.size, 0, none⟩) 1 1, .bool false] 65)).block w4.heap.size (by simp))).trans (cell_of_block (heap_alloc_new w4 (.cells #[.slice A5 79 c5] 22)) 0)
      have HA5 := Lib.hid hA5
      have HGE : Hid (∀ g, blk A5 = some g → w3.heap.size ≤ g) := fun g hg => (HO4.out.blk_ge g hg).1
      rw [← hW, ← hq22]
      have HTB := Lib.hid hTB
      clear hW hb43 hq22 hTB HB4 HO4 hA5
      obtain ⟨x0, x1, x2, x3⟩ : W.cell? ⟨q22 + 1, 0, none⟩ = some (.int .i64 ((k : Int) + 1)) ∧ W.cell? ⟨q22 + 1, 1, none⟩ = some (.int .i64 9) ∧ W.cell? ⟨q22 + 1, 2, none⟩ = some (.slice (some ⟨q22, 0, none⟩) 1 1) ∧ W.cell? ⟨q22 + 1, 3, none⟩ = some (.bool false) := ⟨cell_of_block HTB.out 0, cell_of_block HTB.out 1, cell_of_block HTB.out 2, cell_of_block HTB.out 3⟩
      have xf := unfrozen_of_block HTB.out 3
      by_cases hA : k < a
      · go_upto_region 17 with fail
        obtain ⟨WF, hWF⟩ : ∃ x, x = W.setCell ⟨q22 + 1, 3, none⟩ (.bool true) := ⟨_, rfl⟩
        have HTBF : Hid (WF.heap[q22 + 1]? = some (.cells #[.int .i64 ((k : Int) + 1), .int .i64 9, .slice (some ⟨q22, 0, none⟩) 1 1, .bool true] 65 (0, 0))) := by rw [hWF]; exact block_setCell (i := 3) HTB.out (.bool true)
        have HBLF : Hid (Bl WF w.heap.size (some ⟨q22, 0, none⟩) 1 1 [fm k]) := by rw [hWF]; exact HBL.out.stay (stay_set HTB.out _) (by decide) (by decide)
        have hb3F : Below w3.heap.size w3 WF := by rw [hWF]; exact HBW.out.setCell (Nat.le_trans hq3 (Nat.le_succ _)) _
        have HMF := Lib.hid (Mb3.mk (HS3.out.below hb3F) (HL3.out.below hb3F) (HT3.out.below hb3F) (below_then HB3.out hb3F HB3.out.size))
        rw [← hWF]
        clear hWF hb3F x0 x1 x2 x3 xf
        have hwf := HMF.out.below
        have hTc0 := cell_of_block HTBF.out 0; have hTc1 := cell_of_block HTBF.out 1; have hTc2 := cell_of_block HTBF.out 2; have hTc3 := cell_of_block HTBF.out 3
        have HTS : Hid (tsOf a b c (k + 1) = tsOf a b c k ++ [⟨(k : Int) + 1, 9, [fm k], true⟩]) := by unfold Hid; rw [tsOf_succ, show tp a b c k = some ⟨(k : Int) + 1, 9, [fm k], true⟩ by unfold tp; rw [if_pos hA]]; rfl
        have hbA := (Below.refl WF.heap.size WF).alloc (Nat.le_refl _) (.cells #[.int .i64 ((k : Int) + 1), .int .i64 9, .slice (some ⟨q22, 0, none⟩) 1 1, .bool true] 65)
        have HMA : Hid (Mb w (WF.alloc (.cells #[.int .i64 ((k : Int) + 1), .int .i64 9, .slice (some ⟨q22, 0, none⟩) 1 1, .bool true] 65)) qs n a b c (k + 1) A2 cL2 A m cA ∨ True) := .inr trivial
        have HSA := Lib.hid (HMF.out.seal_.below hbA)
        have HLA := Lib.hid (HMF.out.labels.below hbA)
        have HTA := Lib.hid (HMF.out.tapes.below hbA)
        have HBA := Lib.hid (below_then HMF.out.below hbA HMF.out.below.size)
        have HBlA := Lib.hid (HBLF.out.below hbA)
        clear HMA hwf hbA
        go_wp2_with (at_builtin; refine app_tp rfl (.tmp 116) (.tmp 118) rfl (v := ⟨some ⟨q22, 0, none⟩, 1, 1⟩) (t := ⟨(k : Int) + 1, 9, [fm k], true⟩) rfl rfl HTA.out (heap_alloc_new _ _) HBlA.out (by omega) HBA.out.size ?_; intro A7 c7 w7 htr hb7 st; rw [← HTS.out] at htr; have HM7 : Hid (Mb w w7 qs n a b c (k + 1) A2 cL2 A7 (m + 1) c7) := ⟨HSA.out.stay st (by decide), HLA.out.stay st (by decide), htr, HBA.out.trans hb7⟩; clear htr hb7 st)
        go_roundw
        case rel => exact ⟨k + 1, A2, cL2, A7, m + 1, c7, by omega, by go_num, rfl, HM7⟩
        case measure => simp [intOf]; omega
      · by_cases hB : k < a + b
        · have hat := HBL.out.at 0 (fm k) rfl
          obtain ⟨g, ⟨sa, sn, sc⟩, hg, _, _, hgc, hown, hbyte⟩ := hat
          injection hg with hg
          injection hg with hg _ _
          subst hg
          simp only at hgc hown hbyte
          obtain rfl : sn = 79 := hown.len.symm.trans HLN.out
          have e5 := HA5.out.symm.trans hgc
          injection e5 with e5
          injection e5 with e5 _ _
          subst e5
          obtain ⟨p, rfl, hpB, hpc, hpf, hset⟩ := hbyte 4 (by rw [HLN.out]; decide)
          have hp3 := HGE.out p rfl
          obtain ⟨y, hy⟩ : ∃ y, y = (fm k)[4]'(by rw [HLN.out]; decide) := ⟨_, rfl⟩
          rw [← hy] at hpc
          have HSET := Lib.hid (hset 99)
          obtain ⟨curp, hcurp⟩ : ∃ l, W.heap[p]? = some (.cells l 5 (0, 0)) := by
            rcases hown.shape with ⟨h0, _⟩ | ⟨gg, cur, h0, _, _, h1, _⟩
            · cases h0
            · injection h0 with h0; injection h0 with h0 _ _; subst h0; exact ⟨cur, h1⟩
          have HST : Hid (Stay 5 W (W.setCell ⟨p, 4, none⟩ (.int .u8 99))) := stay_set hcurp _
          clear hset hbyte hown hcurp hy
          go_upto_region 17 with fail
          obtain ⟨WF, hWF⟩ : ∃ x, x = W.setCell ⟨p, 4, none⟩ (.int .u8 99) := ⟨_, rfl⟩
          have HTBF : Hid (WF.heap[q22 + 1]? = some (.cells #[.int .i64 ((k : Int) + 1), .int .i64 9, .slice (some ⟨q22, 0, none⟩) 1 1, .bool false] 65 (0, 0))) := by rw [hWF]; exact HST.out _ _ _ (by decide) HTB.out
          have HBLF : Hid (Bl WF w.heap.size (some ⟨q22, 0, none⟩) 1 1 [(fm k).set 4 99]) := by rw [hWF]; exact HSET.out
          have hb3F : Below w3.heap.size w3 WF := by rw [hWF]; exact HBW.out.setCell hp3 _
          have HMF := Lib.hid (Mb3.mk (HS3.out.below hb3F) (HL3.out.below hb3F) (HT3.out.below hb3F) (below_then HB3.out hb3F HB3.out.size))
          rw [← hWF]
          clear hWF hb3F x0 x1 x2 x3 xf hgc hpc hpf
          have hwf := HMF.out.below
          have hTc0 := cell_of_block HTBF.out 0; have hTc1 := cell_of_block HTBF.out 1; have hTc2 := cell_of_block HTBF.out 2; have hTc3 := cell_of_block HTBF.out 3
          have HTS : Hid (tsOf a b c (k + 1) = tsOf a b c k ++ [⟨(k : Int) + 1, 9, [(fm k).set 4 99], false⟩]) := by unfold Hid; rw [tsOf_succ, show tp a b c k = some ⟨(k : Int) + 1, 9, [(fm k).set 4 99], false⟩ by unfold tp; rw [if_neg hA, if_pos hB]]; rfl
          have hbA := (Below.refl WF.heap.size WF).alloc (Nat.le_refl _) (.cells #[.int .i64 ((k : Int) + 1), .int .i64 9, .slice (some ⟨q22, 0, none⟩) 1 1, .bool false] 65)
          have HMA : Hid (Mb w (WF.alloc (.cells #[.int .i64 ((k : Int) + 1), .int .i64 9, .slice (some ⟨q22, 0, none⟩) 1 1, .bool false] 65)) qs n a b c (k + 1) A2 cL2 A m cA ∨ True) := .inr trivial
          have HSA := Lib.hid (HMF.out.seal_.below hbA)
          have HLA := Lib.hid (HMF.out.labels.below hbA)
          have HTA := Lib.hid (HMF.out.tapes.below hbA)
          have HBA := Lib.hid (below_then HMF.out.below hbA HMF.out.below.size)
          have HBlA := Lib.hid (HBLF.out.below hbA)
          clear HMA hwf hbA
          go_wp2_with (at_builtin; refine app_tp rfl (.tmp 116) (.tmp 118) rfl (v := ⟨some ⟨q22, 0, none⟩, 1, 1⟩) (t := ⟨(k : Int) + 1, 9, [(fm k).set 4 99], false⟩) rfl rfl HTA.out (heap_alloc_new _ _) HBlA.out (by omega) HBA.out.size ?_; intro A7 c7 w7 htr hb7 st; rw [← HTS.out] at htr; have HM7 : Hid (Mb w w7 qs n a b c (k + 1) A2 cL2 A7 (m + 1) c7) := ⟨HSA.out.stay st (by decide), HLA.out.stay st (by decide), htr, HBA.out.trans hb7⟩; clear htr hb7 st)
          go_roundw
          case rel => exact ⟨k + 1, A2, cL2, A7, m + 1, c7, by omega, by go_num, rfl, HM7⟩
          case measure => simp [intOf]; omega
        · by_cases hCC : k < a + b + c
          · have HTS : Hid (tsOf a b c (k + 1) = tsOf a b c k) := by unfold Hid; rw [tsOf_succ, show tp a b c k = none by unfold tp; rw [if_neg hA, if_neg hB, if_pos hCC]]; exact List.append_nil _
            have HMC : Hid (Mb w W qs n a b c (k + 1) A2 cL2 A m cA) := ⟨HS3.out.below HBW.out, HL3.out.below HBW.out, by rw [HTS.out]; exact HT3.out.below HBW.out, below_then HB3.out HBW.out HB3.out.size⟩
            go_wp2
            go_roundw
            case rel => exact ⟨k + 1, A2, cL2, A, m, cA, by omega, by go_num, rfl, HMC⟩
            case measure => simp [intOf]; omega
          · obtain ⟨WF, hWF⟩ : ∃ x, x = W := ⟨_, rfl⟩
            subst hWF
            have HTBF := HTB
            have HBLF := HBL
            have HMF := Lib.hid (Mb3.mk (HS3.out.below HBW.out) (HL3.out.below HBW.out) (HT3.out.below HBW.out) (below_then HB3.out HBW.out HB3.out.size))
            have hwf := HMF.out.below
            have hTc0 := cell_of_block HTBF.out 0; have hTc1 := cell_of_block HTBF.out 1; have hTc2 := cell_of_block HTBF.out 2; have hTc3 := cell_of_block HTBF.out 3
            have HTS : Hid (tsOf a b c (k + 1) = tsOf a b c k ++ [⟨(k : Int) + 1, 9, [fm k], false⟩]) := by unfold Hid; rw [tsOf_succ, show tp a b c k = some ⟨(k : Int) + 1, 9, [fm k], false⟩ by unfold tp; rw [if_neg hA, if_neg hB, if_neg hCC]]; rfl
            have hbA := (Below.refl WF.heap.size WF).alloc (Nat.le_refl _) (.cells #[.int .i64 ((k : Int) + 1), .int .i64 9, .slice (some ⟨q22, 0, none⟩) 1 1, .bool false] 65)
            have HMA : Hid (Mb w (WF.alloc (.cells #[.int .i64 ((k : Int) + 1), .int .i64 9, .slice (some ⟨q22, 0, none⟩) 1 1, .bool false] 65)) qs n a b c (k + 1) A2 cL2 A m cA ∨ True) := .inr trivial
            have HSA := Lib.hid (HMF.out.seal_.below hbA)
            have HLA := Lib.hid (HMF.out.labels.below hbA)
            have HTA := Lib.hid (HMF.out.tapes.below hbA)
            have HBA := Lib.hid (below_then HMF.out.below hbA HMF.out.below.size)
            have HBlA := Lib.hid (HBLF.out.below hbA)
            clear HMA hwf hbA
            go_wp2_with (at_builtin; refine app_tp rfl (.tmp 116) (.tmp 118) rfl (v := ⟨some ⟨q22, 0, none⟩, 1, 1⟩) (t := ⟨(k : Int) + 1, 9, [fm k], false⟩) rfl rfl HTA.out (heap_alloc_new _ _) HBlA.out (by omega) HBA.out.size ?_; intro A7 c7 w7 htr hb7 st; rw [← HTS.out] at htr; have HM7 : Hid (Mb w w7 qs n a b c (k + 1) A2 cL2 A7 (m + 1) c7) := ⟨HSA.out.stay st (by decide), HLA.out.stay st (by decide), htr, HBA.out.trans hb7⟩; clear htr hb7 st)
            go_roundw
            case rel => exact ⟨k + 1, A2, cL2, A7, m + 1, c7, by omega, by go_num, rfl, HM7⟩
            case measure => simp [intOf]; omega
    · obtain rfl : k = n + 1 := by omega
      have HTP := Lib.hid HM.out.tapes.tps
      have hmc := HM.out.tapes.cap
      have HX := Lib.hid (ints_labs HM.out.labels rfl)
      have HF : Hid (FewT (tsOf a b c (n + 1))) := few_ts a b c (n + 1) (by omega)
      have HH : Hid ((hurts (tsOf a b c (n + 1)) (labsI (n + 1)) : Int) = (a : Int) + (b : Int) + (c : Int)) := by
        unfold Hid hurts
        rw [hurts_ts a b c (n + 1) (by omega) (n + 1) (Nat.le_refl _)]
        omega
      have HSP : Hid ((spots (tsOf a b c (n + 1))).length = a + b) := by unfold Hid; rw [spots_ts a b c (n + 1) (by omega)]; omega
      obtain ⟨s0, s1, s2, s3, s4⟩ := HM.out.seal_.cells
      go_wp2_with (first
        | (go_at_call 39; (with_reducible refine (lost_any _ _ _ _ _ HTP.out HF.out hmc 1 0 (n : Int) 1 _ _ _ (labsI (n + 1)) HX.out (by omega)).mono ?_); rintro e w7 ⟨rfl, hb⟩; rw [HH.out]; have HB7 := Lib.hid (below_then HM.out.below hb HM.out.below.size); have HT7 := Lib.hid (HTP.out.below hb); clear hb)
        | (go_at_call 36; (with_reducible refine (spots_any _ _ _ _ _ HT7.out HF.out).mono ?_); rintro e w8 ⟨A8, m8, c8, rfl, hown, hm8, hb⟩; rw [HSP.out] at hm8; subst hm8; have HB8 := Lib.hid (below_then HB7.out hb HB7.out.size); clear hown hb))
      go_ret
      exact ⟨rfl, HB8.out⟩
end Go.Proofs.Ytpgceeeokjadpaa.Code
