/- TapeCuts: what is left behind a cut. Conditions: none. -/
import Derived.Test.YtnnhigojgdcdlaaDcut
namespace Go.Proofs.Ytnnhigojgdcdlaa.Crc
def rowN (i : Nat) : List UInt8 := UInt8.ofNat i :: List.replicate 59 0
def rowsN (N : Nat) : List (List UInt8) := (List.range N).map rowN
theorem rowsN_len (N : Nat) : (rowsN N).length = N := by simp [rowsN]
theorem rowsN_succ (N : Nat) : rowsN (N + 1) = rowsN N ++ [rowN N] := by simp [rowsN, List.range_succ]
theorem rowN_len (i : Nat) : (rowN i).length = 60 := by simp [rowN]
theorem rowsN_at (N i : Nat) (h : i < N) : (rowsN N)[i]? = some (rowN i) := by simp [rowsN, h]
theorem rowsN_take (N n : Nat) (h : n ≤ N) : (rowsN N).take n = rowsN n := by
  simp only [rowsN, ← List.map_take, List.take_range, Nat.min_eq_left h]
theorem rowN_zero (i : Nat) (h : 0 < (rowN i).length) : (rowN i)[0] = UInt8.ofNat i := rfl
theorem right_rows (N : Nat) : Right (rowsN N) := by
  intro b hb
  obtain ⟨i, _, rfl⟩ := List.mem_map.1 hb
  rw [rowN_len]; omega
theorem cut_a (N n : Nat) (m : Int) (h : N ≤ n) : cutTo (rowsN N) n m = rowsN N := by
  unfold cutTo
  rw [List.getElem?_eq_none (by rw [rowsN_len]; omega)]
theorem cut_b (N n : Nat) (h : n < N) : cutTo (rowsN N) n 0 = rowsN n := by
  unfold cutTo
  rw [show ((n : Int)).toNat = n from rfl, rowsN_at N n h, rowsN_take N n (by omega)]
  simp
theorem cut_c (N n m : Nat) (h : n < N) (hm : 0 < m) : cutTo (rowsN N) n m = rowsN n ++ [(rowN n).take m] := by
  unfold cutTo
  rw [show ((n : Int)).toNat = n from rfl, rowsN_at N n h, rowsN_take N n (by omega), show ((m : Int)).toNat = m from rfl]
  simp only []
  rw [if_pos (by omega)]
/-- Row number i behind the cut: how long it is; its first byte. -/
theorem cut_c_at (N n m i : Nat) (h : n < N) (hm : 0 < m) (hi : i < n + 1) : ∃ b x, (cutTo (rowsN N) n m)[i]? = some b ∧ b[0]? = some x ∧ x = UInt8.ofNat i ∧ b.length = (if i = n ∧ m < 60 then m else 60) := by
  rw [cut_c N n m h hm]
  by_cases e : i = n
  · subst e
    refine ⟨(rowN i).take m, _, by rw [List.getElem?_append_right (by rw [rowsN_len]; exact Nat.le_refl _), rowsN_len]; simp, ?_, rfl, ?_⟩
    · rw [List.getElem?_take, if_pos hm]; rfl
    · rw [List.length_take, rowN_len]
      by_cases h6 : m < 60
      · rw [if_pos ⟨rfl, h6⟩]; omega
      · rw [if_neg (fun h => h6 h.2)]; omega
  · refine ⟨rowN i, _, by rw [List.getElem?_append_left (by rw [rowsN_len]; omega), rowsN_at n i (by omega)], rfl, rfl, ?_⟩
    rw [if_neg (fun h => e h.1), rowN_len]
end Go.Proofs.Ytnnhigojgdcdlaa.Crc
namespace Go.Proofs.Ytnnhigojgdcdlaa.Code
open Go.RowKit Go.Joins Go.Proofs.Ytnnhigojgdcdlaa.Crc Go.Proofs.Ytnnhigojgdcdlaa.Mem
def Made (n : Int) (R : Array Value) : Prop := ∀ W : World, (Instr.makeSlice 32 (.int .i64 n) (.int .i64 n)).run Try.prog W = .ok (.slice (some ⟨W.heap.size, 0, none⟩) n.toNat n.toNat) (W.alloc (.cells R 5))
theorem made60 : ∃ R, Made 60 R ∧ R.toList = (List.replicate 60 (0 : UInt8)).map kv := ⟨(List.replicate 60 (kv 0)).toArray, fun _ => by kernel_rfl, by kernel_rfl⟩
/-- A block that is read: how long it is, and its first byte. -/
theorem read_head (w : World) (S : Nat → Prop) (q : Nat) (t : Tp) (h : DrS 58 w S q t) (k L x : Nat) (b : List UInt8) (y : UInt8) (hb : t.blocks[k]? = some b) (hl : b.length = L) (hL : L ≤ 1000000) (hy : b[0]? = some y) (hx : y = UInt8.ofNat x) (hx2 : x < 256) :
    Calls Try.prog 11 #[.pointer (some ⟨q, 0, none⟩), .int .i64 (k : Int)] w fun e w' => ∃ g c', e = .returned (.tuple #[.slice (some ⟨g, 0, none⟩) L c', .int .i64 0]) ∧ w'.cell? ⟨g, 0, none⟩ = some (.int .u8 (x : Int)) ∧ Below w.heap.size w w' := by
  obtain ⟨A, n, c, vs, h⟩ := h
  have hk : k < n := by rw [← h.len]; exact (List.getElem?_eq_some_iff.1 hb).1
  refine (read_yes w q t A n c h.box h.blks k hk b hb (by omega)).mono ?_
  rintro e w' ⟨A', m, c', rfl, ho, hbel⟩
  have hm := ho.len
  obtain ⟨h0, hy0⟩ := List.getElem?_eq_some_iff.1 hy
  obtain ⟨g, rfl, _, _, hc, _, _⟩ := ho.at 0 h0
  subst hl
  refine ⟨g, c', by rw [hm], ?_, hbel⟩
  rw [hc, hy0, hx]
  have e : K (UInt8.ofNat x) = (x : Int) := by simp [K]; omega
  rw [e]
theorem Mine.below {w wr w2 : World} {q : Nat} {t : Tp} (h : Mine w wr q t) (hb : Below wr.heap.size wr w2) : Mine w w2 q t := by
  obtain ⟨S, h1, h2, h3⟩ := h
  exact ⟨S, h1.below hb, h2, h3.trans (hb.mono h3.size)⟩
theorem sl_row (W : World) (R : Array Value) (hR : R.toList = (List.replicate 60 (0 : UInt8)).map kv) (k : Nat) (hk : k < 256) : Sl (W.alloc (.cells (R.setIfInBounds 0 (.int .u8 (k : Int))) 5)) (some ⟨W.heap.size, 0, none⟩) 60 60 (rowN k) := by
  refine ⟨Reads.block (heap_alloc_new W _) (rowN_len k) (fun i hi => ?_), Nat.le_refl _, fun h => by cases h⟩
  rw [← Array.getElem?_toList, Array.toList_setIfInBounds, hR]
  have hi60 : i < 60 := by rw [rowN_len] at hi; exact hi
  rcases i with _ | i
  · simp only [rowN, List.getElem_cons_zero, K]
    simp
    omega
  · rw [List.getElem?_set_ne (by omega)]
    simp only [rowN, List.getElem_cons_succ, List.getElem_replicate]
    rw [List.getElem?_map, List.getElem?_replicate, if_pos hi60]
    rfl
theorem cuts_out (w : World) (a b c : Int) (h : a < 0 ∨ 40 < a ∨ b < 0 ∨ 40 < b ∨ c < 0 ∨ 100 < c) :
    Calls Try.prog 4 #[.int .i64 a, .int .i64 b, .int .i64 c] w fun e w' => e = .returned (.bool true) ∧ Below w.heap.size w w' := by
  have h4 : a < 0 ∨ (0 ≤ a ∧ 40 < a) ∨ (0 ≤ a ∧ a ≤ 40 ∧ b < 0) ∨ (0 ≤ a ∧ a ≤ 40 ∧ 0 ≤ b ∧ 40 < b) ∨ (0 ≤ a ∧ a ≤ 40 ∧ 0 ≤ b ∧ b ≤ 40 ∧ c < 0) ∨ (0 ≤ a ∧ a ≤ 40 ∧ 0 ≤ b ∧ b ≤ 40 ∧ 0 ≤ c ∧ 100 < c) := by omega
  clear h
  rcases h4 with h | ⟨h1, h⟩ | ⟨h1, h2, h⟩ | ⟨h1, h2, h3, h⟩ | ⟨h1, h2, h3, h4, h⟩ | ⟨h1, h2, h3, h4, h5, h⟩
  all_goals
    go_enter Try.func4, Try.ntmps4
    go_wp2_with (go_at_call 7; (with_reducible refine (alive_any _).mono ?_); rintro e w1 ⟨rfl, hb⟩; have HB := Lib.hid hb; clear hb)
    go_ret
    exact ⟨rfl, HB.out⟩
set_option maxHeartbeats 8000000 in
set_option maxRecDepth 100000 in
theorem cuts_in (w : World) (N n m : Nat) (hN : N ≤ 40) (hn : n ≤ 40) (hm : m ≤ 100) :
    Calls Try.prog 4 #[.int .i64 (N : Int), .int .i64 (n : Int), .int .i64 (m : Int)] w fun e w' => e = .returned (.bool true) ∧ Below w.heap.size w w' := by
  have HLD : Hid (∀ W, Calls Try.prog 8 #[tv ⟨5, 40, [], false⟩ none 0 0] W (Loaded W ⟨5, 40, [], false⟩)) := fun W => load_ok W _ none 0 0 (Blks.nil _) (by decide) (by decide) (by decide) (by decide) right_nil rfl
  have h1 : ¬ (N : Int) < 0 := by omega
  have h2 : ¬ 40 < (N : Int) := by omega
  have h3 : ¬ (n : Int) < 0 := by omega
  have h4 : ¬ 40 < (n : Int) := by omega
  have h5 : ¬ (m : Int) < 0 := by omega
  have h6 : ¬ 100 < (m : Int) := by omega
  obtain ⟨R, hR, hRl⟩ := made60
  have HRL := Lib.hid hRl
  have HR := Lib.hid hR
  clear hR hRl
  go_enter Try.func4, Try.ntmps4
  go_wp2_with (first
    | (go_at_call 7; (with_reducible refine (alive_any _).mono ?_); rintro e w1 ⟨rfl, hb⟩; have HB := Lib.hid hb; clear hb)
    | (go_at_call 8; (with_reducible refine (HLD.out _).mono ?_); rintro e w2 ⟨q, rfl, hd, hb⟩; have HD := Lib.hid hd; have HB2 := Lib.hid hb; clear hd hb)
    | (go_at_call 9; (with_reducible refine (num_any _ _).mono ?_); rintro e w' ⟨rfl, hz⟩; obtain rfl := hz.symm))
  have HF : Hid (Mine w w2 q ⟨5, 40, rowsN 0, false⟩) := ⟨_, HD.out, fun j hj => Nat.le_trans HB.out.size hj.1, HB.out.trans (HB2.out.mono HB.out.size)⟩
  clear HD HB HB2 HLD
  go_loopw [10] (fun i wr => ∃ k, k ≤ N ∧ i = .int .i64 (k : Int) ∧ Mine w wr q ⟨5, 40, rowsN k, false⟩) (fun i _ => N - (intOf i).toNat)
  case atStart => exact ⟨0, Nat.zero_le _, rfl, HF.out⟩
  case round =>
    clear HF
    obtain ⟨k, hk, rfl, S, hd, hs, hb⟩ := hrel
    have HD := Lib.hid hd
    have HS := Lib.hid hs
    have HB := Lib.hid hb
    clear hd hs hb
    by_cases hkn : k < N
    · have hmk := HR.out wr
      rw [show (60 : Int).toNat = 60 from rfl] at hmk
      have x1 : (wr.alloc (.cells R 5)).cell? ⟨wr.heap.size, 0, none⟩ = some (.int .u8 0) := by
        have e0 : R[0]? = some (.int .u8 0) := by rw [← Array.getElem?_toList, HRL.out]; rfl
        exact (cell_of_block (heap_alloc_new wr (.cells R 5)) 0).trans e0
      have x2 : (wr.alloc (.cells R 5)).frozen? ⟨wr.heap.size, 0, none⟩ = false := unfrozen_of_block (heap_alloc_new wr _) 0
      have HSL := Lib.hid (sl_row wr R HRL.out k (by omega))
      have HDA := Lib.hid (HD.out.below ((Below.refl _ _).alloc (Nat.le_refl _) (.cells (R.setIfInBounds 0 (.int .u8 (k : Int))) 5)))
      have HC : Hid ((⟨5, 40, rowsN k, false⟩ : Tp).cap ≤ 64) := show (40 : Int) ≤ 64 by decide
      have HLT : Hid (((rowsN k).length : Int) < (⟨5, 40, rowsN k, false⟩ : Tp).cap) := show ((rowsN k).length : Int) < 40 by rw [rowsN_len]; omega
      go_wp2_with (go_at_call 10; (with_reducible refine (append_set _ S q _ HDA.out _ 60 60 (rowN k) HSL.out (by decide) (by decide) HLT.out HC.out).mono ?_); rintro e w3 ⟨rfl, htu⟩; have HTU := Lib.hid htu; clear htu)
      go_roundw
      case rel => exact ⟨k + 1, by omega, by go_num, by rw [rowsN_succ]; exact Mine.turned HS.out (HB.out.alloc HB.out.size _) HTU.out⟩
      case measure => simp [intOf]; omega
    · obtain rfl : k = N := by omega
      clear HRL HR
      have HCU : Hid (Calls Try.prog 14 #[.pointer (some ⟨q, 0, none⟩), .int .i64 (n : Int), .int .i64 (m : Int)] wr (CutBy wr S q ⟨5, 40, rowsN k, false⟩ (n : Int) (m : Int))) := cut_any wr S q _ HD.out (right_rows k) (by rw [rowsN_len]; omega) _ _
      by_cases hnk : n < k
      · by_cases hm0 : 0 < m
        · have hnk' : (n : Int) < (k : Int) := by omega
          have hm0' : 0 < (m : Int) := by omega
          have HLE : Hid (((cutTo (rowsN k) n m).length : Int) = (n : Int) + 1) := by rw [cut_c k n m hnk hm0]; unfold Hid; simp [rowsN_len]
          have HAT : Hid (∀ i, i < n + 1 → ∃ b x, (cutTo (rowsN k) n m)[i]? = some b ∧ b[0]? = some x ∧ x = UInt8.ofNat i ∧ b.length = (if i = n ∧ n < k ∧ m < 60 then m else 60)) := fun i hi => by
            obtain ⟨b, x, h1, h2, h3, h4⟩ := cut_c_at k n m i hnk hm0 hi
            refine ⟨b, x, h1, h2, h3, ?_⟩
            rw [h4]
            simp [hnk]
          go_wp2_with (first
            | (go_at_call 14; (with_reducible refine HCU.out.mono ?_); rintro e w3 ⟨rfl, htu⟩; obtain ⟨S3, hd3, hs3, hb3⟩ := Mine.turned HS.out HB.out htu; have HD3 : Hid (DrS 58 w3 S3 q ⟨5, 40, cutTo (rowsN k) n m, false⟩) := hd3; have HS3 := Lib.hid hs3; have HB3 := Lib.hid hb3; clear htu hd3 hs3 hb3)
            | (go_at_call 12; (with_reducible refine (lenS _ S3 q _ HD3.out _ HLE.out).mono ?_); rintro e w' ⟨rfl, hz⟩; obtain rfl := hz.symm))
          have HM3 : Hid (Mine w w3 q ⟨5, 40, cutTo (rowsN k) n m, false⟩) := ⟨S3, HD3.out, HS3.out, HB3.out⟩
          clear HD HS HB HD3 HS3 HB3 HCU HLE
          go_loopw [13] (fun i wx => ∃ j, j ≤ n + 1 ∧ i = .int .i64 (j : Int) ∧ Mine w wx q ⟨5, 40, cutTo (rowsN k) n m, false⟩) (fun i _ => n + 1 - (intOf i).toNat)
          case atStart => exact ⟨0, Nat.zero_le _, rfl, HM3.out⟩
          case round =>
            clear HM3
            obtain ⟨j, hj, rfl, hmine⟩ := hrel
            have HMI := Lib.hid hmine
            obtain ⟨S4, hd4, hs4, hb4⟩ := hmine
            have HD4 := Lib.hid hd4
            have HB4 := Lib.hid hb4
            clear hd4 hs4 hb4
            by_cases hjw : j < n + 1
            · obtain ⟨b, y, hb, hy, hyx, hbl⟩ := HAT.out j hjw
              have HBB := Lib.hid hb
              have HY := Lib.hid hy
              have HYX := Lib.hid hyx
              have hj256 : j < 256 := by omega
              clear hb hy hyx
              by_cases hjn : j = n
              · subst hjn
                by_cases hm6 : m < 60
                · rw [if_pos ⟨rfl, hnk, hm6⟩] at hbl
                  have HBL : Hid (b.length = m) := hbl
                  have HL : Hid (m ≤ 1000000) := by unfold Hid; omega
                  clear hbl
                  have hlt : (j : Int) < (j : Int) + 1 := by omega
                  have hm6i : (m : Int) < 60 := by omega
                  go_wp2_with (first
                    | (go_at_call 11; (with_reducible refine (read_head _ S4 q _ HD4.out _ m _ b y HBB.out HBL.out HL.out HY.out HYX.out hj256).mono ?_); rintro e w4 ⟨g, c4, rfl, hc4, hb5⟩; have HB5 := Lib.hid hb5; clear hb5)
                    | (go_at_call 9; (with_reducible refine (num_any _ _).mono ?_); rintro e w' ⟨rfl, hz⟩; obtain rfl := hz.symm))
                  go_roundw
                  case rel => exact ⟨j + 1, by omega, by go_num, HMI.out.below HB5.out⟩
                  case measure => simp [intOf] <;> omega
                · rw [if_neg (fun h => hm6 h.2.2)] at hbl
                  have HBL : Hid (b.length = 60) := hbl
                  have HL : Hid (60 ≤ 1000000) := by unfold Hid; omega
                  clear hbl
                  have hlt : (j : Int) < (j : Int) + 1 := by omega
                  have hm6i : ¬ (m : Int) < 60 := by omega
                  go_wp2_with (first
                    | (go_at_call 11; (with_reducible refine (read_head _ S4 q _ HD4.out _ 60 _ b y HBB.out HBL.out HL.out HY.out HYX.out hj256).mono ?_); rintro e w4 ⟨g, c4, rfl, hc4, hb5⟩; have HB5 := Lib.hid hb5; clear hb5)
                    | (go_at_call 9; (with_reducible refine (num_any _ _).mono ?_); rintro e w' ⟨rfl, hz⟩; obtain rfl := hz.symm))
                  go_roundw
                  case rel => exact ⟨j + 1, by omega, by go_num, HMI.out.below HB5.out⟩
                  case measure => simp [intOf] <;> omega
              · rw [if_neg (fun h => hjn h.1)] at hbl
                have HBL : Hid (b.length = 60) := hbl
                have HL : Hid (60 ≤ 1000000) := by unfold Hid; omega
                clear hbl
                have hlt : (j : Int) < (n : Int) + 1 := by omega
                have hjq : ((j : Int) == (n : Int)) = false := beq_eq_false_iff_ne.mpr (by omega)
                go_wp2_with (first
                  | (go_at_call 11; (with_reducible refine (read_head _ S4 q _ HD4.out _ 60 _ b y HBB.out HBL.out HL.out HY.out HYX.out hj256).mono ?_); rintro e w4 ⟨g, c4, rfl, hc4, hb5⟩; have HB5 := Lib.hid hb5; clear hb5)
                  | (go_at_call 9; (with_reducible refine (num_any _ _).mono ?_); rintro e w' ⟨rfl, hz⟩; obtain rfl := hz.symm))
                go_roundw
                case rel => exact ⟨j + 1, by omega, by go_num, HMI.out.below HB5.out⟩
                case measure => simp [intOf] <;> omega
            · obtain rfl : j = n + 1 := by omega
              have hjn : ¬ ((n + 1 : Nat) : Int) < (n : Int) + 1 := by omega
              go_wp2
              go_ret
              exact ⟨rfl, HB4.out⟩
        · have hm00 : m = 0 := by omega
          have HM0 := Lib.hid hm00
          clear hm00
          have hm0' : ¬ 0 < (m : Int) := by omega
          have hnk' : (n : Int) < (k : Int) := by omega
          have HLE : Hid (((cutTo (rowsN k) n m).length : Int) = (n : Int)) := by rw [HM0.out, show ((0 : Nat) : Int) = 0 from rfl, cut_b k n hnk]; unfold Hid; simp [rowsN_len]
          have HAT : Hid (∀ i, i < n → ∃ b x, (cutTo (rowsN k) n m)[i]? = some b ∧ b[0]? = some x ∧ x = UInt8.ofNat i ∧ b.length = (if i = n ∧ n < k ∧ m < 60 then m else 60)) := fun i hi => by
            refine ⟨rowN i, _, by rw [HM0.out, show ((0 : Nat) : Int) = 0 from rfl, cut_b k n hnk, rowsN_at n i hi], rfl, rfl, ?_⟩
            rw [if_neg (fun h => absurd h.1 (by omega)), rowN_len]
          go_wp2_with (first
            | (go_at_call 14; (with_reducible refine HCU.out.mono ?_); rintro e w3 ⟨rfl, htu⟩; obtain ⟨S3, hd3, hs3, hb3⟩ := Mine.turned HS.out HB.out htu; have HD3 : Hid (DrS 58 w3 S3 q ⟨5, 40, cutTo (rowsN k) n m, false⟩) := hd3; have HS3 := Lib.hid hs3; have HB3 := Lib.hid hb3; clear htu hd3 hs3 hb3)
            | (go_at_call 12; (with_reducible refine (lenS _ S3 q _ HD3.out _ HLE.out).mono ?_); rintro e w' ⟨rfl, hz⟩; obtain rfl := hz.symm))
          have HM3 : Hid (Mine w w3 q ⟨5, 40, cutTo (rowsN k) n m, false⟩) := ⟨S3, HD3.out, HS3.out, HB3.out⟩
          clear HD HS HB HD3 HS3 HB3 HCU HLE
          go_loopw [13] (fun i wx => ∃ j, j ≤ n ∧ i = .int .i64 (j : Int) ∧ Mine w wx q ⟨5, 40, cutTo (rowsN k) n m, false⟩) (fun i _ => n - (intOf i).toNat)
          case atStart => exact ⟨0, Nat.zero_le _, rfl, HM3.out⟩
          case round =>
            clear HM3
            obtain ⟨j, hj, rfl, hmine⟩ := hrel
            have HMI := Lib.hid hmine
            obtain ⟨S4, hd4, hs4, hb4⟩ := hmine
            have HD4 := Lib.hid hd4
            have HB4 := Lib.hid hb4
            clear hd4 hs4 hb4
            by_cases hjw : j < n
            · obtain ⟨b, y, hb, hy, hyx, hbl⟩ := HAT.out j hjw
              have HBB := Lib.hid hb
              have HY := Lib.hid hy
              have HYX := Lib.hid hyx
              have hj256 : j < 256 := by omega
              clear hb hy hyx
              have hjn : j ≠ n := by omega
              rw [if_neg (fun h => hjn h.1)] at hbl
              have HBL : Hid (b.length = 60) := hbl
              have HL : Hid (60 ≤ 1000000) := by unfold Hid; omega
              clear hbl
              have hjq : ((j : Int) == (n : Int)) = false := beq_eq_false_iff_ne.mpr (by omega)
              go_wp2_with (first
                | (go_at_call 11; (with_reducible refine (read_head _ S4 q _ HD4.out _ 60 _ b y HBB.out HBL.out HL.out HY.out HYX.out hj256).mono ?_); rintro e w4 ⟨g, c4, rfl, hc4, hb5⟩; have HB5 := Lib.hid hb5; clear hb5)
                | (go_at_call 9; (with_reducible refine (num_any _ _).mono ?_); rintro e w' ⟨rfl, hz⟩; obtain rfl := hz.symm))
              go_roundw
              case rel => exact ⟨j + 1, by omega, by go_num, HMI.out.below HB5.out⟩
              case measure => simp [intOf] <;> omega
            · obtain rfl : j = n := by omega

              go_wp2
              go_ret
              exact ⟨rfl, HB4.out⟩
      · have hnk' : ¬ (n : Int) < (k : Int) := by omega
        have HLE : Hid (((cutTo (rowsN k) n m).length : Int) = (k : Int)) := by rw [cut_a k n m (by omega)]; unfold Hid; simp [rowsN_len]
        have HAT : Hid (∀ i, i < k → ∃ b x, (cutTo (rowsN k) n m)[i]? = some b ∧ b[0]? = some x ∧ x = UInt8.ofNat i ∧ b.length = (if i = n ∧ n < k ∧ m < 60 then m else 60)) := fun i hi => by
          refine ⟨rowN i, _, by rw [cut_a k n m (by omega), rowsN_at k i hi], rfl, rfl, ?_⟩
          rw [if_neg (fun h => absurd h.2.1 hnk), rowN_len]
        go_wp2_with (first
          | (go_at_call 14; (with_reducible refine HCU.out.mono ?_); rintro e w3 ⟨rfl, htu⟩; obtain ⟨S3, hd3, hs3, hb3⟩ := Mine.turned HS.out HB.out htu; have HD3 : Hid (DrS 58 w3 S3 q ⟨5, 40, cutTo (rowsN k) n m, false⟩) := hd3; have HS3 := Lib.hid hs3; have HB3 := Lib.hid hb3; clear htu hd3 hs3 hb3)
          | (go_at_call 12; (with_reducible refine (lenS _ S3 q _ HD3.out _ HLE.out).mono ?_); rintro e w' ⟨rfl, hz⟩; obtain rfl := hz.symm))
        have HM3 : Hid (Mine w w3 q ⟨5, 40, cutTo (rowsN k) n m, false⟩) := ⟨S3, HD3.out, HS3.out, HB3.out⟩
        clear HD HS HB HD3 HS3 HB3 HCU HLE
        go_loopw [13] (fun i wx => ∃ j, j ≤ k ∧ i = .int .i64 (j : Int) ∧ Mine w wx q ⟨5, 40, cutTo (rowsN k) n m, false⟩) (fun i _ => k - (intOf i).toNat)
        case atStart => exact ⟨0, Nat.zero_le _, rfl, HM3.out⟩
        case round =>
          clear HM3
          obtain ⟨j, hj, rfl, hmine⟩ := hrel
          have HMI := Lib.hid hmine
          obtain ⟨S4, hd4, hs4, hb4⟩ := hmine
          have HD4 := Lib.hid hd4
          have HB4 := Lib.hid hb4
          clear hd4 hs4 hb4
          by_cases hjw : j < k
          · obtain ⟨b, y, hb, hy, hyx, hbl⟩ := HAT.out j hjw
            have HBB := Lib.hid hb
            have HY := Lib.hid hy
            have HYX := Lib.hid hyx
            have hj256 : j < 256 := by omega
            clear hb hy hyx
            have hjn : j ≠ n := by omega
            rw [if_neg (fun h => hjn h.1)] at hbl
            have HBL : Hid (b.length = 60) := hbl
            have HL : Hid (60 ≤ 1000000) := by unfold Hid; omega
            clear hbl
            have hjq : ((j : Int) == (n : Int)) = false := beq_eq_false_iff_ne.mpr (by omega)
            go_wp2_with (first
              | (go_at_call 11; (with_reducible refine (read_head _ S4 q _ HD4.out _ 60 _ b y HBB.out HBL.out HL.out HY.out HYX.out hj256).mono ?_); rintro e w4 ⟨g, c4, rfl, hc4, hb5⟩; have HB5 := Lib.hid hb5; clear hb5)
              | (go_at_call 9; (with_reducible refine (num_any _ _).mono ?_); rintro e w' ⟨rfl, hz⟩; obtain rfl := hz.symm))
            go_roundw
            case rel => exact ⟨j + 1, by omega, by go_num, HMI.out.below HB5.out⟩
            case measure => simp [intOf] <;> omega
          · obtain rfl : j = k := by omega

            go_wp2
            go_ret
            exact ⟨rfl, HB4.out⟩
theorem cuts_any (w : World) (a : Int) (_ha : (Lit.int .i64 a).wf = true) (b : Int) (_hb : (Lit.int .i64 b).wf = true) (c : Int) (_hc : (Lit.int .i64 c).wf = true) :
    Calls Try.prog 4 #[.int .i64 a, .int .i64 b, .int .i64 c] w fun e w' => e = .returned (.bool true) ∧ Below w.heap.size w w' := by
  by_cases h : a < 0 ∨ 40 < a ∨ b < 0 ∨ 40 < b ∨ c < 0 ∨ 100 < c
  · exact cuts_out w a b c h
  · obtain ⟨N, rfl⟩ := Int.eq_ofNat_of_zero_le (show 0 ≤ a by omega)
    obtain ⟨n, rfl⟩ := Int.eq_ofNat_of_zero_le (show 0 ≤ b by omega)
    obtain ⟨m, rfl⟩ := Int.eq_ofNat_of_zero_le (show 0 ≤ c by omega)
    exact cuts_in w N n m (by omega) (by omega) (by omega)
end Go.Proofs.Ytnnhigojgdcdlaa.Code
