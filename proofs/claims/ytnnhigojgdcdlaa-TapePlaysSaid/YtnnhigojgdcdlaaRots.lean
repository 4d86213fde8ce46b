/- TapeRots: what is turned twice is as it was. Conditions: none. -/
import Derived.Test.YtnnhigojgdcdlaaDrot
namespace Go.Proofs.Ytnnhigojgdcdlaa.Crc
def row6 (i : Nat) : List UInt8 := [UInt8.ofNat i, 1, 2, 3, 4, 5]
def rows6 (N : Nat) : List (List UInt8) := (List.range N).map row6
theorem rows6_len (N : Nat) : (rows6 N).length = N := by simp [rows6]
theorem rows6_succ (N : Nat) : rows6 (N + 1) = rows6 N ++ [row6 N] := by simp [rows6, List.range_succ]
theorem rows6_at (N i : Nat) (h : i < N) : (rows6 N)[i]? = some (row6 i) := by simp [rows6, h]
theorem right_rows6 (N : Nat) : Right (rows6 N) := by
  intro b hb
  obtain ⟨i, _, rfl⟩ := List.mem_map.1 hb
  exact ⟨by simp [row6], by simp [row6]⟩
end Go.Proofs.Ytnnhigojgdcdlaa.Crc
namespace Go.Proofs.Ytnnhigojgdcdlaa.Code
open Go.RowKit Go.Joins Go.Proofs.Ytnnhigojgdcdlaa.Crc Go.Proofs.Ytnnhigojgdcdlaa.Mem
theorem rotTo_twice (bs : List (List UInt8)) (k : Nat) (t : List UInt8) : rotTo (rotTo bs k t) k t = bs := by
  unfold rotTo
  cases h : bs[k]? with
  | none => simp [h]
  | some b =>
    obtain ⟨hk, rfl⟩ := List.getElem?_eq_some_iff.1 h
    simp [hk, rotRow_twice]
theorem rotTo_len (bs : List (List UInt8)) (k : Nat) (t : List UInt8) : (rotTo bs k t).length = bs.length := by
  unfold rotTo
  cases bs[k]? <;> simp
theorem rots_out (w : World) (a b : Int) (A : Option Addr) (n c : Nat) (h : a < 1 ∨ 30 < a ∨ b < 0 ∨ a ≤ b ∨ 100 < n) :
    Calls Try.prog 5 #[.int .i64 a, .int .i64 b, .slice A n c] w fun e w' => e = .returned (.bool true) ∧ Below w.heap.size w w' := by
  have h4 : a < 1 ∨ (1 ≤ a ∧ 30 < a) ∨ (1 ≤ a ∧ a ≤ 30 ∧ b < 0) ∨ (1 ≤ a ∧ a ≤ 30 ∧ 0 ≤ b ∧ a ≤ b) ∨ (1 ≤ a ∧ a ≤ 30 ∧ 0 ≤ b ∧ b < a ∧ (100 : Int) < n) := by omega
  clear h
  rcases h4 with h | ⟨h1, h⟩ | ⟨h1, h2, h⟩ | ⟨h1, h2, h3, h⟩ | ⟨h1, h2, h3, h4, h⟩
  all_goals
    go_enter Try.func5, Try.ntmps5
    go_wp2_with (go_at_call 7; (with_reducible refine (alive_any _).mono ?_); rintro e w1 ⟨rfl, hb⟩; have HB := Lib.hid hb; clear hb)
    go_ret
    exact ⟨rfl, HB.out⟩
/-- A tape that the call made. -/
def Ours (w wr : World) (p : Nat) (t : Tp) : Prop := ∃ S, DrS 29 wr S p t ∧ (∀ j, S j → w.heap.size ≤ j) ∧ Below w.heap.size w wr
theorem Ours.first (w w1 : World) (hb : Below w.heap.size w w1) : Ours w (w1.alloc (.cells #[.int .i64 2, .int .i64 30, .slice none 0 0, .bool false] 29)) w1.heap.size ⟨2, 30, [], false⟩ := by
  refine ⟨_, drs_new (w0 := w1) (t := ⟨2, 30, [], false⟩) (Bl.nil _ _) (Nat.le_refl _), fun j hj => Nat.le_trans hb.size hj.1, hb.alloc hb.size _⟩
theorem Ours.turned {w w2 w3 : World} {q : Nat} {t' : Tp} {S : Nat → Prop} (hs : ∀ j, S j → w.heap.size ≤ j) (hb : Below w.heap.size w w2) (h : Turned 29 w2 S q t' w3) : Ours w w3 q t' :=
  ⟨_, h.1, fun j hj => by rcases hj with hj | hj; exact hs j hj; exact Nat.le_trans hb.size hj.1, hb.trans (h.2.below (fun j _ hj => hs j hj) hb.size)⟩
theorem own_six (W : World) (j : Nat) (hj : j < 256) : Own (W.alloc (.cells #[.int .u8 (j : Int), .int .u8 1, .int .u8 2, .int .u8 3, .int .u8 4, .int .u8 5] 5)) W.heap.size (some ⟨W.heap.size, 0, none⟩) 6 6 (row6 j) := by
  refine Own.lit W _ 6 (row6 j) (Nat.le_refl _) rfl (by decide) ?_
  have e : (j : Int) = K (UInt8.ofNat j) := by simp [K]; omega
  rw [e]
  rfl
/-- A block that is read, whole. -/
theorem read_row (w : World) (S : Nat → Prop) (q : Nat) (t : Tp) (h : DrS 58 w S q t) (k L : Nat) (b : List UInt8) (hb : t.blocks[k]? = some b) (hl : b.length = L) (hL : L ≤ 1000000) (h0 : 0 < L) :
    Calls Try.prog 11 #[.pointer (some ⟨q, 0, none⟩), .int .i64 (k : Int)] w fun e w' => ∃ g c', e = .returned (.tuple #[.slice (some ⟨g, 0, none⟩) L c', .int .i64 0]) ∧ (∀ (i : Nat) x, b[i]? = some x → w'.cell? ⟨g, i, none⟩ = some (.int .u8 (K x))) ∧ Below w.heap.size w w' := by
  obtain ⟨A, n, c, vs, h⟩ := h
  have hk : k < n := by rw [← h.len]; exact (List.getElem?_eq_some_iff.1 hb).1
  refine (read_yes w q t A n c h.box h.blks k hk b hb (by omega)).mono ?_
  rintro e w' ⟨A', m, c', rfl, ho, hbel⟩
  have hm := ho.len
  subst hl
  obtain ⟨g, rfl, _, _, _⟩ := ho.at 0 h0
  refine ⟨g, c', by rw [hm], fun i x hx => ?_, hbel⟩
  obtain ⟨hi, rfl⟩ := List.getElem?_eq_some_iff.1 hx
  obtain ⟨g', hg', _, _, hc, _⟩ := ho.at i hi
  simp at hg'
  subst hg'
  exact hc
theorem row6_at (j i : Nat) (hi : i < 6) : ∃ x, (row6 j)[i]? = some x := ⟨_, List.getElem?_eq_getElem (by simpa [row6] using hi)⟩
theorem row6_len (j : Nat) : (row6 j).length = 6 := rfl
set_option maxHeartbeats 8000000 in
set_option maxRecDepth 100000 in
theorem rots_in (w : World) (N k : Nat) (A : Option Addr) (n c : Nat) (turn : List UInt8) (hs : Sl w A n c turn) (hN1 : 1 ≤ N) (hN : N ≤ 30) (hk : k < N) (hn : n ≤ 100) :
    Calls Try.prog 5 #[.int .i64 (N : Int), .int .i64 (k : Int), .slice A n c] w fun e w' => e = .returned (.bool true) ∧ Below w.heap.size w w' := by
  have HS := Lib.hid hs
  have HSL : Hid (∀ g, blk A = some g → 0 < n → g < w.heap.size) := fun g hg h0 => Sl.blk_lt hs h0 g hg
  have h1 : ¬ (N : Int) < 1 := by omega
  have h2 : ¬ 30 < (N : Int) := by omega
  have h3 : ¬ (k : Int) < 0 := by omega
  have h4 : ¬ (N : Int) ≤ (k : Int) := by omega
  have h5 : ¬ (100 : Int) < (n : Int) := by omega
  clear hs
  go_enter Try.func5, Try.ntmps5
  go_wp2_with (go_at_call 7; (with_reducible refine (alive_any _).mono ?_); rintro e w1 ⟨rfl, hb⟩; have HB := Lib.hid hb; clear hb)
  have HO := Lib.hid (Ours.first w w1 HB.out)
  go_loopw [9] (fun i wr => ∃ j, j ≤ N ∧ i = .int .i64 (j : Int) ∧ Ours w wr w1.heap.size ⟨2, 30, rows6 j, false⟩) (fun i _ => N - (intOf i).toNat)
  case atStart => exact ⟨0, Nat.zero_le _, rfl, HO.out⟩
  case round =>
    clear HO HB
    obtain ⟨j, hj, rfl, S, ⟨A1, n1, c1, vs1, ht⟩, hS, hb⟩ := hrel
    have hn1 : n1 = j := by have := ht.len; simp only [rows6_len] at this; omega
    subst hn1
    have HT := Lib.hid ht
    have HSW := Lib.hid hS
    have HB := Lib.hid hb
    by_cases hjn : n1 < N
    · obtain ⟨d0, d1, d2, d3⟩ := ht.cells
      have hbA := ((Below.refl wr.heap.size wr).alloc (Nat.le_refl _) (.cells #[.int .u8 (n1 : Int), .int .u8 1, .int .u8 2, .int .u8 3, .int .u8 4, .int .u8 5] 5)).alloc ((Below.refl wr.heap.size wr).alloc (Nat.le_refl _) (.cells #[.int .u8 (n1 : Int), .int .u8 1, .int .u8 2, .int .u8 3, .int .u8 4, .int .u8 5] 5)).size (.cells #[.slice (some ⟨wr.heap.size, 0, none⟩) 6 6] 32)
      have HBA := Lib.hid hbA
      have HRW := Lib.hid (ht.below hbA).rows
      have HOW := Lib.hid (((own_six wr n1 (by omega)).alloc (.cells #[.slice (some ⟨wr.heap.size, 0, none⟩) 6 6] 32)).lower (Nat.zero_le _))
      have HQW := Lib.hid (heap_alloc2 wr (.cells #[.int .u8 (n1 : Int), .int .u8 1, .int .u8 2, .int .u8 3, .int .u8 4, .int .u8 5] 5) (.cells #[.slice (some ⟨wr.heap.size, 0, none⟩) 6 6] 32))
      have HNE : Hid (∀ (i : Nat) (t' : Sv) (g : Nat), vs1[i]? = some t' → blk t'.a = some g → blk (some ⟨wr.heap.size, 0, none⟩ : Option Addr) ≠ some g) := by
        intro i t' g hi hg e
        have := (ht.rows.lt i t' g hi hg).2
        simp [blk] at e
        omega
      have hfew : n1 ≤ 1000000 := by omega
      clear ht hS hb hbA
      go_wp2_with (at_builtin; refine app_blv rfl (.tmp 50) (.tmp 54) rfl rfl rfl (v := ⟨some ⟨wr.heap.size, 0, none⟩, 6, 6⟩) HRW.out HOW.out HNE.out HQW.out hfew ?_; intro A9 c9 w9 hl gr9 hat9; have hh := HT.out.app (by decide) (by decide) HBA.out hl gr9 hat9 (fun g' hg' => .inr (by simp [blk] at hg'; omega)); have hd9 := HT.out.grown_box (by decide) HBA.out gr9; have x9 := cell_of_block hd9 2; have f9 := unfrozen_of_block hd9 2; have HH := Lib.hid hh; clear hh hl gr9 hat9 hd9)
      go_roundw
      case rel => exact ⟨n1 + 1, by omega, by go_num, by rw [rows6_succ]; exact Ours.turned HSW.out HB.out ⟨HH.out.1.gset, HH.out.2⟩⟩
      case measure => simp [intOf]; omega
    · obtain rfl : n1 = N := by omega
      have HLD : Hid (Calls Try.prog 8 #[tv ⟨2, 30, rows6 n1, false⟩ A1 n1 c1] wr (Loaded wr ⟨2, 30, rows6 n1, false⟩)) := load_ok wr ⟨2, 30, rows6 n1, false⟩ A1 n1 c1 ht.blks (show (1 : Int) ≤ 2 by decide) (show (0 : Int) ≤ 30 by decide) (show (30 : Int) ≤ 64 by decide) (show (n1 : Int) ≤ 30 by omega) (right_rows6 n1) rfl
      obtain ⟨d0, d1, d2, d3⟩ := ht.cells
      clear ht hS hb
      go_wp2_with (first
        | (go_at_call 8; (with_reducible refine HLD.out.mono ?_); rintro e w2 ⟨q, rfl, hd, hb⟩; have HD := Lib.hid hd; have HB2 := Lib.hid hb; clear hd hb)
        | (go_at_call 9; (with_reducible refine (num_any _ _).mono ?_); rintro e w' ⟨rfl, hz⟩; obtain rfl := hz.symm)
        | (go_at_call 15; have hrt := rot_ok w2 _ q _ HD.out k (by simp only [rows6_len]; exact hk) A n c turn (HS.out.below (HB.out.trans (HB2.out.mono HB.out.size))) (fun g hg h0 hN => Nat.lt_irrefl _ (Nat.lt_of_lt_of_le (Sl.blk_lt HS.out h0 g hg) (Nat.le_trans HB.out.size hN.1))) (by omega); (with_reducible refine hrt.mono ?_); rintro e w3 ⟨rfl, htu⟩; have HTU := Lib.hid htu; clear htu hrt))
      have hb23 : Below w.heap.size w w2 := HB.out.trans (HB2.out.mono HB.out.size)
      have hlt2 : ∀ j, Nw wr w2 j → w.heap.size ≤ j := fun j hj => Nat.le_trans HB.out.size hj.1
      have HB3 := Lib.hid (hb23.trans (HTU.out.2.below (fun j _ hj => hlt2 j hj) hb23.size))
      have HS3 := Lib.hid (HS.out.below HB3.out)
      have HT3 := Lib.hid ((HT.out.below HB2.out).upd HTU.out.2 (fun j hj hS => Nat.lt_irrefl j (Nat.lt_of_lt_of_le (HT.out.lim j hS) hj.1)))
      have HD3 : Hid (DrS 58 w3 (Gr (Nw wr w2) w2 w3) q ⟨2, 30, rotTo (rows6 n1) k turn, false⟩) := HTU.out.1
      have HG3 : Hid (∀ j, Gr (Nw wr w2) w2 w3 j → w.heap.size ≤ j) := fun j hj => hj.elim (hlt2 j) fun e => Nat.le_trans hb23.size e.1
      have HTG : Hid (∀ j, Gr (Nw wr w2) w2 w3 j → ¬ S j) := fun j hj hS => by
        have h1 := HT.out.lim j hS
        rcases hj with hj | hj
        · have := hj.1; omega
        · have := hj.1; have := HB2.out.size; omega
      obtain ⟨G, hG⟩ : ∃ G, G = Gr (Nw wr w2) w2 w3 := ⟨_, rfl⟩
      rw [← hG] at HD3 HG3 HTG
      clear hb23 hlt2 HTU hG HD HB2 HLD HS HT HB d0 d1 d2 d3
      go_loopw [12] (fun i wx => ∃ j, j ≤ n1 ∧ i = .int .i64 (j : Int) ∧ Below w3.heap.size w3 wx) (fun i _ => n1 - (intOf i).toNat)
      case atStart => exact ⟨0, Nat.zero_le _, rfl, Below.refl _ _⟩
      case round =>
        obtain ⟨j, hj, rfl, hbx⟩ := hrel
        have HBX := Lib.hid hbx
        have HDX := Lib.hid (HD3.out.below hbx)
        clear hbx
        by_cases hjn2 : j < n1
        · obtain ⟨b, hbat, hblen, hbi⟩ : ∃ b, (rotTo (rows6 n1) k turn)[j]? = some b ∧ b.length = 6 ∧ b = (if j = k then rotRow (row6 j) turn else row6 j) := by
            rw [rotTo_at _ k turn _ (rows6_at n1 k hk)]
            by_cases e : j = k
            · subst e
              exact ⟨_, List.getElem?_set_self (by rw [rows6_len]; exact hk), by rw [rotRow_len]; rfl, by rw [if_pos rfl]⟩
            · exact ⟨row6 j, by rw [List.getElem?_set_ne (fun h => e h.symm), rows6_at n1 j hjn2], rfl, by rw [if_neg e]⟩
          have HBA := Lib.hid hbat
          have HBN := Lib.hid hblen
          have HBI := Lib.hid hbi
          clear hbat hblen hbi
          go_wp2_with (first
            | (go_at_call 11; (with_reducible refine (read_row wr G q _ HDX.out j 6 b HBA.out HBN.out (by decide) (by decide)).mono ?_); rintro e w4 ⟨g4, c4, rfl, hc4, hb4⟩; have HC4 := Lib.hid hc4; have HB4 := Lib.hid hb4; clear hc4 hb4)
            | (go_at_call 9; (with_reducible refine (num_any _ _).mono ?_); rintro e w' ⟨rfl, hz⟩; obtain rfl := hz.symm))
          have hb34 : Below w3.heap.size w3 w4 := HBX.out.trans (HB4.out.mono HBX.out.size)
          have HB34 := Lib.hid hb34
          have ht4 := HT3.out.below hb34
          have hs4 := HS3.out.below hb34
          obtain ⟨d0, d1, d2, d3⟩ := ht4.cells
          obtain ⟨gr, s, b6, hrow⟩ := ht4.row j hjn2
          obtain ⟨rfl, hvj, hbj, hcr, _, _, _⟩ := hrow.resolve_right (by decide)
          have hb6 : b6 = row6 j := by
            have h1 : (rows6 n1)[j]? = some b6 := hbj
            rw [rows6_at n1 j hjn2] at h1
            injection h1 with h1
            exact h1.symm
          subst hb6
          obtain ⟨sa, sn, sc⟩ := s
          have hsn : sn = 6 := by
            have := (ht4.rows.own j _ _ hvj hbj).len
            exact this.symm
          subst hsn
          have HT4 := Lib.hid ht4
          have HS4 := Lib.hid hs4
          have HVJ := Lib.hid hvj
          have HBJ := Lib.hid hbj
          clear hb34 ht4 hs4 hvj hbj hrow
          go_loop [15] (fun i => ∃ m : Nat, m ≤ 6 ∧ i = .int .i64 (m : Int)) (fun i => 6 - (intOf i).toNat)
          case atStart => exact ⟨0, by omega, rfl⟩
          case round =>
            obtain ⟨m, hm, rfl⟩ := hrel
            by_cases hm6 : m < 6
            · obtain ⟨x, hx⟩ := row6_at j m hm6
              obtain ⟨p, hp, _, _, hcx, _, _⟩ := HT4.out.byte (by decide) j _ _ HVJ.out HBJ.out m x hx
              have hp : sa = some ⟨p, 0, none⟩ := hp
              subst hp
              have HX := Lib.hid hx
              clear hx
              have hz : ∃ z, b[m]? = some z ∧ z = (if j = k then (match turn[m]? with | some y => x ^^^ y | none => x) else x) := by
                rw [HBI.out]
                by_cases e : j = k
                · rw [if_pos e, if_pos e, rotRow_at, HX.out]
                  cases turn[m]? <;> exact ⟨_, rfl, rfl⟩
                · rw [if_neg e, if_neg e]
                  exact ⟨x, HX.out, rfl⟩
              obtain ⟨z, hbz, hz⟩ := hz
              have hcz := HC4.out m z hbz
              clear hbz
              by_cases hjk : j = k
              · rw [if_pos hjk] at hz
                subst hjk
                by_cases hmn : m < n
                · have hmt : m < turn.length := by rw [HS4.out.len]; exact hmn
                  obtain ⟨pt, ot, rfl, hct⟩ := HS4.out.1.2 m hmt
                  rw [List.getElem?_eq_getElem hmt] at hz
                  have hxy := K_xor x turn[m]
                  simp only at hz
                  rw [← hz] at hxy
                  clear hz
                  go_wp2
                  go_round
                  case rel => exact ⟨m + 1, by omega, by go_num⟩
                  case measure => simp [intOf]; omega
                · rw [List.getElem?_eq_none (by rw [HS4.out.len]; omega)] at hz
                  simp only at hz
                  subst hz
                  have hmn' : ¬ (m : Int) < (n : Int) := by omega
                  go_wp2
                  go_round
                  case rel => exact ⟨m + 1, by omega, by go_num⟩
                  case measure => simp [intOf]; omega
              · rw [if_neg hjk] at hz
                subst hz
                have hjq : ((j : Int) == (k : Int)) = false := beq_eq_false_iff_ne.mpr (by omega)
                go_wp2
                go_round
                case rel => exact ⟨m + 1, by omega, by go_num⟩
                case measure => simp [intOf]; omega
            · obtain rfl : m = 6 := by omega
              go_wp2
              go_roundw
              case rel => exact ⟨j + 1, by omega, by go_num, HB34.out⟩
              case measure => simp [intOf]; omega
        · obtain rfl : j = n1 := by omega
          have hrt := rot_ok _ G q _ HDX.out k (by simp only [rotTo_len, rows6_len]; exact hk) A n c turn (HS3.out.below HBX.out) (fun g hg h0 hN => Nat.lt_irrefl _ (Nat.lt_of_lt_of_le (HSL.out g hg h0) (HG3.out g hN))) (by omega)
          simp only [rotTo_twice] at hrt
          have HRT := Lib.hid hrt
          clear hrt
          go_upto_region 28 with (go_at_call 15; (with_reducible refine HRT.out.mono ?_); rintro e w5 ⟨rfl, htu⟩; have HTU := Lib.hid htu; clear htu)
          have hbd : Below w5.heap.size w5 w5.drew := (Below.refl _ _).drew
          have HDR := Lib.hid (HTU.out.1.below hbd)
          have hlt : w3.heap.size ≤ _ := HBX.out.size
          have htp := ((HT3.out.below HBX.out).upd HTU.out.2 HTG.out).below hbd
          obtain ⟨d0, d1, d2, d3⟩ := htp.cells
          have HTP := Lib.hid htp
          have HBW := Lib.hid ((((HB3.out.trans (HBX.out.mono HB3.out.size))).trans (HTU.out.2.below (fun i _ hi => HG3.out i hi) (Nat.le_trans HB3.out.size HBX.out.size))).trans (hbd.mono (Nat.le_trans (Nat.le_trans HB3.out.size HBX.out.size) HTU.out.2.size)))
          have HFEW : Hid ((rows6 j).length ≤ 1000) := by rw [rows6_len]; unfold Hid; omega
          have HSHORT : Hid (∀ b ∈ rows6 j, b.length ≤ 1000000) := fun b hb => by have := (right_rows6 j b hb).2; omega
          have hj6 : j ≤ 1000000 := by omega
          clear htp hbd hlt HTU HRT HBX HDX HTG HG3 HSL HT3 HS3 HD3
          go_region_law (first
            | (refine step_call rfl 17 #[.pointer (some ⟨q, 0, none⟩)] ?_ (tape_any _ _ _ _ HDR.out HFEW.out HSHORT.out) ?_; (go_simp); (rintro e w6 ⟨A6, n6, c6, rfl, hbl, hb⟩); (refine ⟨_, rfl, ?_⟩); (have hn6 : n6 = j := by have := hbl.len; simp only [rows6_len] at this; omega); (subst hn6); (have HBL := Lib.hid hbl.blks); (have HB6 := Lib.hid hb); (have ht6 := HTP.out.below hb); (have HBK := Lib.hid ht6.blks); (obtain ⟨y0, y1, y2, y3⟩ := ht6.cells); (clear hbl hb ht6))
            | (refine step_call rfl 16 #[tv ⟨2, 30, rows6 n6, false⟩ A6 n6 c6, tv ⟨2, 30, rows6 n6, false⟩ A1 n6 c1] ?_ (sametape_yes _ ⟨2, 30, rows6 n6, false⟩ _ _ _ _ _ HBL.out HBK.out hj6) ?_; (go_simp); (rintro e w7 ⟨rfl, hb7⟩); (refine ⟨_, rfl, ?_⟩); (have HB7 := Lib.hid hb7); (clear hb7)))
          all_goals go_wp2
          all_goals go_ret
          all_goals exact ⟨rfl, (HBW.out.trans (HB6.out.mono HBW.out.size)).trans (HB7.out.mono (Nat.le_trans HBW.out.size HB6.out.size))⟩
theorem rots_any (w : World) (a : Int) (_ha : (Lit.int .i64 a).wf = true) (b : Int) (_hb : (Lit.int .i64 b).wf = true) (A : Option Addr) (n c : Nat) (l : List UInt8) (hs : Sl w A n c l) (_hc : c ≤ 9223372036854775807) :
    Calls Try.prog 5 #[.int .i64 a, .int .i64 b, .slice A n c] w fun e w' => e = .returned (.bool true) ∧ Below w.heap.size w w' := by
  by_cases h : a < 1 ∨ 30 < a ∨ b < 0 ∨ a ≤ b ∨ 100 < n
  · exact rots_out w a b A n c h
  · obtain ⟨N, rfl⟩ := Int.eq_ofNat_of_zero_le (show 0 ≤ a by omega)
    obtain ⟨k, rfl⟩ := Int.eq_ofNat_of_zero_le (show 0 ≤ b by omega)
    exact rots_in w N k A n c l hs (by omega) (by omega) (by omega) (by omega)
end Go.Proofs.Ytnnhigojgdcdlaa.Code
