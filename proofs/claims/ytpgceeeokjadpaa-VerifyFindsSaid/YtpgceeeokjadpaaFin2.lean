/- VerifyFinds' walk. Conditions: the numbers lie where the slice says. -/
import Derived.Test.YtpgceeeokjadpaaFin
import Derived.Test.YtpgceeeokjadpaaFr12
import Derived.Test.YtpgceeeokjadpaaVer10
import Derived.BigRegion
import Derived.OwnWalk
namespace Go.Proofs.Ytpgceeeokjadpaa.Code
open Go.RowKit Go.Joins Go.Proofs.Ytpgceeeokjadpaa.Crc Go.Proofs.Ytpgceeeokjadpaa.Mem
theorem putref_at (w : World) (k l m : Int) (load : List UInt8) (A : Option Addr) (n c : Nat) (hs : Sl w A n c load) : Calls Try.prog 29 #[.agg #[.int .i64 k, .int .i64 l, .int .i64 m, .slice A n c]] w fun e w' => PutPost w ⟨k, l, m, load⟩ e w' := putref_any w ⟨k, l, m, load⟩ A n c hs
theorem K_nat (j : Nat) (h : j < 256) : K (UInt8.ofNat j) = (j : Int) := by
  unfold K
  rw [UInt8.toNat_ofNat']
  omega
theorem one_byte (w : World) (j : Nat) (h : j < 256) : Sl (w.alloc (.cells #[.int .u8 (j : Int)] 5)) (some ⟨w.heap.size, 0, none⟩) 1 1 [UInt8.ofNat j] := by
  have := Reads.one w (UInt8.ofNat j) 5
  rw [K_nat j h] at this
  exact ⟨this, Nat.le_refl _, fun h => by cases h⟩
theorem range_snoc (k : Nat) : (List.range (k + 1)).map fb = (List.range k).map fb ++ [fb k] := by rw [List.range_succ, List.map_append]; rfl
/-- The tape's block. -/
def T9 (w : World) (q : Nat) (A : Option Addr) (n c : Nat) : Prop := w.heap[q]? = some (.cells #[.int .i64 9, .int .i64 64, .slice A n c, .bool false] 65 (0, 0))
theorem T9.stay {T : TypeId} {w w' : World} {q : Nat} {A : Option Addr} {n c : Nat} (h : T9 w q A n c) (hs : Stay T w w') (hT : 65 ≠ T) : T9 w' q A n c := hs _ _ _ hT h
theorem T9.below {w w' : World} {q : Nat} {A : Option Addr} {n c : Nat} (h : T9 w q A n c) (hb : Below w.heap.size w w') : T9 w' q A n c := (hb.block q (lt_of_block h)).trans h
theorem T9.set {w : World} {q : Nat} {A A' : Option Addr} {n c n' c' : Nat} (h : T9 w q A n c) : T9 (w.setCell ⟨q, 2, none⟩ (.slice A' n' c')) q A' n' c' := block_setCell (i := 2) h (.slice A' n' c')
theorem ro_false {w : World} {B n : Nat} {A : Option Addr} (h : w.ownsRow B 4 1 (.slice A n n) n (madeCells (Value.bool false).cells (n * 1)).toList) : RO 4 1 w B A n n ((List.replicate n false).map Value.bool) := by
  have e : (madeCells (Value.bool false).cells (n * 1)).toList = (List.replicate n false).map Value.bool := by
    have e0 : (Value.bool false).cells = #[.bool false] := rfl
    rw [e0, Nat.mul_one]
    apply List.ext_getElem
    · simp [size_madeCells]
    · intro i h1 h2
      simp [madeCells, Nat.mod_one]
  rw [e] at h
  exact h
set_option maxHeartbeats 16000000 in
set_option maxRecDepth 100000 in
theorem finds_some (w : World) (n : Nat) (h1 : 1 ≤ n) (h30 : n ≤ 30) (A2 : Option Addr) (n2 c2 : Nat) (xs : List Int) (hx : Ints w A2 n2 xs) (hn2 : n2 ≤ 30) :
    Calls Try.prog 10 #[.int .i64 (n : Int), .slice A2 n2 c2] w fun e w' => e = .returned (.bool true) ∧ Below w.heap.size w w' := by
  have HX := Lib.hid hx
  clear hx
  obtain ⟨i4, hi, hz0, hz1, hz2⟩ := info_parts info4
  go_enter Try.func10, Try.ntmps10
  go_wp2_with (go_at_call 34; (with_reducible refine (alive16_any _).mono ?_); rintro e w1 ⟨rfl, hb⟩; have HB1 := Lib.hid hb; clear hb)
  obtain ⟨q, hq⟩ : ∃ q, q = w1.heap.size := ⟨_, rfl⟩
  have hqB : w.heap.size ≤ q := by rw [hq]; exact HB1.out.size
  have HT1 : Hid (T9 (w1.alloc (.cells #[.int .i64 9, .int .i64 64, .slice none 0 0, .bool false] 65)) q none 0 0) := by rw [hq]; exact heap_alloc_new w1 _
  have HB2 := Lib.hid (HB1.out.alloc HB1.out.size (.cells #[.int .i64 9, .int .i64 64, .slice none 0 0, .bool false] 65))
  rw [← hq]
  clear hq
  go_loopw [7] (fun i wr => ∃ k A c, k ≤ n ∧ i = .int .i64 (k : Int) ∧ Hid (Bl wr w.heap.size A k c ((List.range k).map fb)) ∧ Hid (Below w.heap.size w wr) ∧ Hid (T9 wr q A k c)) (fun i _ => n - (intOf i).toNat)
  case atStart => exact ⟨0, none, 0, Nat.zero_le _, rfl, Bl.nil _ _, HB2, HT1⟩
  case round =>
    obtain ⟨k, A, c, hk, rfl, HL, HB, HT⟩ := hrel
    by_cases hkn : k < n
    · have HC : Hid (chk ⟨3, 9, (k : Int), [UInt8.ofNat k]⟩ = 0) := uj_chk k (by omega)
      have HPB : Hid (putB ⟨3, 9, (k : Int), [UInt8.ofNat k]⟩ = fb k) := putB_ok HC.out
      have HSL := Lib.hid (one_byte wr k (by omega))
      have HBA := Lib.hid (HB.out.alloc HB.out.size (.cells #[.int .u8 (k : Int)] 5))
      have HLN : Hid ((fb k).length = 79) := fb_len k (by omega)
      go_wp2_with (first
        | (go_at_call 29; (with_reducible refine (putref_at _ 3 9 (k : Int) [UInt8.ofNat k] _ 1 1 HSL.out).mono ?_); rintro e w3 ⟨A5, m5, c5, rfl, hown, hb⟩; rw [HC.out]; rw [HPB.out] at hown; obtain rfl : m5 = 79 := hown.len.symm.trans HLN.out; have hb' := below_then ((Below.refl wr.heap.size wr).alloc (Nat.le_refl _) (.cells #[.int .u8 (k : Int)] 5)) hb (((Below.refl wr.heap.size wr).alloc (Nat.le_refl _) (.cells #[.int .u8 (k : Int)] 5)).size); have HO := Lib.hid (hown.lower (B' := wr.heap.size) (((Below.refl wr.heap.size wr).alloc (Nat.le_refl _) (.cells #[.int .u8 (k : Int)] 5)).size)); have HBb := Lib.hid hb'; have HB3 := Lib.hid (below_then HB.out hb' HB.out.size); have HT3 := Lib.hid ((HT.out.below ((Below.refl _ _).alloc (Nat.le_refl _) (.cells #[.int .u8 (k : Int)] 5))).below hb); have t2 := cell_of_block HT3.out 2; clear hown hb hb')
        | (at_builtin; refine app_bl rfl (.tmp 48) (.tmp 50) rfl rfl rfl (v := ⟨A5, 79, c5⟩) (w0 := wr) HL.out (HBb.out.alloc HBb.out.size _) HB.out.size (HO.out.alloc _) (heap_alloc_new w3 _) (by omega) ?_; intro A6 c6 w5 hl hb5 st; have HB5 := Lib.hid ((HB3.out.alloc HB3.out.size (.cells #[.slice A5 79 c5] 22)).trans hb5); have ht5 := (HT3.out.below ((Below.refl _ _).alloc (Nat.le_refl _) (.cells #[.slice A5 79 c5] 22))).stay st (by decide); have t25 := cell_of_block ht5 2; have f25 := unfrozen_of_block ht5 2; have HT5 := Lib.hid ht5; rw [← range_snoc] at hl; have HL5 := Lib.hid hl; clear hl hb5 st ht5))
      go_roundw
      case rel => exact ⟨k + 1, A6, c6, by omega, by go_num, HL5.out.stay (stay_set HT5.out _) (by decide) (by decide), HB5.out.setCell hqB _, HT5.out.set⟩
      case measure => simp [intOf]; omega
    · obtain rfl : k = n := by omega
      go_wp2_with (at_make; refine wpList_make_full _ rfl (.tmp 53) (.tmp 53) 66 rfl w.heap.size 4 i4 (.bool false) 1 Try.underlying66 hi hz0 hz1 .i64 .i64 (k : Int) (k : Int) k rfl rfl rfl rfl (by rw [hz2]; omega) (by simp only [maxLen]; omega) HB.out.size ?_; intro w6 hown hgr; have HR6 := Lib.hid (ro_false hown); have hb6 := (Below.refl wr.heap.size wr).grown hgr (Nat.le_refl _) (fun _ h => by cases h); have HB6 := Lib.hid (below_then HB.out hb6 HB.out.size); have HL6 := Lib.hid (HL.out.below hb6); have HT6 := Lib.hid (HT.out.below hb6); clear hown hgr hb6)
      obtain ⟨gb, hgb⟩ : ∃ g, g = wr.heap.size := ⟨_, rfl⟩
      have hgB : w.heap.size ≤ gb := by rw [hgb]; exact HB.out.size
      rw [← hgb] at HR6 ⊢
      clear hgb
      go_loopw [11] (fun i wx => ∃ j bd bs, j ≤ n2 ∧ i = .int .i64 (j : Int) ∧ Hid (Turned k bd bs) ∧ Hid (RO 4 1 wx w.heap.size (some ⟨gb, 0, none⟩) k k (bd.map Value.bool)) ∧ Hid (Bl wx w.heap.size A k c bs) ∧ Hid (Below w.heap.size w wx) ∧ Hid (T9 wx q A k c)) (fun i _ => n2 - (intOf i).toNat)
      case atStart => exact ⟨0, _, _, Nat.zero_le _, rfl, turned_new k, HR6, HL6, HB6, HT6⟩
      case round =>
        obtain ⟨j, bd, bs, hj, rfl, HTU, HR, HLL, HBB, HTT⟩ := hrel
        by_cases hjn : j < n2
        · obtain ⟨b2, o2, x, rfl, hxj, hxc⟩ := HX.out.at j hjn
          have HXC := Lib.hid hxc
          replace hxc := (HBB.out.cell (World.block_lt_of_cell? _ _ hxc)).trans hxc
          clear hxj
          obtain ⟨m, hm, hx1⟩ := and_le x 1023 (by decide)
          obtain ⟨o, ho, hx2⟩ := and_le x 63 (by decide)
          replace hx1 : Go.bits .and .i64 x 1023 = (m : Int) := hx1
          replace hx2 : Go.bits .and .i64 x 63 = (o : Int) := hx2
          obtain ⟨e, he, hx3⟩ := and7 (j : Int)
          have hkk : m % k < k := Nat.mod_lt _ (by omega)
          obtain ⟨t, bb, hbt, hbb, hbl, ht0, ht1⟩ := turned_at HTU.out (m % k) hkk h30
          have hbdl : m % k < (bd.map Value.bool).length := by rw [List.length_map, HTU.out.1]; exact hkk
          obtain ⟨gb', hgb', _, _, hbc, hbf, hbset⟩ := HR.out.at (m % k) hbdl
          injection hgb' with hgb'
          injection hgb' with hgb' _ _
          subst hgb'
          have hbv : (bd.map Value.bool)[m % k] = .bool t := by
            have := List.getElem?_eq_getElem (l := bd.map Value.bool) hbdl
            rw [List.getElem?_map, hbt] at this
            injection this with this
            exact this.symm
          rw [hbv] at hbc
          have HSET := Lib.hid hbset
          have HBT := Lib.hid hbt
          have HBB0 := Lib.hid hbb
          clear hbset hbv hbdl hbt hbb
          cases t with
          | true =>
            clear ht0 ht1
            go_wp2
            go_roundw
            case rel => exact ⟨j + 1, bd, bs, by omega, by go_num, HTU, HR, HLL, HBB, HTT⟩
            case measure => simp [intOf]; omega
          | false =>
            obtain rfl := ht0 rfl
            clear ht0 ht1
            go_upto_region 17 with fail
            obtain ⟨W, hW⟩ : ∃ W, W = wr.setCell ⟨gb, m % k, none⟩ (.bool true) := ⟨_, rfl⟩
            have HRW : Hid (RO 4 1 W w.heap.size (some ⟨gb, 0, none⟩) k k ((bd.set (m % k) true).map Value.bool)) := by
              rw [hW]; unfold Hid; rw [List.map_set]; exact HSET.out (.bool true)
            obtain ⟨curb, hcurb⟩ : ∃ l, wr.heap[gb]? = some (.cells l 4 (0, 0)) := by
              rcases HR.out.shape with ⟨h0, _⟩ | ⟨gg, cur, h0, _, _, h1, _⟩
              · cases h0
              · injection h0 with h0; injection h0 with h0 _ _; subst h0; exact ⟨cur, h1⟩
            have hst : Stay 4 wr W := by rw [hW]; exact stay_set hcurb _
            have HLW := Lib.hid (HLL.out.stay hst (by decide) (by decide))
            have HTW := Lib.hid (HTT.out.stay hst (by decide))
            have HBW : Hid (Below w.heap.size w W) := by rw [hW]; exact HBB.out.setCell hgB _
            rw [← hW]
            clear hW hst hcurb hbc hbf hxc HSET HR HLL HTT HBB
            have hxc := (HBW.out.cell (World.block_lt_of_cell? _ _ HXC.out)).trans HXC.out
            obtain ⟨g, ⟨sa, sn, sc⟩, rfl, hgB1, _, hgc, hown, hat⟩ := HLW.out.at (m % k) _ HBB0.out
            simp only at hgc hown hat
            obtain rfl : sn = 79 := hown.len.symm.trans hbl
            obtain ⟨p, rfl, hpB, hpc, hpf, hset⟩ := hat o (by omega)
            have t9 := cell_of_block HTW.out 2
            obtain ⟨y, hy⟩ : ∃ y, y = (fb (m % k))[o]'(by omega) := ⟨_, rfl⟩
            rw [← hy] at hpc
            have HXB := Lib.hid (xor_bit e he y)
            have HTU2 : Hid (Turned k (bd.set (m % k) true) (bs.set (m % k) ((fb (m % k)).set o (y ^^^ bitOf e)))) := turned_step HTU.out (m % k) hkk h30 o (by omega) _ (fun hi => by rw [← hy]; exact bit_ne e he y)
            have HSET := Lib.hid (hset (y ^^^ bitOf e))
            obtain ⟨curp, hcurp⟩ : ∃ l, W.heap[p]? = some (.cells l 5 (0, 0)) := by
              rcases hown.shape with ⟨h0, _⟩ | ⟨gg, cur, h0, _, _, h1, _⟩
              · cases h0
              · injection h0 with h0; injection h0 with h0 _ _; subst h0; exact ⟨cur, h1⟩
            have HST : Hid (∀ v, Stay 5 W (W.setCell ⟨p, o, none⟩ v)) := fun v => stay_set hcurp v
            clear hy hset hat hcurp hown
            go_region
            rw [HXB.out]
            go_wp2
            go_roundw
            case rel => exact ⟨j + 1, _, _, by omega, by go_num, HTU2, (HRW.out.stay (HST.out _) (by decide)).drew, HSET.out.drew, (HBW.out.setCell hpB _).drew, HTW.out.stay (HST.out _) (by decide)⟩
            case measure => simp [intOf]; omega
        · obtain rfl : j = n2 := by omega
          have hBB0 := HBB.out.size
          go_wp2
          go_loopw [13, 14] (fun out i wx => ∃ z A' m' c', z ≤ k ∧ i = .int .i64 (z : Int) ∧ out = .slice A' m' c' ∧ m' = (wants bd z).length ∧ Hid (RO 69 2 wx w.heap.size A' m' c' (spc (wants bd z))) ∧ Hid (RO 4 1 wx w.heap.size (some ⟨gb, 0, none⟩) k k (bd.map Value.bool)) ∧ Hid (Bl wx w.heap.size A k c bs) ∧ Hid (Below w.heap.size w wx) ∧ Hid (T9 wx q A k c)) (fun _ i _ => k - (intOf i).toNat)
          case atStart => exact ⟨0, none, 0, 0, Nat.zero_le _, rfl, rfl, rfl, RO.nil _ _ _ _, HR, HLL, HBB, HTT⟩
          case round =>
            obtain ⟨z, A', m', c', hz, rfl, rfl, hm', HW, HR, HLL, HBB, HTT⟩ := hrel
            have HM' := Lib.hid hm'
            have hmz : m' ≤ z := by rw [hm']; exact wants_len bd z
            clear hm'
            by_cases hzk : z < k
            · obtain ⟨t, bb, hbt, _, _, _, _⟩ := turned_at HTU.out z hzk h30
              have hbdl : z < (bd.map Value.bool).length := by rw [List.length_map, HTU.out.1]; exact hzk
              obtain ⟨gb', hgb', _, _, hbc, hbf, _⟩ := HR.out.at z hbdl
              injection hgb' with hgb'
              injection hgb' with hgb' _ _
              subst hgb'
              have hbv : (bd.map Value.bool)[z] = .bool t := by
                have := List.getElem?_eq_getElem (l := bd.map Value.bool) hbdl
                rw [List.getElem?_map, hbt] at this
                injection this with this
                exact this.symm
              rw [hbv] at hbc
              have hws := wants_succ bd z
              rw [hbt, Option.getD_some] at hws
              have HWS := Lib.hid hws
              clear hbv hbdl hbt hbf hws
              cases t with
              | true =>
                have HWT : Hid (wants bd (z + 1) = wants bd z ++ [(9, (z : Int))]) := HWS.out
                clear HWS
                go_wp2_with (at_builtin; refine app_spot rfl (.tmp 112) (.tmp 115) rfl rfl rfl (HW.out.alloc _) (heap_alloc_new _ _) (by omega) (HBB.out.alloc HBB.out.size _).size ?_; intro A6 c6 w6 own gr; have HB6 := Lib.hid (below_app (HBB.out.alloc HBB.out.size _) (HBB.out.alloc HBB.out.size _).size (HW.out.alloc _) gr); have st := stay_grown (HW.out.alloc _) gr; have HR6 := Lib.hid ((HR.out.alloc _).stay st (by decide)); have HL6 := Lib.hid ((HLL.out.below ((Below.refl _ _).alloc (Nat.le_refl _) _)).stay st (by decide) (by decide)); have HT6 := Lib.hid ((HTT.out.below ((Below.refl _ _).alloc (Nat.le_refl _) _)).stay st (by decide)); rw [← HWT.out] at own; have HO6 := Lib.hid own; clear own gr st)
                go_roundw
                case rel => exact ⟨z + 1, A6, m' + 1, c6, by omega, by go_num, rfl, by rw [HWT.out, List.length_append, ← HM'.out]; rfl, HO6, HR6, HL6, HB6, HT6⟩
                case measure => simp [intOf]; omega
              | false =>
                have HWT : Hid (wants bd (z + 1) = wants bd z) := by unfold Hid; rw [HWS.out, if_neg Bool.false_ne_true, List.append_nil]
                clear HWS
                go_wp2
                go_roundw
                case rel => exact ⟨z + 1, A', m', c', by omega, by go_num, rfl, by rw [HWT.out]; exact HM'.out, by rw [HWT.out]; exact HW, HR, HLL, HBB, HTT⟩
                case measure => simp [intOf]; omega
            · obtain rfl : z = k := by omega
              obtain ⟨d0, d1, d2, d3⟩ : wr.cell? ⟨q, 0, none⟩ = some (.int .i64 9) ∧ wr.cell? ⟨q, 1, none⟩ = some (.int .i64 64) ∧ wr.cell? ⟨q, 2, none⟩ = some (.slice A z c) ∧ wr.cell? ⟨q, 3, none⟩ = some (.bool false) := ⟨cell_of_block HTT.out 0, cell_of_block HTT.out 1, cell_of_block HTT.out 2, cell_of_block HTT.out 3⟩
              have HTP : Hid (Tps (wr.alloc (.cells #[.int .i64 9, .int .i64 64, .slice A z c, .bool false] 65)) (some ⟨wr.heap.size, 0, none⟩) 1 [⟨9, 64, bs, false⟩]) := by
                refine ⟨rfl, fun i hi => ?_⟩
                obtain rfl : i = 0 := by simp at hi; omega
                have hg := heap_alloc_new wr (.cells #[.int .i64 9, .int .i64 64, .slice A z c, .bool false] 65)
                exact ⟨wr.heap.size, 0, A, z, c, rfl, cell_of_block hg 0, cell_of_block hg 1, cell_of_block hg 2, cell_of_block hg 3, HLL.out.blks.below ((Below.refl _ _).alloc (Nat.le_refl _) _)⟩
              have HFW : Hid (FewT [⟨9, 64, bs, false⟩]) := by
                refine ⟨by unfold wt; simp; have := HTU.out.2.1; omega, fun t ht b hb => ?_⟩
                simp at ht
                subst ht
                obtain ⟨j, hj, rfl⟩ := List.mem_iff_getElem.1 hb
                obtain ⟨_, bb, _, hbb, hbl, _⟩ := turned_at HTU.out j (by rw [← HTU.out.2.1]; exact hj) h30
                rw [List.getElem?_eq_getElem hj] at hbb
                injection hbb with hbb
                rw [hbb]; omega
              have HWS : Hid (spots [⟨9, 64, bs, false⟩] = wants bd z) := wants_spots HTU.out h30
              have HBA := Lib.hid (HBB.out.alloc HBB.out.size (.cells #[.int .i64 9, .int .i64 64, .slice A z c, .bool false] 65))
              have HWA := Lib.hid (HW.out.alloc (.cells #[.int .i64 9, .int .i64 64, .slice A z c, .bool false] 65))
              go_wp2_with (first
                | (go_at_call 36; (with_reducible refine (spots_any _ _ _ _ [⟨9, 64, bs, false⟩] HTP.out HFW.out).mono ?_); rintro e w7 ⟨A7, m7, c7, rfl, hown, hm7, hb⟩; rw [HWS.out] at hown hm7; have e7 := hm7.trans HM'.out.symm; clear hm7; subst e7; have HB7 := Lib.hid (below_then HBA.out hb HBA.out.size); have HO7 := Lib.hid hown; have HW7 := Lib.hid (HWA.out.below hb); clear hown hb)
                | (go_at_call 35; (with_reducible refine (same16_any _ _ _ _ _ _ (wants bd z) HM'.out (by omega) HO7.out.reads HW7.out.reads).mono ?_); rintro e w8 ⟨rfl, hb⟩; have HB8 := Lib.hid (below_then HB7.out hb HB7.out.size); clear hb))
              go_ret
              exact ⟨rfl, HB8.out⟩
end Go.Proofs.Ytpgceeeokjadpaa.Code
