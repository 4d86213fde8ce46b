/- How many members of a group are harmed, by the reference. Conditions: the tapes are few, their blocks short. -/
import Derived.Test.YtpgceeeokjadpaaVer6
namespace Go.Proofs.Ytpgceeeokjadpaa.Code
open Go.RowKit Go.Joins Go.Proofs.Ytpgceeeokjadpaa.Crc Go.Proofs.Ytpgceeeokjadpaa.Mem
theorem tb_put' {w : World} {q : Nat} {t : Tp} {A : Option Addr} {n c : Nat} (x y : Int) (bs : List (List UInt8)) (A' : Option Addr) (n' c' : Nat) (b : Bool) (h : Tb w q t A n c) : Tb (tput w q x y A' n' c' b) q ⟨x, y, bs, b⟩ A' n' c' := tb_put ⟨x, y, bs, b⟩ A' n' c' h
def MemPost (w : World) (t : Tp) (e : Ending) (w' : World) : Prop := ∃ A n c, e = .returned (tv t A n c) ∧ Blks w' A n c t.blocks ∧ Below w.heap.size w w'
theorem mem_post {w w' : World} {t : Tp} {x y : Int} {bs : List (List UInt8)} {b : Bool} {A : Option Addr} {n c : Nat} (ht : t = ⟨x, y, bs, b⟩) (hs : Blks w' A n c bs) (hb : Below w.heap.size w w') : MemPost w t (.returned (tv ⟨x, y, bs, b⟩ A n c)) w' := by
  subst ht
  exact ⟨A, n, c, rfl, hs, hb⟩
set_option maxHeartbeats 8000000 in
set_option maxRecDepth 100000 in
theorem member_any (w : World) (A : Option Addr) (n c : Nat) (l : List Tp) (h : Tps w A n l) (hn : n ≤ 1000000) (a b c1 d : Int) (A2 : Option Addr) (n2 c2 : Nat) (xs : List Int) (hx : Ints w A2 n2 xs) (_hn2 : n2 ≤ 1000000) (k : Nat) (hk : k < n2) (x : Int) (hxk : xs[k]? = some x) :
    Calls Try.prog 60 #[.slice A n c, sealv a b c1 d A2 n2 c2, .int .i64 (k : Int)] w fun e w' => MemPost w (mt l x) e w' := by
  have hb1 := (Below.refl w.heap.size w).alloc (Nat.le_refl _) (.cells #[.int .i64 a, .int .i64 b, .int .i64 c1, .int .i64 d, .slice A2 n2 c2] 75)
  have hb2 := hb1.alloc hb1.size (.cells #[.int .i64 0, .int .i64 0, .slice none 0 0, .bool false] 65)
  obtain ⟨b2, o2, x', rfl, hx', hc⟩ := hx.at k hk
  rw [hxk] at hx'
  injection hx' with hx'
  subst hx'
  have hlen := h.1
  have HB := Lib.hid hb2
  have HT0 := Lib.hid h
  have HT := Lib.hid (h.below hb2)
  have hcell := (hb2.cell (World.block_lt_of_cell? _ _ hc)).trans hc
  have hseal := (Below.refl _ _).alloc (Nat.le_refl _) (.cells #[.int .i64 0, .int .i64 0, .slice none 0 0, .bool false] 65) |>.block w.heap.size (by simp) |>.trans (heap_alloc_new w (.cells #[.int .i64 a, .int .i64 b, .int .i64 c1, .int .i64 d, .slice (some ⟨b2, o2, none⟩) n2 c2] 75))
  have HSB : Hid (Sb _ w.heap.size a b c1 d (some ⟨b2, o2, none⟩) n2 c2) := hseal
  have HC := Lib.hid hcell
  have HZ : Hid (Tb ((w.alloc (.cells #[.int .i64 a, .int .i64 b, .int .i64 c1, .int .i64 d, .slice (some ⟨b2, o2, none⟩) n2 c2] 75)).alloc (.cells #[.int .i64 0, .int .i64 0, .slice none 0 0, .bool false] 65)) (w.heap.size + 1) ⟨0, 0, [], false⟩ none 0 0) := heap2 _ _ _
  obtain ⟨r, hr⟩ : ∃ r, r = idxI l x := ⟨_, rfl⟩
  have HR := Lib.hid hr
  clear hx hxk hc hb1 hb2 hseal hcell
  unfold sealv
  by_cases hi : idx l x < n
  · obtain ⟨b3, o3, A1, n1, c3, t, rfl, hkt, k0, k1, k2, k3, hblk⟩ := tps_at h (idx l x) hi
    have HM : Hid (mt l x = t) := mt_some hkt
    obtain ⟨j, hj⟩ : ∃ j, j = idx l x := ⟨_, rfl⟩
    rw [← hj] at hi k0 k1 k2 k3
    obtain rfl : r = (j : Int) := by rw [hr, hj]; unfold idxI; rw [if_pos (by omega)]
    have HK0 := Lib.hid k0; have HK1 := Lib.hid k1; have HK2 := Lib.hid k2; have HK3 := Lib.hid k3
    have HBLK := Lib.hid hblk
    have hcell := HC.out
    obtain ⟨s0, s1, s2, s3, s4⟩ := HSB.out.cells
    clear h hr hkt hj k0 k1 k2 k3 hblk
    go_enter Try.func60, Try.ntmps60
    go_wp2_with (go_at_call 67; (with_reducible refine (at_any _ _ _ _ l HT.out hn x).mono ?_); rintro e w2 ⟨rfl, hb⟩; rw [← HR.out]; have HB2 := Lib.hid (below_then HB.out hb HB.out.size); have k0 := (HB2.out.cell (World.block_lt_of_cell? _ _ HK0.out)).trans HK0.out; have k1 := (HB2.out.cell (World.block_lt_of_cell? _ _ HK1.out)).trans HK1.out; have k2 := (HB2.out.cell (World.block_lt_of_cell? _ _ HK2.out)).trans HK2.out; have k3 := (HB2.out.cell (World.block_lt_of_cell? _ _ HK3.out)).trans HK3.out; have hz := HZ.out.below hb; have HZ2 := Lib.hid hz; have z0 := unfrozen_of_block hz 0; have z1 := unfrozen_of_block hz 1; have z2 := unfrozen_of_block hz 2; have z3 := unfrozen_of_block hz 3; obtain ⟨y0, y1, y2, y3⟩ := hz.cells; clear hb hz)
    have hfin := tput_below t.label t.cap A1 n1 c3 t.lost HB2.out (Nat.le_succ _)
    refine mem_ret (p := 6) (q := w.heap.size + 1) (t := t) (A := A1) (n := n1) (c := c3) ?_ ?_ ?_ ?_ ?_
    · rfl
    · rfl
    · rfl
    · with_reducible exact tb_put t A1 n1 c3 HZ2.out
    · exact mem_post HM.out (HBLK.out.below hfin) hfin
  · have HM : Hid (mt l x = ⟨x, 0, [], true⟩) := mt_none (List.getElem?_eq_none (by omega))
    obtain rfl : r = -1 := by rw [hr]; unfold idxI; rw [if_neg (by omega)]
    have hcell := HC.out
    obtain ⟨s0, s1, s2, s3, s4⟩ := HSB.out.cells
    clear h hr
    go_enter Try.func60, Try.ntmps60
    go_wp2_with (go_at_call 67; (with_reducible refine (at_any _ _ _ _ l HT.out hn x).mono ?_); rintro e w2 ⟨rfl, hb⟩; rw [← HR.out]; have HB2 := Lib.hid (below_then HB.out hb HB.out.size); have hz := HZ.out.below hb; have HZ2 := Lib.hid hz; have z0 := unfrozen_of_block hz 0; have z1 := unfrozen_of_block hz 1; have z2 := unfrozen_of_block hz 2; have z3 := unfrozen_of_block hz 3; obtain ⟨y0, y1, y2, y3⟩ := hz.cells; have hc2 := (hb.cell (World.block_lt_of_cell? _ _ HC.out)).trans HC.out; obtain ⟨r0, r1, r2, r3, r4⟩ := (HSB.out.below hb).cells; clear hb hz)
    have hfin := tput_below x 0 none 0 0 true HB2.out (Nat.le_succ _)
    refine mem_ret (p := 6) (q := w.heap.size + 1) (t := ⟨x, 0, [], true⟩) (A := none) (n := 0) (c := 0) ?_ ?_ ?_ ?_ ?_
    · rfl
    · rfl
    · rfl
    · with_reducible exact tb_put' x 0 [] none 0 0 true HZ2.out
    · exact mem_post HM.out (Blks.nil _) hfin
def MemPostL (w : World) (t : Tp) (lo : Bool) (e : Ending) (w' : World) : Prop := ∃ A n c, e = .returned (.agg #[.int .i64 t.label, .int .i64 t.cap, .slice A n c, .bool lo]) ∧ Blks w' A n c t.blocks ∧ Below w.heap.size w w'
theorem member_lo (w : World) (A : Option Addr) (n c : Nat) (l : List Tp) (h : Tps w A n l) (hn : n ≤ 1000000) (a b c1 d : Int) (A2 : Option Addr) (n2 c2 : Nat) (xs : List Int) (hx : Ints w A2 n2 xs) (hn2 : n2 ≤ 1000000) (k : Nat) (hk : k < n2) (x : Int) (hxk : xs[k]? = some x) (t : Tp) (ht : t = Crc.mt l x) (lo : Bool) (hlo : lo = t.lost) :
    Calls Try.prog 60 #[.slice A n c, sealv a b c1 d A2 n2 c2, .int .i64 (k : Int)] w fun e w' => MemPostL w t lo e w' := by
  subst ht hlo
  exact (member_any w A n c l h hn a b c1 d A2 n2 c2 xs hx hn2 k hk x hxk).mono (fun _ _ hp => hp)
theorem bad_lo (w : World) (t : Tp) (lo : Bool) (hlo : lo = t.lost) (A : Option Addr) (n c : Nat) (h : Blks w A n c t.blocks) (h3 : ∀ b ∈ t.blocks, b.length ≤ 300) (hn : n ≤ 1000000) :
    Calls Try.prog 58 #[.agg #[.int .i64 t.label, .int .i64 t.cap, .slice A n c, .bool lo]] w fun e w' => BadPost w (badsOf t) e w' := by
  subst hlo
  exact bad_any w t A n c h h3 hn
set_option maxHeartbeats 8000000 in
set_option maxRecDepth 100000 in
theorem rlost_any (w : World) (A : Option Addr) (n c : Nat) (l : List Tp) (h : Tps w A n l) (hf : FewT l) (a b c1 d : Int) (A2 : Option Addr) (n2 c2 : Nat) (xs : List Int) (hx : Ints w A2 n2 xs) (hn2 : n2 ≤ 1000000) :
    Calls Try.prog 40 #[.slice A n c, sealv a b c1 d A2 n2 c2] w fun e w' => e = .returned (.int .i64 (hurts l xs : Int)) ∧ Below w.heap.size w w' := by
  have hn : n ≤ 1000000 := by have := wt_ge l; have := hf.1; have := h.1; omega
  have hb := (Below.refl w.heap.size w).alloc (Nat.le_refl _) (.cells #[.int .i64 a, .int .i64 b, .int .i64 c1, .int .i64 d, .slice A2 n2 c2] 75)
  have HB0 := Lib.hid hb
  have HSB0 : Hid (Sb _ w.heap.size a b c1 d A2 n2 c2) := heap_alloc_new w (.cells #[.int .i64 a, .int .i64 b, .int .i64 c1, .int .i64 d, .slice A2 n2 c2] 75)
  have HT := Lib.hid h
  have HX := Lib.hid hx
  have HF := Lib.hid hf
  have hlen := hx.1
  clear h hf hb hx
  unfold sealv
  go_enter Try.func40, Try.ntmps40
  go_wp2
  go_loopw [5, 6] (fun m i wr => ∃ (k m' : Nat), k ≤ n2 ∧ i = .int .i64 (k : Int) ∧ m = .int .i64 (m' : Int) ∧ m' = hurts l (xs.take k) ∧ Hid (Below w.heap.size w wr) ∧ Hid (Sb wr w.heap.size a b c1 d A2 n2 c2)) (fun _ i _ => n2 - (intOf i).toNat)
  case atStart => exact ⟨0, 0, Nat.zero_le _, rfl, rfl, rfl, HB0, HSB0⟩
  case round =>
    obtain ⟨k, m', hk, rfl, rfl, hm, HB, HSB⟩ := hrel
    have hmn : m' ≤ n2 := by rw [hm]; have := hurts_le l (xs.take k); rw [List.length_take] at this; omega
    have HM := Lib.hid hm
    clear hm
    obtain ⟨s0, s1, s2, s3, s4⟩ := HSB.out.cells
    by_cases hkn : k < n2
    · obtain ⟨b2, o2, x, rfl, hxk, hc⟩ := HX.out.at k hkn
      clear hc
      have HXK := Lib.hid hxk
      have HS := Lib.hid (hurts_take (l := l) hxk)
      obtain ⟨t, ht⟩ : ∃ t, t = Crc.mt l x := ⟨_, rfl⟩
      have HMT := Lib.hid ht
      have HMF : Hid (∀ b ∈ t.blocks, b.length ≤ 300) := by
        unfold Hid
        rw [ht]
        unfold Crc.mt
        split
        · rename_i t' ht'; exact HF.out.2 _ (List.mem_of_getElem? ht')
        · intro b hb; simp at hb
      have HMW : Hid (t.blocks.length ≤ 1000000) := by
        unfold Hid
        rw [ht]
        unfold Crc.mt
        split
        · rename_i t' ht'; have := wt_mem (List.mem_of_getElem? ht'); have := HF.out.1; omega
        · simp
      have hh : hurt l x = (t.lost || !(badsOf t).isEmpty) := by rw [ht]; rfl
      clear hxk ht
      obtain ⟨lo, hlo⟩ : ∃ lo, lo = t.lost := ⟨_, rfl⟩
      cases lo with
      | true =>
        have HLO := Lib.hid hlo
        have HS2 : Hid (hurts l (xs.take (k + 1)) = hurts l (xs.take k) + 1) := by unfold Hid; rw [HS.out, hh, ← hlo]; rfl
        clear hh hlo
        go_wp2_with (go_at_call 60; (with_reducible refine (member_lo _ _ _ _ l (HT.out.below HB.out) hn a b c1 d _ n2 c2 xs (HX.out.below HB.out) hn2 k hkn x HXK.out t HMT.out _ HLO.out).mono ?_); rintro e w2 ⟨A4, n4, c4, rfl, _, hb⟩; have hb' := hb.alloc hb.size (.cells #[.int .i64 t.label, .int .i64 t.cap, .slice A4 n4 c4, .bool true] 65); have HB2 := Lib.hid (below_then HB.out hb' HB.out.size); have HSB2 := Lib.hid (HSB.out.below hb'); clear hb hb')
        go_roundw
        case rel => exact ⟨k + 1, m' + 1, by omega, by go_num, by go_num, by rw [HS2.out, ← HM.out], HB2, HSB2⟩
        case measure => simp [intOf]; omega
      | false =>
        have HLO := Lib.hid hlo
        by_cases hbe : (badsOf t).length = 0
        · have HBE := Lib.hid hbe
          have HS2 : Hid (hurts l (xs.take (k + 1)) = hurts l (xs.take k)) := by unfold Hid; rw [HS.out, hh, ← hlo, List.length_eq_zero_iff.1 hbe]; rfl
          clear hh hlo hbe
          go_wp2_with (first
            | (go_at_call 60; (with_reducible refine (member_lo _ _ _ _ l (HT.out.below HB.out) hn a b c1 d _ n2 c2 xs (HX.out.below HB.out) hn2 k hkn x HXK.out t HMT.out _ HLO.out).mono ?_); rintro e w2 ⟨A4, n4, c4, rfl, hblk, hb⟩; have hb' := hb.alloc hb.size (.cells #[.int .i64 t.label, .int .i64 t.cap, .slice A4 n4 c4, .bool false] 65); have hn4 : n4 ≤ 1000000 := (by rw [← hblk.len]; exact HMW.out); have HBLK := Lib.hid (hblk.below ((Below.refl _ _).alloc (Nat.le_refl _) (.cells #[.int .i64 t.label, .int .i64 t.cap, .slice A4 n4 c4, .bool false] 65))); have HB2 := Lib.hid (below_then HB.out hb' HB.out.size); have HSB2 := Lib.hid (HSB.out.below hb'); clear hb hb' hblk)
            | (go_at_call 58; (with_reducible refine (bad_lo _ t _ HLO.out _ _ _ HBLK.out HMF.out hn4).mono ?_); rintro e w3 ⟨A5, m5, c5, rfl, hown, hm5, hb⟩; rw [HBE.out] at hm5; subst hm5; have HB3 := Lib.hid (below_then HB2.out hb HB2.out.size); have HSB3 := Lib.hid (HSB2.out.below hb); clear hown hb))
          go_roundw
          case rel => exact ⟨k + 1, m', by omega, by go_num, rfl, by rw [HS2.out, ← HM.out], HB3, HSB3⟩
          case measure => simp [intOf]; omega
        · have HS2 : Hid (hurts l (xs.take (k + 1)) = hurts l (xs.take k) + 1) := by
            unfold Hid; rw [HS.out, hh, ← hlo]
            cases hz : badsOf t with
            | nil => rw [hz] at hbe; exact absurd rfl hbe
            | cons z zs => rfl
          have HBE : Hid (0 < (badsOf t).length) := Nat.pos_of_ne_zero hbe
          clear hh hlo hbe
          go_wp2_with (first
            | (go_at_call 60; (with_reducible refine (member_lo _ _ _ _ l (HT.out.below HB.out) hn a b c1 d _ n2 c2 xs (HX.out.below HB.out) hn2 k hkn x HXK.out t HMT.out _ HLO.out).mono ?_); rintro e w2 ⟨A4, n4, c4, rfl, hblk, hb⟩; have hb' := hb.alloc hb.size (.cells #[.int .i64 t.label, .int .i64 t.cap, .slice A4 n4 c4, .bool false] 65); have hn4 : n4 ≤ 1000000 := (by rw [← hblk.len]; exact HMW.out); have HBLK := Lib.hid (hblk.below ((Below.refl _ _).alloc (Nat.le_refl _) (.cells #[.int .i64 t.label, .int .i64 t.cap, .slice A4 n4 c4, .bool false] 65))); have HB2 := Lib.hid (below_then HB.out hb' HB.out.size); have HSB2 := Lib.hid (HSB.out.below hb'); clear hb hb' hblk)
            | (go_at_call 58; (with_reducible refine (bad_lo _ t _ HLO.out _ _ _ HBLK.out HMF.out hn4).mono ?_); rintro e w3 ⟨A5, m5, c5, rfl, hown, hm5, hb⟩; have hpos : 0 < m5 := (by rw [hm5]; exact HBE.out); have HB3 := Lib.hid (below_then HB2.out hb HB2.out.size); have HSB3 := Lib.hid (HSB2.out.below hb); clear hown hb hm5))
          go_roundw
          case rel => exact ⟨k + 1, m' + 1, by omega, by go_num, by go_num, by rw [HS2.out, ← HM.out], HB3, HSB3⟩
          case measure => simp [intOf]; omega
    · obtain rfl : k = n2 := by omega
      have HE : Hid ((m' : Int) = (hurts l xs : Int)) := by unfold Hid; rw [HM.out, List.take_of_length_le (by omega)]
      go_wp2
      go_ret
      exact ⟨ret_int HE.out, HB.out⟩
end Go.Proofs.Ytpgceeeokjadpaa.Code
