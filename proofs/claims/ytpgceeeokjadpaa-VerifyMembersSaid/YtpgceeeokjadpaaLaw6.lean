/- The walks of the laws of package code. Conditions: what comes in reads as bytes and items. -/
import Derived.Test.YtpgceeeokjadpaaRd3
namespace Go.Proofs.Ytpgceeeokjadpaa.Mem
open Go.RowKit Go.Joins Go.Proofs.Ytpgceeeokjadpaa.Crc
theorem WAt.below {T p : Nat} {w w' : World} {l : List UInt8} (h : WAt T w p l) (hb : Below w.heap.size w w') : WAt T w' p l :=
  (h.upd (Upd.ofBelow hb) (fun k hk => by have := h.foot_lt k hk; omega)).1
theorem WAt.below_foot {T p : Nat} {w w' : World} {l : List UInt8} (h : WAt T w p l) (hb : Below w.heap.size w w') : ∀ k, Foot w' p k → Foot w p k :=
  (h.upd (Upd.ofBelow hb) (fun k hk => by have := h.foot_lt k hk; omega)).2
theorem below_then {B : Nat} {w0 w w' : World} (h : Below B w0 w) (h' : Below w.heap.size w w') (hB : B ≤ w.heap.size) : Below B w0 w' := h.trans (h'.mono hB)
theorem below_upd {B : Nat} {S : Nat → Prop} {w0 w w' : World} (h : Below B w0 w) (hu : Upd S w w') (hs : ∀ k, S k → B ≤ k) (hB : B ≤ w.heap.size) : Below B w0 w' :=
  h.trans (hu.below (fun k _ hk => hs k hk) hB)
theorem CAt.below {w w' : World} {p : Nat} {s : Rs} (h : CAt w p s) (hb : Below w.heap.size w w') : CAt w' p s := by
  obtain ⟨hf, A, n, c, h1, h2, h3⟩ := h
  exact ⟨hf, A, n, c, (hb.block p (lt_of_block h1)).trans h1, h2.below hb, h3⟩
theorem RAt.below {w w' : World} {p : Nat} {s : Rs} (h : RAt w p s) (hb : Below w.heap.size w w') : RAt w' p s := by
  obtain ⟨hf, A, n, c, l, h1, h2, h3⟩ := h
  exact ⟨hf, A, n, c, l, (hb.block p (lt_of_block h1)).trans h1, h2.below hb, h3⟩
theorem at_ne {w : World} {p q : Nat} {s t : Rs} (h : CAt w p s) (h' : RAt w q t) : p ≠ q := by
  rintro rfl
  obtain ⟨_, A, n, c, h1, _⟩ := h
  obtain ⟨_, A', n', c', l', h2, _⟩ := h'
  unfold Two at h1 h2
  rw [h1] at h2
  simp at h2
theorem CAt.keep {w w' : World} {p q : Nat} {s t : Rs} (h : CAt w p s) (h' : RAt w q t) (hu : Upd (One q) w w') : CAt w' p s := by
  have hne := at_ne h h'
  obtain ⟨hf, A, n, c, h1, h2, h3⟩ := h
  obtain ⟨_, A', n', c', l', h1', _⟩ := h'
  obtain ⟨h4, h5⟩ := two_upd h1 h2 h1' hne hu
  exact ⟨hf, A, n, c, h4, h5, h3⟩
theorem RAt.keep {w w' : World} {p q : Nat} {s t : Rs} (h : RAt w q t) (h' : CAt w p s) (hu : Upd (One p) w w') : RAt w' q t := by
  have hne := at_ne h' h
  obtain ⟨hf, A, n, c, l, h1, h2, h3⟩ := h
  obtain ⟨_, A', n', c', h1', _⟩ := h'
  obtain ⟨h4, h5⟩ := two_upd h1 h2 h1' (Ne.symm hne) hu
  exact ⟨hf, A, n, c, l, h4, h5, h3⟩
theorem upd_below {w0 w w' : World} {p B : Nat} (hb : Below B w0 w) (hu : Upd (One p) w w') (hp : B ≤ p) (hs : B ≤ w.heap.size) : Below B w0 w' :=
  hb.trans (hu.below (fun k _ h => by unfold One at h; omega) hs)
/-- An item of a row. -/
structure It where
  way : Int
  n : Int
  s : ByteArray
def Items (w : World) (A : Option Addr) (n : Nat) (l : List It) : Prop :=
  l.length = n ∧ ∀ i (h : i < l.length), ∃ b o, A = some ⟨b, o, none⟩ ∧ w.cell? ⟨b, o + i * 3, none⟩ = some (.int .i64 l[i].way) ∧ w.cell? ⟨b, o + i * 3 + 1, none⟩ = some (.int .i64 l[i].n) ∧ w.cell? ⟨b, o + i * 3 + 2, none⟩ = some (.string l[i].s)
theorem cell_below {w w' : World} {a : Addr} {v : Value} (h : w.cell? a = some v) (hb : Below w.heap.size w w') : w'.cell? a = some v :=
  (hb.cell (World.block_lt_of_cell? _ _ h)).trans h
theorem Items.below {w w' : World} {A : Option Addr} {n : Nat} {l : List It} (h : Items w A n l) (hb : Below w.heap.size w w') : Items w' A n l := by
  refine ⟨h.1, fun i hi => ?_⟩
  obtain ⟨b, o, hA, h1, h2, h3⟩ := h.2 i hi
  exact ⟨b, o, hA, cell_below h1 hb, cell_below h2 hb, cell_below h3 hb⟩
end Go.Proofs.Ytpgceeeokjadpaa.Mem
namespace Go.Proofs.Ytpgceeeokjadpaa.Code
open Go.RowKit Go.Joins Go.Proofs.Ytpgceeeokjadpaa.Crc Go.Proofs.Ytpgceeeokjadpaa.Mem
set_option maxRecDepth 100000 in
theorem alive_any (w : World) : Calls Try.prog 13 #[] w fun e w' => e = .returned (.bool true) ∧ Below w.heap.size w w' := by
  have h258 : (⟨be4 258, false⟩ : Rs).int = 258 := by decide +kernel
  have H258 := Lib.hid h258
  have hleft : (((⟨be4 258, false⟩ : Rs).step 4).left : Int) = 0 := by decide +kernel
  have HLEFT := Lib.hid hleft
  clear h258 hleft
  have HW := Lib.hid (WAt.new 28 w).1
  go_enter Try.func13, Try.ntmps13
  go_wp2_with (first
    | (go_at_call 18; (with_reducible refine (wr_bytes _ _ 0 [] 28 HW.out rfl (by omega)).mono ?_); rintro e w1 ⟨A, c, rfl, hn⟩; have HB1 := Lib.hid ((Below.refl w.heap.size w).alloc (Nat.le_refl _) (.cells #[.slice none 0 0] 28) |>.trans (hn.2.mono (by simp))); have HW1 := Lib.hid (HW.out.below hn.2); have HF1 := Lib.hid (HW.out.below_foot hn.2); clear hn)
    | (go_at_call 16; (with_reducible refine (wint _ _ [] 258 HW1.out (by simp)).mono ?_); rintro e w2 ⟨rfl, hw, hu, _⟩; have HW2 := Lib.hid hw; have HU2 := Lib.hid hu; clear hw hu)
    | (go_at_call 18; (with_reducible refine (wr_bytes _ _ 4 ([] ++ be4 258) 28 HW2.out rfl (by omega)).mono ?_); rintro e w3 ⟨A, c, rfl, hn⟩; have HB3 := Lib.hid hn.2; have HS := Lib.hid hn.1.sl; clear hn)
    | (go_at_call 17; (with_reducible refine (rd_new _ _ _ _ _ HS.out (by omega)).mono ?_); rintro e w4 ⟨p, rfl, hp, hat, hb⟩; have HA := Lib.hid hat; have HB4 := Lib.hid hb; clear hat hb)
    | (go_at_call 20; (with_reducible refine (rd_int _ _ _ HA.out).mono ?_); rintro e w5 ⟨rfl, hat, hu⟩; have HA5 := Lib.hid hat; have HU5 := Lib.hid hu; rw [show ([] ++ be4 258 : List UInt8) = be4 258 from rfl, H258.out]; clear hat hu)
    | (go_at_call 21; (with_reducible refine (rd_left _ _ _ HA5.out).mono ?_); rintro e w6 ⟨rfl, rfl⟩; rw [show ([] ++ be4 258 : List UInt8) = be4 258 from rfl, HLEFT.out]))
  go_ret
  refine ⟨rfl, ?_⟩
  have b1 : Below w.heap.size w w1 := HB1.out
  have b2 := below_upd b1 HU2.out (fun k hk => by have := (WAt.new 28 w).2 k (HF1.out k hk); omega) b1.size
  have b3 := below_then b2 HB3.out b2.size
  have b4 := below_then b3 HB4.out b3.size
  exact below_upd b4 HU5.out (fun k hk => by unfold Mem.One at hk; have := b3.size; omega) b4.size
set_option maxHeartbeats 4000000 in
set_option maxRecDepth 100000 in
theorem reads_any (w : World) (A : Option Addr) (n c : Nat) (l : List UInt8) (h : Sl w A n c l) (hn : n ≤ 1000000000) (hc : c ≤ 9223372036854775807) (A2 : Option Addr) (n2 c2 : Nat) (its : List It) (h2 : Items w A2 n2 its) (hn2 : n2 ≤ 1000) :
    Calls Try.prog 14 #[.slice A n c, .slice A2 n2 c2] w fun e w' => e = .returned (.bool true) ∧ Below w.heap.size w w' := by
  have HS := Lib.hid h
  have HI := Lib.hid h2.2
  have HIT := Lib.hid h2
  have hlen := h2.1
  clear h h2
  go_enter Try.func14, Try.ntmps14
  go_wp2_with (first
    | (at_builtin; refine app_law rfl (.const (.slice none 0 0)) (.tmp 8) 22 rfl Try.underlying22 info5 rfl rfl (Own.nil _ w.heap.size) HS.out.1 HS.out.2.2 (by omega) (Nat.le_refl _) ?_; intro A3 c3 w3 own3 gr3 _; simp only [Nat.zero_add, List.nil_append] at own3 ⊢; have hb3 := (Below.refl w.heap.size w).grown gr3 (Nat.le_refl _) (by simp [blk]); have HS3 := Lib.hid own3.sl; have HB3 := Lib.hid hb3; clear own3 gr3 hb3)
    | (go_at_call 17; (with_reducible refine (rd_new _ _ _ _ l HS3.out (by omega)).mono ?_); rintro e w4 ⟨p, rfl, hp, hat, hb⟩; have hb4 := below_then HB3.out hb HB3.out.size; have HS4 := Lib.hid (HS.out.below hb4); have HP := Lib.hid (Nat.le_trans HB3.out.size hp); have HC0 := Lib.hid hat; have HB4 := Lib.hid hb4; clear hat hb hb4 hp)
    | (go_at_call 41; (with_reducible refine (rrd_new _ _ _ _ l HS4.out (by omega) (by omega)).mono ?_); rintro e w5 ⟨q, rfl, hq, hat, hb⟩; have hb5 := below_then HB4.out hb HB4.out.size; have HQ := Lib.hid (Nat.le_trans HB4.out.size hq); have HC5 := Lib.hid (HC0.out.below hb); have HR5 := Lib.hid hat; have HB5 := Lib.hid hb5; clear hat hb hb5 hq))
  go_loopw [7] (fun i wr => ∃ (k : Nat) (s : Rs), k ≤ n2 ∧ i = .int .i64 k ∧ CAt wr p s ∧ RAt wr q s ∧ Below w.heap.size w wr) (fun i _ => n2 - (intOf i).toNat)
  case atStart => exact ⟨0, _, Nat.zero_le _, rfl, HC5.out, HR5.out, HB5.out⟩
  case round =>
    obtain ⟨k, s, hk, rfl, hcat, hrat, hbel⟩ := hrel
    rename_i wr _
    have HC := Lib.hid hcat
    have HR := Lib.hid hrat
    have HB := Lib.hid hbel
    have hp := HP.out
    have hq := HQ.out
    clear hcat hrat
    by_cases hlt : k < n2
    · obtain ⟨b, o, rfl, h1, h2, h3⟩ := HI.out k (by omega)
      obtain ⟨y, hy⟩ : ∃ y, y = its[k] := ⟨_, rfl⟩
      rw [← hy] at h1 h2 h3
      have g1 := cell_below h1 hbel
      have G0 := Lib.hid h1
      clear h1 h2 h3 hy hbel
      by_cases e0 : y.way = 0
      · have t0 : (y.way == 0) = true := beq_iff_eq.mpr e0
        have t1 : (y.way == 1) = false := beq_eq_false_iff_ne.mpr (by omega)
        have t2 : (y.way == 2) = false := beq_eq_false_iff_ne.mpr (by omega)
        clear e0
        go_wp2_with (first
          | (go_at_call 20; (with_reducible refine (rd_int _ _ s HC.out).mono ?_); rintro e w1 ⟨rfl, hat, hu⟩; have HR1 := Lib.hid (HR.out.keep HC.out hu); have HC1 := Lib.hid hat; have HB1 := Lib.hid (below_upd HB.out hu (fun k hk => by unfold Mem.One at hk; omega) HB.out.size); clear hat hu)
          | (go_at_call 42; (with_reducible refine (rrd_int _ _ s HR1.out).mono ?_); rintro e w2 ⟨rfl, hat, hu⟩; have HC2 := Lib.hid (HC1.out.keep HR1.out hu); have HR2 := Lib.hid hat; have HB2 := Lib.hid (below_upd HB1.out hu (fun k hk => by unfold Mem.One at hk; omega) HB1.out.size); have g2 := cell_below G0.out HB2.out; clear hat hu)
          | (go_at_call 21; (with_reducible refine (rd_left _ _ _ HC2.out).mono ?_); rintro e w6 ⟨rfl, rfl⟩)
          | (go_at_call 46; (with_reducible refine (rrd_left _ _ _ HR2.out).mono ?_); rintro e w6 ⟨rfl, rfl⟩)
          | (go_at_call 22; (with_reducible refine (rd_bad _ _ _ HC2.out).mono ?_); rintro e w6 ⟨rfl, rfl⟩)
          | (go_at_call 47; (with_reducible refine (rrd_bad _ _ _ HR2.out).mono ?_); rintro e w6 ⟨rfl, rfl⟩))
        go_roundw
        case rel => exact ⟨k + 1, s.step 4, by omega, by go_num, HC2.out, HR2.out, HB2.out⟩
        case measure => simp [intOf]; omega
      by_cases e1 : y.way = 1
      · have t0 : (y.way == 0) = false := beq_eq_false_iff_ne.mpr (by omega)
        have t1 : (y.way == 1) = true := beq_iff_eq.mpr e1
        have t2 : (y.way == 2) = false := beq_eq_false_iff_ne.mpr (by omega)
        clear e0 e1
        go_wp2_with (first
          | (go_at_call 43; (with_reducible refine (rd_byte _ _ s HC.out).mono ?_); rintro e w1 ⟨rfl, hat, hu⟩; have HR1 := Lib.hid (HR.out.keep HC.out hu); have HC1 := Lib.hid hat; have HB1 := Lib.hid (below_upd HB.out hu (fun k hk => by unfold Mem.One at hk; omega) HB.out.size); clear hat hu)
          | (go_at_call 44; (with_reducible refine (rrd_byte _ _ s HR1.out).mono ?_); rintro e w2 ⟨rfl, hat, hu⟩; have HC2 := Lib.hid (HC1.out.keep HR1.out hu); have HR2 := Lib.hid hat; have HB2 := Lib.hid (below_upd HB1.out hu (fun k hk => by unfold Mem.One at hk; omega) HB1.out.size); have g2 := cell_below G0.out HB2.out; clear hat hu)
          | (go_at_call 21; (with_reducible refine (rd_left _ _ _ HC2.out).mono ?_); rintro e w6 ⟨rfl, rfl⟩)
          | (go_at_call 46; (with_reducible refine (rrd_left _ _ _ HR2.out).mono ?_); rintro e w6 ⟨rfl, rfl⟩)
          | (go_at_call 22; (with_reducible refine (rd_bad _ _ _ HC2.out).mono ?_); rintro e w6 ⟨rfl, rfl⟩)
          | (go_at_call 47; (with_reducible refine (rrd_bad _ _ _ HR2.out).mono ?_); rintro e w6 ⟨rfl, rfl⟩))
        go_roundw
        case rel => exact ⟨k + 1, s.step 1, by omega, by go_num, HC2.out, HR2.out, HB2.out⟩
        case measure => simp [intOf]; omega
      by_cases e2 : y.way = 2
      · have t0 : (y.way == 0) = false := beq_eq_false_iff_ne.mpr (by omega)
        have t1 : (y.way == 1) = false := beq_eq_false_iff_ne.mpr (by omega)
        have t2 : (y.way == 2) = true := beq_iff_eq.mpr e2
        clear e0 e1 e2
        go_wp2_with (first
          | (go_at_call 19; (with_reducible refine (rd_text _ _ s HC.out).mono ?_); rintro e w1 ⟨rfl, hat, hu⟩; have HR1 := Lib.hid (HR.out.keep HC.out hu); have HC1 := Lib.hid hat; have HB1 := Lib.hid (below_upd HB.out hu (fun k hk => by unfold Mem.One at hk; omega) HB.out.size); clear hat hu)
          | (go_at_call 45; (with_reducible refine (rrd_text _ _ s HR1.out).mono ?_); rintro e w2 ⟨rfl, hat, hu⟩; have HC2 := Lib.hid (HC1.out.keep HR1.out hu); have HR2 := Lib.hid hat; have HB2 := Lib.hid (below_upd HB1.out hu (fun k hk => by unfold Mem.One at hk; omega) HB1.out.size); have g2 := cell_below G0.out HB2.out; clear hat hu)
          | (go_at_call 21; (with_reducible refine (rd_left _ _ _ HC2.out).mono ?_); rintro e w6 ⟨rfl, rfl⟩)
          | (go_at_call 46; (with_reducible refine (rrd_left _ _ _ HR2.out).mono ?_); rintro e w6 ⟨rfl, rfl⟩)
          | (go_at_call 22; (with_reducible refine (rd_bad _ _ _ HC2.out).mono ?_); rintro e w6 ⟨rfl, rfl⟩)
          | (go_at_call 47; (with_reducible refine (rrd_bad _ _ _ HR2.out).mono ?_); rintro e w6 ⟨rfl, rfl⟩))
        go_roundw
        case rel => exact ⟨k + 1, s.text', by omega, by go_num, HC2.out, HR2.out, HB2.out⟩
        case measure => simp [intOf]; omega
      · have t0 : (y.way == 0) = false := beq_eq_false_iff_ne.mpr (by omega)
        have t1 : (y.way == 1) = false := beq_eq_false_iff_ne.mpr (by omega)
        have t2 : (y.way == 2) = false := beq_eq_false_iff_ne.mpr (by omega)
        clear e0 e1 e2
        have HC2 := HC
        have HR2 := HR
        go_wp2_with (first
          | (go_at_call 21; (with_reducible refine (rd_left _ _ _ HC2.out).mono ?_); rintro e w6 ⟨rfl, rfl⟩)
          | (go_at_call 46; (with_reducible refine (rrd_left _ _ _ HR2.out).mono ?_); rintro e w6 ⟨rfl, rfl⟩)
          | (go_at_call 22; (with_reducible refine (rd_bad _ _ _ HC2.out).mono ?_); rintro e w6 ⟨rfl, rfl⟩)
          | (go_at_call 47; (with_reducible refine (rrd_bad _ _ _ HR2.out).mono ?_); rintro e w6 ⟨rfl, rfl⟩))
        go_roundw
        case rel => exact ⟨k + 1, s, by omega, by go_num, HC2.out, HR2.out, HB.out⟩
        case measure => simp [intOf]; omega
    · clear hbel
      go_wp2
      go_ret
      exact ⟨rfl, HB.out⟩
end Go.Proofs.Ytpgceeeokjadpaa.Code
