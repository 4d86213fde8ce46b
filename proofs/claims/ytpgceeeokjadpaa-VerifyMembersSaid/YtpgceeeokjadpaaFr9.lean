/- What the reference's GetFrame reads. Conditions: the row is short of 2^47 bytes. -/
import Derived.Test.YtpgceeeokjadpaaFr8
import Derived.Test.YtpgceeeokjadpaaFr5
namespace Go.Proofs.Ytpgceeeokjadpaa.Mem
open Go.RowKit Go.Joins Go.Proofs.Ytpgceeeokjadpaa.Crc Go.Proofs.Ytpgceeeokjadpaa.Code
/-- As Gt, of the reference's reader. -/
structure Gr (w0 w : World) (q0 q1 p : Nat) (s : Rs) (u : Un) (A : Option Addr) (n c : Nat) : Prop where
  below : Below w0.heap.size w0 w
  zero : Ub w q0 Un.zero none 0 0
  unit : Ub w q1 u A n c
  cat : RAt w p s
  n0 : w0.heap.size ≤ q0
  n1 : w0.heap.size ≤ q1
  np : w0.heap.size ≤ p
  ne : q0 ≠ q1
namespace Gr
variable {w0 w w' : World} {q0 q1 p : Nat} {s s' : Rs} {u u' : Un} {A A' : Option Addr} {n c n' c' : Nat}
theorem read (h : Gr w0 w q0 q1 p s u A n c) (hr : Reading RAt w p s' w') : Gr w0 w' q0 q1 p s' u A n c :=
  ⟨below_upd h.below hr.2 (fun k hk => by unfold One at hk; have := h.np; omega) h.below.size, ub_upd h.zero hr.2 (fun e => h.cat.ne h.zero e.symm), ub_upd h.unit hr.2 (fun e => h.cat.ne h.unit e.symm), hr.1, h.n0, h.n1, h.np, h.ne⟩
theorem set {i : Nat} {v : Value} (h : Gr w0 w q0 q1 p s u A n c)
    (he : (#[Value.int .i64 u.kind, .int .i64 u.label, .int .i64 u.number, .slice A n c] : Array Value).setIfInBounds i v = #[.int .i64 u'.kind, .int .i64 u'.label, .int .i64 u'.number, .slice A' n' c']) :
    Gr w0 (w.setCell ⟨q1, i, none⟩ v) q0 q1 p s u' A' n' c' :=
  have hu := upd_set w q1 i v
  ⟨below_upd h.below hu (fun k hk => by unfold One at hk; have := h.n1; omega) h.below.size, ub_upd h.zero hu (fun e => h.ne e), ub_set h.unit he, h.cat.far h.unit hu, h.n0, h.n1, h.np, h.ne⟩
theorem later (h : Gr w0 w q0 q1 p s u A n c) (hb : Below w.heap.size w w') : Gr w0 w' q0 q1 p s u A n c :=
  ⟨below_then h.below hb h.below.size, h.zero.below hb, h.unit.below hb, h.cat.below hb, h.n0, h.n1, h.np, h.ne⟩
end Gr
theorem Gr.new {w0 w : World} {q0 p : Nat} {s : Rs} {u : Un} (hb : Below w0.heap.size w0 w) (hz : Ub w q0 Un.zero none 0 0) (hc : RAt w p s) (h0 : w0.heap.size ≤ q0) (hp : w0.heap.size ≤ p) :
    Gr w0 (w.alloc (.cells #[.int .i64 u.kind, .int .i64 u.label, .int .i64 u.number, .slice none 0 0] 45)) q0 w.heap.size p s u none 0 0 :=
  have hb2 := (Below.refl w.heap.size w).alloc (Nat.le_refl _) (.cells #[.int .i64 u.kind, .int .i64 u.label, .int .i64 u.number, .slice none 0 0] 45)
  ⟨below_then hb hb2 hb.size, hz.below hb2, Ub.new w u none 0 0, hc.below hb2, h0, hb.size, hp, fun e => by have := lt_of_block hz; omega⟩
end Go.Proofs.Ytpgceeeokjadpaa.Mem
namespace Go.Proofs.Ytpgceeeokjadpaa.Code
open Go.RowKit Go.Joins Go.Proofs.Ytpgceeeokjadpaa.Crc Go.Proofs.Ytpgceeeokjadpaa.Mem
theorem chk_cases (u : Un) : chk u = 0 ∨ chk u = 1 ∨ chk u = 4 := by
  unfold chk
  split
  · exact .inr (.inl rfl)
  · split
    · exact .inr (.inl rfl)
    · split
      · exact .inr (.inr rfl)
      · exact .inl rfl
theorem putref_any (w : World) (u : Un) (A : Option Addr) (n c : Nat) (hs : Sl w A n c u.load) : Calls Try.prog 29 #[uv u A n c] w fun e w' => PutPost w u e w' := by
  rcases chk_cases u with h | h | h
  · exact putref_ok w u A n c hs h
  · exact putref_bad w u A n c hs.len h
  · exact putref_long w u A n c hs.len h
theorem step_bad_of (s : Rs) (k : Nat) (h : s.bad = true ∨ s.left < k) : (s.step k).bad = true := by
  have : s.ok k = false := by
    unfold Rs.ok
    rcases h with h | h
    · rw [h]; rfl
    · unfold Rs.left at h; rw [decide_eq_false (by omega), Bool.and_false]
  unfold Rs.step; rw [this]; rfl
theorem step_ok_of (s : Rs) (k : Nat) (h : s.bad = false) (h2 : k ≤ s.left) : (s.step k).bad = false := by
  have : s.ok k = true := by unfold Rs.ok Rs.left at *; rw [h, decide_eq_true h2]; rfl
  unfold Rs.step; rw [this]; rfl
set_option maxHeartbeats 4000000 in
set_option maxRecDepth 100000 in
theorem getref_any (w : World) (A : Option Addr) (n c : Nat) (l : List UInt8) (h : Sl w A n c l) (hn : n ≤ 140737488351232) (hcap : c ≤ 9223372036854775807) :
    Calls Try.prog 31 #[.slice A n c] w fun e w' => GetPost w l e w' := by
  have hb0 := (Below.refl w.heap.size w).alloc (Nat.le_refl _) (.cells #[.int .i64 0, .int .i64 0, .int .i64 0, .slice none 0 0] 45)
  have HS0 := Lib.hid (h.below hb0)
  have HSl := Lib.hid h
  have HB0 := Lib.hid hb0
  have HZ0 : Hid (Ub (w.alloc (.cells #[.int .i64 0, .int .i64 0, .int .i64 0, .slice none 0 0] 45)) w.heap.size Un.zero none 0 0) := Ub.new w Un.zero none 0 0
  clear h hb0
  obtain ⟨s0, hs0⟩ : ∃ s : Rs, s = ⟨l, false⟩ := ⟨_, rfl⟩
  obtain ⟨k0, hk0⟩ : ∃ k, k = s0.byte := ⟨_, rfl⟩
  obtain ⟨s1, hs1⟩ : ∃ s : Rs, s = s0.step 1 := ⟨_, rfl⟩
  obtain ⟨lab, hlab⟩ : ∃ k, k = s1.int := ⟨_, rfl⟩
  obtain ⟨s2, hs2⟩ : ∃ s : Rs, s = s1.step 4 := ⟨_, rfl⟩
  obtain ⟨num, hnum⟩ : ∃ k, k = s2.int := ⟨_, rfl⟩
  obtain ⟨s3, hs3⟩ : ∃ s : Rs, s = s2.step 4 := ⟨_, rfl⟩
  obtain ⟨b1, hb1⟩ : ∃ k, k = s3.byte := ⟨_, rfl⟩
  obtain ⟨s4, hs4⟩ : ∃ s : Rs, s = s3.step 1 := ⟨_, rfl⟩
  obtain ⟨b2, hb2⟩ : ∃ k, k = s4.byte := ⟨_, rfl⟩
  obtain ⟨s5, hs5⟩ : ∃ s : Rs, s = s4.step 1 := ⟨_, rfl⟩
  obtain ⟨size, hsize⟩ : ∃ k, k = b1.toNat * 256 + b2.toNat := ⟨_, rfl⟩
  obtain ⟨ld, hld⟩ : ∃ k, k = s5.got size := ⟨_, rfl⟩
  obtain ⟨s6, hs6⟩ : ∃ s : Rs, s = s5.step size := ⟨_, rfl⟩
  have hprs : Hid (prs l = (⟨K k0, lab, num, ld⟩, s6)) := by unfold Hid prs; rw [hs6, hld, hsize, hs5, hb2, hs4, hb1, hs3, hnum, hs2, hlab, hs1, hk0, hs0]
  have hsl : size ≤ 65535 := by have := b1.toNat_lt; have := b2.toNat_lt; omega
  have HO : Hid (256 * K b1 + K b2 = (size : Int)) := by unfold Hid; rw [hsize]; unfold K; omega
  obtain ⟨bd, hbd⟩ : ∃ k, k = s5.bad := ⟨_, rfl⟩
  obtain ⟨lf, hlf⟩ : ∃ k, k = s5.left := ⟨_, rfl⟩
  have HBD := Lib.hid hbd; have HLF := Lib.hid hlf
  have HBAD6 : Hid (bd = true ∨ lf < size → s6.bad = true) := by unfold Hid; rw [hbd, hlf, hs6]; exact step_bad_of s5 size
  have HOK6 : Hid (bd = false → size ≤ lf → s6.bad = false) := by unfold Hid; rw [hbd, hlf, hs6]; exact step_ok_of s5 size
  have hldn : ld.length ≤ 65535 := by rw [hld]; have := got_len s5 size; omega
  have k00 := K_lo k0; have k01 := K_hi k0; have k10 := K_lo b1; have k11 := K_hi b1; have k20 := K_lo b2; have k21 := K_hi b2
  have H0 := Lib.hid hs0; have H1 := Lib.hid hs1; have H2 := Lib.hid hs2; have H3 := Lib.hid hs3; have H4 := Lib.hid hs4; have H5 := Lib.hid hs5; have H6 := Lib.hid hs6
  have V0 := Lib.hid hk0; have V1 := Lib.hid hlab; have V2 := Lib.hid hnum; have V3 := Lib.hid hb1; have V4 := Lib.hid hb2; have V5 := Lib.hid hld
  clear hbd hlf hs0 hk0 hs1 hlab hs2 hnum hs3 hb1 hs4 hb2 hs5 hsize hld hs6
  go_enter Try.func31, Try.ntmps31
  go_upto_region 2 with (first
    | (go_at_call 41; (with_reducible refine (rrd_new _ _ _ _ l HS0.out hn hcap).mono ?_); rintro e w1 ⟨p, rfl, hp, hat, hb⟩; rw [← H0.out] at hat; have HC1 := Lib.hid hat; have HB1 := Lib.hid (below_then HB0.out hb HB0.out.size); have HP := Lib.hid (Nat.le_trans HB0.out.size hp); have HZ1 := Lib.hid (HZ0.out.below hb); clear hat hb hp))
  go_upto_region 3 with (first
    | (go_at_call 44; (with_reducible refine (rrd_byte _ _ s0 HC1.out).mono ?_); rintro e w2 ⟨rfl, hr⟩; rw [← V0.out]; rw [← H1.out] at hr; have HC2 := Lib.hid hr.1; have HZ2 := Lib.hid (ub_upd HZ1.out hr.2 (fun e => HC1.out.ne HZ1.out e.symm)); have HB2 := Lib.hid (below_upd HB1.out hr.2 (fun k hk => by unfold Mem.One at hk; have := HP.out; omega) HB1.out.size); clear hr)
    | (go_at_call 42; (with_reducible refine (rrd_int _ _ s1 HC2.out).mono ?_); rintro e w4 ⟨rfl, hr⟩; rw [← V1.out]; rw [← H2.out] at hr; have HC3 := Lib.hid hr.1; have HZ3 := Lib.hid (ub_upd HZ2.out hr.2 (fun e => HC2.out.ne HZ2.out e.symm)); have HB3 := Lib.hid (below_upd HB2.out hr.2 (fun k hk => by unfold Mem.One at hk; have := HP.out; omega) HB2.out.size); clear hr)
    | (go_at_call 42; (with_reducible refine (rrd_int _ _ s2 HC3.out).mono ?_); rintro e w5 ⟨rfl, hr⟩; rw [← V2.out]; rw [← H3.out] at hr; have HC4 := Lib.hid hr.1; have HZ4 := Lib.hid (ub_upd HZ3.out hr.2 (fun e => HC3.out.ne HZ3.out e.symm)); have HB4 := Lib.hid (below_upd HB3.out hr.2 (fun k hk => by unfold Mem.One at hk; have := HP.out; omega) HB3.out.size); clear hr))
  have G3 : Hid (Gr w (w5.alloc (.cells #[.int .i64 (K k0), .int .i64 lab, .int .i64 num, .slice none 0 0] 45)) w.heap.size w5.heap.size p s3 ⟨K k0, lab, num, []⟩ none 0 0) := by unfold Hid; exact Gr.new (u := ⟨K k0, lab, num, []⟩) HB4.out HZ4.out HC4.out (Nat.le_refl _) HP.out
  go_upto_region 4 with (first
    | (go_at_call 44; (with_reducible refine (rrd_byte _ _ s3 G3.out.cat).mono ?_); rintro e w6 ⟨rfl, hr⟩; rw [← V3.out]; rw [← H4.out] at hr; have G6 := Lib.hid (G3.out.read hr); clear hr)
    | (go_at_call 44; (with_reducible refine (rrd_byte _ _ s4 G6.out.cat).mono ?_); rintro e w7 ⟨rfl, hr⟩; rw [← V4.out]; rw [← H5.out] at hr; have G7 := Lib.hid (G6.out.read hr); clear hr))
  rw [HO.out]
  obtain ⟨q1, hq1⟩ : ∃ q, q = w5.heap.size := ⟨_, rfl⟩
  rw [← hq1] at G7 ⊢
  clear G6 G3 HB4 HZ4 HC4 HB3 HZ3 HC3 HB2 HZ2 HC2 HZ1 HB1 HC1 HZ0 hq1
  have z0 := unfrozen_of_block G7.out.zero 0; have z1 := unfrozen_of_block G7.out.zero 1; have z2 := unfrozen_of_block G7.out.zero 2; have z3 := unfrozen_of_block G7.out.zero 3
  obtain ⟨y0, y1, y2, y3⟩ := G7.out.zero.cells
  obtain ⟨x0, x1, x2, x3⟩ := G7.out.unit.cells
  have f3 := unfrozen_of_block G7.out.unit 3
  cases bd with
  | true =>
    have HG : Hid (¬ Crc.Good l) := by unfold Hid Crc.Good; rw [hprs.out]; intro h; rw [HBAD6.out (.inl rfl)] at h; exact Bool.noConfusion h.1
    go_wp2_with (first
      | (go_at_call 47; (with_reducible refine (rrd_bad _ _ s5 G7.out.cat).mono ?_); rintro e w9 ⟨rfl, rfl⟩; rw [← HBD.out]))
    refine get_end (q := w.heap.size) (u := Un.zero) (A := none) (n := 0) (c := 0) (x := .int .i64 2) ?_ ?_ ?_ ?_ ?_ ?_
    · rfl
    · rfl
    · rfl
    · rfl
    · with_reducible exact ub_zero G7.out.zero
    · with_reducible exact get_bad HG.out (uzero_below G7.out.below (Nat.le_refl _))
  | false =>
    by_cases hlt : lf < size
    · have HG : Hid (¬ Crc.Good l) := by unfold Hid Crc.Good; rw [hprs.out]; intro h; rw [HBAD6.out (.inr hlt)] at h; exact Bool.noConfusion h.1
      go_wp2_with (first
        | (go_at_call 47; (with_reducible refine (rrd_bad _ _ s5 G7.out.cat).mono ?_); rintro e w9 ⟨rfl, rfl⟩; rw [← HBD.out])
        | (go_at_call 46; (with_reducible refine (rrd_left _ _ s5 G7.out.cat).mono ?_); rintro e w9 ⟨rfl, rfl⟩; rw [← HLF.out]))
      refine get_end (q := w.heap.size) (u := Un.zero) (A := none) (n := 0) (c := 0) (x := .int .i64 2) ?_ ?_ ?_ ?_ ?_ ?_
      · rfl
      · rfl
      · rfl
      · rfl
      · with_reducible exact ub_zero G7.out.zero
      · with_reducible exact get_bad HG.out (uzero_below G7.out.below (Nat.le_refl _))
    · have hle : size ≤ lf := Nat.le_of_not_lt hlt
      have HB6 := Lib.hid (HOK6.out rfl hle)
      clear hlt
      go_upto_region 7 with (first
        | (go_at_call 47; (with_reducible refine (rrd_bad _ _ s5 G7.out.cat).mono ?_); rintro e w9 ⟨rfl, rfl⟩; rw [← HBD.out])
        | (go_at_call 46; (with_reducible refine (rrd_left _ _ s5 G7.out.cat).mono ?_); rintro e w9 ⟨rfl, rfl⟩; rw [← HLF.out])
        | (go_at_call 55; (with_reducible refine (rtake_any _ _ s5 size G7.out.cat (by omega)).mono ?_); rintro e w8 ⟨A8, n8, c8, rfl, hsl8, hat8, hu8⟩; rw [← H6.out] at hat8; rw [← V5.out] at hsl8; have h8n := hsl8.len; have G8 := Lib.hid (G7.out.read ⟨hat8, hu8⟩); have R8 := Lib.hid (sl_reads hsl8); have Z8 := Lib.hid hsl8.2.2; clear hsl8 hat8 hu8)
        | (at_builtin; refine app_law rfl (.const (.slice none 0 0)) (.tmp 38) 22 rfl Try.underlying22 info5 rfl rfl (Own.nil _ w8.heap.size) R8.out Z8.out (by omega) (Nat.le_refl _) ?_; intro A9 c9 w9 own9 gr9 _; simp only [Nat.zero_add, List.nil_append] at own9 ⊢; have hb9 := (Below.refl w8.heap.size w8).grown gr9 (Nat.le_refl _) (by simp [blk]); have G9 := Lib.hid (G8.out.later hb9); have f9 := unfrozen_of_block G9.out.unit 3; obtain ⟨_, _, _, d9⟩ := G9.out.unit.cells; have L9 := Lib.hid own9.sl; clear own9 gr9 hb9))
      have Gs : Hid (Gr w _ _ _ p s6 ⟨K k0, lab, num, ld⟩ A9 n8 c9) := G9.out.set (i := 3) (v := .slice A9 n8 c9) rfl
      obtain ⟨u, hu⟩ : ∃ u : Un, u = ⟨K k0, lab, num, ld⟩ := ⟨_, rfl⟩
      rw [← hu] at Gs hprs
      have hul : u.load = ld := by rw [hu]
      rw [← hul] at L9
      obtain ⟨W, hW⟩ : ∃ W, W = w9.setCell ⟨q1, 3, none⟩ (.slice A9 n8 c9) := ⟨_, rfl⟩
      have LW : Hid (Sl W A9 n8 c9 u.load) := by rw [hW]; unfold Hid; exact L9.out.upd (upd_set w9 q1 3 _) (ub_ne G9.out.unit L9.out)
      rw [← hW] at Gs ⊢
      clear hW hu hul L9 G9 G8 G7 f9 d9 f3 x0 x1 x2 x3 y0 y1 y2 y3 z0 z1 z2 z3 R8 Z8
      obtain ⟨x0, x1, x2, x3⟩ := Gs.out.unit.cells
      obtain ⟨x, hx⟩ : ∃ x, x = chk u := ⟨_, rfl⟩
      by_cases hx0 : x = 0
      · have HPB : Hid (putB u = mk u) := by unfold Hid putB; rw [if_pos (hx ▸ hx0)]
        have HC : Hid (chk u = 0) := by unfold Hid; rw [← hx]; exact hx0
        have t : ((0 : Int) != 0) = false := rfl
        have t2 : ((0 : Int) == 0) = true := rfl
        by_cases hm : l = mk u
        · have HG : Hid (Crc.Good l) := by unfold Hid Crc.Good; rw [hprs.out]; exact ⟨HB6.out, hx ▸ hx0, hm⟩
          have HGU : Hid (getU l = u) := by unfold Hid getU; rw [if_pos HG.out, hprs.out]
          have t4 : ((str (mk u)).toList == (str l).toList) = true := by rw [str_eq]; exact decide_eq_true hm.symm
          have t5 : ((str (mk u)).toList != (str l).toList) = false := by simp only [bne, t4]; rfl
          clear hm hx hx0 x
          go_wp2_with (first | (go_at_call 29; (with_reducible refine (putref_any _ u _ _ _ LW.out).mono ?_); rintro e wb ⟨A2, n2, c2, rfl, hown, hb⟩; rw [HC.out]; rw [HPB.out] at hown; have hcv := conv_str Try.underlying22 Try.underlying5 Try.underlying9 (sl_reads hown.sl) hown.sl.2.2; have hsb := HSl.out.below (Gs.out.later hb).below; have hcv2 := conv_str Try.underlying22 Try.underlying5 Try.underlying9 (sl_reads hsb) hsb.2.2; clear hsb; have GG := Lib.hid (Gs.out.later hb); have LL := Lib.hid (LW.out.below hb); have e0 := unfrozen_of_block GG.out.zero 0; have e1 := unfrozen_of_block GG.out.zero 1; have e2 := unfrozen_of_block GG.out.zero 2; have e3 := unfrozen_of_block GG.out.zero 3; obtain ⟨d0, d1, d2, d3⟩ := GG.out.zero.cells; obtain ⟨b0, b1, b2, b3⟩ := GG.out.unit.cells; clear hown hb))
          refine get_end (q := w.heap.size) (u := u) (A := A9) (n := n8) (c := c9) (x := .int .i64 0) ?_ ?_ ?_ ?_ ?_ ?_
          · rfl
          · rfl
          · rfl
          · rfl
          · with_reducible exact ub_put u A9 n8 c9 GG.out.zero
          · with_reducible exact get_good HG.out HGU.out (sl_uput LL.out GG.out.zero) (uput_below u A9 n8 c9 GG.out.below (Nat.le_refl _))
        · have HG : Hid (¬ Crc.Good l) := by unfold Hid Crc.Good; rw [hprs.out]; intro h; exact hm h.2.2
          have t4 : ((str (mk u)).toList == (str l).toList) = false := by rw [str_eq]; exact decide_eq_false (fun e => hm e.symm)
          have t5 : ((str (mk u)).toList != (str l).toList) = true := by simp only [bne, t4]; rfl
          clear hm hx hx0 x
          go_wp2_with (first | (go_at_call 29; (with_reducible refine (putref_any _ u _ _ _ LW.out).mono ?_); rintro e wb ⟨A2, n2, c2, rfl, hown, hb⟩; rw [HC.out]; rw [HPB.out] at hown; have hcv := conv_str Try.underlying22 Try.underlying5 Try.underlying9 (sl_reads hown.sl) hown.sl.2.2; have hsb := HSl.out.below (Gs.out.later hb).below; have hcv2 := conv_str Try.underlying22 Try.underlying5 Try.underlying9 (sl_reads hsb) hsb.2.2; clear hsb; have GG := Lib.hid (Gs.out.later hb); have LL := Lib.hid (LW.out.below hb); have e0 := unfrozen_of_block GG.out.zero 0; have e1 := unfrozen_of_block GG.out.zero 1; have e2 := unfrozen_of_block GG.out.zero 2; have e3 := unfrozen_of_block GG.out.zero 3; obtain ⟨d0, d1, d2, d3⟩ := GG.out.zero.cells; obtain ⟨b0, b1, b2, b3⟩ := GG.out.unit.cells; clear hown hb))
          refine get_end (q := w.heap.size) (u := Un.zero) (A := none) (n := 0) (c := 0) (x := .int .i64 2) ?_ ?_ ?_ ?_ ?_ ?_
          · rfl
          · rfl
          · rfl
          · rfl
          · with_reducible exact ub_zero GG.out.zero
          · with_reducible exact get_bad HG.out (uzero_below GG.out.below (Nat.le_refl _))
      · have HG : Hid (¬ Crc.Good l) := by unfold Hid Crc.Good; rw [hprs.out]; intro h; exact hx0 (hx.trans h.2.1)
        have HC := Lib.hid hx
        have t : (x == 0) = false := beq_eq_false_iff_ne.mpr hx0
        have t2 : (x != 0) = true := bne_iff_ne.mpr hx0
        clear hx hx0
        go_wp2_with (first | (go_at_call 29; (with_reducible refine (putref_any _ u _ _ _ LW.out).mono ?_); rintro e wb ⟨A2, n2, c2, rfl, hown, hb⟩; rw [← HC.out];  have GG := Lib.hid (Gs.out.later hb); have LL := Lib.hid (LW.out.below hb); have e0 := unfrozen_of_block GG.out.zero 0; have e1 := unfrozen_of_block GG.out.zero 1; have e2 := unfrozen_of_block GG.out.zero 2; have e3 := unfrozen_of_block GG.out.zero 3; obtain ⟨d0, d1, d2, d3⟩ := GG.out.zero.cells; obtain ⟨b0, b1, b2, b3⟩ := GG.out.unit.cells; clear hown hb))
        refine get_end (q := w.heap.size) (u := Un.zero) (A := none) (n := 0) (c := 0) (x := .int .i64 2) ?_ ?_ ?_ ?_ ?_ ?_
        · rfl
        · rfl
        · rfl
        · rfl
        · with_reducible exact ub_zero GG.out.zero
        · with_reducible exact get_bad HG.out (uzero_below GG.out.below (Nat.le_refl _))
end Go.Proofs.Ytpgceeeokjadpaa.Code
