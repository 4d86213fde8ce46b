/- What frame.Get reads. Conditions: the row is short of 2^47 bytes. -/
import Derived.Test.YtpgceeeokjadpaaFr7
namespace Go.Proofs.Ytpgceeeokjadpaa.Code
open Go.RowKit Go.Joins Go.Proofs.Ytpgceeeokjadpaa.Crc Go.Proofs.Ytpgceeeokjadpaa.Mem
/-- What Get and GetFrame leave. -/
def GetPost (w : World) (l : List UInt8) (e : Ending) (w' : World) : Prop :=
  ∃ A n c, e = .returned (.tuple #[uv (getU l) A n c, .int .i64 (getE l)]) ∧ Sl w' A n c (getU l).load ∧ Below w.heap.size w w'
theorem _root_.Go.Proofs.Ytpgceeeokjadpaa.Mem.Gt.new {w0 w : World} {q0 p : Nat} {s : Rs} {u : Un} (hb : Below w0.heap.size w0 w) (hz : Ub w q0 Un.zero none 0 0) (hc : CAt w p s) (h0 : w0.heap.size ≤ q0) (hp : w0.heap.size ≤ p) :
    Gt w0 (w.alloc (.cells #[.int .i64 u.kind, .int .i64 u.label, .int .i64 u.number, .slice none 0 0] 45)) q0 w.heap.size p s u none 0 0 :=
  have hb2 := (Below.refl w.heap.size w).alloc (Nat.le_refl _) (.cells #[.int .i64 u.kind, .int .i64 u.label, .int .i64 u.number, .slice none 0 0] 45)
  ⟨below_then hb hb2 hb.size, hz.below hb2, Ub.new w u none 0 0, hc.below hb2, h0, hb.size, hp, fun e => by have := lt_of_block hz; omega⟩
theorem sl_reads {w : World} {A : Option Addr} {n c : Nat} {l : List UInt8} (h : Sl w A n c l) : Reads w A n l := h.1
theorem getU_bad {l : List UInt8} (h : ¬ Crc.Good l) : getU l = Un.zero := if_neg h
theorem get_bad {w w' : World} {l : List UInt8} (h : ¬ Crc.Good l) (hb : Below w.heap.size w w') : GetPost w l (.returned (.tuple #[uv Un.zero none 0 0, .int .i64 2])) w' :=
  ⟨none, 0, 0, by rw [getU_bad h, getE_bad h], by rw [getU_bad h]; exact Sl.nil _, hb⟩
theorem get_good {w w' : World} {l : List UInt8} {u : Un} {A : Option Addr} {n c : Nat} (h : Crc.Good l) (hu : getU l = u) (hs : Sl w' A n c u.load) (hb : Below w.heap.size w w') : GetPost w l (.returned (.tuple #[uv u A n c, .int .i64 0])) w' :=
  ⟨A, n, c, by rw [hu]; unfold getE; rw [if_pos h], by rw [hu]; exact hs, hb⟩
/-- A unit is written over another. -/
abbrev uput (w : World) (q : Nat) (u : Un) (A : Option Addr) (n c : Nat) : World :=
  (((w.setCell ⟨q, 0, none⟩ (.int .i64 u.kind)).setCell ⟨q, 1, none⟩ (.int .i64 u.label)).setCell ⟨q, 2, none⟩ (.int .i64 u.number)).setCell ⟨q, 3, none⟩ (.slice A n c)
theorem ub_put {w : World} {q : Nat} {u : Un} {A : Option Addr} {n c : Nat} (u' : Un) (A' : Option Addr) (n' c' : Nat) (h : Ub w q u A n c) : Ub (uput w q u' A' n' c') q u' A' n' c' :=
  ub_set (u := ⟨u'.kind, u'.label, u'.number, []⟩) (ub_set (u := ⟨u'.kind, u'.label, u.number, []⟩) (u' := ⟨u'.kind, u'.label, u'.number, []⟩) (ub_set (u := ⟨u'.kind, u.label, u.number, []⟩) (u' := ⟨u'.kind, u'.label, u.number, []⟩) (ub_set (u' := ⟨u'.kind, u.label, u.number, []⟩) h rfl) rfl) rfl) rfl
theorem uput_upd (w : World) (q : Nat) (u' : Un) (A' : Option Addr) (n' c' : Nat) : Upd (Mem.One q) w (uput w q u' A' n' c') :=
  (((upd_set w q 0 _).trans (upd_set _ q 1 _) (fun _ _ hh => hh)).trans (upd_set _ q 2 _) (fun _ _ hh => hh)).trans (upd_set _ q 3 _) (fun _ _ hh => hh)
theorem uput_below {B : Nat} {w0 w : World} {q : Nat} (u' : Un) (A' : Option Addr) (n' c' : Nat) (h : Below B w0 w) (hq : B ≤ q) : Below B w0 (uput w q u' A' n' c') :=
  (((h.setCell hq _).setCell hq _).setCell hq _).setCell hq _
/-- The unit of nought is written. -/
abbrev uzero (w : World) (q : Nat) : World :=
  (((w.setCell ⟨q, 0, none⟩ (.int .i64 0)).setCell ⟨q, 1, none⟩ (.int .i64 0)).setCell ⟨q, 2, none⟩ (.int .i64 0)).setCell ⟨q, 3, none⟩ (.slice none 0 0)
theorem uzero_eq (w : World) (q : Nat) : uzero w q = uput w q Un.zero none 0 0 := by unfold uzero uput Un.zero; with_reducible rfl
theorem ub_zero {w : World} {q : Nat} {u : Un} {A : Option Addr} {n c : Nat} (h : Ub w q u A n c) : Ub (uzero w q) q Un.zero none 0 0 := by rw [uzero_eq]; exact ub_put _ _ _ _ h
theorem uzero_below {B : Nat} {w0 w : World} {q : Nat} (h : Below B w0 w) (hq : B ≤ q) : Below B w0 (uzero w q) := by rw [uzero_eq]; exact uput_below _ _ _ _ h hq
theorem sl_uput {w : World} {q : Nat} {u u' : Un} {A A' B : Option Addr} {n c n' c' n2 c2 : Nat} {l : List UInt8} (hs : Sl w B n2 c2 l) (h : Ub w q u A n c) : Sl (uput w q u' A' n' c') B n2 c2 l := hs.upd (uput_upd _ _ _ _ _ _) (ub_ne h hs)
theorem get_end {F : Func} (hF : F.results = #[.cell 2 45, .tmp 3]) {R : Ending → World → Prop} {a : Act} {W : World} {q : Nat} {u : Un} {A : Option Addr} {n c : Nat} {x : Value}
    (h2 : a.tmps.getD 2 undef = .pointer (some ⟨q, 0, none⟩)) (h3 : a.tmps.getD 3 undef = x) (hd : a.defers = []) (hu : Ub W q u A n c) (hR : R (.returned (.tuple #[uv u A n c, x])) W) : bodyPost Try.prog F R Exit.ret a W := by
  refine bodyPost_ret (v := .tuple #[uv u A n c, x]) ?_ hd hR
  rw [results_cell_tmp hF, h2, h3]
  have h := run_loadVar_row (P := Try.prog) W q 45 45 _ (0, 0) _ hu Try.underlying45 rfl (by kernel_rfl)
  simp only [asAddr, Sem.run_pure, Result.andThen_ok, h]
set_option maxHeartbeats 4000000 in
set_option maxRecDepth 100000 in
theorem get_any (w : World) (A : Option Addr) (n c : Nat) (l : List UInt8) (h : Sl w A n c l) (hn : n ≤ 140737488351232) :
    Calls Try.prog 30 #[.slice A n c] w fun e w' => GetPost w l e w' := by
  have hb0 := (Below.refl w.heap.size w).alloc (Nat.le_refl _) (.cells #[.int .i64 0, .int .i64 0, .int .i64 0, .slice none 0 0] 45)
  have HS0 := Lib.hid (h.below hb0)
  have HSl := Lib.hid h
  have HB0 := Lib.hid hb0
  have HZ0 : Hid (Ub (w.alloc (.cells #[.int .i64 0, .int .i64 0, .int .i64 0, .slice none 0 0] 45)) w.heap.size Un.zero none 0 0) := Ub.new w Un.zero none 0 0
  clear h hb0
  obtain ⟨s0, hs0⟩ : ∃ s : Rs, s = ⟨l, false⟩ := ⟨_, rfl⟩
  obtain ⟨k0, hk0⟩ : ∃ k, k = s0.byte := ⟨_, rfl⟩
  obtain ⟨s1, hs1⟩ : ∃ s : Rs, s = s0.step 1 := ⟨_, rfl⟩
  obtain ⟨lab, hlab⟩ : ∃ k, k = s1.int := ⟨_, rfl⟩
  obtain ⟨s2, hs2⟩ : ∃ s : Rs, s = s1.step 4 := ⟨_, rfl⟩
  obtain ⟨num, hnum⟩ : ∃ k, k = s2.int := ⟨_, rfl⟩
  obtain ⟨s3, hs3⟩ : ∃ s : Rs, s = s2.step 4 := ⟨_, rfl⟩
  obtain ⟨b1, hb1⟩ : ∃ k, k = s3.byte := ⟨_, rfl⟩
  obtain ⟨s4, hs4⟩ : ∃ s : Rs, s = s3.step 1 := ⟨_, rfl⟩
  obtain ⟨b2, hb2⟩ : ∃ k, k = s4.byte := ⟨_, rfl⟩
  obtain ⟨s5, hs5⟩ : ∃ s : Rs, s = s4.step 1 := ⟨_, rfl⟩
  obtain ⟨size, hsize⟩ : ∃ k, k = b1.toNat * 256 + b2.toNat := ⟨_, rfl⟩
  obtain ⟨ld, hld⟩ : ∃ k, k = s5.got size := ⟨_, rfl⟩
  obtain ⟨s6, hs6⟩ : ∃ s : Rs, s = s5.step size := ⟨_, rfl⟩
  have hprs : Hid (prs l = (⟨K k0, lab, num, ld⟩, s6)) := by unfold Hid prs; rw [hs6, hld, hsize, hs5, hb2, hs4, hb1, hs3, hnum, hs2, hlab, hs1, hk0, hs0]
  have hsl : size ≤ 65535 := by have := b1.toNat_lt; have := b2.toNat_lt; omega
  have HO : Hid (Go.bits .or .i64 (K b1 * 256) (K b2) = (size : Int)) := by rw [hsize]; exact or_i64 b1.toNat b2 (by have := b1.toNat_lt; omega)
  have k00 := K_lo k0; have k01 := K_hi k0; have k10 := K_lo b1; have k11 := K_hi b1; have k20 := K_lo b2; have k21 := K_hi b2
  have H0 := Lib.hid hs0; have H1 := Lib.hid hs1; have H2 := Lib.hid hs2; have H3 := Lib.hid hs3; have H4 := Lib.hid hs4; have H5 := Lib.hid hs5; have H6 := Lib.hid hs6
  have V0 := Lib.hid hk0; have V1 := Lib.hid hlab; have V2 := Lib.hid hnum; have V3 := Lib.hid hb1; have V4 := Lib.hid hb2; have V5 := Lib.hid hld
  clear hs0 hk0 hs1 hlab hs2 hnum hs3 hb1 hs4 hb2 hs5 hsize hld hs6
  go_enter Try.func30, Try.ntmps30
  go_upto_region 3 with (first
    | (go_at_call 17; (with_reducible refine (rd_new _ _ _ _ l HS0.out hn).mono ?_); rintro e w1 ⟨p, rfl, hp, hat, hb⟩; rw [← H0.out] at hat; have HC1 := Lib.hid hat; have HB1 := Lib.hid (below_then HB0.out hb HB0.out.size); have HP := Lib.hid (Nat.le_trans HB0.out.size hp); have HZ1 := Lib.hid (HZ0.out.below hb); clear hat hb hp)
    | (go_at_call 43; (with_reducible refine (rd_byte _ _ s0 HC1.out).mono ?_); rintro e w2 ⟨rfl, hr⟩; rw [← V0.out]; rw [← H1.out] at hr; have HC2 := Lib.hid hr.1; have HZ2 := Lib.hid (ub_upd HZ1.out hr.2 (fun e => HC1.out.ne HZ1.out e.symm)); have HB2 := Lib.hid (below_upd HB1.out hr.2 (fun k hk => by unfold Mem.One at hk; have := HP.out; omega) HB1.out.size); clear hr))
  have G3 : Hid (Gt w (w2.alloc (.cells #[.int .i64 (K k0), .int .i64 0, .int .i64 0, .slice none 0 0] 45)) w.heap.size w2.heap.size p s1 ⟨K k0, 0, 0, []⟩ none 0 0) := by unfold Hid; exact Gt.new (u := ⟨K k0, 0, 0, []⟩) HB2.out HZ2.out HC2.out (Nat.le_refl _) HP.out
  go_upto_region 7 with (first
    | (go_at_call 20; (with_reducible refine (rd_int _ _ s1 G3.out.cat).mono ?_); rintro e w4 ⟨rfl, hr⟩; rw [← V1.out]; rw [← H2.out] at hr; have G4 := Lib.hid (G3.out.read hr); have f4 := unfrozen_of_block G4.out.unit 1; obtain ⟨_, d4, _, _⟩ := G4.out.unit.cells; have G4s : Hid (Gt w _ _ _ p s2 ⟨K k0, lab, 0, []⟩ none 0 0) := G4.out.set (i := 1) (v := .int .i64 lab) rfl; clear hr)
    | (go_at_call 20; (with_reducible refine (rd_int _ _ s2 G4s.out.cat).mono ?_); rintro e w5 ⟨rfl, hr⟩; rw [← V2.out]; rw [← H3.out] at hr; have G5 := Lib.hid (G4s.out.read hr); have f5 := unfrozen_of_block G5.out.unit 2; obtain ⟨_, _, d5, _⟩ := G5.out.unit.cells; have G5s : Hid (Gt w _ _ _ p s3 ⟨K k0, lab, num, []⟩ none 0 0) := G5.out.set (i := 2) (v := .int .i64 num) rfl; clear hr)
    | (go_at_call 43; (with_reducible refine (rd_byte _ _ s3 G5s.out.cat).mono ?_); rintro e w6 ⟨rfl, hr⟩; rw [← V3.out]; rw [← H4.out] at hr; have G6 := Lib.hid (G5s.out.read hr); clear hr)
    | (go_at_call 43; (with_reducible refine (rd_byte _ _ s4 G6.out.cat).mono ?_); rintro e w7 ⟨rfl, hr⟩; rw [← V4.out]; rw [← H5.out] at hr; have G7 := Lib.hid (G6.out.read hr); clear hr)
    | (go_at_call 53; rw [HO.out]; (with_reducible refine (raw_any _ _ s5 size G7.out.cat hsl).mono ?_); rintro e w8 ⟨A8, c8, rfl, hsl8, hat8, hu8⟩; rw [← H6.out] at hat8; rw [← V5.out] at hsl8; rw [← V5.out]; have G8 := Lib.hid (G7.out.read ⟨hat8, hu8⟩); have f8 := unfrozen_of_block G8.out.unit 3; obtain ⟨_, _, _, d8⟩ := G8.out.unit.cells; have G8s : Hid (Gt w _ _ _ p s6 ⟨K k0, lab, num, ld⟩ A8 ld.length c8) := G8.out.set (i := 3) (v := .slice A8 ld.length c8) rfl; have L8 := Lib.hid hsl8; clear hsl8 hat8 hu8))
  obtain ⟨u, hu⟩ : ∃ u : Un, u = ⟨K k0, lab, num, ld⟩ := ⟨_, rfl⟩
  rw [← hu] at G8s hprs
  have hul : u.load = ld := by rw [hu]
  obtain ⟨m8, hm8⟩ : ∃ m, m = ld.length := ⟨_, rfl⟩
  rw [← hm8] at G8s L8 ⊢
  rw [← hul] at L8
  have hum : u.load.length = m8 := by rw [hul, hm8]
  have hrow : 15 + room u.kind ≤ 9223372036854775807 := by have := room_le u.kind; omega
  have HBe := Lib.hid G8s.out.below
  obtain ⟨W, hW⟩ : ∃ W, W = w8.setCell ⟨w2.heap.size, 3, none⟩ (.slice A8 m8 c8) := ⟨_, rfl⟩
  have LW : Hid (Sl W A8 m8 c8 u.load) := by rw [hW]; unfold Hid; exact L8.out.upd (upd_set w8 w2.heap.size 3 _) (ub_ne G8.out.unit L8.out)
  rw [← hW] at G8s HBe ⊢
  obtain ⟨q1, hq1⟩ : ∃ q, q = w2.heap.size := ⟨_, rfl⟩
  rw [← hq1] at G8s ⊢
  clear hW hu hul hm8 L8 G8 G7 G6 G5s G5 G4s G4 G3 f4 f5 f8 d4 d5 d8 HC1 HC2 HZ1 HZ0 HB1 hq1
  have HS := HS0
  have z0 := unfrozen_of_block G8s.out.zero 0; have z1 := unfrozen_of_block G8s.out.zero 1; have z2 := unfrozen_of_block G8s.out.zero 2; have z3 := unfrozen_of_block G8s.out.zero 3
  obtain ⟨y0, y1, y2, y3⟩ := G8s.out.zero.cells
  obtain ⟨x0, x1, x2, x3⟩ := G8s.out.unit.cells
  cases hbad : s6.bad with
  | true =>
    have HG : Hid (¬ Crc.Good l) := by unfold Hid Crc.Good; rw [hprs.out]; intro h; rw [hbad] at h; exact Bool.noConfusion h.1
    have HBAD := Lib.hid hbad
    clear hbad
    go_wp2_with (first
      | (go_at_call 22; (with_reducible refine (rd_bad _ _ s6 G8s.out.cat).mono ?_); rintro e w9 ⟨rfl, rfl⟩; rw [HBAD.out]))
    refine get_end (q := w.heap.size) (u := Un.zero) (A := none) (n := 0) (c := 0) (x := .int .i64 2) ?_ ?_ ?_ ?_ ?_ ?_
    · rfl
    · rfl
    · rfl
    · rfl
    · with_reducible exact ub_zero G8s.out.zero
    · with_reducible exact get_bad HG.out (uzero_below HBe.out (Nat.le_refl _))
  | false =>
    have HBAD := Lib.hid hbad
    obtain ⟨x, hx⟩ : ∃ x, x = chk u := ⟨_, rfl⟩
    by_cases hx0 : x = 0
    · by_cases hm : l = mk u
      · have HG : Hid (Crc.Good l) := by unfold Hid Crc.Good; rw [hprs.out]; exact ⟨hbad, hx ▸ hx0, hm⟩
        have HGU : Hid (getU l = u) := by unfold Hid getU; rw [if_pos HG.out, hprs.out]
        have HD : Hid (decide (l = mk u) = true) := decide_eq_true hm
        have HC : Hid (chk u = 0) := by unfold Hid; rw [← hx]; exact hx0
        have t : ((0 : Int) != 0) = false := rfl
        have t2 : ((0 : Int) == 0) = true := rfl
        clear hbad hm hx hx0 x
        go_wp2_with (first
          | (go_at_call 22; (with_reducible refine (rd_bad _ _ s6 G8s.out.cat).mono ?_); rintro e w9 ⟨rfl, rfl⟩; rw [HBAD.out])
          | (go_at_call 50; (with_reducible refine (check_any _ u A8 m8 c8 hum).mono ?_); rintro e wa ⟨rfl, hb⟩; rw [HC.out]; have Ga := Lib.hid (G8s.out.later hb); obtain ⟨a0, a1, a2, a3⟩ := Ga.out.unit.cells; have La := Lib.hid (LW.out.below hb); clear hb)
          | (go_at_call 51; (with_reducible refine (made_any _ u _ _ _ La.out HC.out).mono ?_); rintro e wb ⟨A2, c2, rfl, hnew⟩; have Gb := Lib.hid (Ga.out.later hnew.2); have Lb := Lib.hid (La.out.below hnew.2); have Nb := Lib.hid hnew.1.sl.1; obtain ⟨b0, b1, b2, b3⟩ := Gb.out.unit.cells; have e0 := unfrozen_of_block Gb.out.zero 0; have e1 := unfrozen_of_block Gb.out.zero 1; have e2 := unfrozen_of_block Gb.out.zero 2; have e3 := unfrozen_of_block Gb.out.zero 3; obtain ⟨d0, d1, d2, d3⟩ := Gb.out.zero.cells; clear hnew)
          | (go_at_call 54; (with_reducible refine (equal_any _ A n c l _ _ c2 (mk u) (sl_reads (HSl.out.below Gb.out.below)) Nb.out (by omega)).mono ?_); rintro e wc ⟨rfl, k, rfl⟩; rw [HD.out]))
        have GG := Lib.hid (Gb.out.later (bdrawn (Below.refl _ wb) k))
        have LL := Lib.hid (Lb.out.below (bdrawn (Below.refl _ wb) k))
        refine get_end (q := w.heap.size) (u := u) (A := A8) (n := m8) (c := c8) (x := .int .i64 0) ?_ ?_ ?_ ?_ ?_ ?_
        · rfl
        · rfl
        · rfl
        · rfl
        · with_reducible exact ub_put u A8 m8 c8 GG.out.zero
        · with_reducible exact get_good HG.out HGU.out (sl_uput LL.out GG.out.zero) (uput_below u A8 m8 c8 GG.out.below (Nat.le_refl _))
      · have HG : Hid (¬ Crc.Good l) := by unfold Hid Crc.Good; rw [hprs.out]; intro h; exact hm h.2.2
        have HD : Hid (decide (l = mk u) = false) := decide_eq_false hm
        have HC : Hid (chk u = 0) := by unfold Hid; rw [← hx]; exact hx0
        have t : ((0 : Int) != 0) = false := rfl
        have t2 : ((0 : Int) == 0) = true := rfl
        clear hbad hm hx hx0 x
        go_wp2_with (first
          | (go_at_call 22; (with_reducible refine (rd_bad _ _ s6 G8s.out.cat).mono ?_); rintro e w9 ⟨rfl, rfl⟩; rw [HBAD.out])
          | (go_at_call 50; (with_reducible refine (check_any _ u A8 m8 c8 hum).mono ?_); rintro e wa ⟨rfl, hb⟩; rw [HC.out]; have Ga := Lib.hid (G8s.out.later hb); obtain ⟨a0, a1, a2, a3⟩ := Ga.out.unit.cells; have La := Lib.hid (LW.out.below hb); clear hb)
          | (go_at_call 51; (with_reducible refine (made_any _ u _ _ _ La.out HC.out).mono ?_); rintro e wb ⟨A2, c2, rfl, hnew⟩; have Gb := Lib.hid (Ga.out.later hnew.2); have Lb := Lib.hid (La.out.below hnew.2); have Nb := Lib.hid hnew.1.sl.1; obtain ⟨b0, b1, b2, b3⟩ := Gb.out.unit.cells; have e0 := unfrozen_of_block Gb.out.zero 0; have e1 := unfrozen_of_block Gb.out.zero 1; have e2 := unfrozen_of_block Gb.out.zero 2; have e3 := unfrozen_of_block Gb.out.zero 3; obtain ⟨d0, d1, d2, d3⟩ := Gb.out.zero.cells; clear hnew)
          | (go_at_call 54; (with_reducible refine (equal_any _ A n c l _ _ c2 (mk u) (sl_reads (HSl.out.below Gb.out.below)) Nb.out (by omega)).mono ?_); rintro e wc ⟨rfl, k, rfl⟩; rw [HD.out]))
        have GG := Lib.hid (Gb.out.later (bdrawn (Below.refl _ wb) k))
        refine get_end (q := w.heap.size) (u := Un.zero) (A := none) (n := 0) (c := 0) (x := .int .i64 2) ?_ ?_ ?_ ?_ ?_ ?_
        · rfl
        · rfl
        · rfl
        · rfl
        · with_reducible exact ub_zero GG.out.zero
        · with_reducible exact get_bad HG.out (uzero_below GG.out.below (Nat.le_refl _))
    · have HG : Hid (¬ Crc.Good l) := by unfold Hid Crc.Good; rw [hprs.out]; intro h; exact hx0 (hx.trans h.2.1)
      have HC := Lib.hid hx
      have t : (x == 0) = false := beq_eq_false_iff_ne.mpr hx0
      have t2 : (x != 0) = true := bne_iff_ne.mpr hx0
      clear hbad hx hx0
      go_wp2_with (first
        | (go_at_call 22; (with_reducible refine (rd_bad _ _ s6 G8s.out.cat).mono ?_); rintro e w9 ⟨rfl, rfl⟩; rw [HBAD.out])
        | (go_at_call 50; (with_reducible refine (check_any _ u A8 m8 c8 hum).mono ?_); rintro e wa ⟨rfl, hb⟩; rw [← HC.out]; have GG := Lib.hid (G8s.out.later hb); have e0 := unfrozen_of_block GG.out.zero 0; have e1 := unfrozen_of_block GG.out.zero 1; have e2 := unfrozen_of_block GG.out.zero 2; have e3 := unfrozen_of_block GG.out.zero 3; obtain ⟨d0, d1, d2, d3⟩ := GG.out.zero.cells; clear hb))
      refine get_end (q := w.heap.size) (u := Un.zero) (A := none) (n := 0) (c := 0) (x := .int .i64 2) ?_ ?_ ?_ ?_ ?_ ?_
      · rfl
      · rfl
      · rfl
      · rfl
      · with_reducible exact ub_zero GG.out.zero
      · with_reducible exact get_bad HG.out (uzero_below GG.out.below (Nat.le_refl _))
end Go.Proofs.Ytpgceeeokjadpaa.Code
