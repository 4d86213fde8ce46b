/- TapePlays: what any row of calls answers, and leaves. Conditions: none. -/
import Derived.Test.YtnnhigojgdcdlaaPly2
namespace Go.Proofs.Ytnnhigojgdcdlaa.Code
open Go.RowKit Go.Joins Go.Proofs.Ytnnhigojgdcdlaa.Crc Go.Proofs.Ytnnhigojgdcdlaa.Mem
set_option maxHeartbeats 8000000 in
set_option maxRecDepth 100000 in
theorem plays_ok (w : World) (t : Tp) (A : Option Addr) (n c : Nat) (h : Blks w A n c t.blocks) (A2 : Option Addr) (n2 c2 : Nat) (hn : n ≤ 90) (hf : ∀ b ∈ t.blocks, b.length ≤ 300) (h80 : n2 ≤ 80) (hbad : ¬ BadT t n) (hlo : t.lost = false) (l : List Ac) (hac : Acs w A2 n2 l) :
    Calls Try.prog 6 #[tv t A n c, .slice A2 n2 c2] w fun e w' => e = .returned (.bool true) ∧ Below w.heap.size w w' := by
  have hb1 := (Below.refl w.heap.size w).alloc (Nat.le_refl _) (.cells #[.int .i64 t.label, .int .i64 t.cap, .slice A n c, .bool t.lost] 29)
  have HB1 := Lib.hid hb1
  have HL1 := Lib.hid (h.below hb1)
  obtain ⟨W, HW⟩ : ∃ W, Hid (W = w.alloc (.cells #[.int .i64 t.label, .int .i64 t.cap, .slice A n c, .bool t.lost] 29)) := ⟨_, rfl⟩
  have hbox : W.heap[w.heap.size]? = some (.cells #[.int .i64 t.label, .int .i64 t.cap, .slice A n c, .bool t.lost] 29 (0, 0)) := by rw [HW.out]; exact heap_alloc_new w _
  rw [← HW.out] at HB1 HL1
  have HBOX := Lib.hid hbox
  have HF := Lib.hid hf
  have HS6 : Hid (∀ b ∈ t.blocks, b.length ≤ 1000000) := fun b hb => by have := hf b hb; omega
  have hn9 : n ≤ 1000 := by omega
  have HBAD := Lib.hid hbad
  have HLO := Lib.hid hlo
  have HNB := Lib.hid (notbad hbad)
  have HAC := Lib.hid hac
  clear hbad hlo hac
  have h80i : ¬ (80 : Int) < (n2 : Int) := by omega
  clear h hb1 hbox hf
  unfold tv
  go_enter Try.func6, Try.ntmps6
  go_upto_region 1 with (fail)
  rw [← HW.out]
  go_wp2_with (first
    | (go_at_call 7; (with_reducible refine (alive_any _).mono ?_); rintro e w1 ⟨rfl, hb⟩; have HB := Lib.hid hb; have hx := (hb.block _ (lt_of_block HBOX.out)).trans HBOX.out; have HX := Lib.hid hx; have x0 := cell_of_block hx 0; have x1 := cell_of_block hx 1; have x2 := cell_of_block hx 2; have x3 := cell_of_block hx 3; clear hb hx)
    | (go_at_call 18; (refine (few_yes _ t A n c (HL1.out.below HB.out) hn HF.out).mono ?_); rintro e w2 ⟨rfl, hb⟩; have HB2 := Lib.hid hb; have hx := (hb.block _ (lt_of_block HX.out)).trans HX.out; have HX2 := Lib.hid hx; have x0 := cell_of_block hx 0; have x1 := cell_of_block hx 1; have x2 := cell_of_block hx 2; have x3 := cell_of_block hx 3; clear hb hx)
    | (go_at_call 19; (refine (copy_any _ t A n c ((HL1.out.below HB.out).below HB2.out) hn9 HS6.out).mono ?_); rintro e w3 ⟨A3, n3, c3, rfl, hbl, hb⟩; have hn3 : n3 = n := (by have e1 := hbl.len; have e2 := HL1.out.len; omega); subst hn3; have HBL3 := Lib.hid hbl.blks; have HB3 := Lib.hid hb; have hx := (hb.block _ (lt_of_block HX2.out)).trans HX2.out; have HX3 := Lib.hid hx; have x0 := cell_of_block hx 0; have x1 := cell_of_block hx 1; have x2 := cell_of_block hx 2; have x3 := cell_of_block hx 3; clear hb hx hbl)
    | (go_at_call 8; (refine (load_ok _ t A3 _ c3 HBL3.out HNB.out.1 HNB.out.2.1 HNB.out.2.2.1 HNB.out.2.2.2.1 HNB.out.2.2.2.2 HLO.out).mono ?_); rintro e w4 ⟨q, rfl, hd, hb⟩; have HD4 := Lib.hid hd; have HB4 := Lib.hid hb; have hx := (hb.block _ (lt_of_block HX3.out)).trans HX3.out; have HX4 := Lib.hid hx; have x0 := cell_of_block hx 0; have x1 := cell_of_block hx 1; have x2 := cell_of_block hx 2; have x3 := cell_of_block hx 3; clear hb hx hd)
    | (go_at_call 20; (refine (lt_ok _ t A _ c ((((HL1.out.below HB.out).below HB2.out).below HB3.out).below HB4.out) (by omega) HBAD.out HLO.out).mono ?_); rintro e w5 ⟨rfl, hb⟩; have HB5 := Lib.hid hb; have hx := (hb.block _ (lt_of_block HX4.out)).trans HX4.out; have HX5 := Lib.hid hx; have x0 := cell_of_block hx 0; have x1 := cell_of_block hx 1; have x2 := cell_of_block hx 2; have x3 := cell_of_block hx 3; clear hb hx)
    | (go_at_call 19; (refine (copy_any _ t A _ c (((((HL1.out.below HB.out).below HB2.out).below HB3.out).below HB4.out).below HB5.out) hn9 HS6.out).mono ?_); rintro e w6 ⟨A6, n6, c6, rfl, hbl, hb⟩; have HBL6 := Lib.hid hbl; have HB6 := Lib.hid hb; clear hb hbl)
    | (go_at_call 9; (with_reducible refine (num_any _ _).mono ?_); rintro e w' ⟨rfl, hz⟩; obtain rfl := hz.symm))
  have HPR : Hid (Pair w (w6.alloc (.cells #[.int .i64 t.label, .int .i64 t.cap, .slice A6 n6 c6, .bool t.lost] 29)) q w6.heap.size t) := by
    have z1 := HB1.out.size
    have z2 := Nat.le_trans z1 HB.out.size
    have z3 := Nat.le_trans z2 HB2.out.size
    have z4 := Nat.le_trans z3 HB3.out.size
    have z5 := Nat.le_trans z4 HB4.out.size
    have z6 := Nat.le_trans z5 HB5.out.size
    have z7 := Nat.le_trans z6 HB6.out.size
    have hb6 := below_then (below_then (below_then (below_then (below_then (below_then HB1.out HB.out z1) HB2.out z2) HB3.out z3) HB4.out z4) HB5.out z5) HB6.out z6
    have h46 : Below w4.heap.size w4 (w6.alloc (.cells #[.int .i64 t.label, .int .i64 t.cap, .slice A6 n6 c6, .bool t.lost] 29)) := (HB5.out.trans (HB6.out.mono HB5.out.size)).alloc (Nat.le_trans HB5.out.size HB6.out.size) _
    refine ⟨_, _, HD4.out.below h46, drs_new (w0 := w5) (t := t) HBL6.out HB6.out.size, fun j hj hR => ?_, fun j hj => Nat.le_trans z4 hj.1, fun j hj => Nat.le_trans z6 hj.1, hb6.alloc z7 _⟩
    have h1 := hj.2
    have h2 := hR.1
    have h3 := HB5.out.size
    omega
  have HFIT : Hid (Fit t) := ⟨HNB.out.2.2.2.2, by have h1 := HNB.out.2.2.2.1; have h2 := HL1.out.len; omega, HNB.out.2.2.1⟩
  clear HB1 HB HB2 HB3 HB4 HB5 HB6 HD4 HBL3 HBL6 HX HX2 HX3 HX4 HX5 HNB HL1 HBAD HLO HF HS6 HBOX HW x0 x1 x2 x3
  go_loopw [10] (fun i wr => ∃ k t', k ≤ n2 ∧ i = .int .i64 (k : Int) ∧ Hid (Fit t') ∧ Pair w wr q w6.heap.size t') (fun i _ => n2 - (intOf i).toNat)
  case atStart => exact ⟨0, t, Nat.zero_le _, rfl, HFIT.out, HPR.out⟩
  case round =>
    clear HPR HFIT
    obtain ⟨k, t', hk, rfl, HFIT, S, R, hd, hr, hdis, hlo, hlor, hb⟩ := hrel
    by_cases hkn : k < n2
    · obtain ⟨b, o, Aa, na, ca, ⟨xw, xn, xm, xb⟩, rfl, y0, y1, y2, y3, hs⟩ := HAC.out.look hb k hkn
      simp only at y0 y1 y2 hs
      have HS0 := Lib.hid hs
      have HXL := Lib.hid hs.len
      by_cases hlen : 300 < na
      · have HB := Lib.hid hb
        have hlen' : (300 : Int) < (na : Int) := by omega
        clear hd hr hdis hlo hlor hb hs
        go_wp2
        go_ret
        exact ⟨rfl, HB.out.alloc HB.out.size _⟩
      · have hlen' : ¬ (300 : Int) < (na : Int) := by omega
        have HTRI0 : Hid (∀ (w7 : World) (A4 : Option Addr) (c4 : Nat), Own w7 wr.heap.size A4 na c4 xb → Below (wr.alloc (.cells #[.int .i64 xw, .int .i64 xn, .int .i64 xm, .slice Aa na ca] 48)).heap.size (wr.alloc (.cells #[.int .i64 xw, .int .i64 xn, .int .i64 xm, .slice Aa na ca] 48)) w7 → Tri w w7 q w6.heap.size wr.heap.size t' t' #[.int .i64 xw, .int .i64 xn, .int .i64 xm, .slice Aa na ca] A4 na c4 xb S R) := fun w7 A4 c4 ho h7 => Tri.first hd hr hdis hlo hlor hb ho h7
        have HSA := Lib.hid ((hs.below hb).below ((Below.refl wr.heap.size wr).alloc (Nat.le_refl _) (.cells #[.int .i64 xw, .int .i64 xn, .int .i64 xm, .slice Aa na ca] 48)))
        have HNB : Hid (0 + na ≤ 140737488355328) := by unfold Hid; omega
        clear hd hr hdis hlo hlor hb hs
        go_upto_block 2 with (at_builtin; refine app_law (o := ⟨some 70, _, _, _, _, _⟩) rfl (.const (.slice none 0 0)) (.tmp 69) 32 rfl Try.underlying32 info5' rfl rfl (Own.nil _ wr.heap.size) HSA.out.1 HSA.out.2.2 HNB.out (by simp) ?_; intro A4 c4 w7 own gr hat; simp only [Nat.zero_add, List.nil_append] at own ⊢; have h7 := (Below.refl (wr.alloc (.cells #[.int .i64 xw, .int .i64 xn, .int .i64 xm, .slice Aa na ca] 48)).heap.size (wr.alloc (.cells #[.int .i64 xw, .int .i64 xn, .int .i64 xm, .slice Aa na ca] 48))).grown gr (Nat.le_refl _) (fun k hk => by simp [blk] at hk); have htri := HTRI0.out w7 A4 c4 own h7; have z0 := cell_of_block htri.box 0; have z1 := cell_of_block htri.box 1; have z2 := cell_of_block htri.box 2; have z3 := cell_of_block htri.box 3; have HTRI := Lib.hid htri; clear own gr hat h7 htri)
        go_cut [] from 73 to 170 (fun wx => ∃ t'' S' R', Hid (Fit t'') ∧ Hid (Tri w wx q w6.heap.size wr.heap.size t'' t'' #[.int .i64 xw, .int .i64 xn, .int .i64 xm, .slice Aa na ca] A4 na c4 xb S' R'))
        case first =>
          clear y0 y1 y2 y3
          by_cases hw0 : xw = 0
          · have t0 : (xw == 0) = true := by simp [hw0]
            clear hw0
            have htd := HTRI.out.below ((Below.refl w7.heap.size w7).drew)
            have e0 := cell_of_block htd.box 0
            have e1 := cell_of_block htd.box 1
            have e2 := cell_of_block htd.box 2
            have e3 := cell_of_block htd.box 3
            have HTD := Lib.hid htd
            have HFC : Hid (t'.cap ≤ 64) := HFIT.out.2.2
            clear htd
            go_upto_region 20 with (fail)
            by_cases hwr : na = 0 ∨ 94 < na
            · have HWR := Lib.hid hwr
              clear hwr
              go_region_held3 (fun w' => w'.cell? ⟨wr.heap.size, 0, none⟩ = some (.int .i64 xw) ∧ w'.cell? ⟨wr.heap.size, 1, none⟩ = some (.int .i64 xn) ∧ w'.cell? ⟨wr.heap.size, 2, none⟩ = some (.int .i64 xm) ∧ w'.cell? ⟨wr.heap.size, 3, none⟩ = some (.slice Aa na ca))
                (first | exact ⟨e0, e1, e2, e3⟩ | exact ⟨g0, g1, g2, g3⟩ | exact ⟨k0, k1, kk2, k3⟩)
                (first
                  | (go_at_call 10; (with_reducible refine (append_wrong _ q A4 na c4 HWR.out).mono ?_); (rintro e w8 ⟨rfl, hz⟩); (obtain rfl := hz.symm))
                  | (go_at_call 9; (with_reducible refine (num_any _ _).mono ?_); (rintro e w9 ⟨rfl, hz⟩); (obtain rfl := hz.symm))
                  | (go_at_call 21; (with_reducible refine (rapp_wrong _ w6.heap.size Aa na ca HWR.out).mono ?_); (rintro e w9 ⟨rfl, hz⟩); (obtain rfl := hz.symm)))
              all_goals
                go_wp2
                go_meet
                exact ⟨_, _, _, HFIT, HTD⟩
            · have h1 : 0 < na := by omega
              have h2 : na ≤ 94 := by omega
              by_cases hfu : (t'.blocks.length : Int) < t'.cap
              · have HFU := Lib.hid hfu
                have hfew : t'.blocks.length ≤ 1000000 := by have := HFIT.out.2.2; omega
                clear hfu hwr
                go_region_held3 (fun w' => w'.cell? ⟨wr.heap.size, 0, none⟩ = some (.int .i64 xw) ∧ w'.cell? ⟨wr.heap.size, 1, none⟩ = some (.int .i64 xn) ∧ w'.cell? ⟨wr.heap.size, 2, none⟩ = some (.int .i64 xm) ∧ w'.cell? ⟨wr.heap.size, 3, none⟩ = some (.slice Aa na ca))
                  (first | exact ⟨e0, e1, e2, e3⟩ | exact ⟨g0, g1, g2, g3⟩ | exact ⟨k0, k1, kk2, k3⟩)
                  (first
                    | (go_at_call 10; (with_reducible refine (append_set _ S q t' HTD.out.drv A4 na c4 xb HTD.out.own.sl h1 h2 HFU.out HFC.out).mono ?_); (rintro e w8 ⟨rfl, htu⟩); (have h8 := HTD.out.drive htu); (have g0 := cell_of_block h8.box 0); (have g1 := cell_of_block h8.box 1); (have g2 := cell_of_block h8.box 2); (have g3 := cell_of_block h8.box 3); (have HT8 := Lib.hid h8); (clear htu h8))
                    | (go_at_call 9; (with_reducible refine (num_any _ _).mono ?_); (rintro e w9 ⟨rfl, hz⟩); (obtain rfl := hz.symm))
                    | (go_at_call 21; (with_reducible refine (rapp_ok _ R w6.heap.size t' HT8.out.ref Aa na ca xb (HS0.out.below HT8.out.bel) h1 h2 HFU.out hfew).mono ?_); (rintro e w9 ⟨rfl, htu⟩); (have h9 := HT8.out.refer htu); (have k0 := cell_of_block h9.box 0); (have k1 := cell_of_block h9.box 1); (have kk2 := cell_of_block h9.box 2); (have k3 := cell_of_block h9.box 3); (have HT9 := Lib.hid h9); (clear htu h9)))
                all_goals
                  go_wp2
                  go_meet
                  exact ⟨_, _, _, fit_app HFIT.out (by rw [HXL.out]; exact h1) (by rw [HXL.out]; exact h2) HFU.out, HT9⟩
              · have HEQ : Hid ((t'.blocks.length : Int) = t'.cap) := by have := HFIT.out.2.1; unfold Hid; omega
                have HLE : Hid (t'.cap ≤ (t'.blocks.length : Int)) := by unfold Hid; omega
                clear hfu hwr
                go_region_held3 (fun w' => w'.cell? ⟨wr.heap.size, 0, none⟩ = some (.int .i64 xw) ∧ w'.cell? ⟨wr.heap.size, 1, none⟩ = some (.int .i64 xn) ∧ w'.cell? ⟨wr.heap.size, 2, none⟩ = some (.int .i64 xm) ∧ w'.cell? ⟨wr.heap.size, 3, none⟩ = some (.slice Aa na ca))
                  (first | exact ⟨e0, e1, e2, e3⟩ | exact ⟨g0, g1, g2, g3⟩ | exact ⟨k0, k1, kk2, k3⟩)
                  (first
                    | (go_at_call 10; (with_reducible refine (full_said _ S q t' HTD.out.drv A4 na c4 h1 h2 HEQ.out HFC.out).mono ?_); (rintro e w8 ⟨rfl, hdn⟩); (have h8 := HTD.out.below hdn.below); (have g0 := cell_of_block h8.box 0); (have g1 := cell_of_block h8.box 1); (have g2 := cell_of_block h8.box 2); (have g3 := cell_of_block h8.box 3); (have HT8 := Lib.hid h8); (clear hdn h8))
                    | (go_at_call 9; (with_reducible refine (num_any _ _).mono ?_); (rintro e w9 ⟨rfl, hz⟩); (obtain rfl := hz.symm))
                    | (go_at_call 21; (with_reducible refine (rapp_full _ R w6.heap.size t' HT8.out.ref Aa na ca h1 h2 HLE.out).mono ?_); (rintro e w9 ⟨rfl, hdn⟩); (have h9 := HT8.out.below hdn.below); (have k0 := cell_of_block h9.box 0); (have k1 := cell_of_block h9.box 1); (have kk2 := cell_of_block h9.box 2); (have k3 := cell_of_block h9.box 3); (have HT9 := Lib.hid h9); (clear hdn h9)))
                all_goals
                  go_wp2
                  go_meet
                  exact ⟨_, _, _, HFIT, HT9⟩
          have t0 : (xw == 0) = false := beq_eq_false_iff_ne.mpr hw0
          clear hw0
          by_cases hw1 : xw = 1
          · have t1 : (xw == 1) = true := by simp [hw1]
            clear hw1
            obtain ⟨Ar, nr, cr, vr, htr⟩ := HTRI.out.ref
            have hnr := htr.len
            have HTR := Lib.hid htr
            obtain ⟨p0, p1, p2, p3⟩ := htr.cells
            by_cases hok : 0 ≤ xn ∧ xn < (nr : Int)
            · obtain ⟨hok1, hok2⟩ := hok
              obtain ⟨k2, rfl⟩ := Int.eq_ofNat_of_zero_le hok1
              have hk2 : k2 < t'.blocks.length := by omega
              have HBK : Hid (t'.blocks[k2]? = some t'.blocks[k2]) := List.getElem?_eq_getElem hk2
              have HBN : Hid ((t'.blocks[k2]).length ≤ 1000000) := by have h9 := (HFIT.out.1 _ (List.getElem_mem hk2)).2; unfold Hid; omega
              obtain ⟨gr, sr, br, hrow⟩ := htr.row k2 (by omega)
              obtain ⟨rfl, hvr, hbr, hcr, hor, _, _⟩ := hrow.resolve_right (by decide)
              obtain ⟨ra, rn, rc⟩ := sr
              have HORR := Lib.hid hor
              have HBR := Lib.hid hbr
              have HCR := Lib.hid hcr
              clear htr hnr hrow hvr hbr hor hok1 hcr
              go_upto_region 25 with (go_at_call 11; (with_reducible refine (read_own _ S q t' HTRI.out.drv k2 _ HBK.out HBN.out).mono ?_); rintro e w8 ⟨A8, m8, c8, rfl, ho8, hb8⟩; have h8 := HTRI.out.below hb8; have g0 := cell_of_block h8.box 0; have g1 := cell_of_block h8.box 1; have g2 := cell_of_block h8.box 2; have g3 := cell_of_block h8.box 3; have ht8 := HTR.out.below hb8; obtain ⟨q0, q1, q2, q3⟩ := ht8.cells; have HT8 := Lib.hid h8; have HO8 := Lib.hid ho8; have HR8 := Lib.hid (HORR.out.below hb8 (Nat.le_refl _)); have hc8 := (hb8.cell (World.block_lt_of_cell? _ _ HCR.out)).trans HCR.out; have HB8 := Lib.hid hb8; have HTR8 := Lib.hid ht8; clear h8 ho8 hb8 ht8)
              have hbeq : br = t'.blocks[k2] := by
                have h1 := HBR.out
                rw [HBK.out] at h1
                injection h1 with h1
                exact h1.symm
              have cv1 : ∀ n : Nat, (convert 32 9 (.slice A8 m8 c8)).run Try.prog (w8.drewN n) = .ok (.string (str t'.blocks[k2])) (w8.drewN n) := fun n => conv_str Try.underlying32 Try.underlying5 Try.underlying9 (HO8.out.reads.below (bdrawn (Below.refl _ _) n) (Nat.le_refl _)) HO8.out.sl.2.2
              have cv2 : ∀ n : Nat, (convert 32 9 (.slice ra rn rc)).run Try.prog (w8.drewN n) = .ok (.string (str t'.blocks[k2])) (w8.drewN n) := fun n => by
                rw [← hbeq]
                exact conv_str Try.underlying32 Try.underlying5 Try.underlying9 (HR8.out.reads.below (bdrawn (Below.refl _ _) n) (Nat.le_refl _)) HR8.out.sl.2.2
              clear hbeq
              go_quiet ((go_at_call 9; exact Calls.quiet_of_same (num_any _ _)))
              have HT9 := Lib.hid (HT8.out.below (bdrawn (Below.refl w8.heap.size w8) nq))
              go_wp2
              go_meet
              exact ⟨_, _, _, HFIT, HT9⟩
            · have HNO : Hid (xn < 0 ∨ (t'.blocks.length : Int) ≤ xn) := by unfold Hid; omega
              have hsp : xn < 0 ∨ (0 ≤ xn ∧ (nr : Int) ≤ xn) := by omega
              clear htr hnr hok
              rcases hsp with hn1 | ⟨hn1, hn2⟩
              · have hd1 : decide (0 ≤ xn) = false := decide_eq_false (by omega)
                go_upto_region 25 with (go_at_call 11; (with_reducible refine (readNoS _ S q t' HTRI.out.drv xn HNO.out).mono ?_); rintro e w' ⟨rfl, hz⟩; obtain rfl := hz.symm)
                go_quiet ((go_at_call 9; exact Calls.quiet_of_same (num_any _ _)))
                have HT9 := Lib.hid (HTRI.out.below (bdrawn (Below.refl w7.heap.size w7) nq))
                go_wp2
                go_meet
                exact ⟨_, _, _, HFIT, HT9⟩
              · have hd2 : decide (xn < (nr : Int)) = false := decide_eq_false (by omega)
                go_upto_region 25 with (go_at_call 11; (with_reducible refine (readNoS _ S q t' HTRI.out.drv xn HNO.out).mono ?_); rintro e w' ⟨rfl, hz⟩; obtain rfl := hz.symm)
                go_quiet ((go_at_call 9; exact Calls.quiet_of_same (num_any _ _)))
                have HT9 := Lib.hid (HTRI.out.below (bdrawn (Below.refl w7.heap.size w7) nq))
                go_wp2
                go_meet
                exact ⟨_, _, _, HFIT, HT9⟩
          have t1 : (xw == 1) = false := beq_eq_false_iff_ne.mpr hw1
          clear hw1
          by_cases hw2 : xw = 2
          · have t2 : (xw == 2) = true := by simp [hw2]
            clear hw2
            have HCU : Hid (Calls Try.prog 14 #[.pointer (some ⟨q, 0, none⟩), .int .i64 xn, .int .i64 xm] w7 (CutBy w7 S q t' xn xm)) := cut_any w7 S q t' HTRI.out.drv HFIT.out.1 (by have h8 := HFIT.out.2; omega) xn xm
            go_wp2_with (first
              | (go_at_call 14; (with_reducible refine HCU.out.mono ?_); rintro e w8 ⟨rfl, htu⟩; have h8 := HTRI.out.drive htu; have g0 := cell_of_block h8.box 0; have g1 := cell_of_block h8.box 1; have g2 := cell_of_block h8.box 2; have g3 := cell_of_block h8.box 3; have HT8 := Lib.hid h8; clear htu h8)
              | (go_at_call 22; (refine (rcut_any _ R _ t' HT8.out.ref HFIT.out.1 (by have h9 := HFIT.out.2; omega) xn xm).mono ?_); rintro e w9 ⟨rfl, htu⟩; have h9 := HT8.out.refer htu; have HT9 := Lib.hid h9; clear htu h9))
            go_meet
            exact ⟨_, _, _, fit_cut HFIT.out xn xm, HT9⟩
          have t2 : (xw == 2) = false := beq_eq_false_iff_ne.mpr hw2
          clear hw2
          by_cases hw3 : xw = 3
          · have t3 : (xw == 3) = true := by simp [hw3]
            clear hw3
            have htd := HTRI.out.below ((Below.refl w7.heap.size w7).drew)
            have e0 := cell_of_block htd.box 0
            have e1 := cell_of_block htd.box 1
            have e2 := cell_of_block htd.box 2
            have e3 := cell_of_block htd.box 3
            have HTD := Lib.hid htd
            have HNA : Hid (na ≤ 1000000) := by unfold Hid; omega
            clear htd
            by_cases hok : 0 ≤ xn ∧ xn < (t'.blocks.length : Int)
            · obtain ⟨hok1, hok2⟩ := hok
              obtain ⟨k2, rfl⟩ := Int.eq_ofNat_of_zero_le hok1
              have HK2 : Hid (k2 < t'.blocks.length) := by unfold Hid; omega
              have HNS : Hid (∀ g, blk A4 = some g → 0 < na → ¬ S g) := fun g hg _ => (HTRI.out.sep g hg).1
              clear hok1 hok2
              go_upto_region 31 with (fail)
              go_region_held3 (fun w' => w'.cell? ⟨wr.heap.size, 0, none⟩ = some (.int .i64 xw) ∧ w'.cell? ⟨wr.heap.size, 1, none⟩ = some (.int .i64 (k2 : Int)) ∧ w'.cell? ⟨wr.heap.size, 2, none⟩ = some (.int .i64 xm) ∧ w'.cell? ⟨wr.heap.size, 3, none⟩ = some (.slice Aa na ca))
                (first | exact ⟨e0, e1, e2, e3⟩ | exact ⟨g0, g1, g2, g3⟩ | exact ⟨k0, k1, kk2, k3⟩)
                (first
                  | (go_at_call 15; (with_reducible refine (rot_ok _ S q t' HTD.out.drv k2 HK2.out A4 na c4 xb HTD.out.own.sl HNS.out HNA.out).mono ?_); (rintro e w8 ⟨rfl, htu⟩); (have h8 := HTD.out.drive htu); (have g0 := cell_of_block h8.box 0); (have g1 := cell_of_block h8.box 1); (have g2 := cell_of_block h8.box 2); (have g3 := cell_of_block h8.box 3); (have HT8 := Lib.hid h8); (have HNR : Hid (∀ g, blk Aa = some g → 0 < na → ¬ R g) := fun g hg h0 hR => Nat.lt_irrefl _ (Nat.lt_of_lt_of_le (Sl.blk_lt HS0.out h0 g hg) (HT8.out.lor g hR))); (clear htu h8))
                  | (go_at_call 9; (with_reducible refine (num_any _ _).mono ?_); (rintro e w9 ⟨rfl, hz⟩); (obtain rfl := hz.symm))
                  | (go_at_call 23; (with_reducible refine (rrot_ok _ R w6.heap.size t' HT8.out.ref k2 HK2.out Aa na ca xb (HS0.out.below HT8.out.bel) HNR.out HNA.out).mono ?_); (rintro e w9 ⟨rfl, htu⟩); (have h9 := HT8.out.refer htu); (have k0 := cell_of_block h9.box 0); (have k1 := cell_of_block h9.box 1); (have kk2 := cell_of_block h9.box 2); (have k3 := cell_of_block h9.box 3); (have HT9 := Lib.hid h9); (clear htu h9)))
              all_goals
                go_wp2
                go_meet
                exact ⟨_, _, _, fit_rot HFIT.out k2 xb, HT9⟩
            · have HNO : Hid (xn < 0 ∨ (t'.blocks.length : Int) ≤ xn) := by unfold Hid; omega
              clear hok
              go_upto_region 31 with (fail)
              go_region_held3 (fun w' => w'.cell? ⟨wr.heap.size, 0, none⟩ = some (.int .i64 xw) ∧ w'.cell? ⟨wr.heap.size, 1, none⟩ = some (.int .i64 xn) ∧ w'.cell? ⟨wr.heap.size, 2, none⟩ = some (.int .i64 xm) ∧ w'.cell? ⟨wr.heap.size, 3, none⟩ = some (.slice Aa na ca))
                (first | exact ⟨e0, e1, e2, e3⟩ | exact ⟨g0, g1, g2, g3⟩ | exact ⟨k0, k1, kk2, k3⟩)
                (first
                  | (go_at_call 15; (with_reducible refine (rot_no _ S q t' HTD.out.drv xn HNO.out A4 na c4).mono ?_); (rintro e w8 ⟨rfl, hz⟩); (obtain rfl := hz.symm))
                  | (go_at_call 9; (with_reducible refine (num_any _ _).mono ?_); (rintro e w9 ⟨rfl, hz⟩); (obtain rfl := hz.symm))
                  | (go_at_call 23; (with_reducible refine (rrot_no _ R w6.heap.size t' HTD.out.ref xn HNO.out Aa na ca).mono ?_); (rintro e w9 ⟨rfl, hz⟩); (obtain rfl := hz.symm)))
              all_goals
                go_wp2
                go_meet
                exact ⟨_, _, _, HFIT, HTD⟩
          have t3 : (xw == 3) = false := beq_eq_false_iff_ne.mpr hw3
          clear hw3
          by_cases hw4 : xw = 4
          · have t4 : (xw == 4) = true := by simp [hw4]
            clear hw4
            go_wp2_with (first
              | (go_at_call 24; (with_reducible refine (erase_any _ S q t' HTRI.out.drv).mono ?_); rintro e w8 ⟨rfl, htu⟩; have h8 := HTRI.out.drive htu; have HT8 := Lib.hid h8; obtain ⟨Ar, nr, cr, vr, htr⟩ := h8.ref; have p2 := cell_of_block htr.box 2; have pf := unfrozen_of_block htr.box 2; have HCL := Lib.hid htr.clear; clear htu h8 htr)
              | (go_at_call 9; (with_reducible refine (num_any _ _).mono ?_); rintro e w' ⟨rfl, hz⟩; obtain rfl := hz.symm))
            go_meet
            exact ⟨_, _, _, fit_nil HFIT.out, HT8.out.refer HCL.out⟩
          have t4 : (xw == 4) = false := beq_eq_false_iff_ne.mpr hw4
          clear hw4
          go_wp2
          go_meet
          exact ⟨_, _, _, HFIT, HTRI⟩
        case rest =>
          obtain ⟨t2, S2, R2, HF2, HT2⟩ := hcut
          obtain ⟨xb0, hx0⟩ : ∃ y, y = wr.heap.size := ⟨_, rfl⟩
          rw [← hx0] at HT2
          clear hx0 HTRI HTRI0 HS0 HXL HSA HFIT z0 z1 z2 z3 y0 y1 y2 y3
          go_wp2
          go_loopw [16] (fun i wx => ∃ m l', m ≤ na ∧ i = .int .i64 (m : Int) ∧ Tri w wx q w6.heap.size xb0 t2 t2 #[.int .i64 xw, .int .i64 xn, .int .i64 xm, .slice Aa na ca] A4 na c4 l' S2 R2) (fun i _ => na - (intOf i).toNat)
          case atStart => exact ⟨0, xb, Nat.zero_le _, rfl, HT2.out⟩
          case round =>
            clear HT2
            obtain ⟨m, l', hm, rfl, htri⟩ := hrel
            by_cases hmn : m < na
            · obtain ⟨g9, hA9, ⟨z9, hc9⟩, hf9, hnx⟩ := htri.store m hmn 99
              subst hA9
              rw [show K 99 = 99 from rfl] at hnx
              have HNX := Lib.hid hnx
              clear htri hnx
              go_wp2
              go_roundw
              case rel => exact ⟨m + 1, _, by omega, by go_num, HNX.out⟩
              case measure => simp [intOf]; omega
            · obtain rfl : m = na := by omega
              have HT3 := Lib.hid htri
              clear htri
              have htd := HT3.out.below ((Below.refl wr.heap.size wr).drew)
              obtain ⟨Ar, nr, cr, vr, htr⟩ := htd.ref
              have hnr := htr.len
              obtain ⟨e0, e1, e2, e3⟩ := htr.cells
              have hb1 : (nr : Int) ≤ t2.cap := by have h9 := HF2.out.2.1; omega
              have hb2 : t2.cap ≤ 64 := HF2.out.2.2
              have HN : Hid ((t2.blocks.length : Int) = (nr : Int)) := by unfold Hid; omega
              have HF21 : Hid ((t2.blocks.length : Int) ≤ t2.cap) := HF2.out.2.1
              have HRM : Hid (t2.cap - (t2.blocks.length : Int) = t2.cap - (nr : Int)) := by unfold Hid; omega
              have HFEW : Hid (t2.blocks.length ≤ 1000) := by unfold Hid; omega
              have HSH : Hid (∀ b ∈ t2.blocks, b.length ≤ 1000000) := fun b hb => by have := (HF2.out.1 b hb).2; omega
              have hnr6 : nr ≤ 1000000 := by omega
              have k0 : HoldT w wr.drew q w6.heap.size xb0 t2 #[.int .i64 xw, .int .i64 xn, .int .i64 xm, .slice Aa m ca] A4 m c4 l' S2 R2 Ar nr cr vr := ⟨htd, htr⟩
              clear htd htr hnr
              have hwrap : IntKind.i64.wrap (t2.cap - (nr : Int)) = t2.cap - (nr : Int) := by have h9 := hb1; have h8 := hb2; simp [IntKind.wrap, IntKind.bits, IntKind.signed]; omega
              go_upto_region 41 with (fail)
              go_region_held3 (fun w' => w'.cell? ⟨w6.heap.size, 0, none⟩ = some (.int .i64 t2.label) ∧ w'.cell? ⟨w6.heap.size, 1, none⟩ = some (.int .i64 t2.cap) ∧ w'.cell? ⟨w6.heap.size, 2, none⟩ = some (.slice Ar nr cr) ∧ w'.cell? ⟨w6.heap.size, 3, none⟩ = some (.bool t2.lost))
                (first | exact ⟨e0, e1, e2, e3⟩ | exact ⟨p0, p1, p2, p3⟩ | exact ⟨r0, r1, r2, r3⟩ | exact ⟨y0, y1, y2, y3⟩)
                (first
                  | (go_at_call 12; (with_reducible refine (lenS _ S2 q t2 k0.tri.drv (nr : Int) HN.out).mono ?_); rintro e w9 ⟨rfl, hz⟩; obtain rfl := hz.symm)
                  | (go_at_call 13; (with_reducible refine (room_said _ S2 q t2 k0.tri.drv HF21.out hb2 (t2.cap - (nr : Int)) HRM.out).mono ?_); rintro e w9 ⟨rfl, hdn⟩; have hh9 := k0.below hdn.below; obtain ⟨p0, p1, p2, p3⟩ := hh9.tps.cells; have k9 := hh9; clear hdn hh9)
                  | (go_at_call 17; (refine (tape_any _ S2 q t2 k9.tri.drv HFEW.out HSH.out).mono ?_); rintro e w10 ⟨A10, n10, c10, rfl, hbl, hb⟩; have hn10 : n10 = nr := (by have h1 := hbl.len; have h2 := HN.out; omega); subst hn10; have HBL := Lib.hid hbl.blks; have hh10 := k9.below hb; obtain ⟨r0, r1, r2, r3⟩ := hh10.tps.cells; have k10 := hh10; clear hbl hb hh10)
                  | (go_at_call 16; (refine (sametape_yes _ t2 _ _ _ _ _ HBL.out k10.tps.blks hnr6).mono ?_); rintro e w11 ⟨rfl, hb11⟩; have hh11 := k10.below hb11; obtain ⟨y0, y1, y2, y3⟩ := hh11.tps.cells; have k11 := hh11; clear hb11 hh11))
              clear hwrap
              go_wp2
              go_roundw
              case rel => exact ⟨k + 1, t2, by omega, by go_num, HF2.out, k11.tri.pair⟩
              case measure => simp [intOf]; omega
    · obtain rfl : k = n2 := by omega
      have HB := Lib.hid hb
      clear hd hr hdis hlo hlor hb
      go_wp2
      go_ret
      exact ⟨rfl, HB.out⟩
theorem plays_any (w : World) (t : Tp) (A : Option Addr) (n c : Nat) (h : Blks w A n c t.blocks) (hn : n ≤ 9223372036854775807) (A2 : Option Addr) (n2 c2 : Nat) (l : List Ac) (hac : Acs w A2 n2 l) :
    Calls Try.prog 6 #[tv t A n c, .slice A2 n2 c2] w fun e w' => e = .returned (.bool true) ∧ Below w.heap.size w w' := by
  by_cases hf : n ≤ 90 ∧ ∀ b ∈ t.blocks, b.length ≤ 300
  · by_cases h80 : 80 < n2
    · exact plays_long w t A n c h A2 n2 c2 hf.1 hf.2 h80
    · by_cases hbad : BadT t n
      · exact plays_bad w t A n c h A2 n2 c2 hf.1 hf.2 (by omega) hbad
      · cases hlo : t.lost with
        | true => exact plays_lost w t A n c h A2 n2 c2 hf.1 hf.2 (by omega) hbad hlo
        | false => exact plays_ok w t A n c h A2 n2 c2 hf.1 hf.2 (by omega) hbad hlo l hac
  · exact plays_few w t A n c h hn A2 n2 c2 hf
end Go.Proofs.Ytnnhigojgdcdlaa.Code
