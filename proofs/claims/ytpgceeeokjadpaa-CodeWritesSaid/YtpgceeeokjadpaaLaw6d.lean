/- The walk of CodeWrites. Conditions: what comes in reads as items. -/
import Derived.Test.YtpgceeeokjadpaaLaw6b
import Derived.Test.YtpgceeeokjadpaaGrow
namespace Go.Proofs.Ytpgceeeokjadpaa.Mem
open Go.RowKit Go.Joins Go.Proofs.Ytpgceeeokjadpaa.Crc
/-- Two writers, apart. -/
structure Pair (B : Nat) (w0 w : World) (p q : Nat) (L M : List UInt8) : Prop where
  l : WAt 28 w p L
  r : WAt 39 w q M
  apart : ∀ x, Foot w p x → Foot w q x → False
  pl : ∀ x, Foot w p x → B ≤ x
  pr : ∀ x, Foot w q x → B ≤ x
  below : Below B w0 w
  size : B ≤ w.heap.size
theorem Pair.left {B : Nat} {w0 w w' : World} {p q : Nat} {L M L' : List UInt8} (h : Pair B w0 w p q L M) (hw : Wrote 28 w p L' w') : Pair B w0 w' p q L' M := by
  obtain ⟨h1, h2, h3⟩ := hw
  obtain ⟨h4, h5⟩ := h.r.upd h2 (fun k hk hp => h.apart k hp hk)
  refine ⟨h1, h4, fun x hx hy => ?_, fun x hx => ?_, fun x hx => h.pr x (h5 x hx), below_upd h.below h2 h.pl h.size, Nat.le_trans h.size h2.size⟩
  · rcases h3 x hx with h6 | h6
    · exact h.apart x h6 (h5 x hy)
    · have := h.r.foot_lt x (h5 x hy); omega
  · rcases h3 x hx with h6 | h6
    · exact h.pl x h6
    · have := h.size; omega
theorem Pair.right {B : Nat} {w0 w w' : World} {p q : Nat} {L M M' : List UInt8} (h : Pair B w0 w p q L M) (hw : Wrote 39 w q M' w') : Pair B w0 w' p q L M' := by
  obtain ⟨h1, h2, h3⟩ := hw
  obtain ⟨h4, h5⟩ := h.l.upd h2 (fun k hk hp => h.apart k hk hp)
  refine ⟨h4, h1, fun x hx hy => ?_, fun x hx => h.pl x (h5 x hx), fun x hx => ?_, below_upd h.below h2 h.pr h.size, Nat.le_trans h.size h2.size⟩
  · rcases h3 x hy with h6 | h6
    · exact h.apart x (h5 x hx) h6
    · have := h.l.foot_lt x (h5 x hx); omega
  · rcases h3 x hx with h6 | h6
    · exact h.pr x h6
    · have := h.size; omega
/-- Two new writers. -/
theorem Pair.new (w0 w : World) (hb : Below w0.heap.size w0 w) : Pair w0.heap.size w0 ((w.alloc (.cells #[.slice none 0 0] 28)).alloc (.cells #[.slice none 0 0] 39)) w.heap.size (w.heap.size + 1) [] [] := by
  obtain ⟨h1, h2⟩ := WAt.new 28 w
  obtain ⟨h3, h4⟩ := WAt.new 39 (w.alloc (.cells #[.slice none 0 0] 28))
  have e : (w.alloc (.cells #[.slice none 0 0] 28)).heap.size = w.heap.size + 1 := by simp
  rw [e] at h3 h4
  have hs := hb.size
  obtain ⟨h5, h6⟩ := h1.upd ((Upd.refl (fun _ => False) _).alloc (.cells #[.slice none 0 0] 39)) (fun _ _ h => h)
  refine ⟨h5, h3, fun x hx hy => ?_, fun x hx => ?_, fun x hx => ?_, ?_, ?_⟩
  · have := h2 x (h6 x hx); have := h4 x hy; omega
  · have := h2 x (h6 x hx); omega
  · have := h4 x hx; omega
  · exact (hb.alloc hs _).alloc (by simp; omega) _
  · simp; omega
theorem Pair.old {B : Nat} {w0 w w' : World} {p q : Nat} {L M : List UInt8} (h : Pair B w0 w p q L M) (hb : Below w.heap.size w w') : Pair B w0 w' p q L M := by
  obtain ⟨h1, h2⟩ := h.l.upd (Upd.ofBelow hb) (fun k hk => by have := h.l.foot_lt k hk; omega)
  obtain ⟨h3, h4⟩ := h.r.upd (Upd.ofBelow hb) (fun k hk => by have := h.r.foot_lt k hk; omega)
  exact ⟨h1, h3, fun x hx hy => h.apart x (h2 x hx) (h4 x hy), fun x hx => h.pl x (h2 x hx), fun x hx => h.pr x (h4 x hx), below_then h.below hb h.size, Nat.le_trans h.size hb.size⟩
theorem and255 (x : Int) : ∃ b : UInt8, Go.bits .and .i64 x 255 = K b := by
  refine ⟨UInt8.ofNat (BitVec.ofInt 64 x &&& BitVec.ofNat 64 255).toNat, ?_⟩
  have h : (BitVec.ofInt 64 x &&& BitVec.ofNat 64 255).toNat < 256 := by
    rw [BitVec.toNat_and]
    exact Nat.lt_of_le_of_lt Nat.and_le_right (by decide)
  show IntKind.i64.wrap (((BitVec.ofInt 64 x) &&& (BitVec.ofNat 64 255)).toNat : Int) = _
  rw [K_nat _ h, IntKind.wrap_i64]
  omega
end Go.Proofs.Ytpgceeeokjadpaa.Mem
namespace Go.Proofs.Ytpgceeeokjadpaa.Code
open Go.RowKit Go.Joins Go.Proofs.Ytpgceeeokjadpaa.Crc Go.Proofs.Ytpgceeeokjadpaa.Mem
theorem tx_le (z : List UInt8) : (tx z).length ≤ 256 := by have := tx_len z; simp [tx]; omega
set_option linter.unusedSimpArgs false in
set_option maxHeartbeats 4000000 in
set_option maxRecDepth 100000 in
theorem writes_some (w : World) (A : Option Addr) (n c : Nat) (its : List It) (h : Items w A n its) (hn : n ≤ 60) : Calls Try.prog 5 #[.slice A n c] w fun e w' => e = .returned (.bool true) ∧ Below w.heap.size w w' := by
  have HIT := Lib.hid h
  have HI := Lib.hid h.2
  have hlen := h.1
  clear h
  go_enter Try.func5, Try.ntmps5
  go_wp2_with (first
    | (go_at_call 13; (with_reducible refine (alive_any _).mono ?_); rintro e w1 ⟨rfl, hb⟩; have HP0 := Lib.hid (Pair.new w w1 hb); clear hb))
  go_loopw [6] (fun i wr => ∃ (k : Nat) (L : List UInt8), k ≤ n ∧ i = .int .i64 k ∧ L.length ≤ 256 * k ∧ Pair w.heap.size w wr w1.heap.size (w1.heap.size + 1) L L) (fun i _ => n - (intOf i).toNat)
  case atStart => exact ⟨0, [], Nat.zero_le _, rfl, by simp, HP0.out⟩
  case round =>
    obtain ⟨k, L, hk, rfl, hL, hpair⟩ := hrel
    rename_i wr _
    have HP := Lib.hid hpair
    have hb0 := hpair.below
    clear hpair
    by_cases hlt : k < n
    · obtain ⟨b, o, rfl, h1, h2, h3⟩ := HI.out k (by omega)
      obtain ⟨y, hy⟩ : ∃ y, y = its[k] := ⟨_, rfl⟩
      rw [← hy] at h1 h2 h3
      have G1 := Lib.hid h1
      have G2 := Lib.hid h2
      have G3 := Lib.hid h3
      have g1 := cell_below h1 hb0
      have g2 := cell_below h2 hb0
      have g3 := cell_below h3 hb0
      clear h1 h2 h3 hy hb0
      by_cases hs : y.s.size ≤ 400
      · by_cases e0 : y.way = 0
        · have t0 : (y.way == 0) = true := beq_iff_eq.mpr e0
          have t1 : (y.way == 1) = false := beq_eq_false_iff_ne.mpr (by omega)
          have t2 : (y.way == 2) = false := beq_eq_false_iff_ne.mpr (by omega)
          clear e0
          go_wp2_with (first
            | (go_at_call 16; (with_reducible refine (wint _ _ L y.n HP.out.l (by omega)).mono ?_); rintro e w2 ⟨rfl, hw⟩; have hp := HP.out.left hw; have g1 := cell_below G1.out hp.below; have g2 := cell_below G2.out hp.below; have g3 := cell_below G3.out hp.below; have HP2 := Lib.hid hp; clear hw hp)
            | (go_at_call 23; (with_reducible refine (rint _ _ L y.n HP2.out.r (by omega)).mono ?_); rintro e w3 ⟨rfl, hw⟩; have HP3 := Lib.hid (HP2.out.right hw); clear hw))
          go_roundw
          case rel => exact ⟨k + 1, L ++ be4 y.n, by omega, by go_num, by rw [List.length_append]; simp [be4]; omega, HP3.out⟩
          case measure => simp [intOf]; omega
        by_cases e1 : y.way = 1
        · have t0 : (y.way == 0) = false := beq_eq_false_iff_ne.mpr (by omega)
          have t1 : (y.way == 1) = true := beq_iff_eq.mpr e1
          have t2 : (y.way == 2) = false := beq_eq_false_iff_ne.mpr (by omega)
          clear e0 e1
          obtain ⟨v, hv⟩ := and255 y.n
          have v0 := K_lo v
          have v1 := K_hi v
          go_wp2_with (first
            | (go_at_call 24; (with_reducible refine (wbyte _ _ L v HP.out.l (by omega)).mono ?_); rintro e w2 ⟨rfl, hw⟩; have hp := HP.out.left hw; have g1 := cell_below G1.out hp.below; have g2 := cell_below G2.out hp.below; have g3 := cell_below G3.out hp.below; have HP2 := Lib.hid hp; clear hw hp)
            | (go_at_call 25; (with_reducible refine (rbyte _ _ L v HP2.out.r (by omega)).mono ?_); rintro e w3 ⟨rfl, hw⟩; have HP3 := Lib.hid (HP2.out.right hw); clear hw))
          go_roundw
          case rel => exact ⟨k + 1, L ++ [v], by omega, by go_num, by rw [List.length_append]; simp; omega, HP3.out⟩
          case measure => simp [intOf]; omega
        by_cases e2 : y.way = 2
        · have t0 : (y.way == 0) = false := beq_eq_false_iff_ne.mpr (by omega)
          have t1 : (y.way == 1) = false := beq_eq_false_iff_ne.mpr (by omega)
          have t2 : (y.way == 2) = true := beq_iff_eq.mpr e2
          clear e0 e1 e2
          go_wp2_with (first
            | (go_at_call 15; (with_reducible refine (wtext _ _ L y.s HP.out.l (by omega) (by omega)).mono ?_); rintro e w2 ⟨rfl, hw⟩; have hp := HP.out.left hw; have g1 := cell_below G1.out hp.below; have g2 := cell_below G2.out hp.below; have g3 := cell_below G3.out hp.below; have HP2 := Lib.hid hp; clear hw hp)
            | (go_at_call 26; (with_reducible refine (rtext _ _ L y.s HP2.out.r (by omega) (by omega)).mono ?_); rintro e w3 ⟨rfl, hw⟩; have HP3 := Lib.hid (HP2.out.right hw); clear hw))
          go_roundw
          case rel => exact ⟨k + 1, L ++ tx y.s.data.toList, by omega, by go_num, by rw [List.length_append]; have := tx_le y.s.data.toList; omega, HP3.out⟩
          case measure => simp [intOf]; omega
        · have t0 : (y.way == 0) = false := beq_eq_false_iff_ne.mpr (by omega)
          have t1 : (y.way == 1) = false := beq_eq_false_iff_ne.mpr (by omega)
          have t2 : (y.way == 2) = false := beq_eq_false_iff_ne.mpr (by omega)
          clear e0 e1 e2
          go_wp2
          go_roundw
          case rel => exact ⟨k + 1, L, by omega, by go_num, by omega, HP.out⟩
          case measure => simp [intOf]; omega
      · go_wp2
        go_ret
        exact ⟨rfl, HP.out.below⟩
    · have HPd := Lib.hid (HP.out.old ((Below.refl wr.heap.size wr).drew))
      have hbd := HPd.out.below
      have hcap := HPd.out.r
      obtain ⟨A3, n3, c3, hq, ho⟩ := hcap
      have hn3 : n3 ≤ 1000000 := by have := ho.1; omega
      have hc3 := own_cap ho
      have hnc3 : n3 ≤ c3 := ho.sl.2.1
      have q0 := cell_of_one hq
      have hlL := ho.1
      have HCV := Lib.hid (fun (w : World) (A : Option Addr) (n c : Nat) (h : Sl w A n c L) => conv_str (P := Try.prog) Try.underlying22 Try.underlying5 Try.underlying9 h.1 h.2.2)
      have HS0 := Lib.hid ho.sl
      have HQ := Lib.hid hq
      have HLL := Lib.hid hlL
      have HIT2 := Lib.hid (HIT.out.below hbd)
      have hbig : L.length ≤ 140737488351232 := by omega
      clear hb0 hbd hq ho hlL hL
      by_cases hz : n3 = 0
      · subst hz
        go_wp2
        refine wp_region_grow (by kernel_rfl) ?_
        have hS := Grow.refl wr.drew
        refine wpAnyH_take (i := 0) (oi := { dst := some 90, op := Go.Op.move (Go.Operand.tmp 4), type := 26, pos := "law.go:48", after := #[], guard := none }) (v := ?v1x0) rfl (by kernel_rfl) (by kernel_rfl) (by kernel_rfl) (fun _ _ _ h => h) (Or.inl ⟨by kernel_rfl, ?hy1x0⟩) hS ?rest1x0
        case hy1x0 => intro w' hSw; go_simp; try with_reducible rfl
        simp only [Act.put, List.setIfInBounds_toArray, List.set_cons_zero, List.set_cons_succ]
        refine wpAnyH_take (i := 3) (oi := { dst := some 93, op := Go.Op.move (Go.Operand.tmp 5), type := 37, pos := "law.go:48", after := #[], guard := none }) (v := ?v1x3) rfl (by kernel_rfl) (by kernel_rfl) (by kernel_rfl) (fun _ _ _ h => h) (Or.inl ⟨by kernel_rfl, ?hy1x3⟩) hS ?rest1x3
        case hy1x3 => intro w' hSw; go_simp; try with_reducible rfl
        simp only [Act.put, List.setIfInBounds_toArray, List.set_cons_zero, List.set_cons_succ]
        refine wpAnyH_take (i := 4) (oi := { dst := some 94, op := Go.Op.nilCheck (Go.Operand.tmp 93), type := 0, pos := "law.go:48", after := #[{ on := 3, ground := Go.Ground.data }], guard := none }) (v := ?v1x4) rfl (by kernel_rfl) (by kernel_rfl) (by kernel_rfl) (fun _ _ _ h => h) (Or.inl ⟨by kernel_rfl, ?hy1x4⟩) hS ?rest1x4
        case hy1x4 => intro w' hSw; go_simp; try with_reducible rfl
        simp only [Act.put, List.setIfInBounds_toArray, List.set_cons_zero, List.set_cons_succ]
        refine wpAnyH_take (i := 5) (oi := { dst := some 95, op := Go.Op.fieldAddr 39 (Go.Operand.tmp 94) 0, type := 0, pos := "law.go:48", after := #[{ on := 4, ground := Go.Ground.data }], guard := none }) (v := ?v1x5) rfl (by kernel_rfl) (by kernel_rfl) (by kernel_rfl) (fun _ _ _ h => h) (Or.inl ⟨by kernel_rfl, ?hy1x5⟩) hS ?rest1x5
        case hy1x5 => intro w' hSw; go_simp; try with_reducible rfl
        simp only [Act.put, List.setIfInBounds_toArray, List.set_cons_zero, List.set_cons_succ]
        refine wpAnyH_take (i := 6) (oi := { dst := some 96, op := Go.Op.load 22 (Go.Operand.tmp 95), type := 22, pos := "law.go:48", after := #[{ on := 5, ground := Go.Ground.data }], guard := none }) (v := ?v1x6) rfl (by kernel_rfl) (by kernel_rfl) (by kernel_rfl) (fun _ _ _ h => h) (Or.inl ⟨by kernel_rfl, ?hy1x6⟩) hS ?rest1x6
        case hy1x6 => intro w' hSw; have q9 := cell_below q0 hSw; go_simp; try with_reducible rfl
        simp only [Act.put, List.setIfInBounds_toArray, List.set_cons_zero, List.set_cons_succ]
        refine wpAnyH_take (i := 7) (oi := { dst := some 97, op := Go.Op.convert 22 9 (Go.Operand.tmp 96), type := 9, pos := "law.go:48", after := #[{ on := 6, ground := Go.Ground.data }], guard := none }) (v := ?v1x7) rfl (by kernel_rfl) (by kernel_rfl) (by kernel_rfl) (fun _ _ _ h => h) (Or.inl ⟨by kernel_rfl, ?hy1x7⟩) hS ?rest1x7
        case hy1x7 => intro w' hSw; have k9 := HCV.out w' _ _ _ (HS0.out.below hSw); go_simp; try with_reducible rfl
        simp only [Act.put, List.setIfInBounds_toArray, List.set_cons_zero, List.set_cons_succ]
        refine wpAnyH_ready (rs := [1]) (by kernel_rfl) (by simp) ?_
        refine AllReadyH.cons rfl (fun K hK => ?_) AllReadyH.nil
        go_simp
        go_wp2_with (go_at_call 18; refine (wr_bytes _ _ 0 L 28 HPd.out.l HLL.out (by omega)).mono ?_; rintro e w2 ⟨A2, c2, rfl, hn⟩; have hg : Grow wr.drew w2 := hn.2; have q2 := cell_below q0 hg; have HS2 := Lib.hid (HS0.out.below hg); have HA2 := Lib.hid hn.1.sl; have HP2 := Lib.hid (HPd.out.old hg); have HI2 := Lib.hid (HIT2.out.below hg); clear hn)
        refine hK.out _ _ hg (fun _ => ?_)
        refine grow_base hg ?_
        clear hS hg hK
        have hS := Grow.refl w2
        refine wpAnyH_take (i := 2) (oi := { dst := some 92, op := Go.Op.convert 22 9 (Go.Operand.tmp 91), type := 9, pos := "law.go:48", after := #[{ on := 1, ground := Go.Ground.data }], guard := none }) (v := ?v1x2) rfl (by kernel_rfl) (by kernel_rfl) (by kernel_rfl) (fun _ _ _ h => h) (Or.inl ⟨by kernel_rfl, ?hy1x2⟩) hS ?rest1x2
        case hy1x2 => intro w' hSw; have k9 := HCV.out w' _ _ _ (HA2.out.below hSw); go_simp; try with_reducible rfl
        simp only [Act.put, List.setIfInBounds_toArray, List.set_cons_zero, List.set_cons_succ]
        refine wpAnyH_take (i := 8) (oi := { dst := some 98, op := Go.Op.binOp Go.BinOp.eql 9 (Go.Operand.tmp 92) (Go.Operand.tmp 97) 9, type := 4, pos := "law.go:48", after := #[{ on := 2, ground := Go.Ground.data }, { on := 7, ground := Go.Ground.data }], guard := none }) (v := ?v1x8) rfl (by kernel_rfl) (by kernel_rfl) (by kernel_rfl) (fun _ _ _ h => h) (Or.inl ⟨by kernel_rfl, ?hy1x8⟩) hS ?rest1x8
        case hy1x8 => intro w' hSw; go_simp; try with_reducible rfl
        simp only [Act.put, List.setIfInBounds_toArray, List.set_cons_zero, List.set_cons_succ]
        refine wpAnyH_take (i := 9) (oi := { dst := some 99, op := Go.Op.move (Go.Operand.tmp 98), type := 4, pos := "law.go:48", after := #[{ on := 8, ground := Go.Ground.data }, { on := 1, ground := Go.Ground.chain }], guard := none }) (v := ?v1x9) rfl (by kernel_rfl) (by kernel_rfl) (by kernel_rfl) (fun _ _ _ h => h) (Or.inl ⟨by kernel_rfl, ?hy1x9⟩) hS ?rest1x9
        case hy1x9 => intro w' hSw; go_simp; try with_reducible rfl
        simp only [Act.put, List.setIfInBounds_toArray, List.set_cons_zero, List.set_cons_succ]
        refine wpAnyH_take (i := 10) (oi := { dst := some 100, op := Go.Op.move (Go.Operand.tmp 5), type := 37, pos := "law.go:48", after := #[{ on := 9, ground := Go.Ground.guard }], guard := some (9, true) }) (v := ?v1x10) rfl (by kernel_rfl) (by kernel_rfl) (by kernel_rfl) (fun _ _ _ h => h) (Or.inl ⟨by kernel_rfl, ?hy1x10⟩) hS ?rest1x10
        case hy1x10 => intro w' hSw; go_simp; try with_reducible rfl
        simp only [Act.put, List.setIfInBounds_toArray, List.set_cons_zero, List.set_cons_succ]
        refine wpAnyH_take (i := 11) (oi := { dst := some 101, op := Go.Op.nilCheck (Go.Operand.tmp 100), type := 0, pos := "law.go:48", after := #[{ on := 10, ground := Go.Ground.data }, { on := 9, ground := Go.Ground.guard }], guard := some (9, true) }) (v := ?v1x11) rfl (by kernel_rfl) (by kernel_rfl) (by kernel_rfl) (fun _ _ _ h => h) (Or.inl ⟨by kernel_rfl, ?hy1x11⟩) hS ?rest1x11
        case hy1x11 => intro w' hSw; go_simp; try with_reducible rfl
        simp only [Act.put, List.setIfInBounds_toArray, List.set_cons_zero, List.set_cons_succ]
        refine wpAnyH_take (i := 12) (oi := { dst := some 102, op := Go.Op.fieldAddr 39 (Go.Operand.tmp 101) 0, type := 0, pos := "law.go:48", after := #[{ on := 11, ground := Go.Ground.data }, { on := 9, ground := Go.Ground.guard }], guard := some (9, true) }) (v := ?v1x12) rfl (by kernel_rfl) (by kernel_rfl) (by kernel_rfl) (fun _ _ _ h => h) (Or.inl ⟨by kernel_rfl, ?hy1x12⟩) hS ?rest1x12
        case hy1x12 => intro w' hSw; go_simp; try with_reducible rfl
        simp only [Act.put, List.setIfInBounds_toArray, List.set_cons_zero, List.set_cons_succ]
        refine wpAnyH_take (i := 13) (oi := { dst := some 103, op := Go.Op.load 22 (Go.Operand.tmp 102), type := 22, pos := "law.go:48", after := #[{ on := 12, ground := Go.Ground.data }, { on := 9, ground := Go.Ground.guard }], guard := some (9, true) }) (v := ?v1x13) rfl (by kernel_rfl) (by kernel_rfl) (by kernel_rfl) (fun _ _ _ h => h) (Or.inl ⟨by kernel_rfl, ?hy1x13⟩) hS ?rest1x13
        case hy1x13 => intro w' hSw; have q9 := cell_below q2 hSw; go_simp; try with_reducible rfl
        simp only [Act.put, List.setIfInBounds_toArray, List.set_cons_zero, List.set_cons_succ]
        refine wpAnyH_take (i := 14) (oi := { dst := some 104, op := Go.Op.move (Go.Operand.tmp 0), type := 23, pos := "law.go:48", after := #[{ on := 9, ground := Go.Ground.guard }], guard := some (9, true) }) (v := ?v1x14) rfl (by kernel_rfl) (by kernel_rfl) (by kernel_rfl) (fun _ _ _ h => h) (Or.inl ⟨by kernel_rfl, ?hy1x14⟩) hS ?rest1x14
        case hy1x14 => intro w' hSw; go_simp; try with_reducible rfl
        simp only [Act.put, List.setIfInBounds_toArray, List.set_cons_zero, List.set_cons_succ]
        refine wpAnyH_ready (rs := [15]) (by kernel_rfl) (by simp) ?_
        refine AllReadyH.cons rfl (fun K hK => ?_) AllReadyH.nil
        go_simp
        go_wp2_with (go_at_call 14; refine (reads_any _ _ _ _ L HS2.out (by omega) (by omega) _ _ _ its HI2.out (by omega)).mono ?_; rintro e w3 ⟨rfl, hg⟩; replace hg : Grow w2 w3 := hg; have q3 := cell_below q2 hg; have HS3 := Lib.hid (HS2.out.below hg); have HP3 := Lib.hid (HP2.out.old hg); have HI3 := Lib.hid (HI2.out.below hg))
        refine hK.out _ _ hg (fun _ => ?_)
        refine grow_base hg ?_
        clear hS hg hK
        have hS := Grow.refl w3
        refine wpAnyH_take (i := 16) (oi := { dst := some 106, op := Go.Op.pick (Go.Operand.tmp 99) (Go.Operand.tmp 105) (Go.Operand.const (Go.Value.bool false)), type := 4, pos := "law.go:48", after := #[{ on := 9, ground := Go.Ground.data }, { on := 15, ground := Go.Ground.data }], guard := none }) (v := ?v1x16) rfl (by kernel_rfl) (by kernel_rfl) (by kernel_rfl) (fun _ _ _ h => h) (Or.inl ⟨by kernel_rfl, ?hy1x16⟩) hS ?rest1x16
        case hy1x16 => intro w' hSw; go_simp; try with_reducible rfl
        simp only [Act.put, List.setIfInBounds_toArray, List.set_cons_zero, List.set_cons_succ]
        refine wpAnyH_take (i := 17) (oi := { dst := some 107, op := Go.Op.move (Go.Operand.tmp 106), type := 4, pos := "law.go:48", after := #[{ on := 16, ground := Go.Ground.data }, { on := 15, ground := Go.Ground.chain }], guard := none }) (v := ?v1x17) rfl (by kernel_rfl) (by kernel_rfl) (by kernel_rfl) (fun _ _ _ h => h) (Or.inl ⟨by kernel_rfl, ?hy1x17⟩) hS ?rest1x17
        case hy1x17 => intro w' hSw; go_simp; try with_reducible rfl
        simp only [Act.put, List.setIfInBounds_toArray, List.set_cons_zero, List.set_cons_succ]
        refine wpAnyH_take (i := 18) (oi := { dst := some 108, op := Go.Op.move (Go.Operand.tmp 5), type := 37, pos := "law.go:48", after := #[{ on := 17, ground := Go.Ground.guard }], guard := some (17, true) }) (v := ?v1x18) rfl (by kernel_rfl) (by kernel_rfl) (by kernel_rfl) (fun _ _ _ h => h) (Or.inl ⟨by kernel_rfl, ?hy1x18⟩) hS ?rest1x18
        case hy1x18 => intro w' hSw; go_simp; try with_reducible rfl
        simp only [Act.put, List.setIfInBounds_toArray, List.set_cons_zero, List.set_cons_succ]
        refine wpAnyH_take (i := 19) (oi := { dst := some 109, op := Go.Op.nilCheck (Go.Operand.tmp 108), type := 0, pos := "law.go:48", after := #[{ on := 18, ground := Go.Ground.data }, { on := 17, ground := Go.Ground.guard }], guard := some (17, true) }) (v := ?v1x19) rfl (by kernel_rfl) (by kernel_rfl) (by kernel_rfl) (fun _ _ _ h => h) (Or.inl ⟨by kernel_rfl, ?hy1x19⟩) hS ?rest1x19
        case hy1x19 => intro w' hSw; go_simp; try with_reducible rfl
        simp only [Act.put, List.setIfInBounds_toArray, List.set_cons_zero, List.set_cons_succ]
        refine wpAnyH_take (i := 20) (oi := { dst := some 110, op := Go.Op.fieldAddr 39 (Go.Operand.tmp 109) 0, type := 0, pos := "law.go:48", after := #[{ on := 19, ground := Go.Ground.data }, { on := 17, ground := Go.Ground.guard }], guard := some (17, true) }) (v := ?v1x20) rfl (by kernel_rfl) (by kernel_rfl) (by kernel_rfl) (fun _ _ _ h => h) (Or.inl ⟨by kernel_rfl, ?hy1x20⟩) hS ?rest1x20
        case hy1x20 => intro w' hSw; go_simp; try with_reducible rfl
        simp only [Act.put, List.setIfInBounds_toArray, List.set_cons_zero, List.set_cons_succ]
        refine wpAnyH_take (i := 21) (oi := { dst := some 111, op := Go.Op.load 22 (Go.Operand.tmp 110), type := 22, pos := "law.go:48", after := #[{ on := 20, ground := Go.Ground.data }, { on := 17, ground := Go.Ground.guard }], guard := some (17, true) }) (v := ?v1x21) rfl (by kernel_rfl) (by kernel_rfl) (by kernel_rfl) (fun _ _ _ h => h) (Or.inl ⟨by kernel_rfl, ?hy1x21⟩) hS ?rest1x21
        case hy1x21 => intro w' hSw; have q9 := cell_below q3 hSw; go_simp; try with_reducible rfl
        simp only [Act.put, List.setIfInBounds_toArray, List.set_cons_zero, List.set_cons_succ]
        refine wpAnyH_take (i := 22) (oi := { dst := some 112, op := Go.Op.call { callee := Go.Callee.builtin Go.Builtin.len, args := #[Go.Operand.tmp 111], argTypes := #[22] }, type := 3, pos := "law.go:48", after := #[{ on := 21, ground := Go.Ground.data }, { on := 17, ground := Go.Ground.guard }], guard := some (17, true) }) (v := ?v1x22) rfl (by kernel_rfl) (by kernel_rfl) (by kernel_rfl) (fun _ _ _ h => h) (Or.inl ⟨by kernel_rfl, ?hy1x22⟩) hS ?rest1x22
        case hy1x22 => intro w' hSw; go_simp; try with_reducible rfl
        simp only [Act.put, List.setIfInBounds_toArray, List.set_cons_zero, List.set_cons_succ]
        refine wpAnyH_take (i := 23) (oi := { dst := some 113, op := Go.Op.binOp Go.BinOp.eql 3 (Go.Operand.tmp 112) (Go.Operand.const (Go.Value.int Go.IntKind.i64 0)) 3, type := 4, pos := "law.go:48", after := #[{ on := 22, ground := Go.Ground.data }, { on := 17, ground := Go.Ground.guard }], guard := some (17, true) }) (v := ?v1x23) rfl (by kernel_rfl) (by kernel_rfl) (by kernel_rfl) (fun _ _ _ h => h) (Or.inl ⟨by kernel_rfl, ?hy1x23⟩) hS ?rest1x23
        case hy1x23 => intro w' hSw; go_simp; try with_reducible rfl
        simp only [Act.put, List.setIfInBounds_toArray, List.set_cons_zero, List.set_cons_succ]
        refine wpAnyH_take (i := 24) (oi := { dst := some 114, op := Go.Op.move (Go.Operand.tmp 113), type := 4, pos := "law.go:48", after := #[{ on := 23, ground := Go.Ground.data }, { on := 17, ground := Go.Ground.chain }, { on := 17, ground := Go.Ground.guard }], guard := some (17, true) }) (v := ?v1x24) rfl (by kernel_rfl) (by kernel_rfl) (by kernel_rfl) (fun _ _ _ h => h) (Or.inl ⟨by kernel_rfl, ?hy1x24⟩) hS ?rest1x24
        case hy1x24 => intro w' hSw; go_simp; try with_reducible rfl
        simp only [Act.put, List.setIfInBounds_toArray, List.set_cons_zero, List.set_cons_succ]
        refine wpAnyH_take (i := 25) (oi := { dst := some 115, op := Go.Op.move (Go.Operand.tmp 5), type := 37, pos := "law.go:48", after := #[{ on := 24, ground := Go.Ground.guard }], guard := some (24, false) }) (v := undef) rfl (by kernel_rfl) (by kernel_rfl) (by kernel_rfl) (fun _ _ _ h => h) (Or.inr ⟨by kernel_rfl, rfl⟩) hS ?_
        simp only [Act.put, List.setIfInBounds_toArray, List.set_cons_zero, List.set_cons_succ]
        refine wpAnyH_take (i := 26) (oi := { dst := some 116, op := Go.Op.nilCheck (Go.Operand.tmp 115), type := 0, pos := "law.go:48", after := #[{ on := 25, ground := Go.Ground.data }, { on := 24, ground := Go.Ground.guard }], guard := some (24, false) }) (v := undef) rfl (by kernel_rfl) (by kernel_rfl) (by kernel_rfl) (fun _ _ _ h => h) (Or.inr ⟨by kernel_rfl, rfl⟩) hS ?_
        simp only [Act.put, List.setIfInBounds_toArray, List.set_cons_zero, List.set_cons_succ]
        refine wpAnyH_take (i := 27) (oi := { dst := some 117, op := Go.Op.fieldAddr 39 (Go.Operand.tmp 116) 0, type := 0, pos := "law.go:48", after := #[{ on := 26, ground := Go.Ground.data }, { on := 24, ground := Go.Ground.guard }], guard := some (24, false) }) (v := undef) rfl (by kernel_rfl) (by kernel_rfl) (by kernel_rfl) (fun _ _ _ h => h) (Or.inr ⟨by kernel_rfl, rfl⟩) hS ?_
        simp only [Act.put, List.setIfInBounds_toArray, List.set_cons_zero, List.set_cons_succ]
        refine wpAnyH_take (i := 28) (oi := { dst := some 118, op := Go.Op.load 22 (Go.Operand.tmp 117), type := 22, pos := "law.go:48", after := #[{ on := 27, ground := Go.Ground.data }, { on := 24, ground := Go.Ground.guard }], guard := some (24, false) }) (v := undef) rfl (by kernel_rfl) (by kernel_rfl) (by kernel_rfl) (fun _ _ _ h => h) (Or.inr ⟨by kernel_rfl, rfl⟩) hS ?_
        simp only [Act.put, List.setIfInBounds_toArray, List.set_cons_zero, List.set_cons_succ]
        refine wpAnyH_take (i := 29) (oi := { dst := some 119, op := Go.Op.move (Go.Operand.tmp 5), type := 37, pos := "law.go:48", after := #[{ on := 24, ground := Go.Ground.guard }], guard := some (24, false) }) (v := undef) rfl (by kernel_rfl) (by kernel_rfl) (by kernel_rfl) (fun _ _ _ h => h) (Or.inr ⟨by kernel_rfl, rfl⟩) hS ?_
        simp only [Act.put, List.setIfInBounds_toArray, List.set_cons_zero, List.set_cons_succ]
        refine wpAnyH_take (i := 30) (oi := { dst := some 120, op := Go.Op.nilCheck (Go.Operand.tmp 119), type := 0, pos := "law.go:48", after := #[{ on := 29, ground := Go.Ground.data }, { on := 24, ground := Go.Ground.guard }], guard := some (24, false) }) (v := undef) rfl (by kernel_rfl) (by kernel_rfl) (by kernel_rfl) (fun _ _ _ h => h) (Or.inr ⟨by kernel_rfl, rfl⟩) hS ?_
        simp only [Act.put, List.setIfInBounds_toArray, List.set_cons_zero, List.set_cons_succ]
        refine wpAnyH_take (i := 31) (oi := { dst := some 121, op := Go.Op.fieldAddr 39 (Go.Operand.tmp 120) 0, type := 0, pos := "law.go:48", after := #[{ on := 30, ground := Go.Ground.data }, { on := 24, ground := Go.Ground.guard }], guard := some (24, false) }) (v := undef) rfl (by kernel_rfl) (by kernel_rfl) (by kernel_rfl) (fun _ _ _ h => h) (Or.inr ⟨by kernel_rfl, rfl⟩) hS ?_
        simp only [Act.put, List.setIfInBounds_toArray, List.set_cons_zero, List.set_cons_succ]
        refine wpAnyH_take (i := 32) (oi := { dst := some 122, op := Go.Op.load 22 (Go.Operand.tmp 121), type := 22, pos := "law.go:48", after := #[{ on := 31, ground := Go.Ground.data }, { on := 24, ground := Go.Ground.guard }], guard := some (24, false) }) (v := undef) rfl (by kernel_rfl) (by kernel_rfl) (by kernel_rfl) (fun _ _ _ h => h) (Or.inr ⟨by kernel_rfl, rfl⟩) hS ?_
        simp only [Act.put, List.setIfInBounds_toArray, List.set_cons_zero, List.set_cons_succ]
        refine wpAnyH_take (i := 33) (oi := { dst := some 123, op := Go.Op.call { callee := Go.Callee.builtin Go.Builtin.len, args := #[Go.Operand.tmp 122], argTypes := #[22] }, type := 3, pos := "law.go:48", after := #[{ on := 32, ground := Go.Ground.data }, { on := 24, ground := Go.Ground.guard }], guard := some (24, false) }) (v := undef) rfl (by kernel_rfl) (by kernel_rfl) (by kernel_rfl) (fun _ _ _ h => h) (Or.inr ⟨by kernel_rfl, rfl⟩) hS ?_
        simp only [Act.put, List.setIfInBounds_toArray, List.set_cons_zero, List.set_cons_succ]
        refine wpAnyH_take (i := 34) (oi := { dst := some 124, op := Go.Op.binOp Go.BinOp.sub 3 (Go.Operand.tmp 123) (Go.Operand.const (Go.Value.int Go.IntKind.i64 1)) 3, type := 3, pos := "law.go:48", after := #[{ on := 33, ground := Go.Ground.data }, { on := 24, ground := Go.Ground.guard }], guard := some (24, false) }) (v := undef) rfl (by kernel_rfl) (by kernel_rfl) (by kernel_rfl) (fun _ _ _ h => h) (Or.inr ⟨by kernel_rfl, rfl⟩) hS ?_
        simp only [Act.put, List.setIfInBounds_toArray, List.set_cons_zero, List.set_cons_succ]
        refine wpAnyH_take (i := 35) (oi := { dst := some 125, op := Go.Op.slice 22 (Go.Operand.tmp 118) none (some (Go.Operand.tmp 124)) none, type := 22, pos := "law.go:48", after := #[{ on := 28, ground := Go.Ground.data }, { on := 34, ground := Go.Ground.data }, { on := 24, ground := Go.Ground.guard }], guard := some (24, false) }) (v := undef) rfl (by kernel_rfl) (by kernel_rfl) (by kernel_rfl) (fun _ _ _ h => h) (Or.inr ⟨by kernel_rfl, rfl⟩) hS ?_
        simp only [Act.put, List.setIfInBounds_toArray, List.set_cons_zero, List.set_cons_succ]
        refine wpAnyH_take (i := 36) (oi := { dst := some 126, op := Go.Op.move (Go.Operand.tmp 0), type := 23, pos := "law.go:48", after := #[{ on := 24, ground := Go.Ground.guard }], guard := some (24, false) }) (v := undef) rfl (by kernel_rfl) (by kernel_rfl) (by kernel_rfl) (fun _ _ _ h => h) (Or.inr ⟨by kernel_rfl, rfl⟩) hS ?_
        simp only [Act.put, List.setIfInBounds_toArray, List.set_cons_zero, List.set_cons_succ]
        refine wpAnyH_take (i := 37) (oi := { dst := some 127, op := Go.Op.call { callee := Go.Callee.value (Go.Operand.func 14), args := #[Go.Operand.tmp 125, Go.Operand.tmp 126], argTypes := #[22, 23] }, type := 4, pos := "law.go:48", after := #[{ on := 35, ground := Go.Ground.data }, { on := 36, ground := Go.Ground.data }, { on := 24, ground := Go.Ground.chain }, { on := 24, ground := Go.Ground.guard }], guard := some (24, false) }) (v := undef) rfl (by kernel_rfl) (by kernel_rfl) (by kernel_rfl) (fun _ _ _ h => h) (Or.inr ⟨by kernel_rfl, rfl⟩) hS ?_
        simp only [Act.put, List.setIfInBounds_toArray, List.set_cons_zero, List.set_cons_succ]
        refine wpAnyH_take (i := 38) (oi := { dst := some 128, op := Go.Op.pick (Go.Operand.tmp 114) (Go.Operand.const (Go.Value.bool true)) (Go.Operand.tmp 127), type := 4, pos := "law.go:48", after := #[{ on := 24, ground := Go.Ground.data }, { on := 37, ground := Go.Ground.data }, { on := 17, ground := Go.Ground.guard }], guard := some (17, true) }) (v := ?v1x38) rfl (by kernel_rfl) (by kernel_rfl) (by kernel_rfl) (fun _ _ _ h => h) (Or.inl ⟨by kernel_rfl, ?hy1x38⟩) hS ?rest1x38
        case hy1x38 => intro w' hSw; go_simp; try with_reducible rfl
        simp only [Act.put, List.setIfInBounds_toArray, List.set_cons_zero, List.set_cons_succ]
        refine wpAnyH_take (i := 39) (oi := { dst := some 129, op := Go.Op.pick (Go.Operand.tmp 107) (Go.Operand.tmp 128) (Go.Operand.const (Go.Value.bool false)), type := 4, pos := "law.go:48", after := #[{ on := 17, ground := Go.Ground.data }, { on := 38, ground := Go.Ground.data }], guard := none }) (v := ?v1x39) rfl (by kernel_rfl) (by kernel_rfl) (by kernel_rfl) (fun _ _ _ h => h) (Or.inl ⟨by kernel_rfl, ?hy1x39⟩) hS ?rest1x39
        case hy1x39 => intro w' hSw; go_simp; try with_reducible rfl
        simp only [Act.put, List.setIfInBounds_toArray, List.set_cons_zero, List.set_cons_succ]
        refine wpAnyH_take (i := 40) (oi := { dst := some 2, op := Go.Op.assign (Go.Operand.tmp 129), type := 4, pos := "law.go:48", after := #[{ on := 39, ground := Go.Ground.data }, { on := 37, ground := Go.Ground.chain }, { on := 0, ground := Go.Ground.phase }, { on := 1, ground := Go.Ground.phase }, { on := 2, ground := Go.Ground.phase }, { on := 3, ground := Go.Ground.phase }, { on := 4, ground := Go.Ground.phase }, { on := 5, ground := Go.Ground.phase }, { on := 6, ground := Go.Ground.phase }, { on := 7, ground := Go.Ground.phase }, { on := 8, ground := Go.Ground.phase }, { on := 9, ground := Go.Ground.phase }, { on := 10, ground := Go.Ground.phase }, { on := 11, ground := Go.Ground.phase }, { on := 12, ground := Go.Ground.phase }, { on := 13, ground := Go.Ground.phase }, { on := 14, ground := Go.Ground.phase }, { on := 15, ground := Go.Ground.phase }, { on := 16, ground := Go.Ground.phase }, { on := 17, ground := Go.Ground.phase }, { on := 18, ground := Go.Ground.phase }, { on := 19, ground := Go.Ground.phase }, { on := 20, ground := Go.Ground.phase }, { on := 21, ground := Go.Ground.phase }, { on := 22, ground := Go.Ground.phase }, { on := 23, ground := Go.Ground.phase }, { on := 24, ground := Go.Ground.phase }, { on := 25, ground := Go.Ground.phase }, { on := 26, ground := Go.Ground.phase }, { on := 27, ground := Go.Ground.phase }, { on := 28, ground := Go.Ground.phase }, { on := 29, ground := Go.Ground.phase }, { on := 30, ground := Go.Ground.phase }, { on := 31, ground := Go.Ground.phase }, { on := 32, ground := Go.Ground.phase }, { on := 33, ground := Go.Ground.phase }, { on := 34, ground := Go.Ground.phase }, { on := 35, ground := Go.Ground.phase }, { on := 36, ground := Go.Ground.phase }, { on := 37, ground := Go.Ground.phase }, { on := 38, ground := Go.Ground.phase }, { on := 39, ground := Go.Ground.phase }], guard := none }) (v := ?v1x40) rfl (by kernel_rfl) (by kernel_rfl) (by kernel_rfl) (fun _ _ _ h => h) (Or.inl ⟨by kernel_rfl, ?hy1x40⟩) hS ?rest1x40
        case hy1x40 => intro w' hSw; go_simp; try with_reducible rfl
        simp only [Act.put, List.setIfInBounds_toArray, List.set_cons_zero, List.set_cons_succ]
        refine wpAnyH_done (by kernel_rfl) ?_ _
        go_wp2
        go_ret
        exact ⟨rfl, HP3.out.below⟩
      · have hsub : IntKind.i64.wrap ((n3 : Int) - 1) = ((n3 - 1 : Nat) : Int) := by rw [IntKind.wrap_i64]; omega
        have hpos : (1 : Int) ≤ (n3 : Int) := by omega
        have hne : ((n3 : Int) == 0) = false := beq_eq_false_iff_ne.mpr (by omega)
        have hnc4 : n3 ≤ c3 + 1 := by omega
        clear hz
        go_wp2
        refine wp_region_grow (by kernel_rfl) ?_
        have hS := Grow.refl wr.drew
        refine wpAnyH_take (i := 0) (oi := { dst := some 90, op := Go.Op.move (Go.Operand.tmp 4), type := 26, pos := "law.go:48", after := #[], guard := none }) (v := ?v2x0) rfl (by kernel_rfl) (by kernel_rfl) (by kernel_rfl) (fun _ _ _ h => h) (Or.inl ⟨by kernel_rfl, ?hy2x0⟩) hS ?rest2x0
        case hy2x0 => intro w' hSw; go_simp; try with_reducible rfl
        simp only [Act.put, List.setIfInBounds_toArray, List.set_cons_zero, List.set_cons_succ]
        refine wpAnyH_take (i := 3) (oi := { dst := some 93, op := Go.Op.move (Go.Operand.tmp 5), type := 37, pos := "law.go:48", after := #[], guard := none }) (v := ?v2x3) rfl (by kernel_rfl) (by kernel_rfl) (by kernel_rfl) (fun _ _ _ h => h) (Or.inl ⟨by kernel_rfl, ?hy2x3⟩) hS ?rest2x3
        case hy2x3 => intro w' hSw; go_simp; try with_reducible rfl
        simp only [Act.put, List.setIfInBounds_toArray, List.set_cons_zero, List.set_cons_succ]
        refine wpAnyH_take (i := 4) (oi := { dst := some 94, op := Go.Op.nilCheck (Go.Operand.tmp 93), type := 0, pos := "law.go:48", after := #[{ on := 3, ground := Go.Ground.data }], guard := none }) (v := ?v2x4) rfl (by kernel_rfl) (by kernel_rfl) (by kernel_rfl) (fun _ _ _ h => h) (Or.inl ⟨by kernel_rfl, ?hy2x4⟩) hS ?rest2x4
        case hy2x4 => intro w' hSw; go_simp; try with_reducible rfl
        simp only [Act.put, List.setIfInBounds_toArray, List.set_cons_zero, List.set_cons_succ]
        refine wpAnyH_take (i := 5) (oi := { dst := some 95, op := Go.Op.fieldAddr 39 (Go.Operand.tmp 94) 0, type := 0, pos := "law.go:48", after := #[{ on := 4, ground := Go.Ground.data }], guard := none }) (v := ?v2x5) rfl (by kernel_rfl) (by kernel_rfl) (by kernel_rfl) (fun _ _ _ h => h) (Or.inl ⟨by kernel_rfl, ?hy2x5⟩) hS ?rest2x5
        case hy2x5 => intro w' hSw; go_simp; try with_reducible rfl
        simp only [Act.put, List.setIfInBounds_toArray, List.set_cons_zero, List.set_cons_succ]
        refine wpAnyH_take (i := 6) (oi := { dst := some 96, op := Go.Op.load 22 (Go.Operand.tmp 95), type := 22, pos := "law.go:48", after := #[{ on := 5, ground := Go.Ground.data }], guard := none }) (v := ?v2x6) rfl (by kernel_rfl) (by kernel_rfl) (by kernel_rfl) (fun _ _ _ h => h) (Or.inl ⟨by kernel_rfl, ?hy2x6⟩) hS ?rest2x6
        case hy2x6 => intro w' hSw; have q9 := cell_below q0 hSw; go_simp; try with_reducible rfl
        simp only [Act.put, List.setIfInBounds_toArray, List.set_cons_zero, List.set_cons_succ]
        refine wpAnyH_take (i := 7) (oi := { dst := some 97, op := Go.Op.convert 22 9 (Go.Operand.tmp 96), type := 9, pos := "law.go:48", after := #[{ on := 6, ground := Go.Ground.data }], guard := none }) (v := ?v2x7) rfl (by kernel_rfl) (by kernel_rfl) (by kernel_rfl) (fun _ _ _ h => h) (Or.inl ⟨by kernel_rfl, ?hy2x7⟩) hS ?rest2x7
        case hy2x7 => intro w' hSw; have k9 := HCV.out w' _ _ _ (HS0.out.below hSw); go_simp; try with_reducible rfl
        simp only [Act.put, List.setIfInBounds_toArray, List.set_cons_zero, List.set_cons_succ]
        refine wpAnyH_ready (rs := [1]) (by kernel_rfl) (by simp) ?_
        refine AllReadyH.cons rfl (fun K hK => ?_) AllReadyH.nil
        go_simp
        go_wp2_with (go_at_call 18; refine (wr_bytes _ _ n3 L 28 HPd.out.l HLL.out (by omega)).mono ?_; rintro e w2 ⟨A2, c2, rfl, hn⟩; have hg : Grow wr.drew w2 := hn.2; have q2 := cell_below q0 hg; have HS2 := Lib.hid (HS0.out.below hg); have HA2 := Lib.hid hn.1.sl; have HP2 := Lib.hid (HPd.out.old hg); have HI2 := Lib.hid (HIT2.out.below hg); clear hn)
        refine hK.out _ _ hg (fun _ => ?_)
        refine grow_base hg ?_
        clear hS hg hK
        have hS := Grow.refl w2
        refine wpAnyH_take (i := 2) (oi := { dst := some 92, op := Go.Op.convert 22 9 (Go.Operand.tmp 91), type := 9, pos := "law.go:48", after := #[{ on := 1, ground := Go.Ground.data }], guard := none }) (v := ?v2x2) rfl (by kernel_rfl) (by kernel_rfl) (by kernel_rfl) (fun _ _ _ h => h) (Or.inl ⟨by kernel_rfl, ?hy2x2⟩) hS ?rest2x2
        case hy2x2 => intro w' hSw; have k9 := HCV.out w' _ _ _ (HA2.out.below hSw); go_simp; try with_reducible rfl
        simp only [Act.put, List.setIfInBounds_toArray, List.set_cons_zero, List.set_cons_succ]
        refine wpAnyH_take (i := 8) (oi := { dst := some 98, op := Go.Op.binOp Go.BinOp.eql 9 (Go.Operand.tmp 92) (Go.Operand.tmp 97) 9, type := 4, pos := "law.go:48", after := #[{ on := 2, ground := Go.Ground.data }, { on := 7, ground := Go.Ground.data }], guard := none }) (v := ?v2x8) rfl (by kernel_rfl) (by kernel_rfl) (by kernel_rfl) (fun _ _ _ h => h) (Or.inl ⟨by kernel_rfl, ?hy2x8⟩) hS ?rest2x8
        case hy2x8 => intro w' hSw; go_simp; try with_reducible rfl
        simp only [Act.put, List.setIfInBounds_toArray, List.set_cons_zero, List.set_cons_succ]
        refine wpAnyH_take (i := 9) (oi := { dst := some 99, op := Go.Op.move (Go.Operand.tmp 98), type := 4, pos := "law.go:48", after := #[{ on := 8, ground := Go.Ground.data }, { on := 1, ground := Go.Ground.chain }], guard := none }) (v := ?v2x9) rfl (by kernel_rfl) (by kernel_rfl) (by kernel_rfl) (fun _ _ _ h => h) (Or.inl ⟨by kernel_rfl, ?hy2x9⟩) hS ?rest2x9
        case hy2x9 => intro w' hSw; go_simp; try with_reducible rfl
        simp only [Act.put, List.setIfInBounds_toArray, List.set_cons_zero, List.set_cons_succ]
        refine wpAnyH_take (i := 10) (oi := { dst := some 100, op := Go.Op.move (Go.Operand.tmp 5), type := 37, pos := "law.go:48", after := #[{ on := 9, ground := Go.Ground.guard }], guard := some (9, true) }) (v := ?v2x10) rfl (by kernel_rfl) (by kernel_rfl) (by kernel_rfl) (fun _ _ _ h => h) (Or.inl ⟨by kernel_rfl, ?hy2x10⟩) hS ?rest2x10
        case hy2x10 => intro w' hSw; go_simp; try with_reducible rfl
        simp only [Act.put, List.setIfInBounds_toArray, List.set_cons_zero, List.set_cons_succ]
        refine wpAnyH_take (i := 11) (oi := { dst := some 101, op := Go.Op.nilCheck (Go.Operand.tmp 100), type := 0, pos := "law.go:48", after := #[{ on := 10, ground := Go.Ground.data }, { on := 9, ground := Go.Ground.guard }], guard := some (9, true) }) (v := ?v2x11) rfl (by kernel_rfl) (by kernel_rfl) (by kernel_rfl) (fun _ _ _ h => h) (Or.inl ⟨by kernel_rfl, ?hy2x11⟩) hS ?rest2x11
        case hy2x11 => intro w' hSw; go_simp; try with_reducible rfl
        simp only [Act.put, List.setIfInBounds_toArray, List.set_cons_zero, List.set_cons_succ]
        refine wpAnyH_take (i := 12) (oi := { dst := some 102, op := Go.Op.fieldAddr 39 (Go.Operand.tmp 101) 0, type := 0, pos := "law.go:48", after := #[{ on := 11, ground := Go.Ground.data }, { on := 9, ground := Go.Ground.guard }], guard := some (9, true) }) (v := ?v2x12) rfl (by kernel_rfl) (by kernel_rfl) (by kernel_rfl) (fun _ _ _ h => h) (Or.inl ⟨by kernel_rfl, ?hy2x12⟩) hS ?rest2x12
        case hy2x12 => intro w' hSw; go_simp; try with_reducible rfl
        simp only [Act.put, List.setIfInBounds_toArray, List.set_cons_zero, List.set_cons_succ]
        refine wpAnyH_take (i := 13) (oi := { dst := some 103, op := Go.Op.load 22 (Go.Operand.tmp 102), type := 22, pos := "law.go:48", after := #[{ on := 12, ground := Go.Ground.data }, { on := 9, ground := Go.Ground.guard }], guard := some (9, true) }) (v := ?v2x13) rfl (by kernel_rfl) (by kernel_rfl) (by kernel_rfl) (fun _ _ _ h => h) (Or.inl ⟨by kernel_rfl, ?hy2x13⟩) hS ?rest2x13
        case hy2x13 => intro w' hSw; have q9 := cell_below q2 hSw; go_simp; try with_reducible rfl
        simp only [Act.put, List.setIfInBounds_toArray, List.set_cons_zero, List.set_cons_succ]
        refine wpAnyH_take (i := 14) (oi := { dst := some 104, op := Go.Op.move (Go.Operand.tmp 0), type := 23, pos := "law.go:48", after := #[{ on := 9, ground := Go.Ground.guard }], guard := some (9, true) }) (v := ?v2x14) rfl (by kernel_rfl) (by kernel_rfl) (by kernel_rfl) (fun _ _ _ h => h) (Or.inl ⟨by kernel_rfl, ?hy2x14⟩) hS ?rest2x14
        case hy2x14 => intro w' hSw; go_simp; try with_reducible rfl
        simp only [Act.put, List.setIfInBounds_toArray, List.set_cons_zero, List.set_cons_succ]
        refine wpAnyH_ready (rs := [15]) (by kernel_rfl) (by simp) ?_
        refine AllReadyH.cons rfl (fun K hK => ?_) AllReadyH.nil
        go_simp
        go_wp2_with (go_at_call 14; refine (reads_any _ _ _ _ L HS2.out (by omega) (by omega) _ _ _ its HI2.out (by omega)).mono ?_; rintro e w3 ⟨rfl, hg⟩; replace hg : Grow w2 w3 := hg; have q3 := cell_below q2 hg; have HS3 := Lib.hid (HS2.out.below hg); have HP3 := Lib.hid (HP2.out.old hg); have HI3 := Lib.hid (HI2.out.below hg))
        refine hK.out _ _ hg (fun _ => ?_)
        refine grow_base hg ?_
        clear hS hg hK
        have hS := Grow.refl w3
        refine wpAnyH_take (i := 16) (oi := { dst := some 106, op := Go.Op.pick (Go.Operand.tmp 99) (Go.Operand.tmp 105) (Go.Operand.const (Go.Value.bool false)), type := 4, pos := "law.go:48", after := #[{ on := 9, ground := Go.Ground.data }, { on := 15, ground := Go.Ground.data }], guard := none }) (v := ?v2x16) rfl (by kernel_rfl) (by kernel_rfl) (by kernel_rfl) (fun _ _ _ h => h) (Or.inl ⟨by kernel_rfl, ?hy2x16⟩) hS ?rest2x16
        case hy2x16 => intro w' hSw; go_simp; try with_reducible rfl
        simp only [Act.put, List.setIfInBounds_toArray, List.set_cons_zero, List.set_cons_succ]
        refine wpAnyH_take (i := 17) (oi := { dst := some 107, op := Go.Op.move (Go.Operand.tmp 106), type := 4, pos := "law.go:48", after := #[{ on := 16, ground := Go.Ground.data }, { on := 15, ground := Go.Ground.chain }], guard := none }) (v := ?v2x17) rfl (by kernel_rfl) (by kernel_rfl) (by kernel_rfl) (fun _ _ _ h => h) (Or.inl ⟨by kernel_rfl, ?hy2x17⟩) hS ?rest2x17
        case hy2x17 => intro w' hSw; go_simp; try with_reducible rfl
        simp only [Act.put, List.setIfInBounds_toArray, List.set_cons_zero, List.set_cons_succ]
        refine wpAnyH_take (i := 18) (oi := { dst := some 108, op := Go.Op.move (Go.Operand.tmp 5), type := 37, pos := "law.go:48", after := #[{ on := 17, ground := Go.Ground.guard }], guard := some (17, true) }) (v := ?v2x18) rfl (by kernel_rfl) (by kernel_rfl) (by kernel_rfl) (fun _ _ _ h => h) (Or.inl ⟨by kernel_rfl, ?hy2x18⟩) hS ?rest2x18
        case hy2x18 => intro w' hSw; go_simp; try with_reducible rfl
        simp only [Act.put, List.setIfInBounds_toArray, List.set_cons_zero, List.set_cons_succ]
        refine wpAnyH_take (i := 19) (oi := { dst := some 109, op := Go.Op.nilCheck (Go.Operand.tmp 108), type := 0, pos := "law.go:48", after := #[{ on := 18, ground := Go.Ground.data }, { on := 17, ground := Go.Ground.guard }], guard := some (17, true) }) (v := ?v2x19) rfl (by kernel_rfl) (by kernel_rfl) (by kernel_rfl) (fun _ _ _ h => h) (Or.inl ⟨by kernel_rfl, ?hy2x19⟩) hS ?rest2x19
        case hy2x19 => intro w' hSw; go_simp; try with_reducible rfl
        simp only [Act.put, List.setIfInBounds_toArray, List.set_cons_zero, List.set_cons_succ]
        refine wpAnyH_take (i := 20) (oi := { dst := some 110, op := Go.Op.fieldAddr 39 (Go.Operand.tmp 109) 0, type := 0, pos := "law.go:48", after := #[{ on := 19, ground := Go.Ground.data }, { on := 17, ground := Go.Ground.guard }], guard := some (17, true) }) (v := ?v2x20) rfl (by kernel_rfl) (by kernel_rfl) (by kernel_rfl) (fun _ _ _ h => h) (Or.inl ⟨by kernel_rfl, ?hy2x20⟩) hS ?rest2x20
        case hy2x20 => intro w' hSw; go_simp; try with_reducible rfl
        simp only [Act.put, List.setIfInBounds_toArray, List.set_cons_zero, List.set_cons_succ]
        refine wpAnyH_take (i := 21) (oi := { dst := some 111, op := Go.Op.load 22 (Go.Operand.tmp 110), type := 22, pos := "law.go:48", after := #[{ on := 20, ground := Go.Ground.data }, { on := 17, ground := Go.Ground.guard }], guard := some (17, true) }) (v := ?v2x21) rfl (by kernel_rfl) (by kernel_rfl) (by kernel_rfl) (fun _ _ _ h => h) (Or.inl ⟨by kernel_rfl, ?hy2x21⟩) hS ?rest2x21
        case hy2x21 => intro w' hSw; have q9 := cell_below q3 hSw; go_simp; try with_reducible rfl
        simp only [Act.put, List.setIfInBounds_toArray, List.set_cons_zero, List.set_cons_succ]
        refine wpAnyH_take (i := 22) (oi := { dst := some 112, op := Go.Op.call { callee := Go.Callee.builtin Go.Builtin.len, args := #[Go.Operand.tmp 111], argTypes := #[22] }, type := 3, pos := "law.go:48", after := #[{ on := 21, ground := Go.Ground.data }, { on := 17, ground := Go.Ground.guard }], guard := some (17, true) }) (v := ?v2x22) rfl (by kernel_rfl) (by kernel_rfl) (by kernel_rfl) (fun _ _ _ h => h) (Or.inl ⟨by kernel_rfl, ?hy2x22⟩) hS ?rest2x22
        case hy2x22 => intro w' hSw; go_simp; try with_reducible rfl
        simp only [Act.put, List.setIfInBounds_toArray, List.set_cons_zero, List.set_cons_succ]
        refine wpAnyH_take (i := 23) (oi := { dst := some 113, op := Go.Op.binOp Go.BinOp.eql 3 (Go.Operand.tmp 112) (Go.Operand.const (Go.Value.int Go.IntKind.i64 0)) 3, type := 4, pos := "law.go:48", after := #[{ on := 22, ground := Go.Ground.data }, { on := 17, ground := Go.Ground.guard }], guard := some (17, true) }) (v := ?v2x23) rfl (by kernel_rfl) (by kernel_rfl) (by kernel_rfl) (fun _ _ _ h => h) (Or.inl ⟨by kernel_rfl, ?hy2x23⟩) hS ?rest2x23
        case hy2x23 => intro w' hSw; go_simp; try with_reducible rfl
        simp only [Act.put, List.setIfInBounds_toArray, List.set_cons_zero, List.set_cons_succ]
        refine wpAnyH_take (i := 24) (oi := { dst := some 114, op := Go.Op.move (Go.Operand.tmp 113), type := 4, pos := "law.go:48", after := #[{ on := 23, ground := Go.Ground.data }, { on := 17, ground := Go.Ground.chain }, { on := 17, ground := Go.Ground.guard }], guard := some (17, true) }) (v := ?v2x24) rfl (by kernel_rfl) (by kernel_rfl) (by kernel_rfl) (fun _ _ _ h => h) (Or.inl ⟨by kernel_rfl, ?hy2x24⟩) hS ?rest2x24
        case hy2x24 => intro w' hSw; go_simp; try with_reducible rfl
        simp only [Act.put, List.setIfInBounds_toArray, List.set_cons_zero, List.set_cons_succ]
        refine wpAnyH_take (i := 25) (oi := { dst := some 115, op := Go.Op.move (Go.Operand.tmp 5), type := 37, pos := "law.go:48", after := #[{ on := 24, ground := Go.Ground.guard }], guard := some (24, false) }) (v := ?v2x25) rfl (by kernel_rfl) (by kernel_rfl) (by kernel_rfl) (fun _ _ _ h => h) (Or.inl ⟨by kernel_rfl, ?hy2x25⟩) hS ?rest2x25
        case hy2x25 => intro w' hSw; go_simp; try with_reducible rfl
        simp only [Act.put, List.setIfInBounds_toArray, List.set_cons_zero, List.set_cons_succ]
        refine wpAnyH_take (i := 26) (oi := { dst := some 116, op := Go.Op.nilCheck (Go.Operand.tmp 115), type := 0, pos := "law.go:48", after := #[{ on := 25, ground := Go.Ground.data }, { on := 24, ground := Go.Ground.guard }], guard := some (24, false) }) (v := ?v2x26) rfl (by kernel_rfl) (by kernel_rfl) (by kernel_rfl) (fun _ _ _ h => h) (Or.inl ⟨by kernel_rfl, ?hy2x26⟩) hS ?rest2x26
        case hy2x26 => intro w' hSw; go_simp; try with_reducible rfl
        simp only [Act.put, List.setIfInBounds_toArray, List.set_cons_zero, List.set_cons_succ]
        refine wpAnyH_take (i := 27) (oi := { dst := some 117, op := Go.Op.fieldAddr 39 (Go.Operand.tmp 116) 0, type := 0, pos := "law.go:48", after := #[{ on := 26, ground := Go.Ground.data }, { on := 24, ground := Go.Ground.guard }], guard := some (24, false) }) (v := ?v2x27) rfl (by kernel_rfl) (by kernel_rfl) (by kernel_rfl) (fun _ _ _ h => h) (Or.inl ⟨by kernel_rfl, ?hy2x27⟩) hS ?rest2x27
        case hy2x27 => intro w' hSw; go_simp; try with_reducible rfl
        simp only [Act.put, List.setIfInBounds_toArray, List.set_cons_zero, List.set_cons_succ]
        refine wpAnyH_take (i := 28) (oi := { dst := some 118, op := Go.Op.load 22 (Go.Operand.tmp 117), type := 22, pos := "law.go:48", after := #[{ on := 27, ground := Go.Ground.data }, { on := 24, ground := Go.Ground.guard }], guard := some (24, false) }) (v := ?v2x28) rfl (by kernel_rfl) (by kernel_rfl) (by kernel_rfl) (fun _ _ _ h => h) (Or.inl ⟨by kernel_rfl, ?hy2x28⟩) hS ?rest2x28
        case hy2x28 => intro w' hSw; have q9 := cell_below q3 hSw; go_simp; try with_reducible rfl
        simp only [Act.put, List.setIfInBounds_toArray, List.set_cons_zero, List.set_cons_succ]
        refine wpAnyH_take (i := 29) (oi := { dst := some 119, op := Go.Op.move (Go.Operand.tmp 5), type := 37, pos := "law.go:48", after := #[{ on := 24, ground := Go.Ground.guard }], guard := some (24, false) }) (v := ?v2x29) rfl (by kernel_rfl) (by kernel_rfl) (by kernel_rfl) (fun _ _ _ h => h) (Or.inl ⟨by kernel_rfl, ?hy2x29⟩) hS ?rest2x29
        case hy2x29 => intro w' hSw; go_simp; try with_reducible rfl
        simp only [Act.put, List.setIfInBounds_toArray, List.set_cons_zero, List.set_cons_succ]
        refine wpAnyH_take (i := 30) (oi := { dst := some 120, op := Go.Op.nilCheck (Go.Operand.tmp 119), type := 0, pos := "law.go:48", after := #[{ on := 29, ground := Go.Ground.data }, { on := 24, ground := Go.Ground.guard }], guard := some (24, false) }) (v := ?v2x30) rfl (by kernel_rfl) (by kernel_rfl) (by kernel_rfl) (fun _ _ _ h => h) (Or.inl ⟨by kernel_rfl, ?hy2x30⟩) hS ?rest2x30
        case hy2x30 => intro w' hSw; go_simp; try with_reducible rfl
        simp only [Act.put, List.setIfInBounds_toArray, List.set_cons_zero, List.set_cons_succ]
        refine wpAnyH_take (i := 31) (oi := { dst := some 121, op := Go.Op.fieldAddr 39 (Go.Operand.tmp 120) 0, type := 0, pos := "law.go:48", after := #[{ on := 30, ground := Go.Ground.data }, { on := 24, ground := Go.Ground.guard }], guard := some (24, false) }) (v := ?v2x31) rfl (by kernel_rfl) (by kernel_rfl) (by kernel_rfl) (fun _ _ _ h => h) (Or.inl ⟨by kernel_rfl, ?hy2x31⟩) hS ?rest2x31
        case hy2x31 => intro w' hSw; go_simp; try with_reducible rfl
        simp only [Act.put, List.setIfInBounds_toArray, List.set_cons_zero, List.set_cons_succ]
        refine wpAnyH_take (i := 32) (oi := { dst := some 122, op := Go.Op.load 22 (Go.Operand.tmp 121), type := 22, pos := "law.go:48", after := #[{ on := 31, ground := Go.Ground.data }, { on := 24, ground := Go.Ground.guard }], guard := some (24, false) }) (v := ?v2x32) rfl (by kernel_rfl) (by kernel_rfl) (by kernel_rfl) (fun _ _ _ h => h) (Or.inl ⟨by kernel_rfl, ?hy2x32⟩) hS ?rest2x32
        case hy2x32 => intro w' hSw; have q9 := cell_below q3 hSw; go_simp; try with_reducible rfl
        simp only [Act.put, List.setIfInBounds_toArray, List.set_cons_zero, List.set_cons_succ]
        refine wpAnyH_take (i := 33) (oi := { dst := some 123, op := Go.Op.call { callee := Go.Callee.builtin Go.Builtin.len, args := #[Go.Operand.tmp 122], argTypes := #[22] }, type := 3, pos := "law.go:48", after := #[{ on := 32, ground := Go.Ground.data }, { on := 24, ground := Go.Ground.guard }], guard := some (24, false) }) (v := ?v2x33) rfl (by kernel_rfl) (by kernel_rfl) (by kernel_rfl) (fun _ _ _ h => h) (Or.inl ⟨by kernel_rfl, ?hy2x33⟩) hS ?rest2x33
        case hy2x33 => intro w' hSw; go_simp; try with_reducible rfl
        simp only [Act.put, List.setIfInBounds_toArray, List.set_cons_zero, List.set_cons_succ]
        refine wpAnyH_take (i := 34) (oi := { dst := some 124, op := Go.Op.binOp Go.BinOp.sub 3 (Go.Operand.tmp 123) (Go.Operand.const (Go.Value.int Go.IntKind.i64 1)) 3, type := 3, pos := "law.go:48", after := #[{ on := 33, ground := Go.Ground.data }, { on := 24, ground := Go.Ground.guard }], guard := some (24, false) }) (v := ?v2x34) rfl (by kernel_rfl) (by kernel_rfl) (by kernel_rfl) (fun _ _ _ h => h) (Or.inl ⟨by kernel_rfl, ?hy2x34⟩) hS ?rest2x34
        case hy2x34 => intro w' hSw; go_simp; try with_reducible rfl
        simp only [Act.put, List.setIfInBounds_toArray, List.set_cons_zero, List.set_cons_succ]
        refine wpAnyH_take (i := 35) (oi := { dst := some 125, op := Go.Op.slice 22 (Go.Operand.tmp 118) none (some (Go.Operand.tmp 124)) none, type := 22, pos := "law.go:48", after := #[{ on := 28, ground := Go.Ground.data }, { on := 34, ground := Go.Ground.data }, { on := 24, ground := Go.Ground.guard }], guard := some (24, false) }) (v := ?v2x35) rfl (by kernel_rfl) (by kernel_rfl) (by kernel_rfl) (fun _ _ _ h => h) (Or.inl ⟨by kernel_rfl, ?hy2x35⟩) hS ?rest2x35
        case hy2x35 => intro w' hSw; go_simp; try with_reducible rfl
        simp only [Act.put, List.setIfInBounds_toArray, List.set_cons_zero, List.set_cons_succ]
        refine wpAnyH_take (i := 36) (oi := { dst := some 126, op := Go.Op.move (Go.Operand.tmp 0), type := 23, pos := "law.go:48", after := #[{ on := 24, ground := Go.Ground.guard }], guard := some (24, false) }) (v := ?v2x36) rfl (by kernel_rfl) (by kernel_rfl) (by kernel_rfl) (fun _ _ _ h => h) (Or.inl ⟨by kernel_rfl, ?hy2x36⟩) hS ?rest2x36
        case hy2x36 => intro w' hSw; go_simp; try with_reducible rfl
        simp only [Act.put, List.setIfInBounds_toArray, List.set_cons_zero, List.set_cons_succ]
        refine wpAnyH_ready (rs := [37]) (by kernel_rfl) (by simp) ?_
        refine AllReadyH.cons rfl (fun K hK => ?_) AllReadyH.nil
        go_simp
        go_wp2_with (go_at_call 14; refine (reads_any _ _ _ _ (L.take (n3 - 1)) (HS3.out.take (n3 - 1) (by omega)) (by omega) (by omega) _ _ _ its HI3.out (by omega)).mono ?_; rintro e w4 ⟨rfl, hg⟩; replace hg : Grow w3 w4 := hg; have q4 := cell_below q3 hg; have HS4 := Lib.hid (HS3.out.below hg); have HP4 := Lib.hid (HP3.out.old hg))
        refine hK.out _ _ hg (fun _ => ?_)
        refine grow_base hg ?_
        clear hS hg hK
        have hS := Grow.refl w4
        refine wpAnyH_take (i := 38) (oi := { dst := some 128, op := Go.Op.pick (Go.Operand.tmp 114) (Go.Operand.const (Go.Value.bool true)) (Go.Operand.tmp 127), type := 4, pos := "law.go:48", after := #[{ on := 24, ground := Go.Ground.data }, { on := 37, ground := Go.Ground.data }, { on := 17, ground := Go.Ground.guard }], guard := some (17, true) }) (v := ?v2x38) rfl (by kernel_rfl) (by kernel_rfl) (by kernel_rfl) (fun _ _ _ h => h) (Or.inl ⟨by kernel_rfl, ?hy2x38⟩) hS ?rest2x38
        case hy2x38 => intro w' hSw; go_simp; try with_reducible rfl
        simp only [Act.put, List.setIfInBounds_toArray, List.set_cons_zero, List.set_cons_succ]
        refine wpAnyH_take (i := 39) (oi := { dst := some 129, op := Go.Op.pick (Go.Operand.tmp 107) (Go.Operand.tmp 128) (Go.Operand.const (Go.Value.bool false)), type := 4, pos := "law.go:48", after := #[{ on := 17, ground := Go.Ground.data }, { on := 38, ground := Go.Ground.data }], guard := none }) (v := ?v2x39) rfl (by kernel_rfl) (by kernel_rfl) (by kernel_rfl) (fun _ _ _ h => h) (Or.inl ⟨by kernel_rfl, ?hy2x39⟩) hS ?rest2x39
        case hy2x39 => intro w' hSw; go_simp; try with_reducible rfl
        simp only [Act.put, List.setIfInBounds_toArray, List.set_cons_zero, List.set_cons_succ]
        refine wpAnyH_take (i := 40) (oi := { dst := some 2, op := Go.Op.assign (Go.Operand.tmp 129), type := 4, pos := "law.go:48", after := #[{ on := 39, ground := Go.Ground.data }, { on := 37, ground := Go.Ground.chain }, { on := 0, ground := Go.Ground.phase }, { on := 1, ground := Go.Ground.phase }, { on := 2, ground := Go.Ground.phase }, { on := 3, ground := Go.Ground.phase }, { on := 4, ground := Go.Ground.phase }, { on := 5, ground := Go.Ground.phase }, { on := 6, ground := Go.Ground.phase }, { on := 7, ground := Go.Ground.phase }, { on := 8, ground := Go.Ground.phase }, { on := 9, ground := Go.Ground.phase }, { on := 10, ground := Go.Ground.phase }, { on := 11, ground := Go.Ground.phase }, { on := 12, ground := Go.Ground.phase }, { on := 13, ground := Go.Ground.phase }, { on := 14, ground := Go.Ground.phase }, { on := 15, ground := Go.Ground.phase }, { on := 16, ground := Go.Ground.phase }, { on := 17, ground := Go.Ground.phase }, { on := 18, ground := Go.Ground.phase }, { on := 19, ground := Go.Ground.phase }, { on := 20, ground := Go.Ground.phase }, { on := 21, ground := Go.Ground.phase }, { on := 22, ground := Go.Ground.phase }, { on := 23, ground := Go.Ground.phase }, { on := 24, ground := Go.Ground.phase }, { on := 25, ground := Go.Ground.phase }, { on := 26, ground := Go.Ground.phase }, { on := 27, ground := Go.Ground.phase }, { on := 28, ground := Go.Ground.phase }, { on := 29, ground := Go.Ground.phase }, { on := 30, ground := Go.Ground.phase }, { on := 31, ground := Go.Ground.phase }, { on := 32, ground := Go.Ground.phase }, { on := 33, ground := Go.Ground.phase }, { on := 34, ground := Go.Ground.phase }, { on := 35, ground := Go.Ground.phase }, { on := 36, ground := Go.Ground.phase }, { on := 37, ground := Go.Ground.phase }, { on := 38, ground := Go.Ground.phase }, { on := 39, ground := Go.Ground.phase }], guard := none }) (v := ?v2x40) rfl (by kernel_rfl) (by kernel_rfl) (by kernel_rfl) (fun _ _ _ h => h) (Or.inl ⟨by kernel_rfl, ?hy2x40⟩) hS ?rest2x40
        case hy2x40 => intro w' hSw; go_simp; try with_reducible rfl
        simp only [Act.put, List.setIfInBounds_toArray, List.set_cons_zero, List.set_cons_succ]
        refine wpAnyH_done (by kernel_rfl) ?_ _
        go_wp2
        go_ret
        exact ⟨rfl, HP4.out.below⟩
/-- CodeWrites. -/
theorem writes_any (w : World) (A : Option Addr) (n c : Nat) (its : List It) (h : Items w A n its) : Calls Try.prog 5 #[.slice A n c] w fun e w' => e = .returned (.bool true) ∧ Below w.heap.size w w' := by
  by_cases hn : n ≤ 60
  · exact writes_some w A n c its h hn
  · clear h
    go_enter Try.func5, Try.ntmps5
    go_wp2_with (first
      | (go_at_call 13; (with_reducible refine (alive_any _).mono ?_); rintro e w1 ⟨rfl, hb⟩; have HB := Lib.hid hb; clear hb))
    go_ret
    exact ⟨rfl, HB.out⟩
end Go.Proofs.Ytpgceeeokjadpaa.Code
