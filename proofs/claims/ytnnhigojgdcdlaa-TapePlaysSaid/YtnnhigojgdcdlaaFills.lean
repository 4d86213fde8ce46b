/- TapeFills: how many blocks fit. Conditions: none. -/
import Derived.Test.YtnnhigojgdcdlaaAlive
namespace Go.Proofs.Ytnnhigojgdcdlaa.Code
open Go.RowKit Go.Joins Go.Proofs.Ytnnhigojgdcdlaa.Crc Go.Proofs.Ytnnhigojgdcdlaa.Mem
theorem fullS (w : World) (S : Nat → Prop) (q : Nat) (t : Tp) (h : DrS 58 w S q t) (A : Option Addr) (n c : Nat) (h1 : 0 < n) (h2 : n ≤ 94) (hf : (t.blocks.length : Int) = t.cap) (hc : t.cap ≤ 64) :
    Calls Try.prog 10 #[.pointer (some ⟨q, 0, none⟩), .slice A n c] w fun e w' => e = .returned (.int .i64 6) ∧ ∃ k, w' = w.drewN k := by
  obtain ⟨A', n', c', vs, h⟩ := h
  exact append_full w 0 q t ⟨A', n', c', h.box, ⟨vs, h.rows⟩, Nat.zero_le _⟩ A n c h1 h2 hf hc
theorem readNoS (w : World) (S : Nat → Prop) (q : Nat) (t : Tp) (h : DrS 58 w S q t) (k : Int) (hk : k < 0 ∨ (t.blocks.length : Int) ≤ k) :
    Calls Try.prog 11 #[.pointer (some ⟨q, 0, none⟩), .int .i64 k] w fun e w' => e = .returned (.tuple #[.slice none 0 0, .int .i64 5]) ∧ w' = w := by
  obtain ⟨A, n, c, vs, h⟩ := h
  have hl := h.len
  exact read_no w q t A n c h.box k (by omega)
theorem sl_num (W : World) (k : Nat) (hk : k < 256) : Sl (W.alloc (.cells #[.int .u8 (k : Int)] 5)) (some ⟨W.heap.size, 0, none⟩) 1 1 [UInt8.ofNat k] := by
  have e : (k : Int) = K (UInt8.ofNat k) := by simp [K]; omega
  rw [e]
  exact sl_mark W _ _
/-- A drive that the call made, behind some writings. -/
def Mine (w wr : World) (q : Nat) (t : Tp) : Prop := ∃ S, DrS 58 wr S q t ∧ (∀ j, S j → w.heap.size ≤ j) ∧ Below w.heap.size w wr
theorem Mine.turned {w w2 w3 : World} {q : Nat} {t' : Tp} {S : Nat → Prop} (hs : ∀ j, S j → w.heap.size ≤ j) (hb : Below w.heap.size w w2) (h : Turned 58 w2 S q t' w3) : Mine w w3 q t' :=
  ⟨_, h.1, fun j hj => by rcases hj with hj | hj; exact hs j hj; exact Nat.le_trans hb.size hj.1, hb.trans (h.2.below (fun j _ hj => hs j hj) hb.size)⟩
theorem Mine.drew {w wr : World} {q : Nat} {t : Tp} (h : Mine w wr q t) (n : Nat) : Mine w (wr.drewN n) q t := by
  obtain ⟨S, h1, h2, h3⟩ := h
  exact ⟨S, h1.below (bdrew (Below.refl _ _) n), h2, bdrew h3 n⟩
/-- How the tape stands behind k blocks that were offered. -/
def Fl (w wr : World) (q N k : Nat) : Prop := ∃ bs, bs.length = min k N ∧ Mine w wr q ⟨1, (N : Int), bs, false⟩
theorem fills_out (w : World) (most more : Int) (h : most < 0 ∨ 64 < most ∨ more < 0 ∨ 10 < more) :
    Calls Try.prog 3 #[.int .i64 most, .int .i64 more] w fun e w' => e = .returned (.bool true) ∧ Below w.heap.size w w' := by
  have h4 : most < 0 ∨ (0 ≤ most ∧ 64 < most) ∨ (0 ≤ most ∧ most ≤ 64 ∧ more < 0) ∨ (0 ≤ most ∧ most ≤ 64 ∧ 0 ≤ more ∧ 10 < more) := by omega
  clear h
  rcases h4 with h | ⟨h1, h⟩ | ⟨h1, h2, h⟩ | ⟨h1, h2, h3, h⟩
  all_goals
    go_enter Try.func3, Try.ntmps3
    go_wp2_with (go_at_call 7; (with_reducible refine (alive_any _).mono ?_); rintro e w1 ⟨rfl, hb⟩; have HB := Lib.hid hb; clear hb)
    go_ret
    exact ⟨rfl, HB.out⟩
set_option maxHeartbeats 8000000 in
theorem fills_in (w : World) (N M : Nat) (hN : N ≤ 64) (hM : M ≤ 10) :
    Calls Try.prog 3 #[.int .i64 (N : Int), .int .i64 (M : Int)] w fun e w' => e = .returned (.bool true) ∧ Below w.heap.size w w' := by
  have HLD : Hid (∀ W, Calls Try.prog 8 #[tv ⟨1, (N : Int), [], false⟩ none 0 0] W (Loaded W ⟨1, (N : Int), [], false⟩)) := fun W => load_ok W _ none 0 0 (Blks.nil _) (Int.le_refl _) (by simp) (by simp; omega) (by simp) right_nil rfl
  go_enter Try.func3, Try.ntmps3
  go_wp2_with (first
    | (go_at_call 7; (with_reducible refine (alive_any _).mono ?_); rintro e w1 ⟨rfl, hb⟩; have HB := Lib.hid hb; clear hb)
    | (go_at_call 8; (with_reducible refine (HLD.out _).mono ?_); rintro e w2 ⟨q, rfl, hd, hb⟩; have HD := Lib.hid hd; have HB2 := Lib.hid hb; clear hd hb)
    | (go_at_call 9; (with_reducible refine (num_any _ _).mono ?_); rintro e w' ⟨rfl, hz⟩; obtain rfl := hz.symm))
  have HF : Hid (Fl w w2 q N 0) := ⟨[], by simp, _, HD.out, fun j hj => Nat.le_trans HB.out.size hj.1, HB.out.trans (HB2.out.mono HB.out.size)⟩
  clear HD HB HB2 HLD
  go_loopw [8] (fun i wr => ∃ k, k ≤ N + M ∧ i = .int .i64 (k : Int) ∧ Fl w wr q N k) (fun i _ => N + M - (intOf i).toNat)
  case atStart => exact ⟨0, Nat.zero_le _, rfl, HF.out⟩
  case round =>
    clear HF
    obtain ⟨k, hk, rfl, hf⟩ := hrel
    obtain ⟨bs, hbl, S, hd, hs, hb⟩ := hf
    have HBL := Lib.hid hbl
    have HD := Lib.hid hd
    have HS := Lib.hid hs
    have HB := Lib.hid hb
    clear hbl hd hs hb
    have HC64 : Hid ((⟨1, (N : Int), bs, false⟩ : Tp).cap ≤ 64) := show (N : Int) ≤ 64 by omega
    have HSL : Hid (Sl (wr.alloc (.cells #[.int .u8 (k : Int)] 5)) (some ⟨wr.heap.size, 0, none⟩) 1 1 [UInt8.ofNat k]) := sl_num wr k (by omega)
    have HDA := Lib.hid (HD.out.below ((Below.refl _ _).alloc (Nat.le_refl _) (.cells #[.int .u8 (k : Int)] 5)))
    by_cases hkt : k < N + M
    · by_cases hkn : k < N
      · have HLT : Hid ((bs.length : Int) < (⟨1, (N : Int), bs, false⟩ : Tp).cap) := show (bs.length : Int) < (N : Int) by have := HBL.out; omega
        go_wp2_with (first
          | (go_at_call 10; (with_reducible refine (append_set _ S q _ HDA.out _ 1 1 [UInt8.ofNat k] HSL.out (by decide) (by decide) HLT.out HC64.out).mono ?_); rintro e w3 ⟨rfl, htu⟩; have HTU := Lib.hid htu; clear htu)
          | (go_at_call 9; (with_reducible refine (num_any _ _).mono ?_); rintro e w' ⟨rfl, hz⟩; obtain rfl := hz.symm))
        go_roundw
        case rel => exact ⟨k + 1, by omega, by go_num, _, by have := HBL.out; simp; omega, Mine.turned HS.out (HB.out.alloc HB.out.size _) HTU.out⟩
        case measure => simp [intOf]; omega
      · have HLE : Hid ((bs.length : Int) = (⟨1, (N : Int), bs, false⟩ : Tp).cap) := show (bs.length : Int) = (N : Int) by have := HBL.out; omega
        go_wp2_with (first
          | (go_at_call 10; (with_reducible refine (fullS _ S q _ HDA.out _ 1 1 (by decide) (by decide) HLE.out HC64.out).mono ?_); rintro e w3 ⟨rfl, m, rfl⟩)
          | (go_at_call 9; (with_reducible refine (num_any _ _).mono ?_); rintro e w' ⟨rfl, hz⟩; subst hz))
        go_roundw
        case rel => exact ⟨k + 1, by omega, by go_num, bs, by have := HBL.out; omega, Mine.drew ⟨S, HDA.out, HS.out, HB.out.alloc HB.out.size _⟩ m⟩
        case measure => simp [intOf]; omega
    · obtain rfl : k = N + M := by omega
      have HLN : Hid ((bs.length : Int) = (N : Int)) := by have := HBL.out; unfold Hid; omega
      have HCN : Hid ((⟨1, (N : Int), bs, false⟩ : Tp).cap ≤ 64) := HC64
      have HZ : Hid ((⟨1, (N : Int), bs, false⟩ : Tp).cap - (bs.length : Int) = 0) := show (N : Int) - (bs.length : Int) = 0 by have := HLN.out; omega
      clear HC64 HSL HDA HBL
      go_wp2_with (first
        | (go_at_call 11; (with_reducible refine (readNoS _ S q _ HD.out (N : Int) (.inr (Int.le_of_eq HLN.out))).mono ?_); rintro e w' ⟨rfl, hz⟩; obtain rfl := hz.symm)
        | (go_at_call 12; (with_reducible refine (lenS _ S q _ HD.out (N : Int) HLN.out).mono ?_); rintro e w' ⟨rfl, hz⟩; obtain rfl := hz.symm)
        | (go_at_call 13; (with_reducible refine (roomS _ S q _ HD.out (Int.le_of_eq HLN.out) HCN.out 0 HZ.out).mono ?_); rintro e w' ⟨rfl, m, rfl⟩)
        | (go_at_call 9; (with_reducible refine (num_any _ _).mono ?_); rintro e w' ⟨rfl, hz⟩; subst hz))
      go_ret
      exact ⟨rfl, bdrew HB.out m⟩
theorem fills_any (w : World) (a : Int) (_ha : (Lit.int .i64 a).wf = true) (b : Int) (_hb : (Lit.int .i64 b).wf = true) : Calls Try.prog 3 #[.int .i64 a, .int .i64 b] w fun e w' => e = .returned (.bool true) ∧ Below w.heap.size w w' := by
  by_cases h : a < 0 ∨ 64 < a ∨ b < 0 ∨ 10 < b
  · exact fills_out w a b h
  · obtain ⟨N, rfl⟩ := Int.eq_ofNat_of_zero_le (show 0 ≤ a by omega)
    obtain ⟨M, rfl⟩ := Int.eq_ofNat_of_zero_le (show 0 ≤ b by omega)
    exact fills_in w N M (by omega) (by omega)
end Go.Proofs.Ytnnhigojgdcdlaa.Code
