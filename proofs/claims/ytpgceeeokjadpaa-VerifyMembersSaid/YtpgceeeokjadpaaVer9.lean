/- The examples of the chapter; whether two lists of spots are one. Conditions: none. -/
import Derived.Test.YtpgceeeokjadpaaVer8
namespace Go.Proofs.Ytpgceeeokjadpaa.Code
open Go.RowKit Go.Joins Go.Proofs.Ytpgceeeokjadpaa.Crc Go.Proofs.Ytpgceeeokjadpaa.Mem
theorem rr_spot {w : World} {A : Option Addr} {n : Nat} {l : List (Int × Int)} (h : RR 2 w A n (spc l)) (k : Nat) (hk : k < l.length) : ∃ b o, A = some ⟨b, o, none⟩ ∧ w.cell? ⟨b, o + k * 2, none⟩ = some (.int .i64 l[k].1) ∧ w.cell? ⟨b, o + k * 2 + 1, none⟩ = some (.int .i64 l[k].2) := by
  have hl := spc_len l
  obtain ⟨h0, h1⟩ := spc_at l k hk
  obtain ⟨b, o, ha, hc⟩ := h.2 (k * 2) (by omega)
  obtain ⟨b', o', ha', hc'⟩ := h.2 (k * 2 + 1) (by omega)
  rw [ha] at ha'
  simp at ha'
  obtain ⟨rfl, rfl⟩ := ha'
  rw [List.getElem?_eq_getElem (by omega)] at h0 h1
  injection h0 with h0
  injection h1 with h1
  rw [h0] at hc
  rw [h1] at hc'
  exact ⟨b, o, ha, hc, hc'⟩
set_option maxHeartbeats 8000000 in
set_option maxRecDepth 100000 in
theorem same16_any (w : World) (A A2 : Option Addr) (n c c2 : Nat) (l : List (Int × Int)) (hn : n = l.length) (hn1 : n ≤ 1000000) (h : RR 2 w A n (spc l)) (h2 : RR 2 w A2 n (spc l)) :
    Calls Try.prog 35 #[.slice A n c, .slice A2 n c2] w fun e w' => e = .returned (.bool true) ∧ Below w.heap.size w w' := by
  have HR := Lib.hid h
  have HR2 := Lib.hid h2
  have HN := Lib.hid hn
  clear h h2 hn
  have t0 : ((n : Int) != (n : Int)) = false := by simp
  go_enter Try.func35, Try.ntmps35
  go_wp2
  go_loopw [5] (fun i wr => ∃ k, k ≤ n ∧ i = .int .i64 (k : Int) ∧ ∃ d, wr = w.drewN d) (fun i _ => n - (intOf i).toNat)
  case atStart => exact ⟨0, Nat.zero_le _, rfl, 0, rfl⟩
  case round =>
    obtain ⟨k, hk, rfl, d, rfl⟩ := hrel
    by_cases hkn : k < n
    · obtain ⟨b, o, rfl, h0, h1⟩ := rr_spot HR.out k (by rw [← HN.out]; exact hkn)
      obtain ⟨b2, o2, rfl, g0, g1⟩ := rr_spot HR2.out k (by rw [← HN.out]; exact hkn)
      obtain ⟨x, hx⟩ : ∃ x, x = (l[k]'(by rw [← HN.out]; exact hkn)).1 := ⟨_, rfl⟩
      obtain ⟨y, hy⟩ : ∃ y, y = (l[k]'(by rw [← HN.out]; exact hkn)).2 := ⟨_, rfl⟩
      rw [← hx] at h0 g0
      rw [← hy] at h1 g1
      clear hx hy
      have t1 : (x == x) = true := beq_self_eq_true _
      have t2 : (y == y) = true := beq_self_eq_true _
      go_upto_region 6 with fail
      go_quiet (fail)
      go_wp2
      go_roundw
      case rel => exact ⟨k + 1, by omega, by go_num, _, rfl⟩
      case measure => simp [intOf]; omega
    · obtain rfl : k = n := by omega
      go_wp2
      go_ret
      exact ⟨rfl, bdrawn (Below.refl _ _) _⟩
set_option maxHeartbeats 8000000 in
set_option maxRecDepth 100000 in
theorem alive16_any (w : World) : Calls Try.prog 34 #[] w fun e w' => e = .returned (.bool true) ∧ Below w.heap.size w w' := by
  have hT : Tps (w.alloc (.cells #[.int .i64 4, .int .i64 0, .slice none 0 0, .bool true] 65)) (some ⟨w.heap.size, 0, none⟩) 1 [⟨4, 0, [], true⟩] := by
    refine ⟨rfl, fun i hi => ?_⟩
    obtain rfl : i = 0 := by simp at hi; omega
    have hg := heap_alloc_new w (.cells #[.int .i64 4, .int .i64 0, .slice none 0 0, .bool true] 65)
    exact ⟨w.heap.size, 0, none, 0, 0, rfl, cell_of_block hg 0, cell_of_block hg 1, cell_of_block hg 2, cell_of_block hg 3, Blks.nil _⟩
  have HT := Lib.hid hT
  have HF : Hid (FewT [⟨4, 0, [], true⟩]) := ⟨by decide, fun t ht b hb => by simp at ht; subst ht; simp at hb⟩
  have HF0 : Hid (FewT []) := ⟨by decide, fun t ht => by simp at ht⟩
  have HB0 := Lib.hid ((Below.refl w.heap.size w).alloc (Nat.le_refl _) (.cells #[.int .i64 4, .int .i64 0, .slice none 0 0, .bool true] 65))
  have HS : Hid (spots [⟨4, 0, [], true⟩] = [(4, -1)]) := rfl
  have HS0 : Hid (spots [] = []) := rfl
  clear hT
  go_enter Try.func34, Try.ntmps34
  go_wp2_with (first
    | (go_at_call 36; (with_reducible refine (spots_any _ _ _ _ [⟨4, 0, [], true⟩] HT.out HF.out).mono ?_); rintro e w2 ⟨A2, m2, c2, rfl, hown, hm, hb⟩; rw [HS.out] at hown hm; obtain rfl : m2 = 1 := hm; have HB2 := Lib.hid (below_then HB0.out hb HB0.out.size); have HO := Lib.hid hown; obtain ⟨b, o, rfl, h0, h1⟩ := rr_spot hown.reads 0 (by decide); clear hown hb)
    | (go_at_call 36; (with_reducible refine (spots_any _ none 0 0 [] (Tps.nil _ _) HF0.out).mono ?_); rintro e w3 ⟨A3, m3, c3, rfl, _, hm, hb⟩; rw [HS0.out] at hm; obtain rfl : m3 = 0 := hm; have HB3 := Lib.hid (below_then HB2.out hb HB2.out.size); obtain ⟨b9, o9, hbo, g0, g1⟩ := rr_spot ((HO.out.below hb).reads) 0 (by decide); injection hbo with hbo; injection hbo with hb1 hb2 _; subst hb1; subst hb2; have e0 : w3.cell? ⟨b, o, none⟩ = some (.int .i64 4) := g0; have e1 : w3.cell? ⟨b, o + 1, none⟩ = some (.int .i64 (-1)) := g1; clear g0 g1 hb))
  go_ret
  exact ⟨rfl, HB3.out⟩
end Go.Proofs.Ytpgceeeokjadpaa.Code
