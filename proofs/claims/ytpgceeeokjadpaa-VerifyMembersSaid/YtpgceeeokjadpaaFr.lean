/- The small functions of package frame and of its law: why a unit can't be, how much it may carry, raw bytes, whether two rows are one. Conditions: as each law says. -/
import Derived.Test.YtpgceeeokjadpaaLaw6
import Derived.Test.YtpgceeeokjadpaaFrPure
import Derived.BigQuiet
namespace Go.Proofs.Ytpgceeeokjadpaa.Code
open Go.RowKit Go.Joins Go.Proofs.Ytpgceeeokjadpaa.Crc Go.Proofs.Ytpgceeeokjadpaa.Mem
/-- A unit as a value. -/
abbrev uv (u : Un) (A : Option Addr) (n c : Nat) : Value := .agg #[.int .i64 u.kind, .int .i64 u.label, .int .i64 u.number, .slice A n c]
theorem bdrawn {B : Nat} {a w : World} (h : Below B a w) (n : Nat) : Below B a (w.drewN n) := h.trans ⟨rfl, rfl, rfl, Nat.le_refl _, fun _ _ => rfl⟩
theorem room_any (w : World) (k : Int) : Calls Try.prog 61 #[.int .i64 k] w fun e w' => e = .returned (.int .i64 (room k : Int)) ∧ w' = w := by
  by_cases h : k = 6
  · have hr : (79 : Int) = (room k : Int) := by unfold room; rw [if_pos h]; rfl
    have HR := Lib.hid hr
    have t : (k == 6) = true := beq_iff_eq.mpr h
    clear hr h
    go_enter Try.func61, Try.ntmps61
    go_wp2
    go_ret
    exact ⟨ret_int HR.out, rfl⟩
  · have hr : (64 : Int) = (room k : Int) := by unfold room; rw [if_neg h]; rfl
    have HR := Lib.hid hr
    have t : (k == 6) = false := beq_eq_false_iff_ne.mpr h
    clear hr h
    go_enter Try.func61, Try.ntmps61
    go_wp2
    go_ret
    exact ⟨ret_int HR.out, rfl⟩
theorem room_at (w : World) (k : Int) (r : Nat) (h : r = room k) : Calls Try.prog 61 #[.int .i64 k] w fun e w' => e = .returned (.int .i64 (r : Int)) ∧ w' = w := by rw [h]; exact room_any w k
theorem num_any (w : World) (k : Int) : Calls Try.prog 32 #[.int .i64 k] w fun e w' => e = .returned (.int .i64 k) ∧ w' = w := by
  go_enter Try.func32, Try.ntmps32
  go_wp2
  go_ret
  exact ⟨rfl, rfl⟩
theorem ret_chk {u : Un} {x : Int} (h : chk u = x) : Ending.returned (.int .i64 x) = .returned (.int .i64 (chk u)) := by rw [h]
set_option maxHeartbeats 4000000 in
set_option maxRecDepth 100000 in
theorem check_any (w : World) (u : Un) (A : Option Addr) (n c : Nat) (hn : u.load.length = n) : Calls Try.prog 50 #[uv u A n c] w fun e w' => e = .returned (.int .i64 (chk u)) ∧ Below w.heap.size w w' := by
  have HB := Lib.hid ((Below.refl w.heap.size w).alloc (Nat.le_refl _) (.cells #[.int .i64 u.kind, .int .i64 u.label, .int .i64 u.number, .slice A n c] 45))
  obtain ⟨kind, label, number, load⟩ := u
  unfold uv
  by_cases h1 : label < 1
  · have HC : Hid (chk ⟨kind, label, number, load⟩ = 1) := by unfold Hid chk; rw [if_pos (.inl h1)]
    clear hn
    go_enter Try.func50, Try.ntmps50
    go_wp2
    go_ret
    exact ⟨ret_chk HC.out, HB.out⟩
  by_cases h2 : 2147483647 < label
  · have HC : Hid (chk ⟨kind, label, number, load⟩ = 1) := by unfold Hid chk; rw [if_pos (.inr (.inl h2))]
    clear hn
    go_enter Try.func50, Try.ntmps50
    go_wp2
    go_ret
    exact ⟨ret_chk HC.out, HB.out⟩
  by_cases h3 : number < 0
  · have HC : Hid (chk ⟨kind, label, number, load⟩ = 1) := by unfold Hid chk; rw [if_pos (.inr (.inr (.inl h3)))]
    clear hn
    go_enter Try.func50, Try.ntmps50
    go_wp2
    go_ret
    exact ⟨ret_chk HC.out, HB.out⟩
  by_cases h4 : 2147483647 < number
  · have HC : Hid (chk ⟨kind, label, number, load⟩ = 1) := by unfold Hid chk; rw [if_pos (.inr (.inr (.inr h4)))]
    clear hn
    go_enter Try.func50, Try.ntmps50
    go_wp2
    go_ret
    exact ⟨ret_chk HC.out, HB.out⟩
  have h5 : ¬ (label < 1 ∨ 2147483647 < label ∨ number < 0 ∨ 2147483647 < number) := by omega
  have HCC : Hid (chk ⟨kind, label, number, load⟩ = if kind < 1 ∨ 6 < kind then 1 else if room kind < n then 4 else 0) := by unfold Hid chk; rw [if_neg h5, hn]
  have hroom := room_le kind
  clear hn h5
  by_cases hk : kind < 1 ∨ 6 < kind
  · have HC : Hid (chk ⟨kind, label, number, load⟩ = 1) := by unfold Hid; rw [HCC.out, if_pos hk]
    have t1 : (kind == 1) = false := beq_eq_false_iff_ne.mpr (by omega)
    have t2 : (kind == 2) = false := beq_eq_false_iff_ne.mpr (by omega)
    have t3 : (kind == 3) = false := beq_eq_false_iff_ne.mpr (by omega)
    have t4 : (kind == 4) = false := beq_eq_false_iff_ne.mpr (by omega)
    have t5 : (kind == 5) = false := beq_eq_false_iff_ne.mpr (by omega)
    have t6 : (kind == 6) = false := beq_eq_false_iff_ne.mpr (by omega)
    clear hk HCC hroom
    go_enter Try.func50, Try.ntmps50
    go_wp2
    go_ret
    exact ⟨ret_chk HC.out, HB.out⟩
  obtain ⟨r, hr⟩ : ∃ r, r = room kind := ⟨_, rfl⟩
  have HR := Lib.hid hr
  have HL : Hid (chk ⟨kind, label, number, load⟩ = if r < n then 4 else 0) := by unfold Hid; rw [HCC.out, if_neg hk, hr]
  rw [← hr] at hroom
  clear HCC hr
  by_cases hrn : r < n
  · have HC : Hid (chk ⟨kind, label, number, load⟩ = 4) := by unfold Hid; rw [HL.out, if_pos hrn]
    have hk' : kind = 1 ∨ kind = 2 ∨ kind = 3 ∨ kind = 4 ∨ kind = 5 ∨ kind = 6 := by omega
    clear hk HL
    rcases hk' with rfl | rfl | rfl | rfl | rfl | rfl <;>
    · go_enter Try.func50, Try.ntmps50
      go_wp2
      go_quiet (first | (go_at_call 61; refine Calls.quiet_of_same (room_at _ _ r HR.out)))
      go_wp2
      go_ret
      exact ⟨ret_chk HC.out, bdrawn HB.out _⟩
  · have HC : Hid (chk ⟨kind, label, number, load⟩ = 0) := by unfold Hid; rw [HL.out, if_neg hrn]
    have hk' : kind = 1 ∨ kind = 2 ∨ kind = 3 ∨ kind = 4 ∨ kind = 5 ∨ kind = 6 := by omega
    clear hk HL
    rcases hk' with rfl | rfl | rfl | rfl | rfl | rfl <;>
    · go_enter Try.func50, Try.ntmps50
      go_wp2
      go_quiet (first | (go_at_call 61; refine Calls.quiet_of_same (room_at _ _ r HR.out)))
      go_wp2
      go_ret
      exact ⟨ret_chk HC.out, bdrawn HB.out _⟩
/-- What Raw leaves. -/
def Rawed (w : World) (p : Nat) (s : Rs) (k : Nat) (e : Ending) (w' : World) : Prop :=
  ∃ A c, e = .returned (.slice A (s.got k).length c) ∧ Sl w' A (s.got k).length c (s.got k) ∧ CAt w' p (s.step k) ∧ Upd (Mem.One p) w w'
theorem take_any0 (w : World) (p : Nat) (s : Rs) (h : CAt w p s) : Calls Try.prog 49 #[.pointer (some ⟨p, 0, none⟩), .int .i64 0] w fun e w' => Took CAt w p s 0 e w' := take_any w p s 0 h (by omega)
theorem raw_any (w : World) (p : Nat) (s : Rs) (k : Nat) (h : CAt w p s) (hk : k ≤ 65535) :
    Calls Try.prog 53 #[.pointer (some ⟨p, 0, none⟩), .int .i64 (k : Int)] w fun e w' => Rawed w p s k e w' := by
  have H := Lib.hid h
  clear h
  obtain ⟨l, hl⟩ : ∃ l, l = s.got k := ⟨_, rfl⟩
  have hlk : l.length ≤ 65535 := by rw [hl]; have := got_len s k; omega
  have HL := Lib.hid hl
  clear hl
  cases k with
  | zero =>
    go_enter Try.func53, Try.ntmps53
    go_wp2_with (first
      | (go_at_call 49; (with_reducible refine (take_any0 _ _ s H.out).mono ?_); rintro e w1 ⟨A, n, c, rfl, hsl, hat, hu⟩; rw [← HL.out] at hsl; have hn := hsl.len; have HS := Lib.hid hsl; have HA := Lib.hid hat; have HU := Lib.hid hu; clear hsl hat hu)
      | (go_at_call 48; (with_reducible refine (clone_any _ _ _ _ l HS.out (by omega)).mono ?_); rintro e w2 ⟨A', c', rfl, hnew⟩; have HN := Lib.hid hnew; clear hnew))
    go_ret
    unfold Rawed
    rw [← HL.out, hn]
    exact ⟨A', c', rfl, HN.out.1.sl, HA.out.below HN.out.2, HU.out.trans (Upd.ofBelow HN.out.2) (fun k hk hh => by have := HU.out.size; omega)⟩
  | succ k =>
    obtain ⟨m, hm⟩ : ∃ m, m = k + 1 := ⟨_, rfl⟩
    rw [← hm] at hk HL ⊢
    have h0 : 0 < m := by omega
    clear hm
    go_enter Try.func53, Try.ntmps53
    go_wp2_with (first
      | (go_at_call 49; (with_reducible refine (take_any _ _ s m H.out (by omega)).mono ?_); rintro e w1 ⟨A, n, c, rfl, hsl, hat, hu⟩; rw [← HL.out] at hsl; have hn := hsl.len; have HS := Lib.hid hsl; have HA := Lib.hid hat; have HU := Lib.hid hu; clear hsl hat hu)
      | (go_at_call 48; (with_reducible refine (clone_any _ _ _ _ l HS.out (by omega)).mono ?_); rintro e w2 ⟨A', c', rfl, hnew⟩; have HN := Lib.hid hnew; clear hnew))
    go_ret
    unfold Rawed
    rw [← HL.out, hn]
    exact ⟨A', c', rfl, HN.out.1.sl, HA.out.below HN.out.2, HU.out.trans (Upd.ofBelow HN.out.2) (fun k hk hh => by have := HU.out.size; omega)⟩
set_option maxRecDepth 100000 in
theorem equal_any (w : World) (A : Option Addr) (n c : Nat) (l : List UInt8) (A2 : Option Addr) (n2 c2 : Nat) (l2 : List UInt8) (h : Reads w A n l) (h2 : Reads w A2 n2 l2) (hn : n ≤ 9223372036854775807) :
    Calls Try.prog 54 #[.slice A n c, .slice A2 n2 c2] w fun e w' => e = .returned (.bool (decide (l = l2))) ∧ ∃ k, w' = w.drewN k := by
  have HR := Lib.hid h.2
  have HR2 := Lib.hid h2.2
  have hl := h.1
  have hl2 := h2.1
  clear h h2
  by_cases hne : n = n2
  · subst hne
    have t : ((n : Int) == (n : Int)) = true := beq_self_eq_true _
    go_enter Try.func54, Try.ntmps54
    go_wp2
    go_loopw [13] (fun i wr => ∃ k : Nat, k ≤ n ∧ i = .int .i64 k ∧ l.take k = l2.take k ∧ ∃ d, wr = w.drewN d) (fun i _ => n - (intOf i).toNat)
    case atStart => exact ⟨0, Nat.zero_le _, rfl, rfl, 0, rfl⟩
    case round =>
      obtain ⟨k, hk, rfl, heq, d, rfl⟩ := hrel
      by_cases hlt : k < n
      · obtain ⟨b, o, rfl, hc⟩ := HR.out k (by omega)
        obtain ⟨b2, o2, rfl, hc2⟩ := HR2.out k (by omega)
        by_cases he : l[k] = l2[k]
        · have HT : Hid (l.take (k + 1) = l2.take (k + 1)) := by unfold Hid; rw [List.take_succ_eq_append_getElem (by omega), List.take_succ_eq_append_getElem (by omega), heq, he]
          obtain ⟨z, hz⟩ : ∃ z, z = l[k] := ⟨_, rfl⟩
          rw [← he, ← hz] at hc2
          rw [← hz] at hc
          have t2 : (K z == K z) = true := beq_self_eq_true _
          clear heq he hz
          go_wp2
          go_quiet (fail)
          go_wp2
          go_roundw
          case rel => exact ⟨k + 1, by omega, by go_num, HT.out, _, rfl⟩
          case measure => simp [intOf]; omega
        · have HN : Hid (decide (l = l2) = false) := decide_eq_false (fun e => he (by subst e; rfl))
          obtain ⟨z, hz⟩ : ∃ z, z = l[k] := ⟨_, rfl⟩
          obtain ⟨z2, hz2⟩ : ∃ z, z = l2[k] := ⟨_, rfl⟩
          rw [← hz, ← hz2] at he
          have t2 : (K z != K z2) = true := bne_iff_ne.mpr (fun h => he (K_inj h))
          rw [← hz2] at hc2
          rw [← hz] at hc
          clear heq he hz hz2
          go_wp2
          go_quiet (fail)
          go_wp2
          go_ret
          exact ⟨ret_bool HN.out.symm, _, World.drewN_drewN _ _ _⟩
      · obtain rfl : k = n := by omega
        have HN : Hid (decide (l = l2) = true) := decide_eq_true (by rw [List.take_of_length_le (by omega), List.take_of_length_le (by omega)] at heq; exact heq)
        clear heq
        go_wp2
        go_ret
        exact ⟨ret_bool HN.out.symm, _, rfl⟩
  · have t : ((n : Int) == (n2 : Int)) = false := beq_eq_false_iff_ne.mpr (by omega)
    have HN : Hid (decide (l = l2) = false) := decide_eq_false (fun e => hne (by subst e; omega))
    go_enter Try.func54, Try.ntmps54
    go_wp2
    go_ret
    exact ⟨ret_bool HN.out.symm, 0, rfl⟩
end Go.Proofs.Ytpgceeeokjadpaa.Code
