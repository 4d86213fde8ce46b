/- What castagnoli.More, castagnoli.Sum and the reference's compute: CRC-32C of the bytes that are read. Conditions: the bytes lie where the slice says. -/
import Derived.Test.YtpgceeeokjadpaaProg
import Derived.WalkKit
import Derived.KernelRfl
import Derived.Test.YtpgceeeokjadpaaMem
namespace Go.Proofs.Ytpgceeeokjadpaa.CrcWalk
open Go.RowKit Go.Proofs.Ytpgceeeokjadpaa.Crc Go.Proofs.Ytpgceeeokjadpaa.Mem
theorem ret_int {k : IntKind} {a b : Int} (h : a = b) : Ending.returned (.int k a) = .returned (.int k b) := by rw [h]
set_option maxHeartbeats 1000000 in
set_option maxRecDepth 100000 in
theorem more_any (s : W32) (A : Option Addr) (n c : Nat) (l : List UInt8) (w : World) (hr : Reads w A n l) (hl : n ≤ 9223372036854775807) :
    Calls Try.prog 68 #[.int .u32 (J s), .slice A n c] w fun e w' => e = .returned (.int .u32 (J (more s l))) ∧ w = w' := by
  obtain ⟨rfl, hr⟩ := hr
  have HR : Hid (∀ i (h : i < l.length), ∃ b o, A = some ⟨b, o, none⟩ ∧ w.cell? ⟨b, o + i, none⟩ = some (.int .u8 (K l[i]))) := hr
  clear hr
  have e1 : Go.bits .xor .u32 (J s) 4294967295 = J (s ^^^ ones) := by rw [show (4294967295 : Int) = J ones from rfl, J_xor]
  have E1 : Hid (Go.bits .xor .u32 (J s) 4294967295 = J (s ^^^ ones)) := e1
  clear e1
  go_enter Try.func68, Try.ntmps68
  go_wp2
  go_loop [5, 12] (fun x i => ∃ k : Nat, k ≤ l.length ∧ i = .int .i64 k ∧ x = .int .u32 (J (feed (s ^^^ ones) (l.take k)))) (fun _ i => l.length - (intOf i).toNat)
  case atStart => exact ⟨0, Nat.zero_le _, rfl, by rw [E1.out]; rfl⟩
  case round =>
    obtain ⟨k, hk, rfl, rfl⟩ := hrel
    by_cases hlt : k < l.length
    · obtain ⟨b, o, rfl, hc⟩ := HR.out k hlt
      have hft := feed_take (s ^^^ ones) l k hlt
      obtain ⟨y, hy⟩ : ∃ y, y = feed (s ^^^ ones) (l.take k) := ⟨_, rfl⟩
      rw [← hy] at hft ⊢
      obtain ⟨z, hz⟩ : ∃ z, z = l[k] := ⟨_, rfl⟩
      rw [← hz] at hft hc
      have HF : Hid (feed (s ^^^ ones) (l.take (k + 1)) = stN 8 (y ^^^ wide z)) := hft
      have e2 : Go.bits .xor .u32 (J y) (K z) = J (y ^^^ wide z) := by rw [J_wide, J_xor]
      have E2 : Hid (Go.bits .xor .u32 (J y) (K z) = J (y ^^^ wide z)) := e2
      have k0 := K_lo z
      have k1 := K_hi z
      clear hft hy hz e2
      go_wp2
      go_loop [5, 20] (fun x i => ∃ j : Nat, j ≤ 8 ∧ i = .int .i64 j ∧ x = .int .u32 (J (stN j (y ^^^ wide z)))) (fun _ i => 8 - (intOf i).toNat)
      case atStart => exact ⟨0, Nat.zero_le _, rfl, by rw [E2.out]; rfl⟩
      case round =>
        obtain ⟨j, hj, rfl, rfl⟩ := hrel
        have hs := stN_succ j (y ^^^ wide z)
        obtain ⟨q, hq⟩ : ∃ q, q = stN j (y ^^^ wide z) := ⟨_, rfl⟩
        rw [← hq] at hs ⊢
        have HS : Hid (stN (j + 1) (y ^^^ wide z) = st q) := hs
        have HQ : Hid (q = stN j (y ^^^ wide z)) := hq
        clear hs hq
        by_cases h8 : j < 8
        · by_cases ho : q.getLsbD 0 = true
          · have t : (Go.bits .and .u32 (J q) 1 == 1) = true := by rw [J_and1, (J_odd q).2 ho]; rfl
            have HT : Hid (Go.bits .xor .u32 (J q / (2 : Int)) 2197175160 = J (st q)) := st_odd ho
            clear ho
            go_wp2
            go_round
            case rel => exact ⟨j + 1, by omega, by go_num, by rw [HS.out, HT.out]⟩
            case measure => simp [intOf]; omega
          · have t : (Go.bits .and .u32 (J q) 1 == 1) = false := by
              have h2 : ¬ q.toNat % 2 = 1 := fun h => ho ((J_odd q).1 h)
              rw [J_and1, show q.toNat % 2 = 0 by omega]; rfl
            have HT : Hid (J q / (2 : Int) = J (st q)) := st_even (by simpa using ho)
            clear ho
            go_wp2
            go_round
            case rel => exact ⟨j + 1, by omega, by go_num, by rw [HS.out, HT.out]⟩
            case measure => simp [intOf]; omega
        · obtain rfl : j = 8 := by omega
          go_wp2
          go_round
          case rel => exact ⟨k + 1, by omega, by go_num, by rw [HF.out, HQ.out]⟩
          case measure => simp [intOf]; omega
    · obtain rfl : k = l.length := by omega
      have e3 : Hid (Go.bits .xor .u32 (J (feed (s ^^^ ones) l)) 4294967295 = J (more s l)) := by
        unfold Hid
        rw [show (4294967295 : Int) = J ones from rfl, J_xor]; rfl
      go_wp2
      go_ret
      exact ⟨ret_int e3.out, rfl⟩
set_option maxHeartbeats 1000000 in
set_option maxRecDepth 100000 in
theorem rmore_any (s : W32) (A : Option Addr) (n c : Nat) (l : List UInt8) (w : World) (hr : Reads w A n l) (hl : n ≤ 9223372036854775807) :
    Calls Try.prog 63 #[.int .u32 (J s), .slice A n c] w fun e w' => e = .returned (.int .u32 (J (more s l))) ∧ w = w' := by
  obtain ⟨rfl, hr⟩ := hr
  have HR : Hid (∀ i (h : i < l.length), ∃ b o, A = some ⟨b, o, none⟩ ∧ w.cell? ⟨b, o + i, none⟩ = some (.int .u8 (K l[i]))) := hr
  clear hr
  have e1 : Go.bits .xor .u32 (J s) 4294967295 = J (s ^^^ ones) := by rw [show (4294967295 : Int) = J ones from rfl, J_xor]
  have E1 : Hid (Go.bits .xor .u32 (J s) 4294967295 = J (s ^^^ ones)) := e1
  clear e1
  go_enter Try.func63, Try.ntmps63
  go_wp2
  go_loop [5, 6] (fun x i => ∃ k : Nat, k ≤ l.length ∧ i = .int .i64 k ∧ x = .int .u32 (J (feed (s ^^^ ones) (l.take k)))) (fun _ i => l.length - (intOf i).toNat)
  case atStart => exact ⟨0, Nat.zero_le _, rfl, by rw [E1.out]; rfl⟩
  case round =>
    obtain ⟨k, hk, rfl, rfl⟩ := hrel
    by_cases hlt : k < l.length
    · obtain ⟨b, o, rfl, hc⟩ := HR.out k hlt
      have hft := feed_take (s ^^^ ones) l k hlt
      obtain ⟨y, hy⟩ : ∃ y, y = feed (s ^^^ ones) (l.take k) := ⟨_, rfl⟩
      rw [← hy] at hft ⊢
      obtain ⟨z, hz⟩ : ∃ z, z = l[k] := ⟨_, rfl⟩
      rw [← hz] at hft hc
      have HF : Hid (feed (s ^^^ ones) (l.take (k + 1)) = stN 8 (y ^^^ wide z)) := hft
      have e2 : Go.bits .xor .u32 (J y) (K z) = J (y ^^^ wide z) := by rw [J_wide, J_xor]
      have E2 : Hid (Go.bits .xor .u32 (J y) (K z) = J (y ^^^ wide z)) := e2
      have k0 := K_lo z
      have k1 := K_hi z
      clear hft hy hz e2
      go_wp2
      go_loop [5, 7] (fun x i => ∃ j : Nat, j ≤ 8 ∧ i = .int .i64 j ∧ x = .int .u32 (J (stN j (y ^^^ wide z)))) (fun _ i => 8 - (intOf i).toNat)
      case atStart => exact ⟨0, Nat.zero_le _, rfl, by rw [E2.out]; rfl⟩
      case round =>
        obtain ⟨j, hj, rfl, rfl⟩ := hrel
        have hs := stN_succ j (y ^^^ wide z)
        obtain ⟨q, hq⟩ : ∃ q, q = stN j (y ^^^ wide z) := ⟨_, rfl⟩
        rw [← hq] at hs ⊢
        have HS : Hid (stN (j + 1) (y ^^^ wide z) = st q) := hs
        have HQ : Hid (q = stN j (y ^^^ wide z)) := hq
        clear hs hq
        by_cases h8 : j < 8
        · by_cases ho : q.getLsbD 0 = true
          · have t : (Go.bits .and .u32 (J q) 1 == 1) = true := by rw [J_and1, (J_odd q).2 ho]; rfl
            have HT : Hid (Go.bits .xor .u32 (J q / (2 : Int)) 2197175160 = J (st q)) := st_odd ho
            clear ho
            go_wp2
            go_round
            case rel => exact ⟨j + 1, by omega, by go_num, by rw [HS.out, HT.out]⟩
            case measure => simp [intOf]; omega
          · have t : (Go.bits .and .u32 (J q) 1 == 1) = false := by
              have h2 : ¬ q.toNat % 2 = 1 := fun h => ho ((J_odd q).1 h)
              rw [J_and1, show q.toNat % 2 = 0 by omega]; rfl
            have HT : Hid (J q / (2 : Int) = J (st q)) := st_even (by simpa using ho)
            clear ho
            go_wp2
            go_round
            case rel => exact ⟨j + 1, by omega, by go_num, by rw [HS.out, HT.out]⟩
            case measure => simp [intOf]; omega
        · obtain rfl : j = 8 := by omega
          go_wp2
          go_round
          case rel => exact ⟨k + 1, by omega, by go_num, by rw [HF.out, HQ.out]⟩
          case measure => simp [intOf]; omega
    · obtain rfl : k = l.length := by omega
      have e3 : Hid (Go.bits .xor .u32 (J (feed (s ^^^ ones) l)) 4294967295 = J (more s l)) := by
        unfold Hid
        rw [show (4294967295 : Int) = J ones from rfl, J_xor]; rfl
      go_wp2
      go_ret
      exact ⟨ret_int e3.out, rfl⟩

theorem more0_any (A : Option Addr) (n c : Nat) (l : List UInt8) (w : World) (hr : Reads w A n l) (hl : n ≤ 9223372036854775807) :
    Calls Try.prog 68 #[.int .u32 0, .slice A n c] w fun e w' => e = .returned (.int .u32 (J (sum l))) ∧ w = w' := more_any 0#32 A n c l w hr hl
theorem rmore0_any (A : Option Addr) (n c : Nat) (l : List UInt8) (w : World) (hr : Reads w A n l) (hl : n ≤ 9223372036854775807) :
    Calls Try.prog 63 #[.int .u32 0, .slice A n c] w fun e w' => e = .returned (.int .u32 (J (sum l))) ∧ w = w' := rmore_any 0#32 A n c l w hr hl
theorem sum_any (A : Option Addr) (n c : Nat) (l : List UInt8) (w : World) (hr : Reads w A n l) (hl : n ≤ 9223372036854775807) :
    Calls Try.prog 62 #[.slice A n c] w fun e w' => e = .returned (.int .u32 (J (sum l))) ∧ w = w' := by
  have HR : Hid (Reads w A n l) := hr
  clear hr
  go_enter Try.func62, Try.ntmps62
  go_wp2_with (go_at_call 68; (with_reducible refine (more0_any _ _ _ l _ HR.out hl).mono ?_); rintro e w' ⟨rfl, rfl⟩)
  go_ret
  exact ⟨rfl, rfl⟩
theorem crc_any (A : Option Addr) (n c : Nat) (l : List UInt8) (w : World) (hr : Reads w A n l) (hl : n ≤ 9223372036854775807) :
    Calls Try.prog 52 #[.slice A n c] w fun e w' => e = .returned (.int .u32 (J (sum l))) ∧ w = w' := by
  have HR : Hid (Reads w A n l) := hr
  clear hr
  go_enter Try.func52, Try.ntmps52
  go_wp2_with (go_at_call 63; (with_reducible refine (rmore0_any _ _ _ l _ HR.out hl).mono ?_); rintro e w' ⟨rfl, rfl⟩)
  go_ret
  exact ⟨rfl, rfl⟩
end Go.Proofs.Ytpgceeeokjadpaa.CrcWalk
