/- Whether a tape's blocks are blocks. Conditions: as each says. -/
import Derived.Test.YtnnhigojgdcdlaaDrv3
namespace Go.Proofs.Ytnnhigojgdcdlaa.Crc
/-- No block is none. -/
def Right (bs : List (List UInt8)) : Prop := ∀ b ∈ bs, 0 < b.length ∧ b.length ≤ 94
end Go.Proofs.Ytnnhigojgdcdlaa.Crc
namespace Go.Proofs.Ytnnhigojgdcdlaa.Code
open Go.RowKit Go.Joins Go.Proofs.Ytnnhigojgdcdlaa.Crc Go.Proofs.Ytnnhigojgdcdlaa.Mem
set_option maxHeartbeats 8000000 in
theorem find_wrong (w : World) (A : Option Addr) (n c : Nat) (bs : List (List UInt8)) (h : Blks w A n c bs) (hn : n ≤ 1000000) :
    Calls Try.prog 32 #[.slice A n c, .func (.func 26) #[] #[]] w fun e w' => ∃ r : Int, e = .returned (.int .i64 r) ∧ w' = w ∧ ((r = -1 ∧ Right bs) ∨ (0 ≤ r ∧ ¬ Right bs)) := by
  have HL := Lib.hid h
  clear h
  go_enter Try.func32, Try.ntmps32
  go_wp2
  go_loopw [8] (fun i wr => ∃ k, k ≤ n ∧ i = .int .i64 (k : Int) ∧ Hid (Right (bs.take k)) ∧ wr = w) (fun i _ => n - (intOf i).toNat)
  case atStart => exact ⟨0, Nat.zero_le _, rfl, fun b hb => by simp at hb, rfl⟩
  case round =>
    obtain ⟨k, hk, rfl, HA, rfl⟩ := hrel
    by_cases hkn : k < n
    · obtain ⟨b, o, A1, n1, c1, l, rfl, hlk, hc, hs, _⟩ := HL.out.at k hkn
      have hl := hs.len
      have HLK := Lib.hid hlk
      clear hs hlk
      by_cases hw : n1 = 0 ∨ 94 < n1
      · have HW := Lib.hid hw
        have HN : Hid (¬ Right bs) := by
          intro hr
          have := hr l (List.mem_of_getElem? HLK.out)
          have := HW.out
          omega
        clear hw
        go_wp2_with (go_at_call 26; (with_reducible refine (wrong_yes _ _ n1 c1 HW.out).mono ?_); rintro e w' ⟨rfl, rfl⟩)
        go_ret
        exact ⟨_, rfl, rfl, .inr ⟨by omega, HN.out⟩⟩
      · have h1 : 0 < n1 := by omega
        have h2 : n1 ≤ 94 := by omega
        have HA2 : Hid (Right (bs.take (k + 1))) := by
          obtain ⟨hkl, rfl⟩ := List.getElem?_eq_some_iff.1 HLK.out
          intro b hb
          rw [List.take_succ_eq_append_getElem hkl] at hb
          rcases List.mem_append.1 hb with hb | hb
          · exact HA.out b hb
          · simp at hb; subst hb; omega
        clear hw
        go_wp2_with (go_at_call 26; (with_reducible refine (wrong_no _ _ n1 c1 h1 h2).mono ?_); rintro e w' ⟨rfl, rfl⟩)
        go_roundw
        case rel => exact ⟨k + 1, by omega, by go_num, HA2, trivial⟩
        case measure => simp [intOf]; omega
    · obtain rfl : k = n := by omega
      have HR : Hid (Right bs) := by have := HA.out; rw [List.take_of_length_le (by rw [HL.out.len]; exact Nat.le_refl _)] at this; exact this
      go_wp2
      go_ret
      exact ⟨_, rfl, rfl, .inl ⟨rfl, HR.out⟩⟩
end Go.Proofs.Ytnnhigojgdcdlaa.Code
