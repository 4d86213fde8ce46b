/- The reference's Few and LoadTape, case by case. Conditions: as each says. -/
import Derived.Test.YtnnhigojgdcdlaaRef4
namespace Go.Proofs.Ytnnhigojgdcdlaa.Code
open Go.RowKit Go.Joins Go.Proofs.Ytnnhigojgdcdlaa.Crc Go.Proofs.Ytnnhigojgdcdlaa.Mem
def FewI (w : World) (n : Nat) (bs : List (List UInt8)) (e : Ending) (w' : World) : Prop := ∃ r : Bool, e = .returned (.bool r) ∧ (r = true ↔ n ≤ 90 ∧ ∀ b ∈ bs, b.length ≤ 300) ∧ Below w.heap.size w w'
set_option maxHeartbeats 4000000 in
theorem few_iff (w : World) (t : Tp) (A : Option Addr) (n c : Nat) (h : Blks w A n c t.blocks) (hn : n ≤ 9223372036854775807) : Calls Try.prog 18 #[tv t A n c] w (FewI w n t.blocks) := by
  have hb1 := (Below.refl w.heap.size w).alloc (Nat.le_refl _) (.cells #[.int .i64 t.label, .int .i64 t.cap, .slice A n c, .bool t.lost] 29)
  have HB := Lib.hid hb1
  have HL := Lib.hid (h.below hb1)
  have HLEN := Lib.hid h.len
  clear h hb1
  unfold tv
  obtain ⟨W, hW⟩ : ∃ W, W = w.alloc (.cells #[.int .i64 t.label, .int .i64 t.cap, .slice A n c, .bool t.lost] 29) := ⟨_, rfl⟩
  have hbox : W.heap[w.heap.size]? = some (.cells #[.int .i64 t.label, .int .i64 t.cap, .slice A n c, .bool t.lost] 29 (0, 0)) := by rw [hW]; exact heap_alloc_new w _
  have d2 := cell_of_block hbox 2
  rw [← hW] at HB HL
  have HW := Lib.hid hW
  clear hbox hW
  go_enter Try.func18, Try.ntmps18
  go_wp2
  rw [← HW.out]
  go_loop [3] (fun i => ∃ k : Nat, k ≤ n ∧ k ≤ 100 ∧ i = .int .i64 (k : Int) ∧ Hid (∀ b ∈ t.blocks.take k, b.length ≤ 300)) (fun i => 100 - (intOf i).toNat)
  case atStart => exact ⟨0, by omega, by omega, rfl, fun b hb => by simp at hb⟩
  case round =>
    obtain ⟨k, hk, hk2, rfl, HA⟩ := hrel
    by_cases hkn : k < n
    · by_cases hk1 : k < 100
      · obtain ⟨b, o, A1, n1, c1, l, rfl, hlk, hc, hs, _⟩ := HL.out.at k hkn
        have hl := hs.len
        have HLK := Lib.hid hlk
        clear hs hlk
        by_cases hw : 300 < n1
        · have HNO : Hid (¬ (n ≤ 90 ∧ ∀ b ∈ t.blocks, b.length ≤ 300)) := fun hh => by
            have := hh.2 l (List.mem_of_getElem? HLK.out)
            omega
          clear hl
          go_wp2
          go_ret
          exact ⟨false, rfl, ⟨fun h => (by cases h), fun h => absurd h HNO.out⟩, HB.out⟩
        · have HA2 : Hid (∀ b ∈ t.blocks.take (k + 1), b.length ≤ 300) := by
            obtain ⟨hkl, rfl⟩ := List.getElem?_eq_some_iff.1 HLK.out
            intro b hb
            rw [List.take_succ_eq_append_getElem hkl] at hb
            rcases List.mem_append.1 hb with hb | hb
            · exact HA.out b hb
            · simp at hb; subst hb; omega
          clear hl
          go_wp2
          go_round
          case rel => exact ⟨k + 1, by omega, by omega, by go_num, HA2⟩
          case measure => simp [intOf]; omega
      · have hk3 : (100 : Int) ≤ (k : Int) := by omega
        have hn9 : ¬ (n : Int) ≤ 90 := by omega
        go_wp2
        go_ret
        exact ⟨false, by simp, ⟨fun h => (by cases h), fun h => absurd h.1 (by omega)⟩, HB.out⟩
    · obtain rfl : k = n := by omega
      by_cases h9 : (k : Int) ≤ 90
      · go_wp2
        go_ret
        have hx := HA.out
        rw [List.take_of_length_le (by have := HLEN.out; omega)] at hx
        exact ⟨true, by simp, ⟨fun _ => ⟨by omega, hx⟩, fun _ => rfl⟩, HB.out⟩
      · go_wp2
        go_ret
        exact ⟨false, by simp, ⟨fun h => (by cases h), fun h => absurd h.1 (by omega)⟩, HB.out⟩
theorem lt_bad (w : World) (t : Tp) (A : Option Addr) (n c : Nat) (h : Blks w A n c t.blocks) (hn : n ≤ 1000000) (hb : BadT t n) : Calls Try.prog 20 #[tv t A n c] w fun e w' => e = .returned (.int .i64 1) ∧ Below w.heap.size w w' := by
  refine (ltape_any w t A n c h hn).mono ?_
  rintro e w' ⟨r, rfl, h, hbel⟩
  rcases h with ⟨rfl, _⟩ | ⟨_, h, _⟩ | ⟨_, h, _⟩
  · exact ⟨rfl, hbel⟩
  · exact absurd hb h
  · exact absurd hb h
theorem lt_lost (w : World) (t : Tp) (A : Option Addr) (n c : Nat) (h : Blks w A n c t.blocks) (hn : n ≤ 1000000) (hb : ¬ BadT t n) (hl : t.lost = true) : Calls Try.prog 20 #[tv t A n c] w fun e w' => e = .returned (.int .i64 9) ∧ Below w.heap.size w w' := by
  refine (ltape_any w t A n c h hn).mono ?_
  rintro e w' ⟨r, rfl, h, hbel⟩
  rcases h with ⟨_, h⟩ | ⟨rfl, _, _⟩ | ⟨_, _, h⟩
  · exact absurd h hb
  · exact ⟨rfl, hbel⟩
  · rw [hl] at h; cases h
theorem lt_ok (w : World) (t : Tp) (A : Option Addr) (n c : Nat) (h : Blks w A n c t.blocks) (hn : n ≤ 1000000) (hb : ¬ BadT t n) (hl : t.lost = false) : Calls Try.prog 20 #[tv t A n c] w fun e w' => e = .returned (.int .i64 0) ∧ Below w.heap.size w w' := by
  refine (ltape_any w t A n c h hn).mono ?_
  rintro e w' ⟨r, rfl, h, hbel⟩
  rcases h with ⟨_, h⟩ | ⟨_, _, h⟩ | ⟨rfl, _, _⟩
  · exact absurd h hb
  · rw [hl] at h; cases h
  · exact ⟨rfl, hbel⟩
theorem few_yes (w : World) (t : Tp) (A : Option Addr) (n c : Nat) (h : Blks w A n c t.blocks) (hn : n ≤ 90) (hl : ∀ b ∈ t.blocks, b.length ≤ 300) : Calls Try.prog 18 #[tv t A n c] w fun e w' => e = .returned (.bool true) ∧ Below w.heap.size w w' := by
  refine (few_iff w t A n c h (by omega)).mono ?_
  rintro e w' ⟨r, rfl, h, hbel⟩
  exact ⟨by rw [h.2 ⟨hn, hl⟩], hbel⟩
theorem few_no (w : World) (t : Tp) (A : Option Addr) (n c : Nat) (h : Blks w A n c t.blocks) (hn : n ≤ 9223372036854775807) (hl : ¬ (n ≤ 90 ∧ ∀ b ∈ t.blocks, b.length ≤ 300)) : Calls Try.prog 18 #[tv t A n c] w fun e w' => e = .returned (.bool false) ∧ Below w.heap.size w w' := by
  refine (few_iff w t A n c h hn).mono ?_
  rintro e w' ⟨r, rfl, h, hbel⟩
  cases r
  · exact ⟨rfl, hbel⟩
  · exact absurd (h.1 rfl) hl
end Go.Proofs.Ytnnhigojgdcdlaa.Code
