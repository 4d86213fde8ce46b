/- The reference's Few, CopyTape, LoadTape. Conditions: as each says. -/
import Derived.Test.YtnnhigojgdcdlaaRots
namespace Go.Proofs.Ytnnhigojgdcdlaa.Code
open Go.RowKit Go.Joins Go.Proofs.Ytnnhigojgdcdlaa.Crc Go.Proofs.Ytnnhigojgdcdlaa.Mem
def FewR (w : World) (n : Nat) (bs : List (List UInt8)) (e : Ending) (w' : World) : Prop := ∃ r : Bool, e = .returned (.bool r) ∧ (r = true → n ≤ 90 ∧ ∀ b ∈ bs, b.length ≤ 300) ∧ Below w.heap.size w w'
set_option maxHeartbeats 4000000 in
theorem few_any (w : World) (t : Tp) (A : Option Addr) (n c : Nat) (h : Blks w A n c t.blocks) (hn : n ≤ 140737488351232) : Calls Try.prog 18 #[tv t A n c] w (FewR w n t.blocks) := by
  have hb1 := (Below.refl w.heap.size w).alloc (Nat.le_refl _) (.cells #[.int .i64 t.label, .int .i64 t.cap, .slice A n c, .bool t.lost] 29)
  have HB := Lib.hid hb1
  have HL := Lib.hid (h.below hb1)
  have HLEN := Lib.hid h.len
  clear h hb1
  unfold tv
  obtain ⟨W, hW⟩ : ∃ W, W = w.alloc (.cells #[.int .i64 t.label, .int .i64 t.cap, .slice A n c, .bool t.lost] 29) := ⟨_, rfl⟩
  have hbox : W.heap[w.heap.size]? = some (.cells #[.int .i64 t.label, .int .i64 t.cap, .slice A n c, .bool t.lost] 29 (0, 0)) := by rw [hW]; exact heap_alloc_new w _
  have d2 := cell_of_block hbox 2
  rw [← hW] at HB HL
  have HW := Lib.hid hW
  clear hbox hW
  go_enter Try.func18, Try.ntmps18
  go_wp2
  rw [← HW.out]
  go_loop [3] (fun i => ∃ k : Nat, k ≤ n ∧ k ≤ 100 ∧ i = .int .i64 (k : Int) ∧ Hid (∀ b ∈ t.blocks.take k, b.length ≤ 300)) (fun i => 100 - (intOf i).toNat)
  case atStart => exact ⟨0, by omega, by omega, rfl, fun b hb => by simp at hb⟩
  case round =>
    obtain ⟨k, hk, hk2, rfl, HA⟩ := hrel
    by_cases hkn : k < n
    · by_cases hk1 : k < 100
      · obtain ⟨b, o, A1, n1, c1, l, rfl, hlk, hc, hs, _⟩ := HL.out.at k hkn
        have hl := hs.len
        have HLK := Lib.hid hlk
        clear hs hlk
        by_cases hw : 300 < n1
        · clear hl
          go_wp2
          go_ret
          exact ⟨false, rfl, (fun h => by cases h), HB.out⟩
        · have HA2 : Hid (∀ b ∈ t.blocks.take (k + 1), b.length ≤ 300) := by
            obtain ⟨hkl, rfl⟩ := List.getElem?_eq_some_iff.1 HLK.out
            intro b hb
            rw [List.take_succ_eq_append_getElem hkl] at hb
            rcases List.mem_append.1 hb with hb | hb
            · exact HA.out b hb
            · simp at hb; subst hb; omega
          clear hl
          go_wp2
          go_round
          case rel => exact ⟨k + 1, by omega, by omega, by go_num, HA2⟩
          case measure => simp [intOf]; omega
      · have hk3 : (100 : Int) ≤ (k : Int) := by omega
        have hn9 : ¬ (n : Int) ≤ 90 := by omega
        go_wp2
        go_ret
        exact ⟨false, by simp, (fun h => by cases h), HB.out⟩
    · obtain rfl : k = n := by omega
      by_cases h9 : (k : Int) ≤ 90
      · go_wp2
        go_ret
        have hx := HA.out
        rw [List.take_of_length_le (by have := HLEN.out; omega)] at hx
        exact ⟨true, by simp, fun _ => ⟨by omega, hx⟩, HB.out⟩
      · go_wp2
        go_ret
        exact ⟨false, by simp, (fun h => by cases h), HB.out⟩
structure Cp (w wr : World) (t : Tp) (A : Option Addr) (n c k : Nat) (A3 : Option Addr) (c3 : Nat) : Prop where
  box : Tb wr w.heap.size t A n c
  res : wr.heap[w.heap.size + 1]? = some (.cells #[.int .i64 0, .int .i64 0, .slice none 0 0, .bool false] 29 (0, 0))
  rows : Bl wr w.heap.size A3 k c3 (t.blocks.take k)
  bel : Below w.heap.size w wr
set_option maxHeartbeats 8000000 in
set_option maxRecDepth 100000 in
theorem copy_any (w : World) (t : Tp) (A : Option Addr) (n c : Nat) (h : Blks w A n c t.blocks) (hn : n ≤ 1000) (hl : ∀ b ∈ t.blocks, b.length ≤ 1000000) : Calls Try.prog 19 #[tv t A n c] w (Copied w t) := by
  have hb1 := (Below.refl w.heap.size w).alloc (Nat.le_refl _) (.cells #[.int .i64 t.label, .int .i64 t.cap, .slice A n c, .bool t.lost] 29)
  have hb2 := hb1.alloc hb1.size (.cells #[.int .i64 0, .int .i64 0, .slice none 0 0, .bool false] 29)
  obtain ⟨W, HW⟩ : ∃ W, Hid (W = (w.alloc (.cells #[.int .i64 t.label, .int .i64 t.cap, .slice A n c, .bool t.lost] 29)).alloc (.cells #[.int .i64 0, .int .i64 0, .slice none 0 0, .bool false] 29)) := ⟨_, rfl⟩
  have HC : Hid (Cp w W t A n c 0 none 0) := by
    rw [HW.out]
    exact ⟨(heap_alloc_old _ _ (by simp)).trans (heap_alloc_new w _), heap_alloc2 _ _ _, Bl.nil _ _, hb2⟩
  have HL := Lib.hid h
  have HLN := Lib.hid hl
  clear h hb1 hb2 hl
  unfold tv
  go_enter Try.func19, Try.ntmps19
  go_wp2
  rw [← HW.out]
  clear HW
  go_loopw [3, 4] (fun l i wr => ∃ k A3 c3, k ≤ n ∧ i = .int .i64 (k : Int) ∧ l = .slice A3 k c3 ∧ Cp w wr t A n c k A3 c3) (fun _ i _ => n - (intOf i).toNat)
  case atStart => exact ⟨0, none, 0, Nat.zero_le _, rfl, rfl, HC.out⟩
  case round =>
    clear HC
    obtain ⟨k, A3, c3, hk, rfl, rfl, hcp⟩ := hrel
    obtain ⟨d0, d1, d2, d3⟩ := hcp.box.cells
    have HCP := Lib.hid hcp
    clear hcp
    by_cases hkn : k < n
    · obtain ⟨b, o, A1, n1, c1, l, rfl, hl, hc, hs, _⟩ := (HL.out.below HCP.out.bel).at k hkn
      have hn1 : n1 ≤ 1000000 := by have := HLN.out l (List.mem_of_getElem? hl); have := hs.len; omega
      have HSL := Lib.hid hs
      have HLK := Lib.hid hl
      have hk6 : k ≤ 1000000 := by omega
      have hnb : 0 + n1 ≤ 140737488355328 := by omega
      clear hl hs
      go_wp2_with (first
        | (at_builtin; refine app_law (o := ⟨some 18, _, _, _, _, _⟩) rfl (.const (.slice none 0 0)) (.tmp 17) 32 rfl Try.underlying32 info5' rfl rfl (Own.nil _ wr.heap.size) HSL.out.1 HSL.out.2.2 hnb (Nat.le_refl _) ?_; intro A4 c4 w4 own gr hat; simp only [Nat.zero_add, List.nil_append] at own ⊢; have hb4 := (Below.refl wr.heap.size wr).grown gr (Nat.le_refl _) (fun k hk => by simp [blk] at hk); have HB4 := Lib.hid (hb4.alloc hb4.size (.cells #[.slice A4 n1 c4] 32)); have HO4 := Lib.hid (own.alloc (.cells #[.slice A4 n1 c4] 32)); have HQ4 := Lib.hid (heap_alloc_new w4 (.cells #[.slice A4 n1 c4] 32)); clear own gr hat hb4)
        | (at_builtin; refine app_bl (o := ⟨some 20, _, _, _, _, _⟩) rfl (.tmp 12) (.tmp 19) rfl rfl rfl (v := ⟨A4, n1, c4⟩) (w0 := wr) HCP.out.rows HB4.out HCP.out.bel.size HO4.out HQ4.out hk6 ?_; intro A5 c5 w5 hbl hb5 st; have HBL := Lib.hid hbl; have HB5 := Lib.hid hb5; have HST := Lib.hid st; clear hbl hb5 st))
      go_roundw
      case rel =>
        have hb45 := HB4.out
        have hz := HCP.out.bel.size
        have hbw := (HCP.out.bel.trans (hb45.mono hz)).trans HB5.out
        refine ⟨k + 1, A5, c5, by omega, by go_num, rfl, (HCP.out.box.below hb45).stay HST.out (by decide), ?_, ?_, hbw⟩
        · exact HST.out _ _ _ (by decide) ((hb45.block _ (lt_of_block HCP.out.res)).trans HCP.out.res)
        · obtain ⟨hkl, e⟩ := List.getElem?_eq_some_iff.1 HLK.out
          rw [List.take_succ_eq_append_getElem hkl, e]
          exact HBL.out
      case measure => simp [intOf]; omega
    · obtain rfl : k = n := by omega
      have hbx := HCP.out.box
      have x0 := unfrozen_of_block hbx 2
      have hres : (wr.setCell ⟨w.heap.size, 2, none⟩ (.slice A3 k c3)).heap[w.heap.size + 1]? = some (.cells #[.int .i64 0, .int .i64 0, .slice none 0 0, .bool false] 29 (0, 0)) := (Below.heap_setCell wr ⟨w.heap.size, 2, none⟩ _ _ (by simp)).trans HCP.out.res
      have hbox : Tb (wr.setCell ⟨w.heap.size, 2, none⟩ (.slice A3 k c3)) w.heap.size t A3 k c3 := hbx.set
      obtain ⟨e0, e1, e2, e3⟩ := hbox.cells
      obtain ⟨W5, hW5⟩ : ∃ W, W = wr.setCell ⟨w.heap.size, 2, none⟩ (.slice A3 k c3) := ⟨_, rfl⟩
      have HBL5 : Hid (Bl W5 w.heap.size A3 k c3 t.blocks) := by
        have h1 := HCP.out.rows.stay (stay_set (i := 2) hbx (.slice A3 k c3)) (by decide) (by decide)
        rw [List.take_of_length_le (by rw [HL.out.len]; exact Nat.le_refl _), ← hW5] at h1
        exact h1
      have HB5 : Hid (Below w.heap.size w W5) := by rw [hW5]; exact HCP.out.bel.setCell (Nat.le_refl _) _
      rw [← hW5] at e0 e1 e2 e3 hres hbox
      have HW5 := Lib.hid hW5
      have HRES := Lib.hid hres
      have r0 := cell_of_block hres 0
      have r1 := cell_of_block hres 1
      have r2 := cell_of_block hres 2
      have r3 := cell_of_block hres 3
      have f0 := unfrozen_of_block hres 0
      have f1 := unfrozen_of_block hres 1
      have f2 := unfrozen_of_block hres 2
      have f3 := unfrozen_of_block hres 3
      clear hbx hres hbox hW5
      go_upto_region 7 with (fail)
      rw [← HW5.out]
      clear d0 d1 d2 d3
      go_wp2
      obtain ⟨s0, s1, s2, s3, st, _⟩ := four_set HRES.out (.int .i64 t.label) (.int .i64 t.cap) (.slice A3 k c3) (.bool t.lost)
      refine bodyPost_ret (v := tv t A3 k c3) (by simp [results, Try.results19, go_sem, s0, s1, s2, s3]) rfl ⟨A3, k, c3, rfl, ?_, ?_⟩
      · exact HBL5.out.stay st (by decide) (by decide)
      · exact (((HB5.out.setCell (by simp) _).setCell (by simp) _).setCell (by simp) _).setCell (by simp) _
/-- A tape that is none. -/
def BadT (t : Tp) (n : Nat) : Prop := t.label < 1 ∨ t.cap < 0 ∨ 64 < t.cap ∨ t.cap < (n : Int) ∨ ¬ Right t.blocks
def LtR (w : World) (t : Tp) (n : Nat) (e : Ending) (w' : World) : Prop := ∃ r : Int, e = .returned (.int .i64 r) ∧ ((r = 1 ∧ BadT t n) ∨ (r = 9 ∧ ¬ BadT t n ∧ t.lost = true) ∨ (r = 0 ∧ ¬ BadT t n ∧ t.lost = false)) ∧ Below w.heap.size w w'
set_option maxHeartbeats 8000000 in
theorem ltape_any (w : World) (t : Tp) (A : Option Addr) (n c : Nat) (h : Blks w A n c t.blocks) (hn : n ≤ 1000000) : Calls Try.prog 20 #[tv t A n c] w (LtR w t n) := by
  have hb1 := (Below.refl w.heap.size w).alloc (Nat.le_refl _) (.cells #[.int .i64 t.label, .int .i64 t.cap, .slice A n c, .bool t.lost] 29)
  have HB := Lib.hid hb1
  have HL := Lib.hid (h.below hb1)
  clear h hb1
  by_cases hbad : t.label < 1 ∨ t.cap < 0 ∨ 64 < t.cap ∨ t.cap < (n : Int)
  · have HBAD : Hid (BadT t n) := by unfold Hid BadT; omega
    have hr5 : t.label < 1 ∨ (1 ≤ t.label ∧ t.cap < 0) ∨ (1 ≤ t.label ∧ 0 ≤ t.cap ∧ 64 < t.cap) ∨ (1 ≤ t.label ∧ 0 ≤ t.cap ∧ t.cap ≤ 64 ∧ t.cap < (n : Int)) := by omega
    clear hbad
    unfold tv
    rcases hr5 with h | ⟨h1, h⟩ | ⟨h1, h2, h⟩ | ⟨h1, h2, h3, h⟩
    all_goals
      go_enter Try.func20, Try.ntmps20
      go_wp2
      go_ret
      exact ⟨1, rfl, .inl ⟨rfl, HBAD.out⟩, HB.out⟩
  · have h1 : 1 ≤ t.label := by omega
    have h2 : 0 ≤ t.cap := by omega
    have h3 : t.cap ≤ 64 := by omega
    have h4 : (n : Int) ≤ t.cap := by omega
    clear hbad
    obtain ⟨tl, tc, tb, tlo⟩ := t
    have HNB : Hid (Right tb → ¬ BadT ⟨tl, tc, tb, tlo⟩ n) := by
      rintro hr (h | h | h | h | h)
      · exact absurd h1 (by simp only at h ⊢; omega)
      · exact absurd h2 (by simp only at h ⊢; omega)
      · exact absurd h3 (by simp only at h ⊢; omega)
      · exact absurd h4 (by simp only at h ⊢; omega)
      · exact h hr
    have HYB : Hid (¬ Right tb → BadT ⟨tl, tc, tb, tlo⟩ n) := fun hr => .inr (.inr (.inr (.inr hr)))
    simp only at h1 h2 h3 h4
    unfold tv
    obtain ⟨W, HW⟩ : ∃ W, Hid (W = w.alloc (.cells #[.int .i64 tl, .int .i64 tc, .slice A n c, .bool tlo] 29)) := ⟨_, rfl⟩
    have hbox : W.heap[w.heap.size]? = some (.cells #[.int .i64 tl, .int .i64 tc, .slice A n c, .bool tlo] 29 (0, 0)) := by rw [HW.out]; exact heap_alloc_new w _
    have d2 := cell_of_block hbox 2
    have d3 := cell_of_block hbox 3
    simp only at HL HB
    rw [← HW.out] at HB HL
    clear hbox
    go_enter Try.func20, Try.ntmps20
    go_wp2
    rw [← HW.out]
    clear HW
    go_loop [3] (fun i => ∃ k : Nat, k ≤ n ∧ i = .int .i64 (k : Int) ∧ Hid (Right (tb.take k))) (fun i => n - (intOf i).toNat)
    case atStart => exact ⟨0, Nat.zero_le _, rfl, fun b hb => by simp at hb⟩
    case round =>
      obtain ⟨k, hk, rfl, HA⟩ := hrel
      by_cases hkn : k < n
      · obtain ⟨b, o, A1, n1, c1, l, rfl, hlk, hc, hs, _⟩ := HL.out.at k hkn
        have hl := hs.len
        have HLK := Lib.hid hlk
        clear hs hlk
        by_cases hw : n1 = 0 ∨ 94 < n1
        · have HN : Hid (¬ Right tb) := by
            intro hr
            have := hr l (List.mem_of_getElem? HLK.out)
            omega
          clear hl
          rcases hw with rfl | hw
          all_goals
            go_wp2
            go_ret
            exact ⟨1, rfl, .inl ⟨rfl, HYB.out HN.out⟩, HB.out⟩
        · have hw1 : 1 ≤ n1 := by omega
          have hw2 : n1 ≤ 94 := by omega
          have HA2 : Hid (Right (tb.take (k + 1))) := by
            obtain ⟨hkl, rfl⟩ := List.getElem?_eq_some_iff.1 HLK.out
            intro b hb
            rw [List.take_succ_eq_append_getElem hkl] at hb
            rcases List.mem_append.1 hb with hb | hb
            · exact HA.out b hb
            · simp at hb; subst hb; omega
          clear hl hw
          go_wp2
          go_round
          case rel => exact ⟨k + 1, by omega, by go_num, HA2⟩
          case measure => simp [intOf]; omega
      · obtain rfl : k = n := by omega
        have HR : Hid (Right tb) := by have h9 := HA.out; rw [List.take_of_length_le (by rw [show tb.length = k from HL.out.len]; exact Nat.le_refl _)] at h9; exact h9
        cases tlo
        all_goals
          go_wp2
          go_ret
        · exact ⟨0, rfl, .inr (.inr ⟨rfl, HNB.out HR.out, rfl⟩), HB.out⟩
        · exact ⟨9, rfl, .inr (.inl ⟨rfl, HNB.out HR.out, rfl⟩), HB.out⟩
end Go.Proofs.Ytnnhigojgdcdlaa.Code
