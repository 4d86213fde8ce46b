/- Whether tapes are few; whether two lists of spots are one. Conditions: none. -/
import Derived.Test.YtpgceeeokjadpaaVer7
import Derived.BigQuiet
namespace Go.Proofs.Ytpgceeeokjadpaa.Crc
def few8 (t : Tp) : Bool := decide ((∀ b ∈ t.blocks.take 100, b.length ≤ 300) ∧ t.blocks.length ≤ 90)
def wtb (l : List Tp) : Nat := (l.map (fun t => t.blocks.length)).sum
def few13 (l : List Tp) : Bool := decide ((∀ t ∈ l.take 20, few8 t = true) ∧ l.length ≤ 14 ∧ wtb (l.take 20) ≤ 300)
theorem few8_small {t : Tp} (h : few8 t = true) : (∀ b ∈ t.blocks, b.length ≤ 300) ∧ t.blocks.length ≤ 90 := by
  obtain ⟨h1, h2⟩ := of_decide_eq_true h
  rw [List.take_of_length_le (by omega)] at h1
  exact ⟨h1, h2⟩
theorem wt_wtb (l : List Tp) : wt l = wtb l + l.length := by
  unfold wt wtb
  induction l with
  | nil => rfl
  | cons t l ih => simp only [List.map_cons, List.sum_cons, List.length_cons]; omega
theorem wtb_take {l : List Tp} {k : Nat} {t : Tp} (h : l[k]? = some t) : wtb (l.take (k + 1)) = wtb (l.take k) + t.blocks.length := by
  obtain ⟨hk, rfl⟩ := List.getElem?_eq_some_iff.1 h
  unfold wtb
  rw [List.take_succ_eq_append_getElem hk, List.map_append, List.sum_append]
  simp
end Go.Proofs.Ytpgceeeokjadpaa.Crc
namespace Go.Proofs.Ytpgceeeokjadpaa.Code
open Go.RowKit Go.Joins Go.Proofs.Ytpgceeeokjadpaa.Crc Go.Proofs.Ytpgceeeokjadpaa.Mem
theorem few13_few {l : List Tp} (h : few13 l = true) : FewT l ∧ l.length ≤ 14 := by
  obtain ⟨h1, h2, h3⟩ := of_decide_eq_true h
  rw [List.take_of_length_le (by omega)] at h1 h3
  refine ⟨⟨?_, fun t ht => (few8_small (h1 t ht)).1⟩, h2⟩
  rw [wt_wtb]; omega
theorem take_snoc_all {α : Type} {P : α → Prop} {l : List α} {k : Nat} {x : α} (h : ∀ b ∈ l.take k, P b) (hk : l[k]? = some x) (hx : P x) : ∀ b ∈ l.take (k + 1), P b := by
  obtain ⟨hkl, rfl⟩ := List.getElem?_eq_some_iff.1 hk
  rw [List.take_succ_eq_append_getElem hkl]
  intro b hb
  rcases List.mem_append.1 hb with hb | hb
  · exact h b hb
  · simp at hb; subst hb; exact hx
theorem mem_take_of {α : Type} {l : List α} {k m : Nat} {x : α} (hk : l[k]? = some x) (hm : k < m) : x ∈ l.take m := by
  obtain ⟨hkl, rfl⟩ := List.getElem?_eq_some_iff.1 hk
  exact List.mem_iff_getElem.2 ⟨k, by rw [List.length_take]; omega, by rw [List.getElem_take]⟩
set_option maxHeartbeats 8000000 in
set_option maxRecDepth 100000 in
theorem few8_any (w : World) (t : Tp) (A : Option Addr) (n c : Nat) (h : Blks w A n c t.blocks) :
    Calls Try.prog 57 #[tv t A n c] w fun e w' => e = .returned (.bool (few8 t)) ∧ Below w.heap.size w w' := by
  have hlen := h.len
  have hb := (Below.refl w.heap.size w).alloc (Nat.le_refl _) (.cells #[.int .i64 t.label, .int .i64 t.cap, .slice A n c, .bool t.lost] 65)
  have HB0 := Lib.hid hb
  have HTB0 := Lib.hid (Tb.new w t A n c)
  have HBLK := Lib.hid h
  clear h hb
  unfold tv
  go_enter Try.func57, Try.ntmps57
  go_wp2
  go_loopw [3] (fun i wr => ∃ k, k ≤ n ∧ k ≤ 100 ∧ i = .int .i64 (k : Int) ∧ Hid (∀ b ∈ t.blocks.take k, b.length ≤ 300) ∧ Hid (Below w.heap.size w wr) ∧ Hid (Tb wr w.heap.size t A n c)) (fun i _ => n - (intOf i).toNat)
  case atStart => exact ⟨0, Nat.zero_le _, Nat.zero_le _, rfl, fun b hb => by simp at hb, HB0, HTB0⟩
  case round =>
    obtain ⟨k, hk, hk1, rfl, HA, HB, HTB⟩ := hrel
    obtain ⟨d0, d1, d2, d3⟩ := HTB.out.cells
    by_cases hkn : k < n
    · by_cases hk100 : k < 100
      · obtain ⟨b, o, A1, n1, c1, x, rfl, hxk, hc, hs, _⟩ := HBLK.out.at k hkn
        replace hc := (HB.out.cell (World.block_lt_of_cell? _ _ hc)).trans hc
        have hxl := hs.len
        have HXK := Lib.hid hxk
        clear hs hxk
        by_cases hbig : 300 < n1
        · have HF : Hid (few8 t = false) := by
            refine decide_eq_false (fun ⟨hall, _⟩ => ?_)
            have := hall x (mem_take_of HXK.out hk100)
            omega
          go_wp2
          go_ret
          exact ⟨ret_bool HF.out.symm, HB.out⟩
        · have HA2 : Hid (∀ b ∈ t.blocks.take (k + 1), b.length ≤ 300) := take_snoc_all HA.out HXK.out (by omega)
          go_wp2
          go_roundw
          case rel => exact ⟨k + 1, by omega, by omega, by go_num, HA2, HB, HTB⟩
          case measure => simp [intOf]; omega
      · obtain rfl : k = 100 := by omega
        have HF : Hid (false = few8 t) := (decide_eq_false (fun ⟨_, h2⟩ => by omega)).symm
        go_wp2
        go_ret
        exact ⟨ret_bool ((decide_eq_false (by omega)).trans HF.out), HB.out⟩
    · obtain rfl : k = n := by omega
      by_cases h90 : k ≤ 90
      · have HF : Hid (true = few8 t) := (decide_eq_true ⟨by have := HA.out; rw [List.take_of_length_le (by omega)] at this; rw [List.take_of_length_le (by omega)]; exact this, by omega⟩).symm
        go_wp2
        go_ret
        exact ⟨ret_bool ((decide_eq_true (by omega)).trans HF.out), HB.out⟩
      · have HF : Hid (false = few8 t) := (decide_eq_false (fun ⟨_, h2⟩ => by omega)).symm
        go_wp2
        go_ret
        exact ⟨ret_bool ((decide_eq_false (by omega)).trans HF.out), HB.out⟩
set_option maxHeartbeats 8000000 in
set_option maxRecDepth 100000 in
theorem few13_any (w : World) (A : Option Addr) (n c : Nat) (l : List Tp) (h : Tps w A n l) :
    Calls Try.prog 37 #[.slice A n c] w fun e w' => e = .returned (.bool (few13 l)) ∧ Below w.heap.size w w' := by
  have HT := Lib.hid h
  have hlen := h.1
  clear h
  go_enter Try.func37, Try.ntmps37
  go_wp2
  go_loopw [3, 4] (fun m i wr => ∃ (k m' : Nat), k ≤ n ∧ k ≤ 20 ∧ i = .int .i64 (k : Int) ∧ m = .int .i64 (m' : Int) ∧ m' = wtb (l.take k) ∧ m' ≤ k * 90 ∧ Hid (∀ t ∈ l.take k, few8 t = true) ∧ Hid (Below w.heap.size w wr)) (fun _ i _ => n - (intOf i).toNat)
  case atStart => exact ⟨0, 0, Nat.zero_le _, Nat.zero_le _, rfl, rfl, rfl, Nat.zero_le _, fun b hb => by simp at hb, Below.refl _ _⟩
  case round =>
    obtain ⟨k, m', hk, hk1, rfl, rfl, hm, hm90, HA, HB⟩ := hrel
    have HM := Lib.hid hm
    clear hm
    by_cases hkn : k < n
    · by_cases hk20 : k < 20
      · obtain ⟨b, o, A1, n1, c1, t, rfl, hkt, k0, k1, k2, k3, hblk⟩ := tps_at HT.out k hkn
        replace k0 := (HB.out.cell (World.block_lt_of_cell? _ _ k0)).trans k0
        replace k1 := (HB.out.cell (World.block_lt_of_cell? _ _ k1)).trans k1
        have K2 := Lib.hid k2
        replace k2 := (HB.out.cell (World.block_lt_of_cell? _ _ k2)).trans k2
        replace k3 := (HB.out.cell (World.block_lt_of_cell? _ _ k3)).trans k3
        have HBLK := Lib.hid (hblk.below HB.out)
        have hbl := hblk.len
        have HKT := Lib.hid hkt
        clear hblk hkt
        cases hf : few8 t with
        | false =>
          have HF : Hid (few13 l = false) := by
            refine decide_eq_false (fun ⟨hall, _⟩ => ?_)
            have := hall t (mem_take_of HKT.out hk20)
            rw [hf] at this; exact Bool.noConfusion this
          have HFF := Lib.hid hf
          clear hf
          go_wp2_with (go_at_call 57; (with_reducible refine (few8_any _ t _ _ _ HBLK.out).mono ?_); rintro e w2 ⟨rfl, hb⟩; rw [HFF.out]; have HB2 := Lib.hid (below_then HB.out hb HB.out.size); clear hb)
          go_ret
          exact ⟨ret_bool HF.out.symm, HB2.out⟩
        | true =>
          have hn1 : n1 ≤ 90 := by rw [← hbl]; exact (few8_small hf).2
          have HA2 : Hid (∀ t ∈ l.take (k + 1), few8 t = true) := take_snoc_all (P := fun t => few8 t = true) HA.out HKT.out hf
          have HW : Hid (m' + n1 = wtb (l.take (k + 1))) := by unfold Hid; rw [wtb_take HKT.out, ← HM.out, hbl]
          have HFF := Lib.hid hf
          clear hf
          go_wp2_with (go_at_call 57; (with_reducible refine (few8_any _ t _ _ _ HBLK.out).mono ?_); rintro e w2 ⟨rfl, hb⟩; rw [HFF.out]; have HB2 := Lib.hid (below_then HB.out hb HB.out.size); have k2' := (HB2.out.cell (World.block_lt_of_cell? _ _ K2.out)).trans K2.out; clear hb)
          go_roundw
          case rel => exact ⟨k + 1, m' + n1, by omega, by omega, by go_num, by go_num, HW.out, by omega, HA2, HB2⟩
          case measure => simp [intOf]; omega
      · obtain rfl : k = 20 := by omega
        have HF : Hid (false = few13 l) := (decide_eq_false (fun ⟨_, h2, _⟩ => by omega)).symm
        go_wp2
        go_ret
        exact ⟨ret_bool HF.out, HB.out⟩
    · obtain rfl : k = n := by omega
      have HW : Hid (m' = wtb (l.take 20)) := by unfold Hid; rw [HM.out, List.take_of_length_le (by omega), List.take_of_length_le (by omega)]
      have HAA : Hid (∀ t ∈ l.take 20, few8 t = true) := by unfold Hid; have := HA.out; rw [List.take_of_length_le (by omega)] at this; rw [List.take_of_length_le (by omega)]; exact this
      by_cases h14 : k ≤ 14
      · by_cases h300 : m' ≤ 300
        · have HF : Hid (true = few13 l) := (decide_eq_true ⟨HAA.out, by omega, by rw [← HW.out]; exact h300⟩).symm
          go_wp2
          go_ret
          exact ⟨ret_bool ((decide_eq_true (by omega)).trans HF.out), HB.out⟩
        · have HF : Hid (false = few13 l) := (decide_eq_false (fun ⟨_, _, h2⟩ => by rw [← HW.out] at h2; omega)).symm
          go_wp2
          go_ret
          exact ⟨ret_bool ((decide_eq_false (by omega)).trans HF.out), HB.out⟩
      · have HF : Hid (false = few13 l) := (decide_eq_false (fun ⟨_, h2, _⟩ => by omega)).symm
        go_wp2
        go_ret
        exact ⟨ret_bool HF.out, HB.out⟩
end Go.Proofs.Ytpgceeeokjadpaa.Code
