/- fault.New, and the example's text. Conditions: as each says. -/
import Derived.Test.YtppablpbpimloaaDoorIse
namespace Go.Proofs.YtppablpbpimloaaDoor.Code
open Go Go.RowKit Go.Joins Go.Extern.Stop Go.Stop Go.Extern Go.Proofs.YtppablpbpimloaaDoor.Rl
/-- Where new blocks lie. -/
def Nw (w wr : World) (k : Nat) : Prop := w.heap.size ≤ k ∧ k < wr.heap.size
/-- A slice of strings. -/
def Strs (w : World) (A : Option Addr) (n : Nat) : Prop := ∀ i, i < n → ∃ b o s, A = some ⟨b, o, none⟩ ∧ w.cell? ⟨b, o + i, none⟩ = some (.string s)
theorem Strs.below {w w' : World} {A : Option Addr} {n : Nat} (h : Strs w A n) (hb : Below w.heap.size w w') : Strs w' A n := fun i hi => by
  obtain ⟨b, o, s, ha, hc⟩ := h i hi
  exact ⟨b, o, s, ha, (hb.cell (World.block_lt_of_cell? _ _ hc)).trans hc⟩
theorem Strs.nil (w : World) (A : Option Addr) : Strs w A 0 := fun i hi => absurd hi (Nat.not_lt_zero i)
/-- An error that was made. -/
def Made (w wr : World) (e n : Nat) (v : Value) (c l b : Int) : Prop := Lay wr (Nw w wr) e n v ∧ Flt wr e c l b ∧ Below w.heap.size w wr
theorem Made.below {w wr w' : World} {e n : Nat} {v : Value} {c l b : Int} (h : Made w wr e n v c l b) (hb : Below wr.heap.size wr w') : Made w w' e n v c l b :=
  ⟨(h.1.move hb).mono fun _ hk => ⟨hk.1, Nat.lt_of_lt_of_le hk.2 hb.size⟩, h.2.1.below hb, h.2.2.trans (hb.mono h.2.2.size)⟩
theorem Made.wrap {w wr : World} {e n : Nat} {v : Value} {c l b : Int} (h : Made w wr e n v c l b) (s : ByteArray) : Made w (wr.alloc (.cells #[.string s, v] 48)) e (n + 1) (.iface 46 (.pointer (some ⟨wr.heap.size, 0, none⟩))) c l b := by
  have h2 := h.below ((Below.refl wr.heap.size wr).alloc (Nat.le_refl _) (.cells #[.string s, v] 48))
  exact ⟨.wrap (heap_alloc_new wr _) ⟨h.2.2.size, by simp⟩ h2.1, h2.2⟩
theorem Made.first (w w1 : World) (hb : Below w.heap.size w w1) (c l b : Int) : Made w (w1.alloc (.cells #[.int .i64 c, .int .i64 l, .int .i64 b] 45)) w1.heap.size 0 (.iface 43 (.pointer (some ⟨w1.heap.size, 0, none⟩))) c l b :=
  ⟨.base ⟨hb.size, by simp⟩, heap_alloc_new w1 _, hb.alloc hb.size _⟩
def NewR (w : World) (n : Nat) (c l b : Int) (r : Ending) (w' : World) : Prop := ∃ e v, r = .returned v ∧ Made w w' e n v c l b
set_option maxHeartbeats 4000000 in
theorem new_any (w : World) (c l b : Int) (A : Option Addr) (n k : Nat) (hs : Strs w A n) (hc : c ≠ 0) (hn : n ≤ 1000) : Calls Tryd.prog 8 #[.int .i64 c, .agg #[.int .i64 l, .int .i64 b], .slice A n k] w (NewR w n c l b) := by
  have HS := Lib.hid hs
  have hc0 : (c == 0) = false := beq_eq_false_iff_ne.mpr hc
  have hb1 := (Below.refl w.heap.size w).alloc (Nat.le_refl _) (.cells #[.int .i64 l, .int .i64 b] 25)
  obtain ⟨W, HW⟩ : ∃ W, Hid (W = (w.alloc (.cells #[.int .i64 l, .int .i64 b] 25)).alloc (.cells #[.int .i64 c, .int .i64 l, .int .i64 b] 45)) := ⟨_, rfl⟩
  have HM : Hid (Made w W (w.heap.size + 1) 0 (.iface 43 (.pointer (some ⟨w.heap.size + 1, 0, none⟩))) c l b) := by
    rw [HW.out]
    have h := Made.first w (w.alloc (.cells #[.int .i64 l, .int .i64 b] 25)) hb1 c l b
    rw [World.size_alloc] at h
    exact h
  clear hs hc hb1
  go_enter Tryd.func8, Tryd.ntmps8
  go_wp2
  rw [← HW.out]
  clear HW
  go_loopw [7, 19] (fun v i wr => ∃ m, m ≤ n ∧ i = .int .i64 (m : Int) ∧ Made w wr (w.heap.size + 1) m v c l b) (fun _ i _ => n - (intOf i).toNat)
  case atStart => exact ⟨0, Nat.zero_le _, rfl, HM.out⟩
  case round =>
    clear HM
    obtain ⟨m, hm, rfl, hmd⟩ := hrel
    by_cases hmn : m < n
    · obtain ⟨b1, o1, s, rfl, hcell⟩ := (HS.out.below hmd.2.2) m hmn
      have HMD := Lib.hid hmd
      obtain ⟨T, k2, rfl, hT⟩ := hmd.1.ch.shape
      clear hmd
      go_wp2
      go_roundw
      case rel => exact ⟨m + 1, by omega, by go_num, HMD.out.wrap s⟩
      case measure => simp [intOf]; omega
    · obtain rfl : m = n := by omega
      have HMD := Lib.hid hmd
      obtain ⟨T, k2, rfl, hT⟩ := hmd.1.ch.shape
      clear hmd
      go_wp2
      go_ret
      exact ⟨_, _, rfl, HMD.out⟩
end Go.Proofs.YtppablpbpimloaaDoor.Code
