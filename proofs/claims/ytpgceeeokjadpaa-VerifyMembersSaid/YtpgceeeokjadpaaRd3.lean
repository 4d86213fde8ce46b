/- What is left, whether bytes were missing, a new reader, what a writer has written. Conditions: the row is short of 2^47 bytes. -/
import Derived.Test.YtpgceeeokjadpaaRd2
import Derived.Test.YtpgceeeokjadpaaCode
namespace Go.Proofs.Ytpgceeeokjadpaa.Mem
open Go.RowKit Go.Joins Go.Proofs.Ytpgceeeokjadpaa.Crc
/-- A reader that was made anew by a call that began in world w. -/
def NewC (w : World) (l : List UInt8) (e : Ending) (w' : World) : Prop := ∃ p, e = .returned (.pointer (some ⟨p, 0, none⟩)) ∧ w.heap.size ≤ p ∧ CAt w' p ⟨l, false⟩ ∧ Below w.heap.size w w'
def NewR (w : World) (l : List UInt8) (e : Ending) (w' : World) : Prop := ∃ p, e = .returned (.pointer (some ⟨p, 0, none⟩)) ∧ w.heap.size ≤ p ∧ RAt w' p ⟨l, false⟩ ∧ Below w.heap.size w w'
end Go.Proofs.Ytpgceeeokjadpaa.Mem
namespace Go.Proofs.Ytpgceeeokjadpaa.Code
open Go.RowKit Go.Joins Go.Proofs.Ytpgceeeokjadpaa.Crc Go.Proofs.Ytpgceeeokjadpaa.Mem
theorem ret_bool {a b : Bool} (h : a = b) : Ending.returned (.bool a) = .returned (.bool b) := by rw [h]
theorem rd_left (w : World) (p : Nat) (s : Rs) (h : CAt w p s) :
    Calls Try.prog 21 #[.pointer (some ⟨p, 0, none⟩)] w fun e w' => e = .returned (.int .i64 s.left) ∧ w' = w := by
  obtain ⟨hfit, A, n, c, htwo, hsl, hn, hc⟩ := h
  have hc0 : w.cell? ⟨p, 0, none⟩ = some (.slice A n c) := cell_of_block htwo 0
  have hl : (n : Int) = (s.left : Int) := by unfold Rs.left; rw [hsl.len]
  have HL := Lib.hid hl
  clear htwo hsl hl hfit
  go_enter Try.func21, Try.ntmps21
  go_wp2
  go_ret
  exact ⟨ret_int HL.out, rfl⟩
theorem rrd_left (w : World) (p : Nat) (s : Rs) (h : RAt w p s) :
    Calls Try.prog 46 #[.pointer (some ⟨p, 0, none⟩)] w fun e w' => e = .returned (.int .i64 s.left) ∧ w' = w := by
  obtain ⟨hfit, A, n, c, l0, htwo, hsl, hl0, hn, hc⟩ := h
  have hc0 : w.cell? ⟨p, 0, none⟩ = some (.slice A n c) := cell_of_block htwo 0
  have hc1 : w.cell? ⟨p, 1, none⟩ = some (.bool s.bad) := cell_of_block htwo 1
  cases hb : s.bad with
  | true =>
    rw [hb] at hc1
    have hl : (0 : Int) = (s.left : Int) := by unfold Rs.left; rw [hfit hb]; rfl
    have HL := Lib.hid hl
    clear htwo hsl hl hfit hb hl0
    go_enter Try.func46, Try.ntmps46
    go_wp2
    go_ret
    exact ⟨ret_int HL.out, rfl⟩
  | false =>
    rw [hb] at hc1
    have hl : (n : Int) = (s.left : Int) := by unfold Rs.left; rw [← hl0 hb, hsl.len]
    have HL := Lib.hid hl
    clear htwo hsl hl hfit hb hl0
    go_enter Try.func46, Try.ntmps46
    go_wp2
    go_ret
    exact ⟨ret_int HL.out, rfl⟩
theorem rd_bad (w : World) (p : Nat) (s : Rs) (h : CAt w p s) :
    Calls Try.prog 22 #[.pointer (some ⟨p, 0, none⟩)] w fun e w' => e = .returned (.bool s.bad) ∧ w' = w := by
  obtain ⟨hfit, A, n, c, htwo, hsl, hn, hc⟩ := h
  have hc1 : w.cell? ⟨p, 1, none⟩ = some (.bool s.bad) := cell_of_block htwo 1
  obtain ⟨b, hb⟩ : ∃ b, b = s.bad := ⟨_, rfl⟩
  rw [← hb] at hc1 ⊢
  clear htwo hsl hfit hb
  go_enter Try.func22, Try.ntmps22
  go_wp2
  go_ret
  exact ⟨rfl, rfl⟩
theorem rrd_bad (w : World) (p : Nat) (s : Rs) (h : RAt w p s) :
    Calls Try.prog 47 #[.pointer (some ⟨p, 0, none⟩)] w fun e w' => e = .returned (.bool s.bad) ∧ w' = w := by
  obtain ⟨hfit, A, n, c, l0, htwo, hsl, hl0, hn, hc⟩ := h
  have hc1 : w.cell? ⟨p, 1, none⟩ = some (.bool s.bad) := cell_of_block htwo 1
  obtain ⟨b, hb⟩ : ∃ b, b = s.bad := ⟨_, rfl⟩
  rw [← hb] at hc1 ⊢
  clear htwo hsl hfit hb hl0
  go_enter Try.func47, Try.ntmps47
  go_wp2
  go_ret
  exact ⟨rfl, rfl⟩
theorem wr_bytes (w : World) (p m : Nat) (l : List UInt8) (T : Nat) (h : WAt T w p l) (hm : l.length = m) (hl : m ≤ 140737488351232) :
    Calls Try.prog 18 #[.pointer (some ⟨p, 0, none⟩)] w fun e w' => Cloned w m l e w' := by
  subst hm
  obtain ⟨A, n, c, hp, ho⟩ := h
  have hc := cell_of_one hp
  have hn := ho.1
  have HS := Lib.hid ho.sl
  subst hn
  clear hp ho
  go_enter Try.func18, Try.ntmps18
  go_wp2_with (go_at_call 48; (with_reducible refine (clone_any _ _ _ _ l HS.out hl).mono ?_); rintro e w1 ⟨A', c', rfl, hnew⟩; have HN := Lib.hid hnew; clear hnew)
  go_ret
  exact ⟨A', c', rfl, HN.out⟩
theorem own_cap {w : World} {B : Nat} {A : Option Addr} {n c : Nat} {l : List UInt8} (h : Own w B A n c l) : c ≤ 9223372036854775807 := by
  rcases h.shape with ⟨_, _, rfl, _⟩ | ⟨_, _, _, _, _, _, _, hm, _⟩
  · omega
  · simpa [maxLen] using hm
theorem rd_new (w : World) (A : Option Addr) (n c : Nat) (l : List UInt8) (h : Sl w A n c l) (hn : n ≤ 140737488351232) :
    Calls Try.prog 17 #[.slice A n c] w fun e w' => NewC w l e w' := by
  have HS := Lib.hid h
  clear h
  go_enter Try.func17, Try.ntmps17
  go_wp2_with (go_at_call 48; (with_reducible refine (clone_any _ _ _ _ l HS.out hn).mono ?_); rintro e w1 ⟨A', c', rfl, hnew⟩; have HN := Lib.hid hnew; clear hnew)
  go_ret
  have hb := HN.out.2
  refine ⟨w1.heap.size, rfl, hb.size, ⟨fun h => (Bool.false_ne_true h).elim, A', n, c', ?_, ?_, hn, own_cap HN.out.1⟩, hb.alloc hb.size _⟩
  · exact heap_alloc_new w1 _
  · exact (HN.out.1.alloc _).sl
theorem rrd_new (w : World) (A : Option Addr) (n c : Nat) (l : List UInt8) (h : Sl w A n c l) (hn : n ≤ 140737488351232) (hc : c ≤ 9223372036854775807) :
    Calls Try.prog 41 #[.slice A n c] w fun e w' => NewR w l e w' := by
  have HS := Lib.hid h
  clear h
  go_enter Try.func41, Try.ntmps41
  go_wp2
  go_ret
  have hb := Below.refl w.heap.size w
  refine ⟨w.heap.size, rfl, hb.size, ⟨fun h => (Bool.false_ne_true h).elim, A, n, c, l, ?_, ?_, fun _ => rfl, hn, hc⟩, hb.alloc hb.size _⟩
  · exact heap_alloc_new w _
  · exact HS.out.below (hb.alloc hb.size _)
end Go.Proofs.Ytpgceeeokjadpaa.Code
