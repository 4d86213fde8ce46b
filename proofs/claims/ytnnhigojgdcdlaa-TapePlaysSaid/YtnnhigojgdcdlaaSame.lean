/- Two tapes that are the same are told as the same. Conditions: as each says. -/
import Derived.Test.YtnnhigojgdcdlaaDcut
import Derived.Laws.IdiomStrings
import Derived.Laws.BytesArg
namespace Go.Proofs.Ytnnhigojgdcdlaa.Mem
open Go.RowKit Go.Joins Go.Proofs.Ytnnhigojgdcdlaa.Crc
/-- A text of bytes. -/
def str (l : List UInt8) : ByteArray := ⟨l.toArray⟩
theorem str_inj {a b : List UInt8} : str a = str b ↔ a = b := ⟨fun h => by simpa [str] using h, fun h => by rw [h]⟩
theorem conv_str {P : Program} {w : World} {src dst : TypeId} (hs : P.underlying src = some (.slice 5)) (he : P.underlying 5 = some (.int .u8)) (hd : P.underlying dst = some .string) {A : Option Addr} {n c : Nat} {l : List UInt8} (h : Reads w A n l) (hz : A = none → n = 0 ∧ c = 0) :
    (convert src dst (.slice A n c)).run P w = .ok (.string (str l)) w := by
  cases A with
  | none =>
    obtain ⟨rfl, rfl⟩ := hz rfl
    have e : l = [] := List.length_eq_zero_iff.1 h.1
    subst e
    rw [run_convert_bytes_nil w src 5 hs he 0 0 dst hd]; rfl
  | some a =>
    obtain ⟨rfl, hr⟩ := h
    refine run_convert_bytes_back (P := P) w src dst 5 a c l hs he hd ?_
    intro j hj
    obtain ⟨b, o, ha, hc⟩ := hr j hj
    simp at ha
    subst ha
    rw [Go.WideShapes.add_plain]
    exact hc
end Go.Proofs.Ytnnhigojgdcdlaa.Mem
namespace Go.Proofs.Ytnnhigojgdcdlaa.Code
open Go.RowKit Go.Joins Go.Proofs.Ytnnhigojgdcdlaa.Crc Go.Proofs.Ytnnhigojgdcdlaa.Mem
/-- w after some draws. -/
def Dn (w wr : World) : Prop := ∃ m, wr = w.drewN m
theorem Dn.below {B : Nat} {w wr : World} (h : Dn w wr) : Below B w wr := by obtain ⟨m, rfl⟩ := h; exact bdrawn (Below.refl _ _) m
theorem Dn.drew {w wr : World} (h : Dn w wr) : Dn w wr.drew := by obtain ⟨m, rfl⟩ := h; exact ⟨m + 1, by rw [← World.drewN_drewN]; rfl⟩
theorem Dn.more {w wr : World} (h : Dn w wr) (k : Nat) : Dn w (wr.drewN k) := by obtain ⟨m, rfl⟩ := h; exact ⟨m + k, by rw [World.drewN_drewN]⟩
set_option maxHeartbeats 4000000 in
theorem samerows_yes (w : World) (A A2 : Option Addr) (n c c2 : Nat) (bs : List (List UInt8)) (h : Blks w A n c bs) (h2 : Blks w A2 n c2 bs) (hn : n ≤ 1000000) :
    Calls Try.prog 30 #[.slice A n c, .slice A2 n c2] w fun e w' => e = .returned (.bool true) ∧ Dn w w' := by
  have HL := Lib.hid h
  have HL2 := Lib.hid h2
  clear h h2
  go_enter Try.func30, Try.ntmps30
  go_wp2
  go_loopw [5] (fun i wr => ∃ k, k ≤ n ∧ i = .int .i64 (k : Int) ∧ Dn w wr) (fun i _ => n - (intOf i).toNat)
  case atStart => exact ⟨0, Nat.zero_le _, rfl, 0, rfl⟩
  case round =>
    obtain ⟨k, hk, rfl, hm⟩ := hrel
    have HW := Lib.hid hm
    have hb := hm.below (B := w.heap.size)
    clear hm
    have HM := Lib.hid (HL.out.below hb)
    have HM2 := Lib.hid (HL2.out.below hb)
    clear hb
    by_cases hkn : k < n
    · obtain ⟨b, o, A1, n1, c1, l, rfl, hl, hc, hs, _⟩ := HM.out.at k hkn
      obtain ⟨b', o', A1', n1', c1', l', rfl, hl', hc', hs', _⟩ := HM2.out.at k hkn
      rw [hl] at hl'
      injection hl' with hl'
      subst hl'
      have cv1 := conv_str Try.underlying32 Try.underlying5 Try.underlying9 hs.1 hs.2.2
      have cv2 := conv_str Try.underlying32 Try.underlying5 Try.underlying9 hs'.1 hs'.2.2
      have hd : Below wr.heap.size wr wr.drew := (Below.refl _ _).drew
      have dv1 := conv_str (w := wr.drew) Try.underlying32 Try.underlying5 Try.underlying9 (hs.1.below hd (Nat.le_refl _)) hs.2.2
      have dv2 := conv_str (w := wr.drew) Try.underlying32 Try.underlying5 Try.underlying9 (hs'.1.below hd (Nat.le_refl _)) hs'.2.2
      have dc1 := (hd.cell (World.block_lt_of_cell? _ _ hc)).trans hc
      have dc2 := (hd.cell (World.block_lt_of_cell? _ _ hc')).trans hc'
      clear hl hs hs' hd
      go_wp2
      go_region
      all_goals
        go_wp2
        go_roundw
        case rel => exact ⟨k + 1, by omega, by go_num, HW.out.drew⟩
        case measure => simp [intOf]; omega
    · obtain rfl : k = n := by omega
      go_wp2
      go_ret
      exact ⟨rfl, HW.out⟩
theorem sametape_yes (w : World) (t : Tp) (A A2 : Option Addr) (n c c2 : Nat) (h : Blks w A n c t.blocks) (h2 : Blks w A2 n c2 t.blocks) (hn : n ≤ 1000000) :
    Calls Try.prog 16 #[tv t A n c, tv t A2 n c2] w fun e w' => e = .returned (.bool true) ∧ Below w.heap.size w w' := by
  have hb1 := (Below.refl w.heap.size w).alloc (Nat.le_refl _) (.cells #[.int .i64 t.label, .int .i64 t.cap, .slice A n c, .bool t.lost] 29)
  have hb2 := hb1.alloc hb1.size (.cells #[.int .i64 t.label, .int .i64 t.cap, .slice A2 n c2, .bool t.lost] 29)
  have HB := Lib.hid hb2
  have HL := Lib.hid (h.below hb2)
  have HL2 := Lib.hid (h2.below hb2)
  clear h h2 hb1 hb2
  unfold tv
  go_enter Try.func16, Try.ntmps16
  go_wp2_with (go_at_call 30; (with_reducible refine (samerows_yes _ A A2 n c c2 _ HL.out HL2.out hn).mono ?_); rintro e w1 ⟨rfl, hd⟩; have HD := Lib.hid hd; clear hd)
  go_ret
  exact ⟨rfl, HB.out.trans HD.out.below⟩
end Go.Proofs.Ytnnhigojgdcdlaa.Code
