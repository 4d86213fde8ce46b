/- The example of chapter 8 is alive. Conditions: none. -/
import Derived.Test.YtnnhigojgdcdlaaDap
namespace Go.Proofs.Ytnnhigojgdcdlaa.Code
open Go.RowKit Go.Joins Go.Proofs.Ytnnhigojgdcdlaa.Crc Go.Proofs.Ytnnhigojgdcdlaa.Mem
theorem right_nil : Right [] := fun b hb => by simp at hb
theorem lenS (w : World) (S : Nat → Prop) (q : Nat) (t : Tp) (h : DrS 58 w S q t) (m : Int) (hm : (t.blocks.length : Int) = m) : Calls Try.prog 12 #[.pointer (some ⟨q, 0, none⟩)] w fun e w' => e = .returned (.int .i64 m) ∧ w' = w := by
  obtain ⟨A, n, c, vs, h⟩ := h
  have hl := h.len
  refine (len_any w q t A n c h.box).mono ?_
  rintro e w' ⟨rfl, rfl⟩
  exact ⟨ret_int (by rw [← hm, hl]), rfl⟩
theorem roomS (w : World) (S : Nat → Prop) (q : Nat) (t : Tp) (h : DrS 58 w S q t) (h0 : (t.blocks.length : Int) ≤ t.cap) (h1 : t.cap ≤ 64) (m : Int) (hm : t.cap - (t.blocks.length : Int) = m) : Calls Try.prog 13 #[.pointer (some ⟨q, 0, none⟩)] w fun e w' => e = .returned (.int .i64 m) ∧ ∃ k, w' = w.drewN k := by
  obtain ⟨A, n, c, vs, h⟩ := h
  have hl := h.len
  refine (room_any w q t A n c h.box (by omega) h1).mono ?_
  rintro e w' ⟨rfl, hk⟩
  exact ⟨ret_int (by rw [← hm, hl]), hk⟩
theorem bdrew {B : Nat} {a w : World} (h : Below B a w) (n : Nat) : Below B a (w.drewN n) := bdrawn h n
theorem sl_one (W : World) (c : UInt8) : Sl (W.alloc (.cells #[.int .u8 (K c)] 5)) (some ⟨W.heap.size, 0, none⟩) 1 1 [c] := ⟨Reads.one W c 5, Nat.le_refl _, fun h => by cases h⟩
theorem sl_mark (W : World) (c : UInt8) (fr : Nat × Nat) : Sl (W.alloc (.cells #[.int .u8 (K c)] 5 fr)) (some ⟨W.heap.size, 0, none⟩) 1 1 [c] := by
  refine ⟨Reads.block (heap_alloc_new W _) rfl ?_, Nat.le_refl _, fun h => by cases h⟩
  intro i hi
  have : i < 1 := hi
  match i, this with
  | 0, _ => rfl
theorem Upd.newBelow {w0 w w' : World} (h : Upd (Nw w0 w) w w') (hz : w0.heap.size ≤ w.heap.size) : Below w0.heap.size w w' := h.below (fun _ _ hk => hk.1) hz
set_option maxHeartbeats 4000000 in
theorem alive_any (w : World) : Calls Try.prog 7 #[] w fun e w' => e = .returned (.bool true) ∧ Below w.heap.size w w' := by
  have HRN := Lib.hid right_nil
  have HSL : Hid (∀ W : World, Sl (W.alloc (.cells #[.int .u8 97] 5 (1, 2))) (some ⟨W.heap.size, 0, none⟩) 1 1 [97]) := fun W => sl_mark W 97 (1, 2)
  have kc := fun (w : World) (C : Array Value) (n c : Nat) => Lib.run_convert_bytes_const (P := Try.prog) w 32 5 C n c Try.underlying32 Try.underlying5
  go_enter Try.func7, Try.ntmps7
  go_wp2_with (first
    | (go_at_call 8; (refine (load_ok _ ⟨1, 3, [], false⟩ none 0 0 (Blks.nil _) (by decide) (by decide) (by decide) (by decide) HRN.out rfl).mono ?_); rintro e w1 ⟨q, rfl, hd, hb⟩; have HD := Lib.hid hd; have HB := Lib.hid hb; clear hd hb)
    | (go_at_call 9; (with_reducible refine (num_any _ _).mono ?_); rintro e w' ⟨rfl, rfl⟩)
    | (go_at_call 12; (with_reducible refine (lenS _ _ q _ HD.out 0 rfl).mono ?_); rintro e w' ⟨rfl, rfl⟩)
    | (go_at_call 10; (refine (append_set _ _ q _ (HD.out.below ((Below.refl _ _).alloc (Nat.le_refl _) _)) _ 1 1 [97] (HSL.out _) (by decide) (by decide) (by decide) (by decide)).mono ?_); rintro e w2 ⟨rfl, hd2, hu2⟩; have HD2 := Lib.hid hd2; have HU2 := Lib.hid hu2; clear hd2 hu2)
    | (go_at_call 13; (with_reducible refine (roomS _ _ q _ HD2.out (by decide) (by decide) 2 rfl).mono ?_); rintro e w' ⟨rfl, k, rfl⟩))
  go_ret
  have h1 := HB.out.alloc HB.out.size (.cells #[.int .u8 97] 5 (1, 2))
  exact ⟨rfl, bdrew (h1.trans (HU2.out.below (fun _ _ hk => hk.1) h1.size)) _⟩
end Go.Proofs.Ytnnhigojgdcdlaa.Code
