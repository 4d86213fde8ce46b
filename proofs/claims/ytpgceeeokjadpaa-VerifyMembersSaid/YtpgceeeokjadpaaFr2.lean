/- What frame.made makes: a unit's block. Conditions: the unit can be. -/
import Derived.Test.YtpgceeeokjadpaaFr
import Derived.Test.YtpgceeeokjadpaaLaw6b
import Derived.Laws.CopyOwn
import Derived.Test.YtpgceeeokjadpaaCrcWalk
namespace Go.Proofs.Ytpgceeeokjadpaa.Mem
open Go.RowKit Go.Joins Go.Proofs.Ytpgceeeokjadpaa.Crc
/-- While a unit is written: the unit's block at q, the writer at p. -/
structure Mk (T : TypeId) (w0 : World) (q p : Nat) (u : Un) (A : Option Addr) (n c : Nat) (w : World) (l : List UInt8) : Prop where
  below : Below w0.heap.size w0 w
  unit : w.heap[q]? = some (.cells #[.int .i64 u.kind, .int .i64 u.label, .int .i64 u.number, .slice A n c] 45 (0, 0))
  wat : WAt T w p l
  foot : ∀ k, Foot w p k → k ≠ q ∧ w0.heap.size ≤ k
  load : Sl w A n c u.load
  old : ∀ b, blk A = some b → 0 < n → b < w0.heap.size
namespace Mk
variable {T : TypeId} {w0 w w' : World} {q p : Nat} {u : Un} {A : Option Addr} {n c : Nat} {l l' : List UInt8}
theorem upd {S : Nat → Prop} (h : Mk T w0 q p u A n c w l) (hu : Upd S w w') (hs : ∀ k, S k → k ≠ q ∧ w0.heap.size ≤ k) (hw : WAt T w' p l') (hf : ∀ k, Foot w' p k → Foot w p k ∨ w.heap.size ≤ k) : Mk T w0 q p u A n c w' l' := by
  have hb := h.below.size
  have hq := lt_of_block h.unit
  refine ⟨below_upd h.below hu (fun k hk => (hs k hk).2) hb, (hu.block q hq (fun e => (hs q e).1 rfl)).trans h.unit, hw, fun k hk => ?_, h.load.upd hu (fun b hb h0 e => by have := h.old b hb h0; have := (hs b e).2; omega), h.old⟩
  rcases hf k hk with h1 | h1
  · exact h.foot k h1
  · omega
theorem wrote (h : Mk T w0 q p u A n c w l) (hw : Wrote T w p l' w') : Mk T w0 q p u A n c w' l' := h.upd hw.2.1 h.foot hw.1 hw.2.2
theorem later (h : Mk T w0 q p u A n c w l) (hb : Below w.heap.size w w') : Mk T w0 q p u A n c w' l :=
  ⟨below_then h.below hb h.below.size, (hb.block q (lt_of_block h.unit)).trans h.unit, h.wat.below hb, fun k hk => h.foot k (h.wat.below_foot hb k hk), h.load.below hb, h.old⟩
theorem kind (h : Mk T w0 q p u A n c w l) : w.cell? ⟨q, 0, none⟩ = some (.int .i64 u.kind) := cell_of_block h.unit 0
theorem label (h : Mk T w0 q p u A n c w l) : w.cell? ⟨q, 1, none⟩ = some (.int .i64 u.label) := cell_of_block h.unit 1
theorem number (h : Mk T w0 q p u A n c w l) : w.cell? ⟨q, 2, none⟩ = some (.int .i64 u.number) := cell_of_block h.unit 2
theorem row (h : Mk T w0 q p u A n c w l) : w.cell? ⟨q, 3, none⟩ = some (.slice A n c) := cell_of_block h.unit 3
theorem new (T : TypeId) (w0 : World) (u : Un) (A : Option Addr) (n c : Nat) (h : Sl w0 A n c u.load) :
    Mk T w0 w0.heap.size (w0.heap.size + 1) u A n c ((w0.alloc (.cells #[.int .i64 u.kind, .int .i64 u.label, .int .i64 u.number, .slice A n c] 45)).alloc (.cells #[.slice none 0 0] T)) [] := by
  have hb := ((Below.refl w0.heap.size w0).alloc (Nat.le_refl _) (.cells #[.int .i64 u.kind, .int .i64 u.label, .int .i64 u.number, .slice A n c] 45))
  have hb2 := hb.alloc (by simp) (.cells #[.slice none 0 0] T)
  obtain ⟨hw, hf⟩ := WAt.new T (w0.alloc (.cells #[.int .i64 u.kind, .int .i64 u.label, .int .i64 u.number, .slice A n c] 45))
  have e : (w0.alloc (.cells #[.int .i64 u.kind, .int .i64 u.label, .int .i64 u.number, .slice A n c] 45)).heap.size = w0.heap.size + 1 := by simp
  rw [e] at hw hf
  refine ⟨hb2, ?_, hw, fun k hk => by have := hf k hk; omega, h.below hb2, fun b hb h0 => ?_⟩
  · rw [heap_alloc_old _ _ (by simp)]; exact heap_alloc_new w0 _
  · obtain ⟨b', o, rfl, hc⟩ := h.1.2 0 (by rw [h.len]; exact h0)
    simp [blk] at hb
    subst hb
    exact World.block_lt_of_cell? _ _ hc
/-- The unit, a second writer begun. -/
theorem again (h : Mk T w0 q p u A n c w l) (T' : TypeId) : Mk T' w0 q w.heap.size u A n c (w.alloc (.cells #[.slice none 0 0] T')) [] := by
  have hb := (Below.refl w.heap.size w).alloc (Nat.le_refl _) (.cells #[.slice none 0 0] T')
  obtain ⟨hw, hf⟩ := WAt.new T' w
  refine ⟨below_then h.below hb h.below.size, (hb.block q (lt_of_block h.unit)).trans h.unit, hw, fun k hk => ?_, h.load.below hb, h.old⟩
  have h1 := hf k hk
  have h2 := h.below.size
  have h3 := lt_of_block h.unit
  omega
end Mk
theorem own_splice {w' : World} {B g n : Nat} {xs : List UInt8} (hx : xs.length ≤ n) (hB : B ≤ g) (hm : n ≤ maxLen)
    (hg : w'.heap[g]? = some (.cells (splice (List.replicate n (kv 0)) 0 (xs.map kv)).toArray 5 (0, 0))) : Own w' B (some ⟨g, 0, none⟩) n n (xs ++ List.replicate (n - xs.length) 0) := by
  refine ⟨by simp; omega, by simp; omega, .inr ⟨g, n, _, rfl, hB, hg, Nat.le_refl _, hm, by simp [splice]; omega, ?_⟩⟩
  simp [splice]
  rw [List.take_of_length_le (by simp; omega)]
end Go.Proofs.Ytpgceeeokjadpaa.Mem
namespace Go.Proofs.Ytpgceeeokjadpaa.Code
open Go.RowKit Go.Joins Go.Proofs.Ytpgceeeokjadpaa.Crc Go.Proofs.Ytpgceeeokjadpaa.Mem
theorem own_exact {w : World} {B g r : Nat} (h : Own w B (some ⟨g, 0, none⟩) r r (List.replicate r 0)) : w.heap[g]? = some (.cells (List.replicate r (kv 0)).toArray 5 (0, 0)) := by
  rcases h.shape with ⟨h1, _⟩ | ⟨g', cur, h1, _, _, hg, _, _, hs, ht⟩
  · cases h1
  · simp at h1
    subst h1
    rw [hg, List.take_of_length_le (by simp [hs]), List.map_replicate] at *
    rw [← ht]
theorem src_of {w : World} {A : Option Addr} {n c : Nat} {l : List UInt8} (h : Sl w A n c l) (h0 : 0 < (l.map kv).length) : ∃ ad, A = some ad ∧ ∀ j v, (l.map kv)[j]? = some v → w.cell? (ad.add j) = some v := by
  cases A with
  | none => have := h.2.2 rfl; have := h.len; simp at h0; omega
  | some a => exact ⟨a, rfl, reads_cells h.1⟩
theorem own_pad {w' : World} {B g n r : Nat} {xs pad : List UInt8} (hp : pad = xs ++ List.replicate (r - xs.length) 0) (hx : xs.length = n) (hnr : n ≤ r) (hB : B ≤ g) (hm : r ≤ maxLen)
    (hg : w'.heap[g]? = some (.cells (splice (List.replicate r (kv 0)) 0 (xs.map kv)).toArray 5 (0, 0))) : Own w' B (some ⟨g, 0, none⟩) r r pad := by rw [hp]; exact own_splice (by omega) hB hm hg
theorem sum_at (A : Option Addr) (n c : Nat) (l : List UInt8) (w : World) (x : Int) (hx : x = J (sum l)) (hr : Reads w A n l) (hl : n ≤ 9223372036854775807) :
    Calls Try.prog 62 #[.slice A n c] w fun e w' => e = .returned (.int .u32 x) ∧ w = w' := by rw [hx]; exact CrcWalk.sum_any A n c l w hr hl
theorem own_eq {w : World} {B : Nat} {A : Option Addr} {n c : Nat} {l l' : List UInt8} (h : l = l') (o : Own w B A n c l') : Own w B A n c l := by rw [h]; exact o
theorem size1 : (Try.prog.info? 5).map (·.size) = some 1 := by kernel_rfl
theorem wbyte_at (w : World) (p : Nat) (l : List UInt8) (x : Int) (b : UInt8) (h : WAt 28 w p l) (hx : x = K b) (hl : l.length ≤ 1000000000) :
    Calls Try.prog 24 #[.pointer (some ⟨p, 0, none⟩), .int .u8 x] w fun e w' => e = .returned (.tuple #[]) ∧ Wrote 28 w p (l ++ [b]) w' := by rw [hx]; exact wbyte w p l b h hl
set_option maxHeartbeats 4000000 in
set_option maxRecDepth 100000 in
theorem made_any (w : World) (u : Un) (A : Option Addr) (n c : Nat) (hs : Sl w A n c u.load) (hc : chk u = 0) : Calls Try.prog 51 #[uv u A n c] w fun e w' => Cloned w (15 + room u.kind) (mk u) e w' := by
  have hlen := (chk_zero hc).2.2.2.2.2.2
  have hn := hs.len
  have hroom := room_le u.kind
  have HM := Lib.hid (Mk.new 28 w u A n c hs)
  obtain ⟨r, hr⟩ : ∃ r, r = room u.kind := ⟨_, rfl⟩
  rw [← hr] at hlen hroom ⊢
  rw [show 15 + r = 11 + r + 4 by omega]
  have HR := Lib.hid hr
  have K0 : Hid (u.kind % 256 = K (byteI u.kind 0)) := by unfold Hid; rw [K_byteI]; simp
  have S1 : Hid ((n : Int) / 256 = K (byteI (n : Int) 1)) := by unfold Hid; rw [K_byteI]; simp; omega
  have S0 : Hid ((n : Int) = K (byteI (n : Int) 0)) := by unfold Hid; rw [K_byteI]; simp; omega
  have hcl := Lib.hid hc
  have hnr : n ≤ r := by omega
  have HN := Lib.hid hn
  have HX : Hid ((u.load.map kv).length = Nat.min n r) := by unfold Hid; rw [List.length_map, hn]; exact (Nat.min_eq_left hnr).symm
  obtain ⟨l1, hl1⟩ : ∃ l, l = [] ++ [byteI u.kind 0] := ⟨_, rfl⟩
  obtain ⟨l2, hl2⟩ : ∃ l, l = l1 ++ be4 u.label := ⟨_, rfl⟩
  obtain ⟨l3, hl3⟩ : ∃ l, l = l2 ++ be4 u.number := ⟨_, rfl⟩
  obtain ⟨l4, hl4⟩ : ∃ l, l = l3 ++ [byteI (n : Int) 1] := ⟨_, rfl⟩
  obtain ⟨l5, hl5⟩ : ∃ l, l = l4 ++ [byteI (n : Int) 0] := ⟨_, rfl⟩
  have e1 : l1.length = 1 := by rw [hl1]; rfl
  have e2 : l2.length = 5 := by rw [hl2, List.length_append, e1]; rfl
  have e3 : l3.length = 9 := by rw [hl3, List.length_append, e2]; rfl
  have e4 : l4.length = 10 := by rw [hl4, List.length_append, e3]; rfl
  have e5 : l5.length = 11 := by rw [hl5, List.length_append, e4]; rfl
  obtain ⟨pad, hpad⟩ : ∃ l, l = u.load ++ List.replicate (r - u.load.length) (0 : UInt8) := ⟨_, rfl⟩
  have hbody : Hid (l5 ++ pad = body u) := by unfold Hid body; rw [hl5, hl4, hl3, hl2, hl1, hpad, hr, hn]; simp
  have hmk : Hid (body u ++ be4 (J (sum (body u))) = mk u) := rfl
  have epad : pad.length = r := by rw [hpad]; simp; omega
  have HL1 := Lib.hid hl1; have HL2 := Lib.hid hl2; have HL3 := Lib.hid hl3; have HL4 := Lib.hid hl4; have HL5 := Lib.hid hl5
  have HE1 := Lib.hid e1; have HE2 := Lib.hid e2; have HE3 := Lib.hid e3; have HE4 := Lib.hid e4; have HE5 := Lib.hid e5; have HEP := Lib.hid epad; have HP := Lib.hid hpad
  obtain ⟨i0, hi, hzz⟩ := Option.map_eq_some_iff.1 info5
  simp only [Prod.mk.injEq] at hzz
  obtain ⟨hz0, hz1, hz2⟩ := hzz
  have HF : Hid (0 + (u.load.map kv).length ≤ (List.replicate r (kv 0)).length) := by unfold Hid; simp; omega
  have hmax : r ≤ maxLen := by simp only [maxLen]; omega
  have HB : Hid (body u = l5 ++ pad) := hbody.out.symm
  obtain ⟨J1, hJ1⟩ : ∃ j, j = J (sum (body u)) := ⟨_, rfl⟩
  have j0 : 0 ≤ J1 := hJ1 ▸ J_lo _
  have j1 : J1 < 4294967296 := hJ1 ▸ J_hi _
  have HJ := Lib.hid hJ1
  have HMK : Hid (mk u = body u ++ ([] ++ be4 J1)) := by unfold Hid mk; rw [hJ1]; rfl
  clear hs hc hlen hn hr hJ1 hl1 hl2 hl3 hl4 hl5 e1 e2 e3 e4 e5 epad hpad
  unfold uv
  go_enter Try.func51, Try.ntmps51
  go_wp2_with (first
    | (go_at_call 24; (with_reducible refine (wbyte_at _ _ [] _ (byteI u.kind 0) HM.out.wat K0.out (by simp)).mono ?_); rintro e w1 ⟨rfl, hw⟩; rw [← HL1.out] at hw; have M1 := Lib.hid (HM.out.wrote hw); have c1 := M1.out.label; clear hw)
    | (go_at_call 16; (with_reducible refine (wint _ _ l1 u.label M1.out.wat (by have := HE1.out; omega)).mono ?_); rintro e w2 ⟨rfl, hw⟩; rw [← HL2.out] at hw; have M2 := Lib.hid (M1.out.wrote hw); have c2 := M2.out.number; clear hw)
    | (go_at_call 16; (with_reducible refine (wint _ _ l2 u.number M2.out.wat (by have := HE2.out; omega)).mono ?_); rintro e w3 ⟨rfl, hw⟩; rw [← HL3.out] at hw; have M3 := Lib.hid (M2.out.wrote hw); have c3 := M3.out.row; clear hw)
    | (go_at_call 24; (with_reducible refine (wbyte_at _ _ l3 _ (byteI (n : Int) 1) M3.out.wat S1.out (by have := HE3.out; omega)).mono ?_); rintro e w4 ⟨rfl, hw⟩; rw [← HL4.out] at hw; have M4 := Lib.hid (M3.out.wrote hw); have c4 := M4.out.row; clear hw)
    | (go_at_call 24; (with_reducible refine (wbyte_at _ _ l4 _ (byteI (n : Int) 0) M4.out.wat S0.out (by have := HE4.out; omega)).mono ?_); rintro e w5 ⟨rfl, hw⟩; rw [← HL5.out] at hw; have M5 := Lib.hid (M4.out.wrote hw); have c5 := M5.out.kind; clear hw)
    | (go_at_call 61; (with_reducible refine (room_at _ _ r HR.out).mono ?_); rintro e w6 ⟨rfl, rfl⟩)
    | (at_make; refine wpList_make_full _ rfl (.tmp 36) (.tmp 36) 22 rfl w6.heap.size 5 i0 (.int .u8 0) 1 Try.underlying22 hi hz0 hz1 .i64 .i64 (r : Int) (r : Int) r rfl rfl rfl rfl (by rw [hz2]; omega) (by simp only [maxLen]; omega) (Nat.le_refl _) ?_; intro w7 hown hgr; have G7 := Lib.hid (own_exact (own_zeros hown)); have B7 := Lib.hid ((Below.refl w6.heap.size w6).grown hgr (Nat.le_refl _) (by simp)); have M7 := Lib.hid (M5.out.later B7.out); have c7 := M7.out.row; have P7 := Lib.hid (src_of M7.out.load); clear hown hgr)
    | (refine wpList_copy_splice rfl (.tmp 38) (.tmp 40) 22 22 rfl 5 Try.underlying22 size1 _ _ _ _ _ _ rfl rfl w6.heap.size 0 (List.replicate r (kv 0)) 5 G7.out (u.load.map kv) HX.out (fun h => ⟨rfl, P7.out h⟩) (HF.out) (kv_one _) w6.heap.size w7 (Below.refl _ _) (Nat.le_refl _) ?_; intro w8 hg8 hb8; have B8 := Lib.hid (B7.out.trans hb8); have M8 := Lib.hid (M5.out.later B8.out); have O8 := Lib.hid (own_pad HP.out HN.out hnr (Nat.le_refl _) hmax hg8.out); clear hg8 hb8)
    | (go_at_call 18; (with_reducible refine (wr_bytes _ _ 11 l5 28 M8.out.wat HE5.out (by omega)).mono ?_); rintro e w9 ⟨A9, c9, rfl, hnew⟩; have B9 := Lib.hid hnew.2; have N9 := Lib.hid hnew.1; have O9 := Lib.hid (O8.out.below hnew.2 (Nat.le_refl _)); clear hnew)
    | (at_builtin; (refine app_law rfl (.tmp 43) (.tmp 44) 22 rfl Try.underlying22 info5 rfl rfl N9.out O9.out.reads (fun h => by cases h) (by omega) (B9.out.size) ?_; intro A10 c10 w10 own gr hat; have b10 := B9.out.grown gr B9.out.size (fun k hk => (N9.out.blk_ge k hk).1); have B10 := Lib.hid (below_then M8.out.below b10 M8.out.below.size); have s10 := b10.size; have N10 := Lib.hid (own_eq HB.out own); have W10 := Lib.hid (WAt.new 28 w10); have N11 := Lib.hid (N10.out.alloc (.cells #[.slice none 0 0] 28)); clear own gr hat))
    | (go_at_call 62; (with_reducible refine (sum_at _ (11 + r) c10 (body u) _ J1 HJ.out N11.out.reads (by omega)).mono ?_); rintro e w11 ⟨rfl, rfl⟩)
    | (go_at_call 16; (with_reducible refine (wint _ _ [] J1 W10.out.1 (by simp)).mono ?_); rintro e w12 ⟨rfl, hw⟩; have f11 := W10.out.2; have b11 := (B10.out.alloc B10.out.size (.cells #[.slice none 0 0] 28)); have L12 := Lib.hid (show w8.heap.size ≤ w12.heap.size from by have h1 := hw.2.1.size; simp at h1; omega); have N12 := Lib.hid (N11.out.upd hw.2.1 (fun b hb hf => by have h1 := f11 b hf; have h2 := (N10.out.blk_ge b hb).2; omega)); have B12 := Lib.hid (below_upd b11 hw.2.1 (fun k hk => by have h1 := f11 k hk; have := B10.out.size; omega) b11.size); have W12 := Lib.hid hw.1; clear hw b11 f11)
    | (go_at_call 18; (with_reducible refine (wr_bytes _ _ 4 ([] ++ be4 J1) 28 W12.out rfl (by omega)).mono ?_); rintro e w13 ⟨A13, c13, rfl, hnew⟩; have N13 := Lib.hid hnew.1; have O13 := Lib.hid (N12.out.below hnew.2 (Nat.le_refl _)); have B13 := Lib.hid (below_then B12.out hnew.2 B12.out.size); have s13 : w8.heap.size ≤ w13.heap.size := (by have h1 := hnew.2.size; have h2 := L12.out; omega); clear hnew)
    | (at_builtin; go_loud (refine app_law rfl (.tmp 53) (.tmp 55) 22 rfl Try.underlying22 info5 rfl rfl O13.out N13.out.reads (fun h => absurd (N13.out.sl.2.2 h).1 (by decide)) (by omega) s13 ?_; intro A14 c14 w14 own gr hat; have b14 := B13.out.grown gr B13.out.size (fun k hk => by have := (N10.out.blk_ge k hk).1; have := M8.out.below.size; omega); have B14 := Lib.hid b14; have N14 := Lib.hid (own_eq HMK.out own); clear own gr hat b14)))
  go_ret
  exact ⟨A14, c14, rfl, N14.out.lower M8.out.below.size, B14.out⟩
end Go.Proofs.Ytpgceeeokjadpaa.Code
