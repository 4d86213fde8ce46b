/- How many members of a group are harmed, by the code and by the reference. Conditions: the tapes are few, their blocks short. -/
import Derived.Test.YtpgceeeokjadpaaVer5
namespace Go.Proofs.Ytpgceeeokjadpaa.Mem
open Go.RowKit Go.Joins Go.Proofs.Ytpgceeeokjadpaa.Crc
/-- Numbers that came in. -/
def Ints (w : World) (A : Option Addr) (n : Nat) (xs : List Int) : Prop := xs.length = n ∧ ∀ i (h : i < xs.length), ∃ b o, A = some ⟨b, o, none⟩ ∧ w.cell? ⟨b, o + i, none⟩ = some (.int .i64 xs[i])
theorem Ints.at {w : World} {A : Option Addr} {n : Nat} {xs : List Int} (h : Ints w A n xs) (k : Nat) (hk : k < n) : ∃ b o x, A = some ⟨b, o, none⟩ ∧ xs[k]? = some x ∧ w.cell? ⟨b, o + k, none⟩ = some (.int .i64 x) := by
  obtain ⟨b, o, ha, hc⟩ := h.2 k (by rw [h.1]; exact hk)
  exact ⟨b, o, _, ha, List.getElem?_eq_getElem _, hc⟩
theorem Ints.below {w w' : World} {A : Option Addr} {n : Nat} {xs : List Int} (h : Ints w A n xs) (hb : Below w.heap.size w w') : Ints w' A n xs := by
  refine ⟨h.1, fun i hi => ?_⟩
  obtain ⟨b, o, ha, hc⟩ := h.2 i hi
  exact ⟨b, o, ha, (hb.cell (World.block_lt_of_cell? _ _ hc)).trans hc⟩
end Go.Proofs.Ytpgceeeokjadpaa.Mem
namespace Go.Proofs.Ytpgceeeokjadpaa.Code
open Go.RowKit Go.Joins Go.Proofs.Ytpgceeeokjadpaa.Crc Go.Proofs.Ytpgceeeokjadpaa.Mem
abbrev sealv (a b c d : Int) (A : Option Addr) (n k : Nat) : Value := .agg #[.int .i64 a, .int .i64 b, .int .i64 c, .int .i64 d, .slice A n k]
/-- A seal's block. -/
def Sb (w : World) (q : Nat) (a b c d : Int) (A : Option Addr) (n k : Nat) : Prop := w.heap[q]? = some (.cells #[.int .i64 a, .int .i64 b, .int .i64 c, .int .i64 d, .slice A n k] 75 (0, 0))
theorem Sb.below {w w' : World} {q : Nat} {a b c d : Int} {A : Option Addr} {n k : Nat} (h : Sb w q a b c d A n k) (hb : Below w.heap.size w w') : Sb w' q a b c d A n k := (hb.block q (lt_of_block h)).trans h
theorem Sb.cells {w : World} {q : Nat} {a b c d : Int} {A : Option Addr} {n k : Nat} (h : Sb w q a b c d A n k) :
    w.cell? ⟨q, 0, none⟩ = some (.int .i64 a) ∧ w.cell? ⟨q, 1, none⟩ = some (.int .i64 b) ∧ w.cell? ⟨q, 2, none⟩ = some (.int .i64 c) ∧ w.cell? ⟨q, 3, none⟩ = some (.int .i64 d) ∧ w.cell? ⟨q, 4, none⟩ = some (.slice A n k) :=
  ⟨cell_of_block h 0, cell_of_block h 1, cell_of_block h 2, cell_of_block h 3, cell_of_block h 4⟩
set_option maxHeartbeats 8000000 in
set_option maxRecDepth 100000 in
theorem lost_any (w : World) (A : Option Addr) (n c : Nat) (l : List Tp) (h : Tps w A n l) (hf : FewT l) (hnc : n ≤ c) (a b c1 d : Int) (A2 : Option Addr) (n2 c2 : Nat) (xs : List Int) (hx : Ints w A2 n2 xs) (hn2 : n2 ≤ 1000000) :
    Calls Try.prog 39 #[.slice A n c, sealv a b c1 d A2 n2 c2] w fun e w' => e = .returned (.int .i64 (hurts l xs : Int)) ∧ Below w.heap.size w w' := by
  have hb := (Below.refl w.heap.size w).alloc (Nat.le_refl _) (.cells #[.int .i64 a, .int .i64 b, .int .i64 c1, .int .i64 d, .slice A2 n2 c2] 75)
  have HB0 := Lib.hid hb
  have HT := Lib.hid h
  have HX := Lib.hid hx
  have HF := Lib.hid hf
  have hlen := hx.1
  clear h hf hb hx
  unfold sealv
  go_enter Try.func39, Try.ntmps39
  go_wp2
  go_loopw [5, 11] (fun m i wr => ∃ (k m' : Nat), k ≤ n2 ∧ i = .int .i64 (k : Int) ∧ m = .int .i64 (m' : Int) ∧ m' = hurts l (xs.take k) ∧ Hid (Below w.heap.size w wr)) (fun _ i _ => n2 - (intOf i).toNat)
  case atStart => exact ⟨0, 0, Nat.zero_le _, rfl, rfl, rfl, HB0⟩
  case round =>
    obtain ⟨k, m', hk, rfl, rfl, hm, HB⟩ := hrel
    have hmn : m' ≤ n2 := by rw [hm]; have := hurts_le l (xs.take k); rw [List.length_take] at this; omega
    have HM := Lib.hid hm
    clear hm
    by_cases hkn : k < n2
    · obtain ⟨b2, o2, x, rfl, hxk, hc⟩ := HX.out.at k hkn
      replace hc := (HB.out.cell (World.block_lt_of_cell? _ _ hc)).trans hc
      have HS := Lib.hid (hurts_take (l := l) hxk)
      clear hxk
      cases hh : hurt l x with
      | true =>
        have HH := Lib.hid hh
        have HS2 : Hid (hurts l (xs.take (k + 1)) = hurts l (xs.take k) + 1) := by unfold Hid; rw [HS.out, hh]; rfl
        clear hh
        go_wp2_with (go_at_call 59; (with_reducible refine (harmed_any _ _ _ _ l (HT.out.below HB.out) HF.out hnc x).mono ?_); rintro e w2 ⟨rfl, hb⟩; rw [HH.out]; have HB2 := Lib.hid (below_then HB.out hb HB.out.size); clear hb)
        go_roundw
        case rel => exact ⟨k + 1, m' + 1, by omega, by go_num, by go_num, by rw [HS2.out, ← HM.out], HB2⟩
        case measure => simp [intOf]; omega
      | false =>
        have HH := Lib.hid hh
        have HS2 : Hid (hurts l (xs.take (k + 1)) = hurts l (xs.take k)) := by unfold Hid; rw [HS.out, hh]; rfl
        clear hh
        go_wp2_with (go_at_call 59; (with_reducible refine (harmed_any _ _ _ _ l (HT.out.below HB.out) HF.out hnc x).mono ?_); rintro e w2 ⟨rfl, hb⟩; rw [HH.out]; have HB2 := Lib.hid (below_then HB.out hb HB.out.size); clear hb)
        go_roundw
        case rel => exact ⟨k + 1, m', by omega, by go_num, rfl, by rw [HS2.out, ← HM.out], HB2⟩
        case measure => simp [intOf]; omega
    · obtain rfl : k = n2 := by omega
      have HE : Hid ((m' : Int) = (hurts l xs : Int)) := by unfold Hid; rw [HM.out, List.take_of_length_le (by omega)]
      go_wp2
      go_ret
      exact ⟨ret_int HE.out, HB.out⟩
/-- A tape is written over another. -/
abbrev tput (w : World) (q : Nat) (x y : Int) (A : Option Addr) (n c : Nat) (b : Bool) : World :=
  (((w.setCell ⟨q, 0, none⟩ (.int .i64 x)).setCell ⟨q, 1, none⟩ (.int .i64 y)).setCell ⟨q, 2, none⟩ (.slice A n c)).setCell ⟨q, 3, none⟩ (.bool b)
theorem tb_set {w : World} {q i : Nat} {t t' : Tp} {A A' : Option Addr} {n c n' c' : Nat} {v : Value} (h : Tb w q t A n c)
    (he : (#[Value.int .i64 t.label, .int .i64 t.cap, .slice A n c, .bool t.lost] : Array Value).setIfInBounds i v = #[.int .i64 t'.label, .int .i64 t'.cap, .slice A' n' c', .bool t'.lost]) : Tb (w.setCell ⟨q, i, none⟩ v) q t' A' n' c' := by
  have := block_setCell (i := i) h v
  rw [he] at this
  exact this
theorem tb_put {w : World} {q : Nat} {t : Tp} {A : Option Addr} {n c : Nat} (t' : Tp) (A' : Option Addr) (n' c' : Nat) (h : Tb w q t A n c) : Tb (tput w q t'.label t'.cap A' n' c' t'.lost) q t' A' n' c' :=
  tb_set (t := ⟨t'.label, t'.cap, [], t.lost⟩) (tb_set (t := ⟨t'.label, t'.cap, [], t.lost⟩) (t' := ⟨t'.label, t'.cap, [], t.lost⟩) (tb_set (t := ⟨t'.label, t.cap, [], t.lost⟩) (t' := ⟨t'.label, t'.cap, [], t.lost⟩) (tb_set (t' := ⟨t'.label, t.cap, [], t.lost⟩) h rfl) rfl) rfl) rfl
theorem tput_upd (w : World) (q : Nat) (x y : Int) (A : Option Addr) (n c : Nat) (b : Bool) : Upd (Mem.One q) w (tput w q x y A n c b) :=
  (((upd_set w q 0 _).trans (upd_set _ q 1 _) (fun _ _ hh => hh)).trans (upd_set _ q 2 _) (fun _ _ hh => hh)).trans (upd_set _ q 3 _) (fun _ _ hh => hh)
theorem tput_below {B : Nat} {w0 w : World} {q : Nat} (x y : Int) (A : Option Addr) (n c : Nat) (b : Bool) (h : Below B w0 w) (hq : B ≤ q) : Below B w0 (tput w q x y A n c b) :=
  (((h.setCell hq _).setCell hq _).setCell hq _).setCell hq _
theorem mem_end {F : Func} {p : Tmp} (hF : F.results = #[.cell p 65]) {R : Ending → World → Prop} {a : Act} {W : World} {q : Nat} {t : Tp} {A : Option Addr} {n c : Nat}
    (h2 : a.tmps.getD p undef = .pointer (some ⟨q, 0, none⟩)) (hd : a.defers = []) (ht : Tb W q t A n c) (hR : R (.returned (tv t A n c)) W) : bodyPost Try.prog F R Exit.normal a W :=
  bodyPost_end (v := tv t A n c) (results_cell_row (P := Try.prog) hF a.tmps W q 65 _ (0, 0) _ h2 ht Try.underlying65 rfl (by kernel_rfl)) hd hR
theorem mem_ret {F : Func} {p : Tmp} (hF : F.results = #[.cell p 65]) {R : Ending → World → Prop} {a : Act} {W : World} {q : Nat} {t : Tp} {A : Option Addr} {n c : Nat}
    (h2 : a.tmps.getD p undef = .pointer (some ⟨q, 0, none⟩)) (hd : a.defers = []) (ht : Tb W q t A n c) (hR : R (.returned (tv t A n c)) W) : bodyPost Try.prog F R Exit.ret a W :=
  bodyPost_ret (v := tv t A n c) (results_cell_row (P := Try.prog) hF a.tmps W q 65 _ (0, 0) _ h2 ht Try.underlying65 rfl (by kernel_rfl)) hd hR
end Go.Proofs.Ytpgceeeokjadpaa.Code
