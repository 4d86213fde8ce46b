/- What verify.Harmed tells, and the reference's member. Conditions: the tapes are few, their blocks short. -/
import Derived.Test.YtpgceeeokjadpaaVer3
namespace Go.Proofs.Ytpgceeeokjadpaa.Crc
/-- Where the first tape of a label is (no tape: their number). -/
def idx (l : List Tp) (x : Int) : Nat := l.findIdx (fun t => decide (t.label = x))
def mt (l : List Tp) (x : Int) : Tp := match l[idx l x]? with
  | some t => t
  | none => ⟨x, 0, [], true⟩
def hurt (l : List Tp) (x : Int) : Bool := (mt l x).lost || !(badsOf (mt l x)).isEmpty
def idxI (l : List Tp) (x : Int) : Int := if idx l x < l.length then (idx l x : Int) else -1
theorem idx_found {l : List Tp} {x : Int} {k : Nat} {t : Tp} (h : l[k]? = some t) (ht : t.label = x) (hb : ∀ j, j < k → ∀ s, l[j]? = some s → s.label ≠ x) : idx l x = k := by
  obtain ⟨hk, rfl⟩ := List.getElem?_eq_some_iff.1 h
  unfold idx
  rw [List.findIdx_eq hk]
  refine ⟨decide_eq_true ht, fun j hj => ?_⟩
  exact decide_eq_false (hb j hj _ (List.getElem?_eq_getElem (by omega)))
theorem idx_none {l : List Tp} {x : Int} (hb : ∀ j, j < l.length → ∀ s, l[j]? = some s → s.label ≠ x) : idx l x = l.length := by
  unfold idx
  rw [List.findIdx_eq_length]
  intro t ht
  obtain ⟨j, hj, rfl⟩ := List.mem_iff_getElem.1 ht
  exact decide_eq_false (hb j hj _ (List.getElem?_eq_getElem hj))
theorem spots_one (t : Tp) : spots [t] = spotsOf t := by unfold spots; simp
theorem spotsOf_none (t : Tp) : (0 < (spotsOf t).length) ↔ (t.lost || !(badsOf t).isEmpty) = true := by
  rw [spotsOf_bads]
  cases t.lost
  · cases h : badsOf t <;> simp
  · simp
end Go.Proofs.Ytpgceeeokjadpaa.Crc
namespace Go.Proofs.Ytpgceeeokjadpaa.Code
open Go.RowKit Go.Joins Go.Proofs.Ytpgceeeokjadpaa.Crc Go.Proofs.Ytpgceeeokjadpaa.Mem
theorem label_any (w : World) (t : Tp) (A : Option Addr) (n c q : Nat) (x : Int) (h : w.cell? ⟨q, 0, none⟩ = some (.int .i64 x)) :
    Calls Try.prog 66 #[tv t A n c, .pointer (some ⟨q, 0, none⟩)] w fun e w' => e = .returned (.bool (decide (t.label = x))) ∧ Below w.heap.size w w' := by
  have HB := Lib.hid ((Below.refl w.heap.size w).alloc (Nat.le_refl _) (.cells #[.int .i64 t.label, .int .i64 t.cap, .slice A n c, .bool t.lost] 65))
  have h2 := (HB.out.cell (p := ⟨q, 0, none⟩) (World.block_lt_of_cell? _ _ h)).trans h
  unfold tv
  by_cases e : t.label = x
  · have t1 : (t.label == x) = true := beq_iff_eq.mpr e
    have HD : Hid (true = decide (t.label = x)) := (decide_eq_true e).symm
    clear e h
    go_enter Try.func66, Try.ntmps66
    go_wp2
    go_ret
    exact ⟨ret_bool HD.out, HB.out⟩
  · have t1 : (t.label == x) = false := beq_eq_false_iff_ne.mpr e
    have HD : Hid (false = decide (t.label = x)) := (decide_eq_false e).symm
    clear e h
    go_enter Try.func66, Try.ntmps66
    go_wp2
    go_ret
    exact ⟨ret_bool HD.out, HB.out⟩
set_option maxHeartbeats 8000000 in
theorem index_any (w : World) (A : Option Addr) (n c : Nat) (l : List Tp) (h : Tps w A n l) (hn : n ≤ 1000000) (q : Nat) (x : Int) (hq : w.cell? ⟨q, 0, none⟩ = some (.int .i64 x)) :
    Calls Try.prog 65 #[.slice A n c, .func (.func 66) #[] #[.pointer (some ⟨q, 0, none⟩)]] w fun e w' => e = .returned (.int .i64 (idxI l x)) ∧ Below w.heap.size w w' := by
  have HT := Lib.hid h
  have hlen := h.1
  have HQ := Lib.hid hq
  clear h hq
  go_enter Try.func65, Try.ntmps65
  go_wp2
  go_loopw [8] (fun i wr => ∃ k, k ≤ n ∧ i = .int .i64 (k : Int) ∧ Hid (∀ j, j < k → ∀ s, l[j]? = some s → s.label ≠ x) ∧ Hid (Below w.heap.size w wr)) (fun i _ => n - (intOf i).toNat)
  case atStart => exact ⟨0, Nat.zero_le _, rfl, fun j hj => by omega, Below.refl _ _⟩
  case round =>
    obtain ⟨k, hk, rfl, HF, HB⟩ := hrel
    by_cases hkn : k < n
    · obtain ⟨b, o, A1, n1, c1, t, rfl, hkt, k0, k1, k2, k3, hblk⟩ := tps_at HT.out k hkn
      replace k0 := (HB.out.cell (World.block_lt_of_cell? _ _ k0)).trans k0
      replace k1 := (HB.out.cell (World.block_lt_of_cell? _ _ k1)).trans k1
      replace k2 := (HB.out.cell (World.block_lt_of_cell? _ _ k2)).trans k2
      replace k3 := (HB.out.cell (World.block_lt_of_cell? _ _ k3)).trans k3
      have HQ2 := Lib.hid ((HB.out.cell (World.block_lt_of_cell? _ _ HQ.out)).trans HQ.out)
      have HKT := Lib.hid hkt
      clear hkt hblk
      by_cases e : t.label = x
      · have HD : Hid (decide (t.label = x) = true) := decide_eq_true e
        have HI : Hid (idxI l x = (k : Int)) := by
          have := idx_found HKT.out e HF.out
          unfold Hid idxI; rw [this, if_pos (by omega)]
        clear e
        go_wp2_with (go_at_call 66; (with_reducible refine (label_any _ t _ _ _ q x HQ2.out).mono ?_); rintro e w2 ⟨rfl, hb⟩; rw [HD.out]; have HB2 := Lib.hid (below_then HB.out hb HB.out.size); clear hb)
        go_ret
        exact ⟨ret_int HI.out.symm, HB2.out⟩
      · have HD : Hid (decide (t.label = x) = false) := decide_eq_false e
        have HF2 : Hid (∀ j, j < k + 1 → ∀ s, l[j]? = some s → s.label ≠ x) := by
          intro j hj s hs
          by_cases hjk : j = k
          · subst hjk; rw [HKT.out] at hs; injection hs with hs; subst hs; exact e
          · exact HF.out j (by omega) s hs
        clear e
        go_wp2_with (go_at_call 66; (with_reducible refine (label_any _ t _ _ _ q x HQ2.out).mono ?_); rintro e w2 ⟨rfl, hb⟩; rw [HD.out]; have HB2 := Lib.hid (below_then HB.out hb HB.out.size); clear hb)
        go_roundw
        case rel => exact ⟨k + 1, by omega, by go_num, HF2, HB2⟩
        case measure => simp [intOf]; omega
    · obtain rfl : k = n := by omega
      have HI : Hid (idxI l x = -1) := by
        have := idx_none (l := l) (x := x) (by rw [hlen]; exact HF.out)
        unfold Hid idxI; rw [this, if_neg (Nat.lt_irrefl _)]
      go_wp2
      go_ret
      exact ⟨ret_int HI.out.symm, HB.out⟩
end Go.Proofs.Ytpgceeeokjadpaa.Code
