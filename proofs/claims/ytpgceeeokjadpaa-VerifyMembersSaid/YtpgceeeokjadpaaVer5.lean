/- How many members of a group are harmed. Conditions: the tapes are few, their blocks short. -/
import Derived.Test.YtpgceeeokjadpaaVer4
namespace Go.Proofs.Ytpgceeeokjadpaa.Crc
def hurts (l : List Tp) (xs : List Int) : Nat := (xs.filter (hurt l)).length
theorem hurts_take {l : List Tp} {xs : List Int} {k : Nat} {x : Int} (h : xs[k]? = some x) : hurts l (xs.take (k + 1)) = hurts l (xs.take k) + (if hurt l x then 1 else 0) := by
  obtain ⟨hk, rfl⟩ := List.getElem?_eq_some_iff.1 h
  unfold hurts
  rw [List.take_succ_eq_append_getElem hk, List.filter_append, List.length_append]
  congr 1
  cases hh : hurt l xs[k] <;> simp [hh]
theorem hurts_le (l : List Tp) (xs : List Int) : hurts l xs ≤ xs.length := List.length_filter_le _ _
theorem mt_some {l : List Tp} {x : Int} {t : Tp} (h : l[idx l x]? = some t) : mt l x = t := by unfold mt; rw [h]
theorem mt_none {l : List Tp} {x : Int} (h : l[idx l x]? = none) : mt l x = ⟨x, 0, [], true⟩ := by unfold mt; rw [h]
end Go.Proofs.Ytpgceeeokjadpaa.Crc
namespace Go.Proofs.Ytpgceeeokjadpaa.Code
open Go.RowKit Go.Joins Go.Proofs.Ytpgceeeokjadpaa.Crc Go.Proofs.Ytpgceeeokjadpaa.Mem
theorem tps_sub {w : World} {b o n : Nat} {l : List Tp} (h : Tps w (some ⟨b, o, none⟩) n l) (k : Nat) {t : Tp} (hk : l[k]? = some t) : Tps w (some ⟨b, o + k * 4, none⟩) 1 [t] := by
  obtain ⟨hkl, rfl⟩ := List.getElem?_eq_some_iff.1 hk
  refine ⟨rfl, fun i hi => ?_⟩
  obtain rfl : i = 0 := by simp at hi; omega
  obtain ⟨b', o', A', n', c', ha, h0, h1, h2, h3, hs⟩ := h.2 k hkl
  simp at ha
  obtain ⟨rfl, rfl⟩ := ha
  exact ⟨b, o + k * 4, A', n', c', rfl, by simpa using h0, by simpa using h1, by simpa using h2, by simpa using h3, hs⟩
theorem wt_mem {l : List Tp} {t : Tp} (h : t ∈ l) : t.blocks.length + 1 ≤ wt l := by
  obtain ⟨k, hk, rfl⟩ := List.mem_iff_getElem.1 h
  have := wt_take l k hk
  omega
theorem few_one {l : List Tp} {t : Tp} (h : FewT l) (ht : t ∈ l) : FewT [t] := by
  refine ⟨?_, fun s hs => ?_⟩
  · have h1 := wt_mem ht
    have h2 := h.1
    unfold wt
    simp
    omega
  · simp at hs; subst hs; exact h.2 _ ht
set_option maxHeartbeats 8000000 in
set_option maxRecDepth 100000 in
theorem at_any (w : World) (A : Option Addr) (n c : Nat) (l : List Tp) (h : Tps w A n l) (hn : n ≤ 1000000) (x : Int) :
    Calls Try.prog 67 #[.slice A n c, .int .i64 x] w fun e w' => e = .returned (.int .i64 (idxI l x)) ∧ Below w.heap.size w w' := by
  have HT := Lib.hid h
  have hlen := h.1
  clear h
  go_enter Try.func67, Try.ntmps67
  go_wp2
  go_loopw [5] (fun i wr => ∃ k, k ≤ n ∧ i = .int .i64 (k : Int) ∧ Hid (∀ j, j < k → ∀ s, l[j]? = some s → s.label ≠ x) ∧ Hid (Below w.heap.size w wr)) (fun i _ => n - (intOf i).toNat)
  case atStart => exact ⟨0, Nat.zero_le _, rfl, fun j hj => by omega, Below.refl _ _⟩
  case round =>
    obtain ⟨k, hk, rfl, HF, HB⟩ := hrel
    by_cases hkn : k < n
    · obtain ⟨b, o, A1, n1, c1, t, rfl, hkt, k0, k1, k2, k3, hblk⟩ := tps_at HT.out k hkn
      replace k0 := (HB.out.cell (World.block_lt_of_cell? _ _ k0)).trans k0
      have HKT := Lib.hid hkt
      clear hkt hblk k1 k2 k3
      by_cases e : t.label = x
      · have HI : Hid (idxI l x = (k : Int)) := by
          have := idx_found HKT.out e HF.out
          unfold Hid idxI; rw [this, if_pos (by omega)]
        have t1 : (t.label == x) = true := beq_iff_eq.mpr e
        clear e
        go_wp2
        go_ret
        exact ⟨ret_int HI.out.symm, HB.out⟩
      · have HF2 : Hid (∀ j, j < k + 1 → ∀ s, l[j]? = some s → s.label ≠ x) := by
          intro j hj s hs
          by_cases hjk : j = k
          · subst hjk; rw [HKT.out] at hs; injection hs with hs; subst hs; exact e
          · exact HF.out j (by omega) s hs
        have t1 : (t.label == x) = false := beq_eq_false_iff_ne.mpr e
        clear e
        go_wp2
        go_roundw
        case rel => exact ⟨k + 1, by omega, by go_num, HF2, HB⟩
        case measure => simp [intOf]; omega
    · obtain rfl : k = n := by omega
      have HI : Hid (idxI l x = -1) := by
        have := idx_none (l := l) (x := x) (by rw [hlen]; exact HF.out)
        unfold Hid idxI; rw [this, if_neg (Nat.lt_irrefl _)]
      go_wp2
      go_ret
      exact ⟨ret_int HI.out.symm, HB.out⟩
set_option maxHeartbeats 8000000 in
set_option maxRecDepth 100000 in
theorem harmed_any (w : World) (A : Option Addr) (n c : Nat) (l : List Tp) (h : Tps w A n l) (hf : FewT l) (hnc : n ≤ c) (x : Int) :
    Calls Try.prog 59 #[.slice A n c, .int .i64 x] w fun e w' => e = .returned (.bool (hurt l x)) ∧ Below w.heap.size w w' := by
  have hmf : ∀ (fn : Fn) (first cap : Array Value) (w : World), (Instr.makeFunc fn first cap).run Try.prog w = .ok (.func fn first cap) w := fun _ _ _ _ => rfl
  have hlen := h.1
  have hn : n ≤ 1000000 := by have := wt_ge l; have := hf.1; omega
  have hb := (Below.refl w.heap.size w).alloc (Nat.le_refl _) (.cells #[.int .i64 x] 3)
  have HB := Lib.hid hb
  have HT := Lib.hid (h.below hb)
  have HQ : Hid ((w.alloc (.cells #[.int .i64 x] 3)).cell? ⟨w.heap.size, 0, none⟩ = some (.int .i64 x)) := by unfold Hid; exact cell_of_block (heap_alloc_new w _) 0
  by_cases hk : idx l x < n
  · obtain ⟨b, o, A1, n1, c1, t, rfl, hkt, k0, k1, k2, k3, hblk⟩ := tps_at h (idx l x) hk
    have HM : Hid (mt l x = t) := mt_some hkt
    have HI : Hid (idxI l x = ((idx l x : Nat) : Int)) := by unfold Hid idxI; rw [if_pos (by omega)]
    obtain ⟨k, hkk⟩ : ∃ k, k = idx l x := ⟨_, rfl⟩
    rw [← hkk] at hk hkt HI
    have HS := Lib.hid (tps_sub HT.out k hkt)
    have HF := Lib.hid (few_one hf (List.mem_of_getElem? hkt))
    obtain ⟨hu, hhu⟩ : ∃ u, u = hurt l x := ⟨_, rfl⟩
    have hs : 0 < (spotsOf t).length ↔ hu = true := by rw [hhu]; unfold hurt; rw [HM.out]; exact spotsOf_none t
    have HH := Lib.hid hhu
    cases hu with
    | true =>
      have HP : Hid (0 < (spotsOf t).length) := hs.2 rfl
      clear h hf hb k0 k1 k2 k3 hblk hkt hkk hhu hs
      go_enter Try.func59, Try.ntmps59
      go_wp2_with (first
        | (go_at_call 65; (with_reducible refine (index_any _ _ _ _ l HT.out hn _ x HQ.out).mono ?_); rintro e w2 ⟨rfl, hb⟩; rw [HI.out]; have HB2 := Lib.hid (below_then HB.out hb HB.out.size); have HT2 := Lib.hid (HS.out.below hb); clear hb)
        | (go_at_call 36; (with_reducible refine (spots_any _ _ _ _ [t] HT2.out HF.out).mono ?_); rintro e w3 ⟨A3, m3, c3, rfl, hown, hm3, hb⟩; rw [spots_one] at hm3; have hpos : 0 < m3 := (by rw [hm3]; exact HP.out); have HB3 := Lib.hid (below_then HB2.out hb HB2.out.size); clear hown hm3 hb))
      go_ret
      exact ⟨ret_bool HH.out, HB3.out⟩
    | false =>
      have HP : Hid ((spotsOf t).length = 0) := by
        unfold Hid
        cases hz : (spotsOf t).length with
        | zero => rfl
        | succ z => exact absurd (hs.1 (by omega)) Bool.false_ne_true
      clear h hf hb k0 k1 k2 k3 hblk hkt hkk hhu hs
      go_enter Try.func59, Try.ntmps59
      go_wp2_with (first
        | (go_at_call 65; (with_reducible refine (index_any _ _ _ _ l HT.out hn _ x HQ.out).mono ?_); rintro e w2 ⟨rfl, hb⟩; rw [HI.out]; have HB2 := Lib.hid (below_then HB.out hb HB.out.size); have HT2 := Lib.hid (HS.out.below hb); clear hb)
        | (go_at_call 36; (with_reducible refine (spots_any _ _ _ _ [t] HT2.out HF.out).mono ?_); rintro e w3 ⟨A3, m3, c3, rfl, hown, hm3, hb⟩; rw [spots_one, HP.out] at hm3; subst hm3; have HB3 := Lib.hid (below_then HB2.out hb HB2.out.size); clear hown hb))
      go_ret
      exact ⟨ret_bool HH.out, HB3.out⟩
  · have HI : Hid (idxI l x = -1) := by unfold Hid idxI; rw [if_neg (by omega)]
    have HH : Hid (true = hurt l x) := by unfold Hid hurt; rw [mt_none (List.getElem?_eq_none (by omega))]; rfl
    clear h hf hb hk
    go_enter Try.func59, Try.ntmps59
    go_wp2_with (go_at_call 65; (with_reducible refine (index_any _ _ _ _ l HT.out hn _ x HQ.out).mono ?_); rintro e w2 ⟨rfl, hb⟩; rw [HI.out]; have HB2 := Lib.hid (below_then HB.out hb HB.out.size);  clear hb)
    go_ret
    exact ⟨ret_bool HH.out, HB2.out⟩
end Go.Proofs.Ytpgceeeokjadpaa.Code
