/- Plain law: which blocks of a tape of good blocks are told when some were turned. Conditions: none. -/
import Derived.Test.YtpgceeeokjadpaaVerPure
namespace Go.Proofs.Ytpgceeeokjadpaa.Crc
def uj (j : Nat) : Un := ⟨3, 9, (j : Int), [UInt8.ofNat j]⟩
def fb (j : Nat) : List UInt8 := mk (uj j)
theorem uj_chk (j : Nat) (h : j < 30) : chk (uj j) = 0 := by
  unfold chk uj
  simp only
  rw [if_neg (by omega), if_neg (by omega), if_neg (by unfold room; simp)]
theorem fb_len (j : Nat) (h : j < 30) : (fb j).length = 79 := by
  unfold fb
  rw [mk_len (chk_zero (uj_chk j h)).2.2.2.2.2.2]
  rfl
/-- Of the first n blocks those are good that were not turned. -/
def Turned (n : Nat) (bd : List Bool) (bs : List (List UInt8)) : Prop :=
  bd.length = n ∧ bs.length = n ∧ ∀ j, j < n → (bd[j]? = some false ∧ bs[j]? = some (fb j)) ∨ (bd[j]? = some true ∧ ∃ b, bs[j]? = some b ∧ b.length = 79 ∧ ¬ Good b)
theorem turned_new (n : Nat) : Turned n (List.replicate n false) ((List.range n).map fb) := by
  refine ⟨by simp, by simp, fun j hj => .inl ⟨by simp [hj], by simp [hj]⟩⟩
theorem turned_at {n : Nat} {bd : List Bool} {bs : List (List UInt8)} (h : Turned n bd bs) (j : Nat) (hj : j < n) (hn : n ≤ 30) : ∃ t b, bd[j]? = some t ∧ bs[j]? = some b ∧ b.length = 79 ∧ (t = false → b = fb j) ∧ (t = true → ¬ Good b) := by
  rcases h.2.2 j hj with ⟨h1, h2⟩ | ⟨h1, b, h2, h3, h4⟩
  · exact ⟨false, fb j, h1, h2, fb_len j (by omega), (fun _ => rfl), (fun h => by cases h)⟩
  · exact ⟨true, b, h1, h2, h3, (fun h => by cases h), fun _ => h4⟩
theorem turned_step {n : Nat} {bd : List Bool} {bs : List (List UInt8)} (h : Turned n bd bs) (k : Nat) (hk : k < n) (hn : n ≤ 30) (o : Nat) (ho : o < 79) (x : UInt8) (hx : ∀ hi, x ≠ (fb k)[o]'hi) : Turned n (bd.set k true) (bs.set k ((fb k).set o x)) := by
  refine ⟨by rw [List.length_set]; exact h.1, by rw [List.length_set]; exact h.2.1, fun j hj => ?_⟩
  by_cases hjk : j = k
  · subst hjk
    refine .inr ⟨?_, (fb j).set o x, ?_, ?_, ?_⟩
    · rw [List.getElem?_set_self (by rw [h.1]; exact hj)]
    · rw [List.getElem?_set_self (by rw [h.2.1]; exact hj)]
    · rw [List.length_set]; exact fb_len j (by omega)
    · have hl : o < (fb j).length := by rw [fb_len j (by omega)]; exact ho
      exact turned (uj_chk j (by omega)) o hl x (hx hl)
  · rw [List.getElem?_set_ne (fun e => hjk e.symm), List.getElem?_set_ne (fun e => hjk e.symm)]
    exact h.2.2 j hj
def wants (bd : List Bool) (k : Nat) : List (Int × Int) := ((List.range k).filter (fun j => bd[j]?.getD false)).map (fun (j : Nat) => ((9 : Int), (j : Int)))
theorem wants_succ (bd : List Bool) (k : Nat) : wants bd (k + 1) = wants bd k ++ (if bd[k]?.getD false then [(9, (k : Int))] else []) := by
  unfold wants
  rw [List.range_succ, List.filter_append, List.map_append]
  congr 1
  cases h : bd[k]?.getD false <;> simp [h]
theorem wants_len (bd : List Bool) (k : Nat) : (wants bd k).length ≤ k := by
  unfold wants
  rw [List.length_map]
  exact Nat.le_trans (List.length_filter_le _ _) (by simp)
theorem wants_spots {n : Nat} {bd : List Bool} {bs : List (List UInt8)} (h : Turned n bd bs) (hn : n ≤ 30) : spots [⟨9, 64, bs, false⟩] = wants bd n := by
  have e : spots [⟨9, 64, bs, false⟩] = spotsTo ⟨9, 64, bs, false⟩ n := by
    unfold spots
    simp only [List.flatMap_cons, List.flatMap_nil, List.append_nil]
    unfold spotsOf
    rw [if_neg Bool.false_ne_true]
    show spotsTo _ bs.length = _
    rw [h.2.1]
  rw [e]
  unfold spotsTo bads wants
  congr 1
  apply List.filter_congr
  intro j hj
  have hjn : j < n := List.mem_range.1 hj
  have hc := uj_chk j (by omega)
  rcases h.2.2 j hjn with ⟨h1, h2⟩ | ⟨h1, b, h2, _, h4⟩
  · rw [h1, goodAt_of (t := ⟨9, 64, bs, false⟩) h2]
    unfold fb
    rw [decide_eq_true (good_mk hc), getU_mk hc]
    simp [uj]
  · rw [h1, goodAt_of (t := ⟨9, 64, bs, false⟩) h2, decide_eq_false h4]
    rfl
end Go.Proofs.Ytpgceeeokjadpaa.Crc
