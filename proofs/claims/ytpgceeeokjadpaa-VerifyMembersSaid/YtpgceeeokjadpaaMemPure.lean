/- Plain law: how many members are harmed of a group of which some are lost, rotten or not there. Conditions: none. -/
import Derived.Test.YtpgceeeokjadpaaVer5
namespace Go.Proofs.Ytpgceeeokjadpaa.Crc
def um (i : Nat) : Un := ⟨3, (i : Int) + 1, 0, []⟩
def fm (i : Nat) : List UInt8 := mk (um i)
theorem um_chk (i : Nat) (h : i < 9) : chk (um i) = 0 := by
  unfold chk um
  simp only
  rw [if_neg (by omega), if_neg (by omega), if_neg (by unfold room; simp)]
theorem fm_len (i : Nat) (h : i < 9) : (fm i).length = 79 := by
  unfold fm
  rw [mk_len (chk_zero (um_chk i h)).2.2.2.2.2.2]
  rfl
theorem fm_bad (i : Nat) (h : i < 9) : ¬ Good ((fm i).set 4 99) := by
  have hl : 4 < (fm i).length := by rw [fm_len i h]; decide
  refine turned (um_chk i h) 4 hl 99 (fun e => ?_)
  have e2 : (fm i)[4]? = some (byteI ((i : Int) + 1) 0) := by unfold fm mk body um; simp [be4]
  have e3 := List.getElem?_eq_getElem hl
  rw [e2] at e3
  injection e3 with e3
  have e4 : byteI ((i : Int) + 1) 0 = 99 := by rw [e3]; exact e.symm
  have e5 := K_byteI ((i : Int) + 1) 0
  rw [e4] at e5
  have e6 : K 99 = 99 := rfl
  rw [e6] at e5
  simp at e5
  omega
/-- Tape number i, if it is there. -/
def tp (a b c : Nat) (i : Nat) : Option Tp :=
  if i < a then some ⟨(i : Int) + 1, 9, [fm i], true⟩ else if i < a + b then some ⟨(i : Int) + 1, 9, [(fm i).set 4 99], false⟩ else if i < a + b + c then none else some ⟨(i : Int) + 1, 9, [fm i], false⟩
def tsOf (a b c : Nat) (k : Nat) : List Tp := (List.range k).filterMap (tp a b c)
theorem tsOf_succ (a b c k : Nat) : tsOf a b c (k + 1) = tsOf a b c k ++ (tp a b c k).toList := by
  unfold tsOf
  rw [List.range_succ, List.filterMap_append]
  cases h : tp a b c k <;> simp [h]
theorem tsOf_len (a b c k : Nat) : (tsOf a b c k).length ≤ k := by
  unfold tsOf
  exact Nat.le_trans (List.length_filterMap_le _ _) (by simp)
theorem tp_label {a b c i : Nat} {t : Tp} (h : tp a b c i = some t) : t.label = (i : Int) + 1 := by
  unfold tp at h
  split at h
  · injection h with h; subst h; rfl
  · split at h
    · injection h with h; subst h; rfl
    · split at h
      · cases h
      · injection h with h; subst h; rfl
theorem tp_one {a b c i : Nat} {t : Tp} (h9 : i < 9) (h : tp a b c i = some t) : t.blocks.length = 1 ∧ ∀ b ∈ t.blocks, b.length = 79 := by
  unfold tp at h
  have hf := fm_len i h9
  split at h
  · injection h with h; subst h; exact ⟨rfl, fun b hb => by simp at hb; subst hb; exact hf⟩
  · split at h
    · injection h with h; subst h; exact ⟨rfl, fun b hb => by simp at hb; subst hb; rw [List.length_set]; exact hf⟩
    · split at h
      · cases h
      · injection h with h; subst h; exact ⟨rfl, fun b hb => by simp at hb; subst hb; exact hf⟩
theorem goodAt_fm (i : Nat) (h : i < 9) (x : Int) (lo : Bool) : goodAt ⟨(i : Int) + 1, x, [fm i], lo⟩ 0 = true := by
  rw [goodAt_of (t := ⟨(i : Int) + 1, x, [fm i], lo⟩) (b := fm i) rfl]
  unfold fm
  rw [decide_eq_true (good_mk (um_chk i h)), getU_mk (um_chk i h)]
  simp [um]
theorem goodAt_bad (i : Nat) (h : i < 9) (x : Int) (lo : Bool) : goodAt ⟨(i : Int) + 1, x, [(fm i).set 4 99], lo⟩ 0 = false := by
  rw [goodAt_of (t := ⟨(i : Int) + 1, x, [(fm i).set 4 99], lo⟩) (b := (fm i).set 4 99) rfl, decide_eq_false (fm_bad i h)]
  rfl
theorem spotsOf_tp {a b c i : Nat} {t : Tp} (h9 : i < 9) (h : tp a b c i = some t) : (spotsOf t).length = if i < a + b then 1 else 0 := by
  unfold tp at h
  split at h
  · injection h with h; subst h
    rw [if_pos (by omega)]; rfl
  · split at h
    · rename_i h2
      injection h with h; subst h
      rw [if_pos h2]
      unfold spotsOf
      rw [if_neg (by simp)]
      show (spotsTo _ 1).length = 1
      rw [spotsTo_succ, goodAt_bad i h9]
      rfl
    · split at h
      · cases h
      · rename_i h2 _
        injection h with h; subst h
        rw [if_neg h2]
        unfold spotsOf
        rw [if_neg (by simp)]
        show (spotsTo _ 1).length = 0
        rw [spotsTo_succ, goodAt_fm i h9]
        rfl
theorem spots_append (l m : List Tp) : spots (l ++ m) = spots l ++ spots m := by unfold spots; exact List.flatMap_append
theorem spots_ts (a b c : Nat) : ∀ k, k ≤ 9 → (spots (tsOf a b c k)).length = min k (a + b) := by
  intro k
  induction k with
  | zero => intro _; simp [tsOf, spots]
  | succ k ih =>
    intro hk
    rw [tsOf_succ, spots_append, List.length_append, ih (by omega)]
    cases h : tp a b c k with
    | none =>
      have : a + b ≤ k := by
        unfold tp at h
        split at h
        · cases h
        · split at h
          · cases h
          · omega
      show _ + 0 = _
      omega
    | some t =>
      have := spotsOf_tp (by omega) h
      show min k (a + b) + (spots [t]).length = _
      rw [spots_one, this]
      split <;> omega
theorem find_ts (a b c : Nat) (i : Nat) : ∀ k, (tsOf a b c k).find? (fun t => decide (t.label = (i : Int) + 1)) = if i < k then tp a b c i else none := by
  intro k
  induction k with
  | zero => simp [tsOf]
  | succ k ih =>
    rw [tsOf_succ, List.find?_append, ih]
    by_cases hik : i = k
    · subst hik
      rw [if_neg (Nat.lt_irrefl _), if_pos (Nat.lt_succ_self _)]
      cases h : tp a b c i with
      | none => rfl
      | some t => simp [tp_label h]
    · have hz : (tp a b c k).toList.find? (fun t => decide (t.label = (i : Int) + 1)) = none := by
        cases h : tp a b c k with
        | none => rfl
        | some t =>
          have := tp_label h
          simp
          omega
      rw [hz]
      by_cases h : i < k
      · rw [if_pos h, if_pos (by omega)]; simp
      · rw [if_neg h, if_neg (by omega)]; rfl
theorem getElem?_findIdx {α : Type} (p : α → Bool) : ∀ l : List α, l[l.findIdx p]? = l.find? p
  | [] => rfl
  | x :: l => by
    rw [List.findIdx_cons, List.find?_cons]
    cases h : p x
    · simp [getElem?_findIdx p l]
    · simp
theorem mt_find (l : List Tp) (x : Int) : mt l x = (l.find? (fun t => decide (t.label = x))).getD ⟨x, 0, [], true⟩ := by
  unfold mt idx
  rw [getElem?_findIdx]
  cases l.find? (fun t => decide (t.label = x)) <;> rfl
theorem hurt_ts (a b c n i : Nat) (hi : i < n) (h9 : n ≤ 9) : hurt (tsOf a b c n) ((i : Int) + 1) = decide (i < a + b + c) := by
  unfold hurt
  rw [mt_find, find_ts, if_pos hi]
  unfold tp
  by_cases h1 : i < a
  · rw [if_pos h1, decide_eq_true (by omega)]; rfl
  · rw [if_neg h1]
    by_cases h2 : i < a + b
    · rw [if_pos h2, decide_eq_true (by omega), Option.getD_some]
      show (false || !(badsOf _).isEmpty) = true
      unfold badsOf
      rw [if_neg (by simp)]
      show (false || !(bads _ 1).isEmpty) = true
      rw [bads_succ, goodAt_bad i (by omega)]
      rfl
    · rw [if_neg h2]
      by_cases h3 : i < a + b + c
      · rw [if_pos h3, decide_eq_true h3]; rfl
      · rw [if_neg h3, decide_eq_false h3, Option.getD_some]
        show (false || !(badsOf _).isEmpty) = false
        unfold badsOf
        rw [if_neg (by simp)]
        show (false || !(bads _ 1).isEmpty) = false
        rw [bads_succ, goodAt_fm i (by omega)]
        rfl
/-- The labels 1, 2, .. -/
def labs (k : Nat) : List Nat := (List.range k).map (· + 1)
def labsI (k : Nat) : List Int := (List.range k).map fun (i : Nat) => (i : Int) + 1
theorem labs_succ (k : Nat) : labs (k + 1) = labs k ++ [k + 1] := by unfold labs; rw [List.range_succ, List.map_append]; rfl
theorem labs_len (k : Nat) : (labs k).length = k := by simp [labs]
theorem hurts_ts (a b c n : Nat) (h9 : n ≤ 9) : ∀ k, k ≤ n → ((labsI k).filter (hurt (tsOf a b c n))).length = min k (a + b + c) := by
  intro k
  induction k with
  | zero => intro _; simp [labsI]
  | succ k ih =>
    intro hk
    have e : labsI (k + 1) = labsI k ++ [(k : Int) + 1] := by unfold labsI; rw [List.range_succ, List.map_append]; rfl
    rw [e, List.filter_append, List.length_append, ih (by omega)]
    have hh := hurt_ts a b c n k (by omega) h9
    by_cases h : k < a + b + c
    · rw [decide_eq_true h] at hh
      simp [hh]; omega
    · rw [decide_eq_false h] at hh
      simp [hh]; omega
end Go.Proofs.Ytpgceeeokjadpaa.Crc
