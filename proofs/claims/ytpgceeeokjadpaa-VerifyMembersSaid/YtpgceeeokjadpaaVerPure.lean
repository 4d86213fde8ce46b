/- Plain law: which spots of tapes are told. Conditions: none. -/
import Derived.Test.YtpgceeeokjadpaaVol
namespace Go.Proofs.Ytpgceeeokjadpaa.Crc
/-- The blocks, of the first m, that are not good. -/
def bads (t : Tp) (m : Nat) : List Nat := (List.range m).filter (fun i => !goodAt t i)
def spotsTo (t : Tp) (m : Nat) : List (Int × Int) := (bads t m).map (fun (i : Nat) => (t.label, (i : Int)))
def spotsOf (t : Tp) : List (Int × Int) := if t.lost then [(t.label, -1)] else spotsTo t t.blocks.length
def spots (l : List Tp) : List (Int × Int) := l.flatMap spotsOf
def wt (l : List Tp) : Nat := (l.map (fun t => t.blocks.length + 1)).sum
theorem bads_zero (t : Tp) : bads t 0 = [] := rfl
theorem bads_succ (t : Tp) (m : Nat) : bads t (m + 1) = bads t m ++ (if goodAt t m then [] else [m]) := by
  unfold bads
  rw [List.range_succ, List.filter_append]
  congr 1
  cases h : goodAt t m <;> simp [h]
theorem spotsTo_succ (t : Tp) (m : Nat) : spotsTo t (m + 1) = spotsTo t m ++ (if goodAt t m then [] else [(t.label, (m : Int))]) := by
  unfold spotsTo
  rw [bads_succ, List.map_append]
  congr 1
  split <;> rfl
theorem bads_len (t : Tp) (m : Nat) : (bads t m).length ≤ m := by
  unfold bads
  exact Nat.le_trans (List.length_filter_le _ _) (by simp)
theorem spotsTo_len (t : Tp) (m : Nat) : (spotsTo t m).length ≤ m := by unfold spotsTo; rw [List.length_map]; exact bads_len t m
theorem spotsOf_len (t : Tp) : (spotsOf t).length ≤ t.blocks.length + 1 := by
  unfold spotsOf
  split
  · simp
  · exact Nat.le_trans (spotsTo_len _ _) (Nat.le_succ _)
theorem spots_take (l : List Tp) (k : Nat) (h : k < l.length) : spots (l.take (k + 1)) = spots (l.take k) ++ spotsOf l[k] := by
  unfold spots
  rw [List.take_succ_eq_append_getElem h, List.flatMap_append]
  simp
theorem spots_len (l : List Tp) : (spots l).length ≤ wt l := by
  induction l with
  | nil => simp [spots, wt]
  | cons t l ih =>
    have := spotsOf_len t
    unfold spots wt at *
    simp only [List.flatMap_cons, List.length_append, List.map_cons, List.sum_cons]
    omega
theorem wt_take (l : List Tp) (k : Nat) (h : k < l.length) : wt (l.take k) + (l[k].blocks.length + 1) ≤ wt l := by
  have h1 : wt (l.take (k + 1)) = wt (l.take k) + (l[k].blocks.length + 1) := by
    unfold wt
    rw [List.take_succ_eq_append_getElem h, List.map_append, List.sum_append]
    simp
  have h2 : wt l = wt (l.take (k + 1)) + wt (l.drop (k + 1)) := by
    unfold wt
    rw [← List.sum_append, ← List.map_append, List.take_append_drop]
  omega
end Go.Proofs.Ytpgceeeokjadpaa.Crc
namespace Go.Proofs.Ytpgceeeokjadpaa.Mem
open Go.RowKit Go.Joins Go.Proofs.Ytpgceeeokjadpaa.Crc
/-- Spots as cells. -/
def spc (l : List (Int × Int)) : List Value := l.flatMap fun p => [.int .i64 p.1, .int .i64 p.2]
theorem spc_append (a b : List (Int × Int)) : spc (a ++ b) = spc a ++ spc b := List.flatMap_append
theorem spc_len (l : List (Int × Int)) : (spc l).length = l.length * 2 := by
  induction l with
  | nil => rfl
  | cons p l ih =>
    have : spc (p :: l) = [.int .i64 p.1, .int .i64 p.2] ++ spc l := rfl
    rw [this, List.length_append, ih]
    simp; omega
theorem spc_one (x y : Int) : spc [(x, y)] = [.int .i64 x, .int .i64 y] := rfl
theorem spc_at (l : List (Int × Int)) : ∀ i (h : i < l.length), (spc l)[i * 2]? = some (.int .i64 l[i].1) ∧ (spc l)[i * 2 + 1]? = some (.int .i64 l[i].2) := by
  induction l with
  | nil => intro i h; simp at h
  | cons p l ih =>
    intro i h
    have e : spc (p :: l) = .int .i64 p.1 :: .int .i64 p.2 :: spc l := rfl
    cases i with
    | zero => rw [e]; exact ⟨rfl, rfl⟩
    | succ i =>
      have h' : i < l.length := by simpa using h
      obtain ⟨a, b⟩ := ih i h'
      rw [e, show (i + 1) * 2 = i * 2 + 1 + 1 by omega]
      simp only [List.getElem?_cons_succ, List.getElem_cons_succ]
      exact ⟨a, b⟩
end Go.Proofs.Ytpgceeeokjadpaa.Mem
