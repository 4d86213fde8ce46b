/- Tapes in memory. Conditions: none. -/
import Derived.Test.YtnnhigojgdcdlaaRow
namespace Go.Proofs.Ytnnhigojgdcdlaa.Crc
/-- A tape. -/
structure Tp where
  label : Int
  cap : Int
  blocks : List (List UInt8)
  lost : Bool
end Go.Proofs.Ytnnhigojgdcdlaa.Crc
namespace Go.Proofs.Ytnnhigojgdcdlaa.Mem
open Go.RowKit Go.Joins Go.Proofs.Ytnnhigojgdcdlaa.Crc
abbrev tv (t : Tp) (A : Option Addr) (n c : Nat) : Value := .agg #[.int .i64 t.label, .int .i64 t.cap, .slice A n c, .bool t.lost]
/-- A slice of rows of bytes. -/
def Blks (w : World) (A : Option Addr) (n c : Nat) (bs : List (List UInt8)) : Prop :=
  bs.length = n ∧ n ≤ c ∧ (A = none → n = 0 ∧ c = 0) ∧ ∀ i (h : i < bs.length), ∃ b o A' n' c', A = some ⟨b, o, none⟩ ∧ w.cell? ⟨b, o + i, none⟩ = some (.slice A' n' c') ∧ Sl w A' n' c' bs[i] ∧ c' ≤ maxLen
theorem Blks.below {w w' : World} {A : Option Addr} {n c : Nat} {bs : List (List UInt8)} (h : Blks w A n c bs) (hb : Below w.heap.size w w') : Blks w' A n c bs := by
  refine ⟨h.1, h.2.1, h.2.2.1, fun i hi => ?_⟩
  obtain ⟨b, o, A', n', c', ha, hc, hs, hm⟩ := h.2.2.2 i hi
  exact ⟨b, o, A', n', c', ha, (hb.cell (World.block_lt_of_cell? _ _ hc)).trans hc, hs.below hb, hm⟩
theorem Blks.len {w : World} {A : Option Addr} {n c : Nat} {bs : List (List UInt8)} (h : Blks w A n c bs) : bs.length = n := h.1
theorem Blks.nil (w : World) : Blks w none 0 0 [] := ⟨rfl, Nat.le_refl _, fun _ => ⟨rfl, rfl⟩, fun i h => by simp at h⟩
/-- Row number i of a slice of rows. -/
theorem Blks.at {w : World} {A : Option Addr} {n c : Nat} {bs : List (List UInt8)} (h : Blks w A n c bs) (i : Nat) (hi : i < n) : ∃ b o A' n' c' l, A = some ⟨b, o, none⟩ ∧ bs[i]? = some l ∧ w.cell? ⟨b, o + i, none⟩ = some (.slice A' n' c') ∧ Sl w A' n' c' l ∧ c' ≤ maxLen := by
  obtain ⟨b, o, A', n', c', ha, hc, hs, hm⟩ := h.2.2.2 i (by rw [h.1]; exact hi)
  exact ⟨b, o, A', n', c', _, ha, List.getElem?_eq_getElem _, hc, hs, hm⟩
/-- A slice of tapes. -/
def Tps (w : World) (A : Option Addr) (n : Nat) (l : List Tp) : Prop :=
  l.length = n ∧ ∀ i (h : i < l.length), ∃ b o A' n' c', A = some ⟨b, o, none⟩ ∧ w.cell? ⟨b, o + i * 4, none⟩ = some (.int .i64 l[i].label) ∧ w.cell? ⟨b, o + i * 4 + 1, none⟩ = some (.int .i64 l[i].cap) ∧ w.cell? ⟨b, o + i * 4 + 2, none⟩ = some (.slice A' n' c') ∧ w.cell? ⟨b, o + i * 4 + 3, none⟩ = some (.bool l[i].lost) ∧ Blks w A' n' c' l[i].blocks
theorem Tps.below {w w' : World} {A : Option Addr} {n : Nat} {l : List Tp} (h : Tps w A n l) (hb : Below w.heap.size w w') : Tps w' A n l := by
  refine ⟨h.1, fun i hi => ?_⟩
  obtain ⟨b, o, A', n', c', ha, h0, h1, h2, h3, hs⟩ := h.2 i hi
  exact ⟨b, o, A', n', c', ha, (hb.cell (World.block_lt_of_cell? _ _ h0)).trans h0, (hb.cell (World.block_lt_of_cell? _ _ h1)).trans h1, (hb.cell (World.block_lt_of_cell? _ _ h2)).trans h2, (hb.cell (World.block_lt_of_cell? _ _ h3)).trans h3, hs.below hb⟩
theorem Tps.nil (w : World) (A : Option Addr) : Tps w A 0 [] := ⟨rfl, fun i h => by simp at h⟩
end Go.Proofs.Ytnnhigojgdcdlaa.Mem
