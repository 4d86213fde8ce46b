/- What frame.Get reads. Conditions: the row is short of 2^47 bytes. -/
import Derived.Test.YtpgceeeokjadpaaFr6
namespace Go.Proofs.Ytpgceeeokjadpaa.Mem
open Go.RowKit Go.Joins Go.Proofs.Ytpgceeeokjadpaa.Crc Go.Proofs.Ytpgceeeokjadpaa.Code
theorem ub_ne {w : World} {q : Nat} {u : Un} {A B : Option Addr} {n c n2 c2 : Nat} {l : List UInt8} (h : Ub w q u A n c) (hs : Sl w B n2 c2 l) : ∀ k, blk B = some k → 0 < n2 → ¬ k = q := by
  rintro k hk hn rfl
  obtain ⟨b', o, rfl, hc⟩ := hs.1.2 0 (by rw [hs.len]; exact hn)
  simp [blk] at hk
  subst hk
  rw [cell_of_block h] at hc
  rcases Nat.lt_or_ge (o + 0) 4 with h2 | h2
  · have : o = 0 ∨ o = 1 ∨ o = 2 ∨ o = 3 := by omega
    rcases this with rfl | rfl | rfl | rfl <;> simp at hc
  · rw [Array.getElem?_eq_none (by simpa using h2)] at hc
    cases hc
theorem ub_two {w : World} {q p T : Nat} {u : Un} {A B : Option Addr} {n c n2 c2 : Nat} {b : Bool} (h : Ub w q u A n c) (h' : Two w p T B n2 c2 b) : p ≠ q := by
  rintro rfl
  unfold Ub at h; unfold Two at h'
  rw [h] at h'
  simp at h'
theorem CAt.far {w w' : World} {p q : Nat} {s : Rs} {u : Un} {A : Option Addr} {n c : Nat} (h : CAt w p s) (hq : Ub w q u A n c) (hu : Upd (One q) w w') : CAt w' p s :=
  h.upd hu (fun e => by obtain ⟨_, _, _, _, h1, _⟩ := h; exact ub_two hq h1 e) (fun A' n' c' h2 => by
    obtain ⟨_, A3, n3, c3, h1, h3, _⟩ := h
    unfold Two at h1 h2
    rw [h1] at h2
    simp at h2
    obtain ⟨rfl, rfl, rfl⟩ := h2
    exact ub_ne hq h3)
theorem RAt.far {w w' : World} {p q : Nat} {s : Rs} {u : Un} {A : Option Addr} {n c : Nat} (h : RAt w p s) (hq : Ub w q u A n c) (hu : Upd (One q) w w') : RAt w' p s := by
  obtain ⟨hf, A3, n3, c3, l, h1, h3, h4⟩ := h
  exact ⟨hf, A3, n3, c3, l, (hu.block p (lt_of_block h1) (ub_two hq h1)).trans h1, h3.upd hu (ub_ne hq h3), h4⟩
theorem ub_upd {w w' : World} {q : Nat} {u : Un} {A : Option Addr} {n c : Nat} {S : Nat → Prop} (h : Ub w q u A n c) (hu : Upd S w w') (hs : ¬ S q) : Ub w' q u A n c := (hu.block q (lt_of_block h) hs).trans h
theorem CAt.ne {w : World} {p q : Nat} {s : Rs} {u : Un} {A : Option Addr} {n c : Nat} (h : CAt w p s) (hq : Ub w q u A n c) : p ≠ q := by
  obtain ⟨_, _, _, _, h1, _⟩ := h
  exact ub_two hq h1
theorem RAt.ne {w : World} {p q : Nat} {s : Rs} {u : Un} {A : Option Addr} {n c : Nat} (h : RAt w p s) (hq : Ub w q u A n c) : p ≠ q := by
  obtain ⟨_, _, _, _, _, h1, _⟩ := h
  exact ub_two hq h1
theorem ub_set {w : World} {q i : Nat} {u u' : Un} {A A' : Option Addr} {n c n' c' : Nat} {v : Value} (h : Ub w q u A n c)
    (he : (#[Value.int .i64 u.kind, .int .i64 u.label, .int .i64 u.number, .slice A n c] : Array Value).setIfInBounds i v = #[.int .i64 u'.kind, .int .i64 u'.label, .int .i64 u'.number, .slice A' n' c']) :
    Ub (w.setCell ⟨q, i, none⟩ v) q u' A' n' c' := by
  have := block_setCell (i := i) h v
  rw [he] at this
  exact this
/-- While a unit is read: the result's block q0, the unit's q1, the reader p. -/
structure Gt (w0 w : World) (q0 q1 p : Nat) (s : Rs) (u : Un) (A : Option Addr) (n c : Nat) : Prop where
  below : Below w0.heap.size w0 w
  zero : Ub w q0 Un.zero none 0 0
  unit : Ub w q1 u A n c
  cat : CAt w p s
  n0 : w0.heap.size ≤ q0
  n1 : w0.heap.size ≤ q1
  np : w0.heap.size ≤ p
  ne : q0 ≠ q1
namespace Gt
variable {w0 w w' : World} {q0 q1 p : Nat} {s s' : Rs} {u u' : Un} {A A' : Option Addr} {n c n' c' : Nat}
theorem read (h : Gt w0 w q0 q1 p s u A n c) (hr : Reading CAt w p s' w') : Gt w0 w' q0 q1 p s' u A n c :=
  ⟨below_upd h.below hr.2 (fun k hk => by unfold One at hk; have := h.np; omega) h.below.size, ub_upd h.zero hr.2 (fun e => h.cat.ne h.zero e.symm), ub_upd h.unit hr.2 (fun e => h.cat.ne h.unit e.symm), hr.1, h.n0, h.n1, h.np, h.ne⟩
theorem set {i : Nat} {v : Value} (h : Gt w0 w q0 q1 p s u A n c)
    (he : (#[Value.int .i64 u.kind, .int .i64 u.label, .int .i64 u.number, .slice A n c] : Array Value).setIfInBounds i v = #[.int .i64 u'.kind, .int .i64 u'.label, .int .i64 u'.number, .slice A' n' c']) :
    Gt w0 (w.setCell ⟨q1, i, none⟩ v) q0 q1 p s u' A' n' c' :=
  have hu := upd_set w q1 i v
  ⟨below_upd h.below hu (fun k hk => by unfold One at hk; have := h.n1; omega) h.below.size, ub_upd h.zero hu (fun e => h.ne e), ub_set h.unit he, h.cat.far h.unit hu, h.n0, h.n1, h.np, h.ne⟩
theorem later (h : Gt w0 w q0 q1 p s u A n c) (hb : Below w.heap.size w w') : Gt w0 w' q0 q1 p s u A n c :=
  ⟨below_then h.below hb h.below.size, h.zero.below hb, h.unit.below hb, h.cat.below hb, h.n0, h.n1, h.np, h.ne⟩
end Gt
end Go.Proofs.Ytpgceeeokjadpaa.Mem
