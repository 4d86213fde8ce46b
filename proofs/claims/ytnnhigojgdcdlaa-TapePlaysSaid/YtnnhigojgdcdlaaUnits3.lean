/- A tape, and calls, that came in. Conditions: none. -/
import Derived.Test.YtnnhigojgdcdlaaStructs
import Derived.Test.YtnnhigojgdcdlaaPly
namespace Go.Proofs.Ytnnhigojgdcdlaa.Open
open Go.ChangeShapes Go.WideShapes Go.Deep Go.RowKit Go.Proofs.Ytnnhigojgdcdlaa.Crc Go.Proofs.Ytnnhigojgdcdlaa.Mem Go.Proofs.Ytnnhigojgdcdlaa.Code
variable {H : Type} {enc : TypeId × Value → H} {w : World} {base : Nat} {spare : Nat → Bool} {held : Bool}
theorem bytes1_of {n : Nat} {x : Value} {y : DataW H × List MemPlace} (h : DataW.trod enc Try.prog w base spare held n 32 [x] = some y) : ∃ A n c l, x = .slice A n c ∧ Sl w A n c l ∧ c ≤ maxLen := by
  have hx : ∃ A n c, x = .slice A n c := by
    rcases open_slice Try.underlying32 h with ⟨hcs, _⟩ | ⟨A, l, c, m, n, D, Pl, hcs, _⟩
    · exact ⟨_, _, _, by simpa using hcs⟩
    · exact ⟨_, _, _, by simpa using hcs⟩
  obtain ⟨A, n', c, rfl⟩ := hx
  have ht : DataW.Trod enc Try.prog w base spare held 32 (.slice A n' c) y.1 y.2 := ⟨n, h⟩
  obtain ⟨l, hr, hn⟩ := bytes_of Try.underlying32 Try.underlying5 (by kernel_rfl) ht
  obtain ⟨hl, hm⟩ := cap_of Try.underlying32 Try.underlying5 (by kernel_rfl) ht
  exact ⟨A, n', c, l, rfl, ⟨hr, hl, hn⟩, hm⟩
/-- A slice whose elements are of one cell. -/
theorem slice_cells {t e : TypeId} (ht : Try.prog.underlying t = some (.slice e)) (hC : Try.prog.cellsOf e = 1) {n : Nat} {x : Value} {y : DataW H × List MemPlace} (h : DataW.trod enc Try.prog w base spare held n t [x] = some y) :
    ∃ A len cap, x = .slice A len cap ∧ (A = none → len = 0 ∧ cap = 0) ∧ len ≤ cap ∧ cap ≤ maxLen ∧ ∀ i, i < len → ∃ b o v m z, A = some ⟨b, o, none⟩ ∧ w.cell? ⟨b, o + i, none⟩ = some v ∧ DataW.trod enc Try.prog w base spare held m e [v] = some z := by
  rcases open_slice ht h with ⟨hcs, _⟩ | ⟨A, l, c, m, k, D, Pl, hcs, _, hl, hm, hmm, _, hi⟩
  · simp at hcs
    subst hcs
    exact ⟨none, 0, 0, rfl, fun _ => ⟨rfl, rfl⟩, Nat.le_refl _, Nat.zero_le _, fun i h => by omega⟩
  · simp at hcs
    subst hcs
    refine ⟨some A, l, c, rfl, (fun h => by cases h), hl, hm, fun i hil => ?_⟩
    have him : i < m := by rw [hmm]; split <;> omega
    obtain ⟨cs', hc, ht'⟩ := hi i him
    rw [hC] at hc
    obtain ⟨_, hcl, hat⟩ := World.cells?_some hc
    obtain ⟨b, o, spot⟩ := A
    have hspot : spot = none := by
      obtain ⟨cs0, hc0, _⟩ := hi 0 (by omega)
      rw [hC] at hc0
      obtain ⟨_, hcl0, hat0⟩ := World.cells?_some hc0
      have h0 := hat0 0 (by omega)
      rw [List.getElem?_eq_getElem (by omega), add_add] at h0
      simpa [Addr.add] using World.cell?_spot h0
    subst hspot
    obtain ⟨v, rfl⟩ : ∃ v, cs' = [v] := List.length_eq_one_iff.1 hcl
    have h1 := hat 0 (by omega)
    rw [add_add, add_plain] at h1
    exact ⟨b, o, v, k, _, rfl, by simpa using h1, ht'⟩
theorem blks_of {n : Nat} {x : Value} {y : DataW H × List MemPlace} (h : DataW.trod enc Try.prog w base spare held n 27 [x] = some y) : ∃ A len cap bs, x = .slice A len cap ∧ Blks w A len cap bs ∧ cap ≤ maxLen := by
  obtain ⟨A, len, cap, rfl, hz, hl, hm, hi⟩ := slice_cells Try.underlying27 (by kernel_rfl) h
  have hel : ∀ i, i < len → ∃ (l : List UInt8) (b o : Nat) (A' : Option Addr) (n' c' : Nat), A = some ⟨b, o, none⟩ ∧ w.cell? ⟨b, o + i, none⟩ = some (.slice A' n' c') ∧ Sl w A' n' c' l ∧ c' ≤ maxLen := by
    intro i hil
    obtain ⟨b, o, v, m, z, ha, hc, ht⟩ := hi i hil
    obtain ⟨A', n', c', l, rfl, hs, hm'⟩ := bytes1_of ht
    exact ⟨l, b, o, A', n', c', ha, hc, hs, hm'⟩
  refine ⟨A, len, cap, (List.range len).map fun i => if h : i < len then (hel i h).choose else [], rfl, ⟨by simp, hl, hz, fun i h => ?_⟩, hm⟩
  have hil : i < len := by simpa using h
  simp only [List.getElem_map, List.getElem_range, dif_pos hil]
  exact (hel i hil).choose_spec
theorem tape_of {W : World} {r : Reach} {base2 : Nat} {v : Value} {d : DataW H} {ps : List MemPlace} (hv : Value.okWide Try.prog W r base2 29 v) (h : DataW.Trod enc Try.prog w base spare held 29 v d ps) :
    ∃ t A n c, v = tv t A n c ∧ Blks w A n c t.blocks ∧ c ≤ maxLen := by
  obtain ⟨cs, rfl, hsz⟩ := okWide_struct Try.underlying29 hv
  have hsz4 : cs.size = 4 := hsz.trans (by kernel_rfl)
  obtain ⟨fuel, hf⟩ := h
  have hcl : (Value.agg cs).cells.toList = cs.toList := rfl
  rw [hcl] at hf
  obtain ⟨m, hm⟩ := fields_of Try.underlying29 (by kernel_rfl) hf (by simpa using hsz4)
  obtain ⟨y0, h0⟩ := hm 0 _ rfl
  obtain ⟨y1, h1⟩ := hm 1 _ rfl
  obtain ⟨y2, h2⟩ := hm 2 _ rfl
  obtain ⟨y3, h3⟩ := hm 3 _ rfl
  obtain ⟨x0, e0, _, _⟩ := DataW.trod_int Try.underlying3 h0
  obtain ⟨x1, e1, _, _⟩ := DataW.trod_int Try.underlying3 h1
  obtain ⟨A, n, c, bs, e2, hb, hc⟩ := blks_of h2
  obtain ⟨x3, e3, _⟩ := DataW.trod_bool Try.underlying4 h3
  simp only [List.cons.injEq, and_true] at e0 e1 e2 e3
  refine ⟨⟨x0, x1, bs, x3⟩, A, n, c, ?_, hb, hc⟩
  unfold tv
  congr 1
  apply Array.ext'
  apply List.ext_getElem
  · simpa using hsz4
  · intro i hi hj
    have hi4 : i < 4 := by rw [Array.length_toList, hsz4] at hi; exact hi
    have : i = 0 ∨ i = 1 ∨ i = 2 ∨ i = 3 := by omega
    rcases this with rfl | rfl | rfl | rfl
    · exact e0
    · exact e1
    · exact e2
    · exact e3
theorem acts_of {a : Option Addr} {len cap : Nat} {d : DataW H} {ps : List MemPlace} (h : DataW.Trod enc Try.prog w base spare held 43 (.slice a len cap) d ps) : ∃ l, Acs w a len l := by
  obtain ⟨hz, hl, hm, hi⟩ := slice_structs Try.underlying43 Try.underlying48 (by kernel_rfl) (by kernel_rfl) (by decide) h
  have hel : ∀ i, i < len → ∃ (t : Ac) (b o : Nat) (A' : Option Addr) (n' c' : Nat), a = some ⟨b, o, none⟩ ∧ w.cell? ⟨b, o + i * 4, none⟩ = some (.int .i64 t.way) ∧ w.cell? ⟨b, o + i * 4 + 1, none⟩ = some (.int .i64 t.n) ∧ w.cell? ⟨b, o + i * 4 + 2, none⟩ = some (.int .i64 t.m) ∧ w.cell? ⟨b, o + i * 4 + 3, none⟩ = some (.slice A' n' c') ∧ Sl w A' n' c' t.b := by
    intro i hil
    obtain ⟨b, o, m, ha, hf⟩ := hi i hil
    obtain ⟨v0, y0, c0, t0⟩ := hf 0 _ rfl
    obtain ⟨v1, y1, c1, t1⟩ := hf 1 _ rfl
    obtain ⟨v2, y2, c2, t2⟩ := hf 2 _ rfl
    obtain ⟨v3, y3, c3, t3⟩ := hf 3 _ rfl
    obtain ⟨x0, e0, _, _⟩ := DataW.trod_int Try.underlying3 t0
    obtain ⟨x1, e1, _, _⟩ := DataW.trod_int Try.underlying3 t1
    obtain ⟨x2, e2, _, _⟩ := DataW.trod_int Try.underlying3 t2
    obtain ⟨A', n', c', l, e3, hs, _⟩ := bytes1_of t3
    simp only [List.cons.injEq, and_true] at e0 e1 e2
    subst e0 e1 e2 e3
    exact ⟨⟨x0, x1, x2, l⟩, b, o, A', n', c', ha, c0, c1, c2, c3, hs⟩
  refine ⟨(List.range len).map fun i => if h : i < len then (hel i h).choose else ⟨0, 0, 0, []⟩, ⟨by simp, fun i h => ?_⟩⟩
  have hil : i < len := by simpa using h
  simp only [List.getElem_map, List.getElem_range, dif_pos hil]
  exact (hel i hil).choose_spec
end Go.Proofs.Ytnnhigojgdcdlaa.Open
