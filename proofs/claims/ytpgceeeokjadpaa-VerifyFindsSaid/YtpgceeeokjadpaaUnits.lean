/- A unit that came in. Conditions: none. -/
import Derived.Test.YtpgceeeokjadpaaStructs
import Derived.Test.YtpgceeeokjadpaaFr3
namespace Go.Proofs.Ytpgceeeokjadpaa.Open
open Go.ChangeShapes Go.WideShapes Go.Deep Go.RowKit Go.Proofs.Ytpgceeeokjadpaa.Crc Go.Proofs.Ytpgceeeokjadpaa.Mem Go.Proofs.Ytpgceeeokjadpaa.Code
variable {H : Type} {enc : TypeId × Value → H} {w : World} {base : Nat} {spare : Nat → Bool} {held : Bool}
theorem bytes1_of {n : Nat} {x : Value} {y : DataW H × List MemPlace} (h : DataW.trod enc Try.prog w base spare held n 22 [x] = some y) : ∃ A n c l, x = .slice A n c ∧ Sl w A n c l ∧ c ≤ maxLen := by
  have hx : ∃ A n c, x = .slice A n c := by
    rcases open_slice Try.underlying22 h with ⟨hcs, _⟩ | ⟨A, l, c, m, n, D, Pl, hcs, _⟩
    · exact ⟨_, _, _, by simpa using hcs⟩
    · exact ⟨_, _, _, by simpa using hcs⟩
  obtain ⟨A, n', c, rfl⟩ := hx
  have ht : DataW.Trod enc Try.prog w base spare held 22 (.slice A n' c) y.1 y.2 := ⟨n, h⟩
  obtain ⟨l, hr, hn⟩ := bytes_of Try.underlying22 Try.underlying5 (by kernel_rfl) ht
  obtain ⟨hl, hm⟩ := cap_of Try.underlying22 Try.underlying5 (by kernel_rfl) ht
  exact ⟨A, n', c, l, rfl, ⟨hr, hl, hn⟩, hm⟩
theorem unit_of {W : World} {r : Reach} {base2 : Nat} {v : Value} {d : DataW H} {ps : List MemPlace} (hv : Value.okWide Try.prog W r base2 45 v) (h : DataW.Trod enc Try.prog w base spare held 45 v d ps) :
    ∃ u A n c, v = uv u A n c ∧ Sl w A n c u.load ∧ c ≤ maxLen := by
  obtain ⟨cs, rfl, hsz⟩ := okWide_struct Try.underlying45 hv
  have hsz4 : cs.size = 4 := hsz.trans (by kernel_rfl)
  obtain ⟨fuel, hf⟩ := h
  have hcl : (Value.agg cs).cells.toList = cs.toList := rfl
  rw [hcl] at hf
  obtain ⟨m, hm⟩ := fields_of Try.underlying45 (by kernel_rfl) hf (by simpa using hsz4)
  obtain ⟨y0, h0⟩ := hm 0 _ rfl
  obtain ⟨y1, h1⟩ := hm 1 _ rfl
  obtain ⟨y2, h2⟩ := hm 2 _ rfl
  obtain ⟨y3, h3⟩ := hm 3 _ rfl
  obtain ⟨x0, e0, _, _⟩ := DataW.trod_int Try.underlying3 h0
  obtain ⟨x1, e1, _, _⟩ := DataW.trod_int Try.underlying3 h1
  obtain ⟨x2, e2, _, _⟩ := DataW.trod_int Try.underlying3 h2
  obtain ⟨A, n, c, l, e3, hs, hc⟩ := bytes1_of h3
  simp only [List.cons.injEq, and_true] at e0 e1 e2
  refine ⟨⟨x0, x1, x2, l⟩, A, n, c, ?_, hs, hc⟩
  unfold uv
  congr 1
  apply Array.ext'
  apply List.ext_getElem
  · simpa using hsz4
  · intro i hi hj
    have hi4 : i < 4 := by rw [Array.length_toList, hsz4] at hi; exact hi
    have : i = 0 ∨ i = 1 ∨ i = 2 ∨ i = 3 := by omega
    rcases this with rfl | rfl | rfl | rfl
    · exact e0
    · exact e1
    · exact e2
    · exact e3
end Go.Proofs.Ytpgceeeokjadpaa.Open
