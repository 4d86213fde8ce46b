/- A row of items that came in. Conditions: none. -/
import Derived.Test.YtpgceeeokjadpaaStructs
import Derived.Test.YtpgceeeokjadpaaLaw6
namespace Go.Proofs.Ytpgceeeokjadpaa.Open
open Go.ChangeShapes Go.WideShapes Go.Deep Go.RowKit Go.Proofs.Ytpgceeeokjadpaa.Crc Go.Proofs.Ytpgceeeokjadpaa.Mem
variable {H : Type} {enc : TypeId × Value → H} {w : World} {base : Nat} {spare : Nat → Bool} {held : Bool}
theorem items_of {a : Option Addr} {len cap : Nat} {d : DataW H} {ps : List MemPlace} (h : DataW.Trod enc Try.prog w base spare held 23 (.slice a len cap) d ps) :
    ∃ its, Items w a len its ∧ (a = none → len = 0 ∧ cap = 0) := by
  obtain ⟨hz, hl, hm, hi⟩ := slice_structs Try.underlying23 Try.underlying41 (by kernel_rfl) (by kernel_rfl) (by decide) h
  have hel : ∀ i, i < len → ∃ (b o : Nat) (x : It), a = some ⟨b, o, none⟩ ∧ w.cell? ⟨b, o + i * 3, none⟩ = some (.int .i64 x.way) ∧ w.cell? ⟨b, o + i * 3 + 1, none⟩ = some (.int .i64 x.n) ∧ w.cell? ⟨b, o + i * 3 + 2, none⟩ = some (.string x.s) := by
    intro i hil
    obtain ⟨b, o, m, ha, hf⟩ := hi i hil
    obtain ⟨v0, y0, c0, t0⟩ := hf 0 _ rfl
    obtain ⟨v1, y1, c1, t1⟩ := hf 1 _ rfl
    obtain ⟨v2, y2, c2, t2⟩ := hf 2 _ rfl
    obtain ⟨x0, e0, _, _⟩ := DataW.trod_int Try.underlying3 t0
    obtain ⟨x1, e1, _, _⟩ := DataW.trod_int Try.underlying3 t1
    obtain ⟨x2, e2, _, _⟩ := DataW.trod_string Try.underlying9 t2
    simp only [List.cons.injEq, and_true] at e0 e1 e2
    subst e0 e1 e2
    exact ⟨b, o, ⟨x0, x1, x2⟩, ha, c0, c1, c2⟩
  refine ⟨(List.range len).map fun i => if h : i < len then (hel i h).choose_spec.choose_spec.choose else ⟨0, 0, ByteArray.empty⟩, ⟨by simp, fun i h => ?_⟩, hz⟩
  have hil : i < len := by simpa using h
  obtain ⟨ha, c0, c1, c2⟩ := (hel i hil).choose_spec.choose_spec.choose_spec
  refine ⟨_, _, ha, ?_⟩
  simp only [List.getElem_map, List.getElem_range, dif_pos hil]
  exact ⟨c0, c1, c2⟩
end Go.Proofs.Ytpgceeeokjadpaa.Open
