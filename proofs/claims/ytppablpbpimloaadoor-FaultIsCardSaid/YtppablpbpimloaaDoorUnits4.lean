/- A spot, and a slice of strings, that came in. Conditions: none. -/
import Derived.WalkKit
import Derived.ProofKit
import Derived.OpenShut
import Derived.ShutString
import Derived.ChangeOld
import Derived.Below
import Derived.Deep.Slices
import Derived.Deep.Fields
import Derived.ChangeSame
import Derived.Test.YtppablpbpimloaaDoorNew
namespace Go.Proofs.YtppablpbpimloaaDoor.Open
open Go.ChangeShapes Go.WideShapes Go.ChangeAt Go.Deep Go.RowKit Go.Proofs.YtppablpbpimloaaDoor.Code
section
variable {H : Type} {enc : TypeId × Value → H} {P : Program} {w : World} {base : Nat} {spare : Nat → Bool} {held : Bool}
/-- A struct's fields, one cell each: each field by its own reading. -/
theorem fields_of {e : TypeId} {fs : Array Field} {n : Nat} {cs : List Value} {x : DataW H × List MemPlace} (he : P.underlying e = some (.struct fs)) (hone : oneCellFields P fs = true)
    (h : DataW.trod enc P w base spare held n e cs = some x) (hlen : cs.length = fs.size) : ∃ m, ∀ (j : Nat) (f : Field) (hj : fs[j]? = some f), ∃ y, DataW.trod enc P w base spare held m f.type [cs[j]'(by rw [hlen]; exact (Array.getElem?_eq_some_iff.1 hj).1)] = some y := by
  obtain ⟨ys, m, _, _, _, hyl, hf⟩ := DataW.trod_struct he h
  refine ⟨m, fun j f hj => ?_⟩
  obtain ⟨ho, hk⟩ := hone_of hone j f hj
  have hjl : j < fs.size := (Array.getElem?_eq_some_iff.1 hj).1
  have h1 := hf j f hj
  have e1 : (cs.drop j).take 1 = [cs[j]'(by omega)] := by
    rw [List.drop_eq_getElem_cons (by omega)]; rfl
  rw [ho, hk, e1, List.getElem?_eq_getElem (by omega)] at h1
  exact ⟨_, h1⟩
end
variable {H : Type} {enc : TypeId × Value → H} {w : World} {base : Nat} {spare : Nat → Bool} {held : Bool}
set_option maxRecDepth 100000 in
theorem spot_of {W : World} {r : Reach} {base2 : Nat} {v : Value} {d : DataW H} {ps : List MemPlace} (hv : Value.okWide Tryd.prog W r base2 25 v) (h : DataW.Trod enc Tryd.prog w base spare held 25 v d ps) :
    ∃ a b, v = .agg #[.int .i64 a, .int .i64 b] := by
  obtain ⟨cs, rfl, hsz⟩ := okWide_struct Tryd.underlying25 hv
  have hsz2 : cs.size = 2 := hsz.trans (by kernel_rfl)
  obtain ⟨fuel, hf⟩ := h
  have hcl : (Value.agg cs).cells.toList = cs.toList := rfl
  rw [hcl] at hf
  obtain ⟨m, hm⟩ := fields_of Tryd.underlying25 (by kernel_rfl) hf (by simpa using hsz2)
  obtain ⟨y0, h0⟩ := hm 0 _ rfl
  obtain ⟨y1, h1⟩ := hm 1 _ rfl
  obtain ⟨x0, e0, _, _⟩ := DataW.trod_int Tryd.underlying3 h0
  obtain ⟨x1, e1, _, _⟩ := DataW.trod_int Tryd.underlying3 h1
  simp only [List.cons.injEq, and_true] at e0 e1
  refine ⟨x0, x1, ?_⟩
  congr 1
  apply Array.ext'
  apply List.ext_getElem
  · simpa using hsz2
  · intro i hi hj
    have hi2 : i < 2 := by rw [Array.length_toList, hsz2] at hi; exact hi
    have : i = 0 ∨ i = 1 := by omega
    rcases this with rfl | rfl
    · simpa using e0
    · simpa using e1
set_option maxRecDepth 100000 in
theorem strs_of {a : Option Addr} {n c : Nat} {d : DataW H} {ps : List MemPlace} (h : DataW.Trod enc Tryd.prog w base spare held 22 (.slice a n c) d ps) : Strs w a n := by
  obtain ⟨fuel, hf⟩ := h
  intro i hil
  rcases open_slice Tryd.underlying22 hf with ⟨hcs, _⟩ | ⟨A, l, c, m, k, D, Pl, hcs, _, hl, hm, hmm, _, hi⟩
  · simp [Value.cells] at hcs
    obtain ⟨rfl, rfl, rfl⟩ := hcs
    exact absurd hil (Nat.not_lt_zero i)
  · simp [Value.cells] at hcs
    obtain ⟨rfl, rfl, rfl⟩ := hcs
    have hC : Tryd.prog.cellsOf 9 = 1 := by kernel_rfl
    have him : i < m := by rw [hmm]; split <;> omega
    obtain ⟨cs', hc, ht'⟩ := hi i him
    rw [hC] at hc
    obtain ⟨_, hcl, hat⟩ := World.cells?_some hc
    obtain ⟨b, o, spot⟩ := A
    have hspot : spot = none := by
      obtain ⟨cs0, hc0, _⟩ := hi 0 (by omega)
      rw [hC] at hc0
      obtain ⟨_, hcl0, hat0⟩ := World.cells?_some hc0
      have h0 := hat0 0 (by omega)
      rw [List.getElem?_eq_getElem (by omega), add_add] at h0
      simpa [Addr.add] using World.cell?_spot h0
    subst hspot
    obtain ⟨v, rfl⟩ : ∃ v, cs' = [v] := List.length_eq_one_iff.1 hcl
    have h1 := hat 0 (by omega)
    rw [add_add, add_plain] at h1
    obtain ⟨s, e, _⟩ := DataW.trod_string Tryd.underlying9 ht'
    simp only [List.cons.injEq, and_true] at e
    subst e
    exact ⟨b, o, s, rfl, by simpa using h1⟩
end Go.Proofs.YtppablpbpimloaaDoor.Open
