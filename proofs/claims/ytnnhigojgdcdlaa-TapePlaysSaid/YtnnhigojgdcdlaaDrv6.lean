/- tape.Clone: rows that are cloned one by one. Conditions: as each says. -/
import Derived.Test.YtnnhigojgdcdlaaDrv5
namespace Go.Proofs.Ytnnhigojgdcdlaa.Mem
open Go.RowKit Go.Joins Go.Proofs.Ytnnhigojgdcdlaa.Crc
/-- The rows ns are the call's own, and are bs. -/
structure Pb (w : World) (B : Nat) (ns : List Sv) (bs : List (List UInt8)) : Prop where
  len : ns.length = bs.length
  own : ∀ (i : Nat) s b, ns[i]? = some s → bs[i]? = some b → Own w B s.a s.n s.c b
  ne : ∀ (i j : Nat) s t g, ns[i]? = some s → ns[j]? = some t → i ≠ j → blk s.a = some g → blk t.a ≠ some g
theorem Pb.nil (w : World) (B : Nat) : Pb w B [] [] := ⟨rfl, fun i s b h => by simp at h, fun i j s t g h => by simp at h⟩
theorem Pb.blv {w : World} {B : Nat} {A : Option Addr} {n c : Nat} {ns : List Sv} {bs : List (List UInt8)} (h : Pb w B ns bs) (hr : RO 32 1 w B A n c (ns.map Sv.v)) : BlV w B A n c ns bs := ⟨hr, h.len, h.own, h.ne⟩
theorem Pb.move {w w' : World} {B : Nat} {ns : List Sv} {bs : List (List UInt8)} (h : Pb w B ns bs) (hb : ∀ (g : Nat) (cs : Array Value), w.heap[g]? = some (.cells cs 5 (0, 0)) → w'.heap[g]? = w.heap[g]?) : Pb w' B ns bs := by
  refine ⟨h.len, fun i s b hs hbs => (h.own i s b hs hbs).move fun g hg _ => ?_, h.ne⟩
  rcases (h.own i s b hs hbs).shape with ⟨ha, _⟩ | ⟨g', cur, ha, _, _, hh, _⟩
  · rw [ha] at hg; simp [blk] at hg
  · rw [ha] at hg; simp [blk] at hg; subst hg
    exact hb g' cur hh
theorem Pb.below {w w' : World} {B : Nat} {ns : List Sv} {bs : List (List UInt8)} (h : Pb w B ns bs) (hb : Below w.heap.size w w') : Pb w' B ns bs :=
  h.move fun g _ hg => hb.block g (Array.getElem?_eq_some_iff.1 hg).1
theorem Pb.snoc {w w' : World} {B : Nat} {ns : List Sv} {bs : List (List UInt8)} (h : Pb w B ns bs) (hb : Below w.heap.size w w') (hB : B ≤ w.heap.size) (s : Sv) (b : List UInt8) (ho : Own w' w.heap.size s.a s.n s.c b) : Pb w' B (ns ++ [s]) (bs ++ [b]) := by
  have h' := h.below hb
  have hold : ∀ (i : Nat) t g, ns[i]? = some t → blk t.a = some g → g < w.heap.size := by
    intro i t g ht hg
    obtain ⟨hi, _⟩ := List.getElem?_eq_some_iff.1 ht
    exact ((h.own i t _ ht (List.getElem?_eq_getElem (by rw [← h.len]; exact hi))).blk_ge g hg).2
  refine ⟨by rw [List.length_append, List.length_append, h.len]; rfl, fun i t d ht hd => ?_, fun i j t u g ht hu hij hg => ?_⟩
  · rw [getElem?_snoc] at ht hd
    rw [← h.len] at hd
    split at ht
    · rename_i hi; rw [if_pos hi] at hd; exact h'.own i t d ht hd
    · split at ht
      · rename_i h1 h2
        rw [if_neg h1, if_pos h2] at hd
        injection ht with ht; injection hd with hd
        subst ht hd
        exact ho.lower hB
      · cases ht
  · rw [getElem?_snoc] at ht hu
    split at ht
    · split at hu
      · exact h.ne i j t u g ht hu hij hg
      · split at hu
        · injection hu with hu; subst hu
          intro e
          have := hold i t g ht hg
          have := (ho.blk_ge g e).1
          omega
        · cases hu
    · split at ht
      · injection ht with ht; subst ht
        split at hu
        · intro e
          have := hold j u g hu e
          have := (ho.blk_ge g hg).1
          omega
        · split at hu
          · omega
          · cases hu
      · cases ht
/-- The slices of a slice of rows. -/
theorem Blks.vs {w : World} {A : Option Addr} {n c : Nat} {bs : List (List UInt8)} (h : Blks w A n c bs) : ∃ vs : List Sv, vs.length = n ∧ RR 1 w A n (vs.map Sv.v) ∧ ∀ (i : Nat) s b, vs[i]? = some s → bs[i]? = some b → Sl w s.a s.n s.c b := by
  have hel : ∀ i, i < n → ∃ (s : Sv) (b o : Nat), A = some ⟨b, o, none⟩ ∧ w.cell? ⟨b, o + i, none⟩ = some s.v ∧ ∀ l, bs[i]? = some l → Sl w s.a s.n s.c l := by
    intro i hi
    obtain ⟨b, o, A', n', c', l, ha, hl, hc, hs, _⟩ := h.at i hi
    refine ⟨⟨A', n', c'⟩, b, o, ha, hc, fun l' hl' => ?_⟩
    rw [hl] at hl'
    injection hl' with hl'
    subst hl'
    exact hs
  refine ⟨(List.range n).map fun i => if hi : i < n then (hel i hi).choose else ⟨none, 0, 0⟩, by simp, ⟨by simp, fun i hi => ?_⟩, fun i s b hs hb => ?_⟩
  · have hin : i < n := by simpa using hi
    obtain ⟨b, o, ha, hc, _⟩ := (hel i hin).choose_spec
    refine ⟨b, o, ha, ?_⟩
    simp only [List.getElem_map, List.getElem_range, dif_pos hin]
    exact hc
  · obtain ⟨hi, rfl⟩ := List.getElem?_eq_some_iff.1 hs
    have hin : i < n := by simpa using hi
    simp only [List.getElem_map, List.getElem_range, dif_pos hin]
    exact (hel i hin).choose_spec.choose_spec.choose_spec.2.2 b hb
end Go.Proofs.Ytnnhigojgdcdlaa.Mem
