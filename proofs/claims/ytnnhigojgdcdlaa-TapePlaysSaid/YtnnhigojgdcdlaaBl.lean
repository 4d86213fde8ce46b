/- A slice of rows of bytes of the call's own: what append, a store and a cut do to it. Conditions: as each law says. -/
import Derived.Test.YtnnhigojgdcdlaaTap
namespace Go.Proofs.Ytnnhigojgdcdlaa.Mem
open Go.RowKit Go.Joins Go.Proofs.Ytnnhigojgdcdlaa.Crc
/-- A slice's value. -/
structure Sv where
  a : Option Addr
  n : Nat
  c : Nat
def Sv.v (s : Sv) : Value := .slice s.a s.n s.c
/-- A slice of rows of bytes, all of the call's own, no two in one block. -/
structure BlV (w : World) (B : Nat) (A : Option Addr) (n c : Nat) (vs : List Sv) (bs : List (List UInt8)) : Prop where
  row : RO 32 1 w B A n c (vs.map Sv.v)
  len : vs.length = bs.length
  own : ∀ (i : Nat) s b, vs[i]? = some s → bs[i]? = some b → Own w B s.a s.n s.c b
  ne : ∀ (i j : Nat) s t g, vs[i]? = some s → vs[j]? = some t → i ≠ j → blk s.a = some g → blk t.a ≠ some g
def Bl (w : World) (B : Nat) (A : Option Addr) (n c : Nat) (bs : List (List UInt8)) : Prop := ∃ vs, BlV w B A n c vs bs
section
variable {w w' : World} {B : Nat} {A : Option Addr} {n c : Nat} {vs : List Sv} {bs : List (List UInt8)}
theorem BlV.count (h : BlV w B A n c vs bs) : vs.length = n ∧ bs.length = n := by
  have h1 := h.row.len
  rw [List.length_map, Nat.mul_one] at h1
  exact ⟨h1, by rw [← h.len]; exact h1⟩
theorem Bl.len (h : Bl w B A n c bs) : bs.length = n := by obtain ⟨vs, h⟩ := h; exact h.count.2
theorem BlV.nil (w : World) (B : Nat) : BlV w B none 0 0 [] [] :=
  ⟨RO.nil _ _ _ _, rfl, fun i s b h => by simp at h, fun i j s t g h => by simp at h⟩
theorem Bl.nil (w : World) (B : Nat) : Bl w B none 0 0 [] := ⟨[], BlV.nil w B⟩
theorem own_sl {w : World} {B : Nat} {A : Option Addr} {n c : Nat} {l : List UInt8} (h : Own w B A n c l) : Sl w A n c l := h.sl
theorem own_capl {w : World} {B : Nat} {A : Option Addr} {n c : Nat} {l : List UInt8} (h : Own w B A n c l) : c ≤ maxLen := by
  rcases h.shape with ⟨_, _, rfl, _⟩ | ⟨_, _, _, _, _, _, _, hm, _⟩
  · exact Nat.zero_le _
  · exact hm
theorem BlV.blks (h : BlV w B A n c vs bs) : Blks w A n c bs := by
  obtain ⟨hv, hb⟩ := h.count
  obtain ⟨c1, c2, c3⟩ := h.row.cap
  refine ⟨hb, c1, c3, fun i hi => ?_⟩
  have hiv : i < vs.length := by rw [h.len]; exact hi
  obtain ⟨b, o, ha, hc⟩ := h.row.reads.2 i (by rw [List.length_map]; exact hiv)
  rw [List.getElem_map] at hc
  have ho := h.own i _ _ (List.getElem?_eq_getElem hiv) (List.getElem?_eq_getElem hi)
  exact ⟨b, o, _, _, _, ha, hc, ho.sl, own_capl ho⟩
theorem Bl.blks (h : Bl w B A n c bs) : Blks w A n c bs := by obtain ⟨vs, h⟩ := h; exact h.blks
/-- Where none of its blocks is written. -/
theorem BlV.move (h : BlV w B A n c vs bs) (hb : ∀ g, B ≤ g → g < w.heap.size → (∃ cs T, (T = 32 ∨ T = 5) ∧ w.heap[g]? = some (.cells cs T (0, 0))) → w'.heap[g]? = w.heap[g]?) : BlV w' B A n c vs bs := by
  refine ⟨h.row.move fun g hg hlt => ?_, h.len, fun i s b hs hbs => (h.own i s b hs hbs).move fun g hg hlt => ?_, h.ne⟩
  · rcases h.row.shape with ⟨rfl, _⟩ | ⟨g', cur, rfl, hB, _, hh, _⟩
    · simp [blk] at hg
    · simp [blk] at hg; subst hg
      exact hb g' hB hlt ⟨cur, 32, .inl rfl, hh⟩
  · rcases (h.own i s b hs hbs).shape with ⟨ha, _⟩ | ⟨g', cur, ha, hB, _, hh, _⟩
    · rw [ha] at hg; simp [blk] at hg
    · rw [ha] at hg; simp [blk] at hg; subst hg
      exact hb g' hB hlt ⟨cur, 5, .inr rfl, hh⟩
theorem Bl.move (h : Bl w B A n c bs) (hb : ∀ g, B ≤ g → g < w.heap.size → (∃ cs T, (T = 32 ∨ T = 5) ∧ w.heap[g]? = some (.cells cs T (0, 0))) → w'.heap[g]? = w.heap[g]?) : Bl w' B A n c bs := by
  obtain ⟨vs, h⟩ := h; exact ⟨vs, h.move hb⟩
theorem Bl.below (h : Bl w B A n c bs) (hb : Below w.heap.size w w') : Bl w' B A n c bs := h.move fun g _ hlt _ => hb.block g hlt
theorem Bl.drew (h : Bl w B A n c bs) : Bl w.drew B A n c bs := h.move fun _ _ _ _ => rfl
theorem Bl.lower {B' : Nat} (h : Bl w B A n c bs) (hB : B' ≤ B) : Bl w B' A n c bs := by
  obtain ⟨vs, h⟩ := h
  exact ⟨vs, h.row.lower hB, h.len, fun i s b hs hb => (h.own i s b hs hb).lower hB, h.ne⟩
theorem RO.take (h : RO 32 1 w B A n c (vs.map Sv.v)) (m : Nat) (hm : m ≤ n) (h0 : A = none → m = 0) : RO 32 1 w B A m c ((vs.take m).map Sv.v) := by
  have hl := h.len
  rw [List.length_map] at hl
  rcases h.shape with ⟨rfl, rfl, rfl, hcs⟩ | ⟨g, cur, rfl, hB, hlt, hg, hn, hmx, hs, ht⟩
  · obtain rfl := h0 rfl
    rw [List.take_zero]
    exact RO.nil _ _ _ _
  · refine ⟨by rw [List.length_map, List.length_take]; omega, .inr ⟨g, c, cur, rfl, hB, hg, Nat.le_trans hm hn, hmx, hs, ?_⟩⟩
    rw [Nat.mul_one] at ht ⊢
    rw [List.map_take, ← ht, List.take_take, Nat.min_eq_left hm]
/-- The first m rows. -/
theorem BlV.take (h : BlV w B A n c vs bs) (m : Nat) (hm : m ≤ n) : BlV w B A m c (vs.take m) (bs.take m) := by
  refine ⟨h.row.take m hm (fun ha => by have := (h.row.cap.2.2 ha).1; omega), by rw [List.length_take, List.length_take, h.len], fun i s b hs hb => ?_, fun i j s t g hs ht => ?_⟩
  · rw [List.getElem?_take] at hs hb
    split at hs
    · rename_i hi; rw [if_pos hi] at hb; exact h.own i s b hs hb
    · cases hs
  · rw [List.getElem?_take] at hs ht
    split at hs
    · split at ht
      · exact h.ne i j s t g hs ht
      · cases ht
    · cases hs
theorem Bl.take (h : Bl w B A n c bs) (m : Nat) (hm : m ≤ n) : Bl w B A m c (bs.take m) := by obtain ⟨vs, h⟩ := h; exact ⟨_, h.take m hm⟩
end
end Go.Proofs.Ytnnhigojgdcdlaa.Mem
namespace Go.Proofs.Ytnnhigojgdcdlaa.Mem
open Go.RowKit Go.Joins Go.Proofs.Ytnnhigojgdcdlaa.Crc
section
variable {w w' W : World} {B : Nat} {A A' : Option Addr} {n c c' : Nat} {vs : List Sv} {bs : List (List UInt8)}
theorem own_row_ne {a : Option Addr} {m k : Nat} {l : List UInt8} {cs : List Value} {B' : Nat} (h : Own w B' a m k l) (h2 : RO 32 1 w B A n c cs) : ∀ g, blk a = some g → blk A ≠ some g := by
  intro g hg hg'
  rcases h.shape with ⟨rfl, _⟩ | ⟨p, cur, rfl, _, _, hp, _⟩
  · simp [blk] at hg
  · rcases h2.shape with ⟨rfl, _⟩ | ⟨q, cur', rfl, _, _, hq, _⟩
    · simp [blk] at hg'
    · simp [blk] at hg hg'
      subst hg hg'
      rw [hp] at hq
      simp at hq
theorem getElem?_snoc {α : Type} (l : List α) (x : α) (i : Nat) : (l ++ [x])[i]? = if i < l.length then l[i]? else if i = l.length then some x else none := by
  by_cases h : i < l.length
  · rw [if_pos h, List.getElem?_append_left h]
  · rw [if_neg h, List.getElem?_append_right (by omega)]
    by_cases h2 : i = l.length
    · subst h2; simp
    · rw [if_neg h2]
      exact List.getElem?_eq_none (by simp; omega)
theorem BlV.app (h : BlV W B A n c vs bs) (s : Sv) (b : List UInt8) (ho : Own W B s.a s.n s.c b) (hne : ∀ (i : Nat) t g, vs[i]? = some t → blk t.a = some g → blk s.a ≠ some g)
    (own : RO 32 1 w' B A' (n + 1) c' (vs.map Sv.v ++ [s.v])) (gr : W.grownBy w' (blk A)) : BlV w' B A' (n + 1) c' (vs ++ [s]) (bs ++ [b]) := by
  have hkeep : ∀ a m k l, Own W B a m k l → Own w' B a m k l := fun a m k l hh => hh.grown gr (fun g hg e => own_row_ne hh h.row g hg e)
  refine ⟨by rw [List.map_append]; exact own, by rw [List.length_append, List.length_append, h.len]; rfl, fun i t d ht hd => ?_, fun i j t u g ht hu hij hg => ?_⟩
  · rw [getElem?_snoc] at ht hd
    rw [← h.len] at hd
    split at ht
    · rename_i hi; rw [if_pos hi] at hd; exact hkeep _ _ _ _ (h.own i t d ht hd)
    · split at ht
      · rename_i h1 h2
        rw [if_neg h1, if_pos h2] at hd
        injection ht with ht; injection hd with hd
        subst ht hd
        exact hkeep _ _ _ _ ho
      · cases ht
  · rw [getElem?_snoc] at ht hu
    split at ht
    · split at hu
      · exact h.ne i j t u g ht hu hij hg
      · split at hu
        · injection hu with hu; subst hu; exact hne i t g ht hg
        · cases hu
    · split at ht
      · injection ht with ht; subst ht
        split at hu
        · intro e; exact hne j u g hu e hg
        · split at hu
          · omega
          · cases hu
      · cases ht
theorem BlV.lt (h : BlV w B A n c vs bs) (i : Nat) (t : Sv) (g : Nat) (ht : vs[i]? = some t) (hg : blk t.a = some g) : B ≤ g ∧ g < w.heap.size := by
  obtain ⟨hi, _⟩ := List.getElem?_eq_some_iff.1 ht
  exact (h.own i t _ ht (List.getElem?_eq_getElem (by rw [← h.len]; exact hi))).blk_ge g hg
/-- Row number i. -/
theorem Bl.at (h : Bl w B A n c bs) (i : Nat) (b : List UInt8) (hb : bs[i]? = some b) : ∃ (g : Nat) (s : Sv), A = some ⟨g, 0, none⟩ ∧ B ≤ g ∧ g < w.heap.size ∧ w.cell? ⟨g, i, none⟩ = some (.slice s.a s.n s.c) ∧ Own w B s.a s.n s.c b ∧
    ∀ j (hj : j < b.length), ∃ p, s.a = some ⟨p, 0, none⟩ ∧ B ≤ p ∧ w.cell? ⟨p, j, none⟩ = some (.int .u8 (K b[j])) ∧ w.frozen? ⟨p, j, none⟩ = false ∧ ∀ x, Bl (w.setCell ⟨p, j, none⟩ (.int .u8 (K x))) B A n c (bs.set i (b.set j x)) := by
  obtain ⟨vs, h⟩ := h
  obtain ⟨hi, rfl⟩ := List.getElem?_eq_some_iff.1 hb
  have hiv : i < vs.length := by rw [h.len]; exact hi
  obtain ⟨g, ha, hB, hlt, hc, _, _⟩ := h.row.at i (by rw [List.length_map]; exact hiv)
  rw [List.getElem_map] at hc
  have ho := h.own i _ _ (List.getElem?_eq_getElem hiv) hb
  refine ⟨g, vs[i], ha, hB, hlt, hc, ho, fun j hj => ?_⟩
  obtain ⟨p, hp, hBp, hltp, hcp, hfp, hset⟩ := ho.at j hj
  refine ⟨p, hp, hBp, hcp, hfp, fun x => ⟨vs, ?_, by rw [List.length_set, h.len], fun k s d hs hd => ?_, h.ne⟩⟩
  · refine h.row.move fun g' hg' _ => ?_
    have : g' ≠ p := by
      rintro rfl
      exact own_row_ne ho h.row g' (by rw [hp]; rfl) hg'
    exact Below.heap_setCell w ⟨p, j, none⟩ _ g' this
  · by_cases hki : k = i
    · subst hki
      rw [List.getElem?_eq_getElem hiv] at hs
      injection hs with hs
      subst hs
      rw [List.getElem?_set_self hi] at hd
      injection hd with hd
      subst hd
      exact hset x
    · rw [List.getElem?_set_ne (fun e => hki e.symm)] at hd
      have ho2 := h.own k s d hs hd
      refine ho2.move fun g' hg' _ => ?_
      have : g' ≠ p := by
        rintro rfl
        exact h.ne k i s _ g' hs (List.getElem?_eq_getElem hiv) hki hg' (by rw [hp]; rfl)
      exact Below.heap_setCell w ⟨p, j, none⟩ _ g' this
end
end Go.Proofs.Ytnnhigojgdcdlaa.Mem
