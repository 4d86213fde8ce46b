/- Rows of bytes in memory: those that are read, those that a call owns, and what append, a store and a new block do to them. Conditions: as each law says. -/
import Derived.Test.YtnnhigojgdcdlaaProg
import Derived.WalkKit
import Derived.KernelRfl
import Derived.Maps.AppendAt
import Derived.Lib.SmallJoins
import Derived.Lib.Hide
import Derived.Lib.SlBytesConst
import Derived.Test.YtnnhigojgdcdlaaCrcInt
namespace Go.Proofs.Ytnnhigojgdcdlaa.Mem
open Go.RowKit Go.Joins Go.Proofs.Ytnnhigojgdcdlaa.Crc
def kv (c : UInt8) : Value := .int .u8 (K c)
/-- The slice at A of n bytes reads as l. -/
def Reads (w : World) (A : Option Addr) (n : Nat) (l : List UInt8) : Prop :=
  l.length = n ∧ ∀ i (h : i < l.length), ∃ b o, A = some ⟨b, o, none⟩ ∧ w.cell? ⟨b, o + i, none⟩ = some (.int .u8 (K l[i]))
theorem Reads.nil (w : World) (A : Option Addr) : Reads w A 0 [] := ⟨rfl, fun i h => by simp at h⟩
theorem Reads.len {w : World} {A : Option Addr} {n : Nat} {l : List UInt8} (h : Reads w A n l) : l.length = n := h.1
theorem Reads.block {w : World} {b : Nat} {cs : Array Value} {t : TypeId} {fr : Nat × Nat} {n : Nat} {l : List UInt8} (h : w.heap[b]? = some (.cells cs t fr)) (hn : l.length = n) (hc : ∀ i (hi : i < l.length), cs[i]? = some (.int .u8 (K l[i]))) : Reads w (some ⟨b, 0, none⟩) n l :=
  ⟨hn, fun i hi => ⟨b, 0, rfl, by rw [Nat.zero_add]; simpa [World.cell?, h] using hc i hi⟩⟩
theorem Reads.move {w w' : World} {A : Option Addr} {n : Nat} {l : List UInt8} (h : Reads w A n l) (hb : ∀ b o, A = some ⟨b, o, none⟩ → b < w.heap.size → w'.heap[b]? = w.heap[b]?) : Reads w' A n l := by
  refine ⟨h.1, fun i hi => ?_⟩
  obtain ⟨b, o, ha, hc⟩ := h.2 i hi
  have hlt : b < w.heap.size := World.block_lt_of_cell? _ _ hc
  exact ⟨b, o, ha, (World.cell?_of_block (w := w) (hb b o ha hlt)).trans hc⟩
theorem Reads.below {w w' : World} {B : Nat} {A : Option Addr} {n : Nat} {l : List UInt8} (h : Reads w A n l) (hb : Below B w w') (hB : w.heap.size ≤ B) : Reads w' A n l :=
  h.move fun b _ _ hlt => hb.block b (by omega)
/-- A row of bytes of the call's own, from block B on. -/
def Own (w : World) (B : Nat) (A : Option Addr) (n c : Nat) (l : List UInt8) : Prop := l.length = n ∧ w.ownsRow B 5 1 (.slice A n c) n (l.map kv)
def blk : Option Addr → Option Nat := fun A => A.map (·.block)
section
variable {w w' : World} {B : Nat} {A : Option Addr} {n c : Nat} {l : List UInt8}
theorem Own.nil (w : World) (B : Nat) : Own w B none 0 0 [] := ⟨rfl, World.ownsRow_nil _ _ _ _⟩
theorem Own.len (h : Own w B A n c l) : l.length = n := h.1
theorem Own.shape (h : Own w B A n c l) : (A = none ∧ n = 0 ∧ c = 0 ∧ l = []) ∨ ∃ g cur, A = some ⟨g, 0, none⟩ ∧ B ≤ g ∧ g < w.heap.size ∧ w.heap[g]? = some (.cells cur 5 (0, 0)) ∧ n ≤ c ∧ c ≤ maxLen ∧ cur.size = c ∧ cur.toList.take n = l.map kv := by
  obtain ⟨h0, h1, h2⟩ := h
  rcases h2 with ⟨h2, h3⟩ | ⟨g, cap, cur, hv, hb, hg, hn, hm, hs, ht⟩
  · simp at h2
    subst h3
    exact .inl ⟨h2.1, rfl, h2.2.2, List.length_eq_zero_iff.1 h0⟩
  · simp at hv
    obtain ⟨rfl, rfl⟩ := hv
    exact .inr ⟨g, cur, rfl, hb, (Array.getElem?_eq_some_iff.1 hg).1, hg, hn, hm, by simpa using hs, by simpa using ht⟩
theorem Own.reads (h : Own w B A n c l) : Reads w A n l := by
  rcases h.shape with ⟨rfl, rfl, rfl, rfl⟩ | ⟨g, cur, rfl, _, _, hg, _, _, _, ht⟩
  · exact Reads.nil _ _
  · refine Reads.block hg h.1 fun i hi => ?_
    have h1 : (l.map kv)[i]? = some (kv l[i]) := by simp [hi]
    rw [← ht, List.getElem?_take] at h1
    have hlt : i < n := h.1 ▸ hi
    rw [if_pos hlt] at h1
    simpa [kv] using h1
theorem Own.move (h : Own w B A n c l) (hb : ∀ g, blk A = some g → g < w.heap.size → w'.heap[g]? = w.heap[g]?) : Own w' B A n c l := by
  refine ⟨h.1, h.2.1, ?_⟩
  rcases h.2.2 with h2 | ⟨g, cap, cur, hv, hB, hg, r⟩
  · exact .inl h2
  · refine .inr ⟨g, cap, cur, hv, hB, ?_, r⟩
    simp at hv
    rw [hb g (by rw [hv.1]; rfl) (Array.getElem?_eq_some_iff.1 hg).1]
    exact hg
theorem Own.below {D : Nat} (h : Own w B A n c l) (hb : Below D w w') (hB : w.heap.size ≤ D) : Own w' B A n c l := h.move fun g _ hlt => hb.block g (by omega)
theorem Own.alloc (h : Own w B A n c l) (o : Obj) : Own (w.alloc o) B A n c l := ⟨h.1, h.2.alloc o⟩
theorem Own.grown {row : Option Nat} (h : Own w B A n c l) (hg : w.grownBy w' row) (hr : ∀ g, blk A = some g → row ≠ some g) : Own w' B A n c l :=
  h.move fun g he hlt => hg.block g hlt (fun e => hr g he e.symm)
theorem Own.lower {B' : Nat} (h : Own w B A n c l) (hB : B' ≤ B) : Own w B' A n c l := by
  refine ⟨h.1, h.2.1, ?_⟩
  rcases h.2.2 with h2 | ⟨g, cap, cur, hv, hb, r⟩
  · exact .inl h2
  · exact .inr ⟨g, cap, cur, hv, Nat.le_trans hB hb, r⟩
theorem Own.blk_ge (h : Own w B A n c l) : ∀ g, blk A = some g → B ≤ g ∧ g < w.heap.size := by
  intro g hg
  rcases h.shape with ⟨rfl, _⟩ | ⟨g', cur, rfl, hb, hlt, _⟩
  · simp [blk] at hg
  · simp [blk] at hg; subst hg; exact ⟨hb, hlt⟩
/-- Where there is an element: where it lies, that it may be written, and what is owned behind a store. -/
theorem Own.at (h : Own w B A n c l) (i : Nat) (hi : i < l.length) : ∃ g, A = some ⟨g, 0, none⟩ ∧ B ≤ g ∧ g < w.heap.size ∧ w.cell? ⟨g, i, none⟩ = some (.int .u8 (K l[i])) ∧ w.frozen? ⟨g, i, none⟩ = false ∧
    ∀ x, Own (w.setCell ⟨g, i, none⟩ (.int .u8 (K x))) B A n c (l.set i x) := by
  rcases h.shape with ⟨rfl, rfl, rfl, rfl⟩ | ⟨g, cur, rfl, hB, hlt, hg, hn, hm, hs, ht⟩
  · simp at hi
  · have hin : i < n := h.1 ▸ hi
    obtain ⟨b, o, hb, hc⟩ := h.reads.2 i hi
    simp at hb
    obtain ⟨rfl, rfl⟩ := hb
    rw [Nat.zero_add] at hc
    refine ⟨g, rfl, hB, hlt, hc, unfrozen_of_block hg i, fun x => ⟨by rw [List.length_set, h.1], by rw [List.length_map, List.length_set, h.1, Nat.mul_one], .inr ⟨g, c, cur.setIfInBounds i (.int .u8 (K x)), rfl, hB, ?_, hn, hm, by simp [hs], ?_⟩⟩⟩
    · exact block_setCell hg _
    · rw [Nat.mul_one, Array.toList_setIfInBounds, List.take_set, ht, List.map_set]; rfl
/-- A block that was just laid. -/
theorem Own.lit (w : World) (cs : Array Value) (n : Nat) (l : List UInt8) (hB : B ≤ w.heap.size) (hn : l.length = n) (hm : n ≤ maxLen) (hc : cs.toList = l.map kv) : Own (w.alloc (.cells cs 5)) B (some ⟨w.heap.size, 0, none⟩) n n l := by
  have hs : cs.size = n := by
    have := congrArg List.length hc
    rw [List.length_map, hn] at this
    simpa using this
  refine ⟨hn, by simp [hn], .inr ⟨w.heap.size, n, cs, rfl, hB, heap_alloc_new w _, Nat.le_refl _, hm, by simp [hs], ?_⟩⟩
  rw [Nat.mul_one, List.take_of_length_le (by rw [hc, List.length_map, hn]; exact Nat.le_refl _), hc]
end
theorem own_blk {A : Option Addr} {n c : Nat} : (Value.slice A n c).ownBlock = blk A := by cases A <;> rfl
theorem kv_one (l : List UInt8) : ∀ u ∈ l.map kv, u.oneCell' = true := by
  intro u hu
  obtain ⟨c, _, rfl⟩ := List.mem_map.1 hu
  rfl
theorem reads_cells {w : World} {a : Addr} {n : Nat} {l : List UInt8} (h : Reads w (some a) n l) : ∀ j u, (l.map kv)[j]? = some u → w.cell? (a.add j) = some u := by
  intro j u hu
  rw [List.getElem?_map] at hu
  by_cases hj : j < l.length
  · rw [List.getElem?_eq_getElem hj] at hu
    simp at hu
    obtain ⟨b, o, ha, hc⟩ := h.2 j hj
    simp at ha
    subst ha
    have hadd : (⟨b, o, none⟩ : Addr).add j = ⟨b, o + j, none⟩ := by unfold Addr.add; split <;> simp_all
    rw [hadd, hc, ← hu]; rfl
  · rw [List.getElem?_eq_none (by omega)] at hu
    cases hu
/-- One operation by what it comes to. -/
theorem op_ev {P : Program} {ops : Array Oper} {rest : List Oper} {o : Oper} {a : Act} {Q : Exit → Act → World → Prop} {W : World} {R : Value → World → Prop} (hgd : o.guard = none)
    (hrun : ∃ v w1, (execOp a.eval o).run P W = .ok (.value v) w1 ∧ R v w1) (h : ∀ v w1, R v w1 → wpList P ops Q rest (a.put o.dst v) w1) : wpList P ops Q (o :: rest) a W := by
  obtain ⟨v, w1, hr, h1⟩ := hrun
  refine wpList_plain hgd fun K hK => ?_
  unfold Oper.wp
  rw [hr]
  exact hK _ _ (h v w1 h1)
theorem run_app {P : Program} {W : World} {t ty : TypeId} (ht : P.underlying t = some (.slice 5)) (hinfo : (P.info? 5).map (fun i => (i.zero, i.size, i.bytes)) = some (some (.int .u8 0), 1, 1))
    {B : Nat} {A A2 : Option Addr} {n c m c2 : Nat} {l xs : List UInt8} (hown : Own W B A n c l) (hr : Reads W A2 m xs) (hnil : A2 = none → m = 0 ∧ c2 = 0) (hb : n + m ≤ 140737488355328) (hB : B ≤ W.heap.size) :
    ∃ A' c' w', (Builtin.append_ #[t, t] ty #[.slice A n c, .slice A2 m c2]).run P W = .ok (.slice A' (n + m) c') w' ∧ Own w' B A' (n + m) c' (l ++ xs) ∧ W.grownBy w' (blk A) ∧ (∀ g, blk A' = some g → blk A = some g ∨ W.heap.size ≤ g) := by
  obtain ⟨i0, hi, hzz⟩ := Option.map_eq_some_iff.1 hinfo
  simp only [Prod.mk.injEq] at hzz
  obtain ⟨hz0, hz1, hz2⟩ := hzz
  cases A2 with
  | none =>
    obtain ⟨rfl, rfl⟩ := hnil rfl
    have hx : xs = [] := List.length_eq_zero_iff.1 hr.1
    subst hx
    refine ⟨A, c, W, ?_, ?_, ⟨rfl, rfl, rfl, Nat.le_refl _, fun _ _ _ => rfl⟩, fun _ h => .inl h⟩
    · exact run_append_owned_none (P := P) (w := W) B t ty 5 i0 1 ht hi _ n _ hown.2
    · rw [List.append_nil]; exact hown
  | some ad =>
    obtain ⟨v', w', hrun, ho, hg, _, hat⟩ := run_append_own_at (P := P) W B t ty 5 i0 (.int .u8 0) 1 1 ht hi hz0 hz1 hz2 rfl (by decide) _ n _ hown.2 ad m c2 (xs.map kv) (by rw [List.length_map, hr.1, Nat.mul_one]) (reads_cells hr) (kv_one xs)
      (by simp only [maxLen]; omega) (by omega) hB
    have hshape : ∃ A' c', v' = .slice A' (n + m) c' := by
      rcases ho.2 with ⟨hv, h0⟩ | ⟨g, cap, cur, hv, _⟩
      · exact ⟨none, 0, by rw [hv, h0]⟩
      · exact ⟨_, cap, hv⟩
    obtain ⟨A', c', rfl⟩ := hshape
    rw [own_blk] at hg
    rw [own_blk, own_blk] at hat
    refine ⟨A', c', w', hrun, ⟨by rw [List.length_append, hown.1, hr.1], ?_⟩, hg, ?_⟩
    · rw [List.map_append]; exact ho
    · intro g he
      rcases hat with h | h
      · exact .inl (h ▸ he)
      · rw [h] at he
        injection he with he
        exact .inr (by omega)
theorem app_law {P : Program} {ops : Array Oper} {rest : List Oper} {o : Oper} {a : Act} {Q : Exit → Act → World → Prop} {W : World} (hgd : o.guard = none) (s x : Operand) (t : TypeId)
    (ho : o.op = .call { callee := .builtin .append, args := #[s, x], argTypes := #[t, t] }) (ht : P.underlying t = some (.slice 5)) (hinfo : (P.info? 5).map (fun i => (i.zero, i.size, i.bytes)) = some (some (.int .u8 0), 1, 1))
    {B : Nat} {A A2 : Option Addr} {n c m c2 : Nat} {l xs : List UInt8} (hs : a.eval s = .slice A n c) (hx : a.eval x = .slice A2 m c2) (hown : Own W B A n c l) (hr : Reads W A2 m xs) (hnil : A2 = none → m = 0 ∧ c2 = 0) (hb : n + m ≤ 140737488355328) (hB : B ≤ W.heap.size)
    (h : ∀ A' c' w', Own w' B A' (n + m) c' (l ++ xs) → W.grownBy w' (blk A) → (∀ g, blk A' = some g → blk A = some g ∨ W.heap.size ≤ g) → wpList P ops Q rest (a.put o.dst (.slice A' (n + m) c')) w') : wpList P ops Q (o :: rest) a W := by
  obtain ⟨A', c', w', hrun, h1, h2, h3⟩ := run_app (ty := o.type) ht hinfo hown hr hnil hb hB
  refine op_ev hgd (R := fun v w1 => v = .slice A' (n + m) c' ∧ w1 = w') ⟨.slice A' (n + m) c', w', ?_, rfl, rfl⟩ ?_
  · simp only [execOp, ho, resolve, invoke, builtin, Sem.run_bind, Sem.run_pure, Result.andThen_ok, List.map_toArray, List.map_cons, List.map_nil, hs, hx, hrun]
  · rintro v w1 ⟨rfl, rfl⟩
    exact h A' c' _ h1 h2 h3
end Go.Proofs.Ytnnhigojgdcdlaa.Mem
