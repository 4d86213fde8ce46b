/- Which blocks a piece of a walk may have turned ('Upd'), writers and readers in memory, and append of a string's bytes. Conditions: as each law says. -/
import Derived.Test.YtnnhigojgdcdlaaMem
import Derived.Lib.AppendStr
import Derived.OneCell
namespace Go.Proofs.Ytnnhigojgdcdlaa.Mem
open Go.RowKit Go.Joins Go.Proofs.Ytnnhigojgdcdlaa.Crc
/-- w' is w, but for the blocks in S and for new ones. -/
structure Upd (S : Nat → Prop) (w w' : World) : Prop where
  os : w'.os = w.os
  tape : w'.tape = w.tape
  output : w'.output = w.output
  size : w.heap.size ≤ w'.heap.size
  block : ∀ k, k < w.heap.size → ¬ S k → w'.heap[k]? = w.heap[k]?
namespace Upd
variable {S S' : Nat → Prop} {w w1 w2 : World}
theorem refl (S : Nat → Prop) (w : World) : Upd S w w := ⟨rfl, rfl, rfl, Nat.le_refl _, fun _ _ _ => rfl⟩
theorem trans (h : Upd S w w1) (h' : Upd S' w1 w2) (hs : ∀ k, k < w.heap.size → S' k → S k) : Upd S w w2 :=
  ⟨h'.os.trans h.os, h'.tape.trans h.tape, h'.output.trans h.output, Nat.le_trans h.size h'.size, fun k hk hn =>
    (h'.block k (Nat.lt_of_lt_of_le hk h.size) (fun e => hn (hs k hk e))).trans (h.block k hk hn)⟩
theorem mono (h : Upd S w w1) (hs : ∀ k, k < w.heap.size → S k → S' k) : Upd S' w w1 :=
  ⟨h.os, h.tape, h.output, h.size, fun k hk hn => h.block k hk (fun e => hn (hs k hk e))⟩
theorem alloc (h : Upd S w w1) (o : Obj) : Upd S w (w1.alloc o) :=
  h.trans (S' := S) ⟨rfl, rfl, rfl, by simp, fun _ hk _ => heap_alloc_old w1 o hk⟩ (fun _ _ e => e)
theorem setCell (h : Upd S w w1) {p : Addr} (hp : p.block < w.heap.size → S p.block) (u : Value) : Upd S w (w1.setCell p u) :=
  h.trans (S' := fun k => k = p.block) ⟨rfl, rfl, rfl, by simp [World.setCell], fun k _ hn => Below.heap_setCell w1 p u k hn⟩ (fun k hk e => by subst e; exact hp hk)
theorem drewN (h : Upd S w w1) (n : Nat) : Upd S w (w1.drewN n) := ⟨h.os, h.tape, h.output, h.size, h.block⟩
theorem drew (h : Upd S w w1) : Upd S w w1.drew := ⟨h.os, h.tape, h.output, h.size, h.block⟩
theorem grown {row : Option Nat} (h : Upd S w w1) (hg : w1.grownBy w2 row) (hr : ∀ k, k < w.heap.size → row = some k → S k) : Upd S w w2 :=
  h.trans (S' := fun k => row = some k) ⟨hg.os, hg.tape, hg.output, hg.size, fun k hk hn => hg.block k hk (fun e => hn e.symm)⟩ hr
theorem below {B : Nat} (h : Upd S w w1) (hs : ∀ k, k < w.heap.size → S k → B ≤ k) (hB : B ≤ w.heap.size) : Below B w w1 :=
  ⟨h.os, h.tape, h.output, h.size, fun k hk => h.block k (by omega) (fun e => by have := hs k (by omega) e; omega)⟩
theorem ofBelow {B : Nat} (h : Below B w w1) : Upd (fun k => B ≤ k) w w1 := ⟨h.os, h.tape, h.output, h.size, fun k _ hn => h.block k (by omega)⟩
end Upd
theorem Reads.upd {S : Nat → Prop} {w w' : World} {A : Option Addr} {n : Nat} {l : List UInt8} (h : Reads w A n l) (hu : Upd S w w') (hs : ∀ b, blk A = some b → 0 < n → ¬ S b) : Reads w' A n l := by
  refine ⟨h.1, fun i hi => ?_⟩
  obtain ⟨b, o, rfl, hc⟩ := h.2 i hi
  have hlt : b < w.heap.size := World.block_lt_of_cell? _ _ hc
  exact ⟨b, o, rfl, (World.cell?_of_block (w := w) (hu.block b hlt (hs b rfl (by have := h.1; omega)))).trans hc⟩
theorem Own.upd {S : Nat → Prop} {w w' : World} {B : Nat} {A : Option Addr} {n c : Nat} {l : List UInt8} (h : Own w B A n c l) (hu : Upd S w w') (hs : ∀ b, blk A = some b → ¬ S b) : Own w' B A n c l :=
  h.move fun g he hlt => hu.block g hlt (hs g he)
theorem run_app_str {P : Program} {W : World} {t u ty : TypeId} (ht : P.underlying t = some (.slice 5)) (hu : P.underlying u = some .string) (hinfo : (P.info? 5).map (fun i => (i.zero, i.size, i.bytes)) = some (some (.int .u8 0), 1, 1))
    {B : Nat} {A : Option Addr} {n c : Nat} {l : List UInt8} (hown : Own W B A n c l) (s : ByteArray) (hb : n + s.size ≤ 140737488355328) (hB : B ≤ W.heap.size) :
    ∃ A' c' w', (Builtin.append_ #[t, u] ty #[.slice A n c, .string s]).run P W = .ok (.slice A' (n + s.size) c') w' ∧ Own w' B A' (n + s.size) c' (l ++ s.data.toList) ∧ W.grownBy w' (blk A) ∧ (∀ g, blk A' = some g → blk A = some g ∨ W.heap.size ≤ g) := by
  obtain ⟨i0, hi, hzz⟩ := Option.map_eq_some_iff.1 hinfo
  simp only [Prod.mk.injEq] at hzz
  obtain ⟨hz0, hz1, hz2⟩ := hzz
  have law : ∀ B', B' ≤ W.heap.size → W.ownsRow B' 5 1 (.slice A n c) n (l.map kv) → ∃ A' c' w', (Builtin.append_ #[t, u] ty #[.slice A n c, .string s]).run P W = .ok (.slice A' (n + s.size) c') w' ∧ Own w' B' A' (n + s.size) c' (l ++ s.data.toList) ∧ W.grownBy w' (blk A) := by
    intro B' hB' ho'
    obtain ⟨v', w', hrun, ho, hg, _⟩ := Lib.run_append_own_string (P := P) W B' t u ty 5 i0 ht hu hi hz0 hz1 hz2 _ n _ ho' s (by simp only [maxLen]; omega) hb hB'
    have hshape : ∃ A' c', v' = .slice A' (n + s.size) c' := by
      rcases ho.2 with ⟨hv, h0⟩ | ⟨g, cap, cur, hv, _⟩
      · exact ⟨none, 0, by rw [hv, h0]⟩
      · exact ⟨_, cap, hv⟩
    obtain ⟨A', c', rfl⟩ := hshape
    rw [own_blk] at hg
    have hs : s.data.toList.length = s.size := Array.length_toList
    refine ⟨A', c', w', hrun, ⟨by rw [List.length_append, hown.1, hs], ?_⟩, hg⟩
    have e : (l ++ s.data.toList).map kv = l.map kv ++ Lib.strCells s := by
      rw [List.map_append]; rfl
    rw [e]; exact ho
  rcases hown.shape with ⟨rfl, rfl, rfl, rfl⟩ | ⟨g, cur, rfl, hBg, hlt, hg, hn, hm, hcs, htk⟩
  · obtain ⟨A', c', w', h1, h2, h3⟩ := law W.heap.size (Nat.le_refl _) (World.ownsRow_nil _ _ _ _)
    exact ⟨A', c', w', h1, h2.lower hB, h3, fun g hg => .inr (h2.blk_ge g hg).1⟩
  · obtain ⟨A', c', w', h1, h2, h3⟩ := law B hB hown.2
    refine ⟨A', c', w', h1, h2, h3, ?_⟩
    by_cases hroom : n + s.size ≤ c
    · have hr := Lib.run_append_room_string (P := P) W t u ty 5 i0 ht hu hi hz1 g n c cur hg s hroom (by omega)
      rw [hr] at h1
      injection h1 with h1 _
      injection h1 with h1 _ _
      intro k hk
      rw [← h1] at hk
      exact .inl hk
    · have holds : ∀ j v, (l.map kv)[j]? = some v → W.cell? ((⟨g, 0, none⟩ : Addr).add j) = some v := reads_cells hown.reads
      have hr := Lib.run_append_grow_string (P := P) W t u ty 5 i0 (.int .u8 0) ht hu hi hz0 ⟨g, 0, none⟩ n c (l.map kv) (by rw [List.length_map, hown.1, hz1, Nat.mul_one]) holds s (by omega) (by omega) (by rw [hz2]; exact growslice_fits (by omega) (by omega))
      rw [hr] at h1
      injection h1 with h1 _
      injection h1 with h1 _ _
      intro k hk
      rw [← h1] at hk
      simp [blk] at hk
      exact .inr (by omega)
theorem app_str_law {P : Program} {ops : Array Oper} {rest : List Oper} {o : Oper} {a : Act} {Q : Exit → Act → World → Prop} {W : World} (hgd : o.guard = none) (s x : Operand) (t u : TypeId)
    (ho : o.op = .call { callee := .builtin .append, args := #[s, x], argTypes := #[t, u] }) (ht : P.underlying t = some (.slice 5)) (hu : P.underlying u = some .string) (hinfo : (P.info? 5).map (fun i => (i.zero, i.size, i.bytes)) = some (some (.int .u8 0), 1, 1))
    {B : Nat} {A : Option Addr} {n c : Nat} {l : List UInt8} (hs : a.eval s = .slice A n c) (hown : Own W B A n c l) {y : ByteArray} (hx : a.eval x = .string y) (hb : n + y.size ≤ 140737488355328) (hB : B ≤ W.heap.size)
    (h : ∀ A' c' w', Own w' B A' (n + y.size) c' (l ++ y.data.toList) → W.grownBy w' (blk A) → (∀ g, blk A' = some g → blk A = some g ∨ W.heap.size ≤ g) → wpList P ops Q rest (a.put o.dst (.slice A' (n + y.size) c')) w') : wpList P ops Q (o :: rest) a W := by
  obtain ⟨A', c', w', hrun, h1, h2, h3⟩ := run_app_str (ty := o.type) ht hu hinfo hown y hb hB
  refine op_ev hgd (R := fun v w1 => v = .slice A' (n + y.size) c' ∧ w1 = w') ⟨.slice A' (n + y.size) c', w', ?_, rfl, rfl⟩ ?_
  · simp only [execOp, ho, resolve, invoke, builtin, Sem.run_bind, Sem.run_pure, Result.andThen_ok, List.map_toArray, List.map_cons, List.map_nil, hs, hx, hrun]
  · rintro v w1 ⟨rfl, rfl⟩
    exact h A' c' _ h1 h2 h3
/-- A writer: a block of one cell, which holds the slice of what was written. -/
def WAt (T : TypeId) (w : World) (p : Nat) (l : List UInt8) : Prop :=
  ∃ A n c, w.heap[p]? = some (.cells #[.slice A n c] T (0, 0)) ∧ Own w 0 A n c l
/-- The blocks that a writer at p holds. -/
def Foot (w : World) (p : Nat) (k : Nat) : Prop := k = p ∨ ∃ A n c T, w.heap[p]? = some (.cells #[.slice A n c] T (0, 0)) ∧ blk A = some k
theorem own_ne {w : World} {B p T : Nat} {A : Option Addr} {n c : Nat} {l : List UInt8} {cs : Array Value} {fr : Nat × Nat} (ho : Own w B A n c l) (hp : w.heap[p]? = some (.cells cs T fr)) (hT : T ≠ 5) : ∀ k, blk A = some k → k ≠ p := by
  intro k hk e
  subst e
  rcases ho.shape with ⟨rfl, _⟩ | ⟨g, cur, rfl, _, _, hg, _⟩
  · cases hk
  · simp [blk] at hk
    subst hk
    rw [hg] at hp
    simp at hp
    exact hT hp.2.1.symm
/-- What a writing leaves: the slice appended to in world W (which is w and new blocks), then stored. -/
theorem WAt.wrote {T p : Nat} {w W w1 : World} {A A' : Option Addr} {n c n' c' : Nat} {l l' : List UInt8} (hT : T ≠ 5) (hp : w.heap[p]? = some (.cells #[.slice A n c] T (0, 0))) (ho : Own w 0 A n c l)
    (hW : Upd (fun _ => False) w W) (hg : W.grownBy w1 (blk A)) (ho' : Own w1 0 A' n' c' l') (hat : ∀ g, blk A' = some g → blk A = some g ∨ W.heap.size ≤ g) :
    WAt T (w1.setCell ⟨p, 0, none⟩ (.slice A' n' c')) p l' ∧ Upd (Foot w p) w (w1.setCell ⟨p, 0, none⟩ (.slice A' n' c')) ∧ (∀ k, Foot (w1.setCell ⟨p, 0, none⟩ (.slice A' n' c')) p k → Foot w p k ∨ w.heap.size ≤ k) := by
  have hlt := lt_of_block hp
  have hpW : W.heap[p]? = some (.cells #[.slice A n c] T (0, 0)) := (hW.block p hlt (fun h => h)).trans hp
  have hp1 : w1.heap[p]? = some (.cells #[.slice A n c] T (0, 0)) := (hg.block p (Nat.lt_of_lt_of_le hlt hW.size) (fun e => own_ne ho hp hT p e.symm rfl)).trans hpW
  have hp2 := one_setCell (u := .slice A' n' c') hp1
  refine ⟨⟨A', n', c', hp2, ?_⟩, ?_, ?_⟩
  · refine ho'.move fun g he hlt' => Below.heap_setCell _ _ _ _ ?_
    exact own_ne ho' hp1 hT g he
  · refine ((hW.mono (fun _ _ h => h.elim)).grown hg ?_).setCell (fun _ => .inl rfl) _
    intro k _ he
    exact .inr ⟨A, n, c, T, hp, he⟩
  · rintro k (rfl | ⟨A2, n2, c2, T2, h2, hk⟩)
    · exact .inl (.inl rfl)
    · rw [hp2] at h2
      simp at h2
      obtain ⟨⟨rfl, rfl, rfl⟩, rfl⟩ := h2
      rcases hat k hk with h | h
      · exact .inl (.inr ⟨A, n, c, _, hp, h⟩)
      · exact .inr (Nat.le_trans hW.size h)
theorem wat_kept {T p : Nat} {w W w1 : World} {A : Option Addr} {n c : Nat} {l : List UInt8} (hT : T ≠ 5) (hp : w.heap[p]? = some (.cells #[.slice A n c] T (0, 0))) (ho : Own w 0 A n c l)
    (hW : Upd (fun _ => False) w W) (hg : W.grownBy w1 (blk A)) : w1.cell? ⟨p, 0, none⟩ = some (.slice A n c) ∧ w1.frozen? ⟨p, 0, none⟩ = false := by
  have hlt := lt_of_block hp
  have hpW : W.heap[p]? = some (.cells #[.slice A n c] T (0, 0)) := (hW.block p hlt (fun h => h)).trans hp
  have hp1 : w1.heap[p]? = some (.cells #[.slice A n c] T (0, 0)) := (hg.block p (Nat.lt_of_lt_of_le hlt hW.size) (fun e => own_ne ho hp hT p e.symm rfl)).trans hpW
  exact ⟨cell_of_one hp1, free_of_one hp1⟩
theorem wrote_parts {T p : Nat} {w W w1 : World} {A A' : Option Addr} {n c n' c' : Nat} {l l' : List UInt8} (hT : T ≠ 5) (hp : w.heap[p]? = some (.cells #[.slice A n c] T (0, 0))) (ho : Own w 0 A n c l)
    (hW : Upd (fun _ => False) w W) (hg : W.grownBy w1 (blk A)) (ho' : Own w1 0 A' n' c' l') : (w1.setCell ⟨p, 0, none⟩ (.slice A' n' c')).heap[p]? = some (.cells #[.slice A' n' c'] T (0, 0)) ∧ Own (w1.setCell ⟨p, 0, none⟩ (.slice A' n' c')) 0 A' n' c' l' := by
  have hlt := lt_of_block hp
  have hpW : W.heap[p]? = some (.cells #[.slice A n c] T (0, 0)) := (hW.block p hlt (fun h => h)).trans hp
  have hp1 : w1.heap[p]? = some (.cells #[.slice A n c] T (0, 0)) := (hg.block p (Nat.lt_of_lt_of_le hlt hW.size) (fun e => own_ne ho hp hT p e.symm rfl)).trans hpW
  exact ⟨one_setCell hp1, ho'.move fun g he _ => Below.heap_setCell _ _ _ _ (own_ne ho' hp1 hT g he)⟩
/-- What a writing leaves, as one word. -/
def Wrote (T : TypeId) (w : World) (p : Nat) (l' : List UInt8) (w' : World) : Prop :=
  WAt T w' p l' ∧ Upd (Foot w p) w w' ∧ (∀ k, Foot w' p k → Foot w p k ∨ w.heap.size ≤ k)
theorem Wrote.trans {T p : Nat} {w w1 w2 : World} {l l' : List UInt8} (h : Wrote T w p l w1) (h' : Wrote T w1 p l' w2) : Wrote T w p l' w2 := by
  refine ⟨h'.1, h.2.1.trans h'.2.1 fun k hk hf => ?_, fun k hk => ?_⟩
  · rcases h.2.2 k hf with h3 | h3
    · exact h3
    · omega
  · rcases h'.2.2 k hk with h3 | h3
    · exact h.2.2 k h3
    · exact .inr (Nat.le_trans h.2.1.size h3)
theorem Reads.one (W : World) (c : UInt8) (t : TypeId) : Reads (W.alloc (.cells #[.int .u8 (K c)] t)) (some ⟨W.heap.size, 0, none⟩) 1 [c] := by
  refine Reads.block (heap_alloc_new W _) rfl ?_
  intro i hi
  have : i < 1 := hi
  match i, this with
  | 0, _ => rfl
theorem Reads.four (W : World) (a b c d : UInt8) (t : TypeId) : Reads (W.alloc (.cells #[.int .u8 (K a), .int .u8 (K b), .int .u8 (K c), .int .u8 (K d)] t)) (some ⟨W.heap.size, 0, none⟩) 4 [a, b, c, d] := by
  refine Reads.block (heap_alloc_new W _) rfl ?_
  intro i hi
  have : i < 4 := hi
  match i, this with
  | 0, _ => rfl
  | 1, _ => rfl
  | 2, _ => rfl
  | 3, _ => rfl
theorem Reads.two (W : World) (a b : UInt8) (t : TypeId) : Reads (W.alloc (.cells #[.int .u8 (K a), .int .u8 (K b)] t)) (some ⟨W.heap.size, 0, none⟩) 2 [a, b] := by
  refine Reads.block (heap_alloc_new W _) rfl ?_
  intro i hi
  have : i < 2 := hi
  match i, this with
  | 0, _ => rfl
  | 1, _ => rfl
theorem WAt.lt {T p : Nat} {w : World} {l : List UInt8} (h : WAt T w p l) : p < w.heap.size := by
  obtain ⟨A, n, c, hp, _⟩ := h
  exact lt_of_block hp
theorem WAt.foot_lt {T p : Nat} {w : World} {l : List UInt8} (h : WAt T w p l) : ∀ k, Foot w p k → k < w.heap.size := by
  obtain ⟨A, n, c, hp, ho⟩ := h
  rintro k (rfl | ⟨A2, n2, c2, T2, h2, hk⟩)
  · exact lt_of_block hp
  · rw [hp] at h2
    simp at h2
    obtain ⟨⟨rfl, rfl, rfl⟩, rfl⟩ := h2
    exact (ho.blk_ge k hk).2
theorem WAt.foot {T p : Nat} {w : World} {l : List UInt8} {A : Option Addr} {n c : Nat} {T' : TypeId} (_h : WAt T w p l) (hp : w.heap[p]? = some (.cells #[.slice A n c] T' (0, 0))) {k : Nat} (hk : blk A = some k) : Foot w p k := .inr ⟨A, n, c, T', hp, hk⟩
theorem WAt.upd {T p : Nat} {w w' : World} {l : List UInt8} {S : Nat → Prop} (h : WAt T w p l) (hu : Upd S w w') (hs : ∀ k, Foot w p k → ¬ S k) : WAt T w' p l ∧ (∀ k, Foot w' p k → Foot w p k) := by
  obtain ⟨A, n, c, hp, ho⟩ := h
  have hp' : w'.heap[p]? = some (.cells #[.slice A n c] T (0, 0)) := (hu.block p (lt_of_block hp) (hs p (.inl rfl))).trans hp
  refine ⟨⟨A, n, c, hp', ho.upd hu fun b hb => hs b (.inr ⟨A, n, c, T, hp, hb⟩)⟩, ?_⟩
  rintro k (rfl | ⟨A2, n2, c2, T2, h2, hk⟩)
  · exact .inl rfl
  · rw [hp'] at h2
    simp at h2
    obtain ⟨⟨rfl, rfl, rfl⟩, rfl⟩ := h2
    exact .inr ⟨A, n, c, _, hp, hk⟩
/-- A new writer. -/
theorem WAt.new (T : TypeId) (w : World) : WAt T (w.alloc (.cells #[.slice none 0 0] T)) w.heap.size [] ∧ (∀ k, Foot (w.alloc (.cells #[.slice none 0 0] T)) w.heap.size k → k = w.heap.size) := by
  have h : (w.alloc (.cells #[.slice none 0 0] T)).heap[w.heap.size]? = some (.cells #[.slice none 0 0] T (0, 0)) := heap_alloc_new w _
  refine ⟨⟨none, 0, 0, h, Own.nil _ _⟩, ?_⟩
  rintro k (rfl | ⟨A2, n2, c2, T2, h2, hk⟩)
  · rfl
  · rw [h] at h2
    simp at h2
    obtain ⟨⟨rfl, rfl, rfl⟩, rfl⟩ := h2
    cases hk
end Go.Proofs.Ytnnhigojgdcdlaa.Mem
