/- Rows of elements in memory: those that are read, those that a call owns, and what append does to them; a row of strings; xor by one. Conditions: as each law says. -/
import Derived.Test.YtppablpbpimloaaDoorNew
import Derived.KernelRfl
import Derived.Maps.AppendAt
import Derived.Lib.SmallJoins
import Derived.Lib.Hide
import Derived.Laws.BitsLemmas
namespace Go.Proofs.YtppablpbpimloaaDoor.Mem
open Go.RowKit Go.Joins
def blk : Option Addr → Option Nat := fun A => A.map (·.block)
theorem own_blk {A : Option Addr} {n c : Nat} : (Value.slice A n c).ownBlock = blk A := by cases A <;> rfl
/-- One operation by what it comes to. -/
theorem op_ev {P : Program} {ops : Array Oper} {rest : List Oper} {o : Oper} {a : Act} {Q : Exit → Act → World → Prop} {W : World} {R : Value → World → Prop} (hgd : o.guard = none)
    (hrun : ∃ v w1, (execOp a.eval o).run P W = .ok (.value v) w1 ∧ R v w1) (h : ∀ v w1, R v w1 → wpList P ops Q rest (a.put o.dst v) w1) : wpList P ops Q (o :: rest) a W := by
  obtain ⟨v, w1, hr, h1⟩ := hrun
  refine wpList_plain hgd fun K hK => ?_
  unfold Oper.wp
  rw [hr]
  exact hK _ _ (h v w1 h1)
/-- The slice at A of n elements of k cells reads as cs. -/
def RR (k : Nat) (w : World) (A : Option Addr) (n : Nat) (cs : List Value) : Prop :=
  cs.length = n * k ∧ ∀ i (h : i < cs.length), ∃ b o, A = some ⟨b, o, none⟩ ∧ w.cell? ⟨b, o + i, none⟩ = some cs[i]
/-- A row of the call's own, from block B on. -/
def RO (T : TypeId) (k : Nat) (w : World) (B : Nat) (A : Option Addr) (n c : Nat) (cs : List Value) : Prop := w.ownsRow B T k (.slice A n c) n cs
section
variable {T : TypeId} {k : Nat} {w w' : World} {B : Nat} {A : Option Addr} {n c : Nat} {cs : List Value}
theorem RR.nil (k : Nat) (w : World) (A : Option Addr) : RR k w A 0 [] := ⟨by simp, fun i h => by simp at h⟩
theorem RR.block {b : Nat} {l : Array Value} {t : TypeId} {fr : Nat × Nat} (h : w.heap[b]? = some (.cells l t fr)) (hn : cs.length = n * k) (hc : ∀ i (hi : i < cs.length), l[i]? = some cs[i]) : RR k w (some ⟨b, 0, none⟩) n cs :=
  ⟨hn, fun i hi => ⟨b, 0, rfl, by rw [Nat.zero_add]; simpa [World.cell?, h] using hc i hi⟩⟩
theorem RR.move (h : RR k w A n cs) (hb : ∀ b, blk A = some b → b < w.heap.size → w'.heap[b]? = w.heap[b]?) : RR k w' A n cs := by
  refine ⟨h.1, fun i hi => ?_⟩
  obtain ⟨b, o, ha, hc⟩ := h.2 i hi
  have hlt : b < w.heap.size := World.block_lt_of_cell? _ _ hc
  exact ⟨b, o, ha, (World.cell?_of_block (w := w) (hb b (by rw [ha]; rfl) hlt)).trans hc⟩
theorem RR.below (h : RR k w A n cs) (hb : Below w.heap.size w w') : RR k w' A n cs := h.move fun b _ hlt => hb.block b hlt
theorem RO.nil (T : TypeId) (k : Nat) (w : World) (B : Nat) : RO T k w B none 0 0 [] := World.ownsRow_nil _ _ _ _
theorem RO.len (h : RO T k w B A n c cs) : cs.length = n * k := h.1
theorem RO.shape (h : RO T k w B A n c cs) : (A = none ∧ n = 0 ∧ c = 0 ∧ cs = []) ∨ ∃ g cur, A = some ⟨g, 0, none⟩ ∧ B ≤ g ∧ g < w.heap.size ∧ w.heap[g]? = some (.cells cur T (0, 0)) ∧ n ≤ c ∧ c ≤ maxLen ∧ cur.size = c * k ∧ cur.toList.take (n * k) = cs := by
  obtain ⟨h1, h2⟩ := h
  rcases h2 with ⟨h2, h3⟩ | ⟨g, cap, cur, hv, hb, hg, hn, hm, hs, ht⟩
  · simp at h2
    subst h3
    exact .inl ⟨h2.1, rfl, h2.2.2, List.length_eq_zero_iff.1 (by simpa using h1)⟩
  · simp at hv
    obtain ⟨rfl, rfl⟩ := hv
    exact .inr ⟨g, cur, rfl, hb, (Array.getElem?_eq_some_iff.1 hg).1, hg, hn, hm, hs, ht⟩
theorem RO.reads (h : RO T k w B A n c cs) : RR k w A n cs := by
  rcases h.shape with ⟨rfl, rfl, rfl, rfl⟩ | ⟨g, cur, rfl, _, _, hg, _, _, _, ht⟩
  · exact RR.nil _ _ _
  · refine RR.block hg h.1 fun i hi => ?_
    have hlt : i < n * k := h.1 ▸ hi
    have h1 : cs[i]? = some cs[i] := List.getElem?_eq_getElem hi
    conv at h1 => lhs; rw [← ht]
    rw [List.getElem?_take, if_pos hlt] at h1
    simpa using h1
theorem RO.cap (h : RO T k w B A n c cs) : n ≤ c ∧ c ≤ maxLen ∧ (A = none → n = 0 ∧ c = 0) := by
  rcases h.shape with ⟨rfl, rfl, rfl, rfl⟩ | ⟨g, cur, rfl, _, _, _, h1, h2, _⟩
  · exact ⟨Nat.le_refl _, Nat.zero_le _, fun _ => ⟨rfl, rfl⟩⟩
  · exact ⟨h1, h2, fun h => by cases h⟩
theorem RO.move (h : RO T k w B A n c cs) (hb : ∀ g, blk A = some g → g < w.heap.size → w'.heap[g]? = w.heap[g]?) : RO T k w' B A n c cs := by
  refine ⟨h.1, ?_⟩
  rcases h.2 with h2 | ⟨g, cap, cur, hv, hB, hg, r⟩
  · exact .inl h2
  · refine .inr ⟨g, cap, cur, hv, hB, ?_, r⟩
    simp at hv
    rw [hb g (by rw [hv.1]; rfl) (Array.getElem?_eq_some_iff.1 hg).1]
    exact hg
theorem RO.below (h : RO T k w B A n c cs) (hb : Below w.heap.size w w') : RO T k w' B A n c cs := h.move fun g _ hlt => hb.block g hlt
theorem RO.alloc (h : RO T k w B A n c cs) (o : Obj) : RO T k (w.alloc o) B A n c cs := World.ownsRow.alloc h o
theorem RO.grown {row : Option Nat} (h : RO T k w B A n c cs) (hg : w.grownBy w' row) (hr : ∀ g, blk A = some g → row ≠ some g) : RO T k w' B A n c cs :=
  h.move fun g he hlt => hg.block g hlt (fun e => hr g he e.symm)
theorem RO.lower {B' : Nat} (h : RO T k w B A n c cs) (hB : B' ≤ B) : RO T k w B' A n c cs := by
  refine ⟨h.1, ?_⟩
  rcases h.2 with h2 | ⟨g, cap, cur, hv, hb, r⟩
  · exact .inl h2
  · exact .inr ⟨g, cap, cur, hv, Nat.le_trans hB hb, r⟩
theorem RO.blk_ge (h : RO T k w B A n c cs) : ∀ g, blk A = some g → B ≤ g ∧ g < w.heap.size := by
  intro g hg
  rcases h.shape with ⟨rfl, _⟩ | ⟨g', cur, rfl, hb, hlt, _⟩
  · simp [blk] at hg
  · simp [blk] at hg; subst hg; exact ⟨hb, hlt⟩
/-- Where there is a cell: where it lies, that it may be written, and what is owned behind a store. -/
theorem RO.at (h : RO T k w B A n c cs) (i : Nat) (hi : i < cs.length) : ∃ g, A = some ⟨g, 0, none⟩ ∧ B ≤ g ∧ g < w.heap.size ∧ w.cell? ⟨g, i, none⟩ = some cs[i] ∧ w.frozen? ⟨g, i, none⟩ = false ∧
    ∀ x, RO T k (w.setCell ⟨g, i, none⟩ x) B A n c (cs.set i x) := by
  rcases h.shape with ⟨rfl, rfl, rfl, rfl⟩ | ⟨g, cur, rfl, hB, hlt, hg, hn, hm, hs, ht⟩
  · simp at hi
  · obtain ⟨b, o, hb, hc⟩ := h.reads.2 i hi
    simp at hb
    obtain ⟨rfl, rfl⟩ := hb
    rw [Nat.zero_add] at hc
    refine ⟨g, rfl, hB, hlt, hc, unfrozen_of_block hg i, fun x => ⟨by rw [List.length_set, h.1], .inr ⟨g, c, cur.setIfInBounds i x, rfl, hB, ?_, hn, hm, by simp [hs], ?_⟩⟩⟩
    · exact block_setCell hg _
    · rw [Array.toList_setIfInBounds, List.take_set, ht]
/-- A block that was just laid. -/
theorem RO.lit (T k : Nat) (w : World) (l : Array Value) (n : Nat) (hB : B ≤ w.heap.size) (hn : l.size = n * k) (hm : n ≤ maxLen) (hc : l.toList = cs) : RO T k (w.alloc (.cells l T)) B (some ⟨w.heap.size, 0, none⟩) n n cs := by
  subst hc
  refine ⟨by simpa using hn, .inr ⟨w.heap.size, n, l, rfl, hB, heap_alloc_new w _, Nat.le_refl _, hm, hn, ?_⟩⟩
  rw [List.take_of_length_le (by simp [hn])]
end
theorem rr_cells {k : Nat} {w : World} {a : Addr} {n : Nat} {cs : List Value} (h : RR k w (some a) n cs) : ∀ j u, cs[j]? = some u → w.cell? (a.add j) = some u := by
  intro j u hu
  obtain ⟨hj, rfl⟩ := List.getElem?_eq_some_iff.1 hu
  obtain ⟨b, o, ha, hc⟩ := h.2 j hj
  simp at ha
  subst ha
  have hadd : (⟨b, o, none⟩ : Addr).add j = ⟨b, o + j, none⟩ := by unfold Addr.add; split <;> simp_all
  rw [hadd, hc]
theorem run_appR {P : Program} {W : World} {t ty T : TypeId} {k by_ : Nat} {z : Value} (ht : P.underlying t = some (.slice T)) (hinfo : (P.info? T).map (fun i => (i.zero, i.size, i.bytes)) = some (some z, k, by_)) (hzs : z.cells.size = k) (hk : 0 < k)
    {B : Nat} {A A2 : Option Addr} {n c m c2 : Nat} {l xs : List Value} (hown : RO T k W B A n c l) (hr : RR k W A2 m xs) (h1 : ∀ u ∈ xs, u.oneCell' = true) (hnil : A2 = none → m = 0 ∧ c2 = 0) (hmax : n + m ≤ maxLen) (hb : (n + m) * by_ ≤ 140737488355328) (hB : B ≤ W.heap.size) :
    ∃ A' c' w', (Builtin.append_ #[t, t] ty #[.slice A n c, .slice A2 m c2]).run P W = .ok (.slice A' (n + m) c') w' ∧ RO T k w' B A' (n + m) c' (l ++ xs) ∧ W.grownBy w' (blk A) ∧ (∀ g, blk A' = some g → blk A = some g ∨ W.heap.size ≤ g) := by
  obtain ⟨i0, hi, hzz⟩ := Option.map_eq_some_iff.1 hinfo
  simp only [Prod.mk.injEq] at hzz
  obtain ⟨hz0, hz1, hz2⟩ := hzz
  cases A2 with
  | none =>
    obtain ⟨rfl, rfl⟩ := hnil rfl
    have hx : xs = [] := List.length_eq_zero_iff.1 (by simpa using hr.1)
    subst hx
    refine ⟨A, c, W, ?_, ?_, ⟨rfl, rfl, rfl, Nat.le_refl _, fun _ _ _ => rfl⟩, fun _ h => .inl h⟩
    · exact run_append_owned_none (P := P) (w := W) B t ty T i0 k ht hi _ n _ hown
    · rw [List.append_nil]; exact hown
  | some ad =>
    obtain ⟨v', w', hrun, ho, hg, _, hat⟩ := run_append_own_at (P := P) W B t ty T i0 z k by_ ht hi hz0 hz1 hz2 hzs hk _ n _ hown ad m c2 xs hr.1 (rr_cells hr) h1 hmax hb hB
    have hshape : ∃ A' c', v' = .slice A' (n + m) c' := by
      rcases ho.2 with ⟨hv, h0⟩ | ⟨g, cap, cur, hv, _⟩
      · exact ⟨none, 0, by rw [hv, h0]⟩
      · exact ⟨_, cap, hv⟩
    obtain ⟨A', c', rfl⟩ := hshape
    rw [own_blk] at hg
    rw [own_blk, own_blk] at hat
    refine ⟨A', c', w', hrun, ho, hg, ?_⟩
    intro g he
    rcases hat with h | h
    · exact .inl (h ▸ he)
    · rw [h] at he
      injection he with he
      exact .inr (by omega)
theorem appR_law {P : Program} {ops : Array Oper} {rest : List Oper} {o : Oper} {a : Act} {Q : Exit → Act → World → Prop} {W : World} (hgd : o.guard = none) (s x : Operand) (t T : TypeId) {k by_ : Nat} {z : Value}
    (ho : o.op = .call { callee := .builtin .append, args := #[s, x], argTypes := #[t, t] }) (ht : P.underlying t = some (.slice T)) (hinfo : (P.info? T).map (fun i => (i.zero, i.size, i.bytes)) = some (some z, k, by_)) (hzs : z.cells.size = k) (hk : 0 < k)
    {B : Nat} {A A2 : Option Addr} {n c m c2 : Nat} {l xs : List Value} (hs : a.eval s = .slice A n c) (hx : a.eval x = .slice A2 m c2) (hown : RO T k W B A n c l) (hr : RR k W A2 m xs) (h1 : ∀ u ∈ xs, u.oneCell' = true) (hnil : A2 = none → m = 0 ∧ c2 = 0) (hmax : n + m ≤ maxLen) (hb : (n + m) * by_ ≤ 140737488355328) (hB : B ≤ W.heap.size)
    (h : ∀ A' c' w', RO T k w' B A' (n + m) c' (l ++ xs) → W.grownBy w' (blk A) → (∀ g, blk A' = some g → blk A = some g ∨ W.heap.size ≤ g) → wpList P ops Q rest (a.put o.dst (.slice A' (n + m) c')) w') : wpList P ops Q (o :: rest) a W := by
  obtain ⟨A', c', w', hrun, h1, h2, h3⟩ := run_appR (ty := o.type) ht hinfo hzs hk hown hr h1 hnil hmax hb hB
  refine op_ev hgd (R := fun v w1 => v = .slice A' (n + m) c' ∧ w1 = w') ⟨.slice A' (n + m) c', w', ?_, rfl, rfl⟩ ?_
  · simp only [execOp, ho, resolve, invoke, builtin, Sem.run_bind, Sem.run_pure, Result.andThen_ok, List.map_toArray, List.map_cons, List.map_nil, hs, hx, hrun]
  · rintro v w1 ⟨rfl, rfl⟩
    exact h A' c' _ h1 h2 h3
/-- A row of strings of the call's own, from block B on. -/
def SR (w : World) (B : Nat) (A : Option Addr) (n c : Nat) : Prop := ∃ cs, RO 9 1 w B A n c cs ∧ ∀ u ∈ cs, ∃ s, u = .string s
theorem SR.nil (w : World) (B : Nat) : SR w B none 0 0 := ⟨[], RO.nil 9 1 w B, fun u hu => by cases hu⟩
theorem SR.alloc {w : World} {B : Nat} {A : Option Addr} {n c : Nat} (h : SR w B A n c) (o : Obj) : SR (w.alloc o) B A n c := by
  obtain ⟨cs, ho, hs⟩ := h
  exact ⟨cs, ho.alloc o, hs⟩
theorem SR.strs {w : World} {B : Nat} {A : Option Addr} {n c : Nat} (h : SR w B A n c) : Code.Strs w A n := by
  obtain ⟨cs, ho, hs⟩ := h
  intro i hi
  have hr := ho.reads
  have hl : i < cs.length := by rw [hr.1]; omega
  obtain ⟨b, o, ha, hc⟩ := hr.2 i hl
  obtain ⟨s, e⟩ := hs _ (List.getElem_mem hl)
  exact ⟨b, o, s, ha, hc.trans (by rw [e])⟩
theorem info9 : (Tryd.prog.info? 9).map (fun i => (i.zero, i.size, i.bytes)) = some (some (.string ByteArray.empty), 1, 16) := by kernel_rfl
theorem app_sr {ops : Array Oper} {rest : List Oper} {o : Oper} {a : Act} {Q : Exit → Act → World → Prop} {W : World} (hgd : o.guard = none) (s x : Operand)
    (ho : o.op = .call { callee := .builtin .append, args := #[s, x], argTypes := #[22, 22] }) {B : Nat} {A : Option Addr} {n c q : Nat} {t : ByteArray} (hs : a.eval s = .slice A n c) (hx : a.eval x = .slice (some ⟨q, 0, none⟩) 1 1)
    (h0 : SR W B A n c) (hB : B ≤ W.heap.size) (hq : W.heap[q]? = some (.cells #[.string t] 9 (0, 0))) (hn : n ≤ 1000000)
    (h : ∀ A' c' w', SR w' B A' (n + 1) c' → Below B W w' → wpList Tryd.prog ops Q rest (a.put o.dst (.slice A' (n + 1) c')) w') : wpList Tryd.prog ops Q (o :: rest) a W := by
  obtain ⟨cs, hr, hstr⟩ := h0
  refine appR_law hgd s x 22 9 ho Tryd.underlying22 info9 rfl (by decide) hs hx hr (RR.block (cs := [.string t]) hq rfl ?_) ?_ (fun h => by cases h) (by simp only [maxLen]; omega) (by omega) hB ?_
  · intro i hi
    have : i < 1 := hi
    obtain rfl : i = 0 := by omega
    rfl
  · intro u hu
    simp at hu
    subst hu
    rfl
  · intro A' c' w' own gr _
    refine h A' c' w' ⟨_, own, fun u hu => ?_⟩ ⟨gr.os, gr.tape, gr.output, gr.size, fun k hk => gr.block k (Nat.lt_of_lt_of_le hk hB) (fun e => ?_)⟩
    · rcases List.mem_append.1 hu with h | h
      · exact hstr u h
      · exact ⟨t, List.mem_singleton.1 h⟩
    · have := (hr.blk_ge k e.symm).1
      omega
theorem ofInt_xor1 (x : Int) : BitVec.ofInt 64 (Go.bits .xor .i64 x 1) = BitVec.ofInt 64 x ^^^ 1#64 := by
  show BitVec.ofInt 64 (IntKind.i64.wrap (((BitVec.ofInt 64 x) ^^^ (BitVec.ofInt 64 1)).toNat : Int)) = _
  have e1 : BitVec.ofInt 64 1 = 1#64 := rfl
  rw [e1, IntKind.wrap_i64]
  generalize hz : BitVec.ofInt 64 x ^^^ 1#64 = z
  apply BitVec.eq_of_toNat_eq
  rw [BitVec.toNat_ofInt]
  have := z.isLt
  omega
theorem xor1_ne (x : Int) : Go.bits .xor .i64 x 1 ≠ x := by
  intro h
  have e := ofInt_xor1 x
  rw [h] at e
  have e2 := congrArg (fun v => v ^^^ BitVec.ofInt 64 x) e
  have e3 : (1#64 : BitVec 64) = 0#64 := by
    have : (BitVec.ofInt 64 x ^^^ BitVec.ofInt 64 x : BitVec 64) = BitVec.ofInt 64 x ^^^ 1#64 ^^^ BitVec.ofInt 64 x := e2
    rw [BitVec.xor_self, BitVec.xor_comm (BitVec.ofInt 64 x) 1#64, BitVec.xor_assoc, BitVec.xor_self, BitVec.xor_zero] at this
    exact this.symm
  exact absurd e3 (by decide)
theorem xor1_zero (x : Int) (hw : (Lit.int .i64 x).wf = true) (h : Go.bits .xor .i64 x 1 = 0) : x = 1 := by
  have e := ofInt_xor1 x
  rw [h] at e
  have e2 : BitVec.ofInt 64 x = 1#64 := by
    have e3 : (BitVec.ofInt 64 0 ^^^ 1#64 : BitVec 64) = BitVec.ofInt 64 x ^^^ 1#64 ^^^ 1#64 := congrArg (fun v => v ^^^ 1#64) e
    rw [BitVec.xor_assoc, BitVec.xor_self, BitVec.xor_zero] at e3
    exact e3.symm.trans (by decide)
  have e4 := congrArg BitVec.toNat e2
  rw [BitVec.toNat_ofInt] at e4
  have e5 : (1#64 : BitVec 64).toNat = 1 := rfl
  rw [e5] at e4
  simp [Lit.wf, IntKind.min, IntKind.max, IntKind.bits, IntKind.signed] at hw
  omega
end Go.Proofs.YtppablpbpimloaaDoor.Mem
