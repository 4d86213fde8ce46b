/- What the reference's PutFrame makes. Conditions: the load is short of 1000 bytes. -/
import Derived.Test.YtpgceeeokjadpaaFr2
import Derived.Test.YtpgceeeokjadpaaWZeros
import Derived.Deep.RegionLaw
import Derived.Deep.CutRange
namespace Go.Proofs.Ytpgceeeokjadpaa.Mem
open Go.RowKit Go.Joins Go.Proofs.Ytpgceeeokjadpaa.Crc
theorem step_app {P : Program} {ops : Array Oper} {o : Oper} {a : Act} {W : World} {K : Act → World → Prop} {Q : Exit → Act → World → Prop} {E : Prop} (hgd : o.guard = none) (s x : Operand) (t : TypeId)
    (ho : o.op = .call { callee := .builtin .append, args := #[s, x], argTypes := #[t, t] }) (ht : P.underlying t = some (.slice 5)) (hinfo : (P.info? 5).map (fun i => (i.zero, i.size, i.bytes)) = some (some (.int .u8 0), 1, 1))
    {B : Nat} {A A2 : Option Addr} {n c m c2 : Nat} {l xs : List UInt8} (hs : a.eval s = .slice A n c) (hx : a.eval x = .slice A2 m c2) (hown : Own W B A n c l) (hr : Reads W A2 m xs) (hnil : A2 = none → m = 0 ∧ c2 = 0) (hb : n + m ≤ 140737488355328) (hB : B ≤ W.heap.size)
    (h : ∀ A' c' w', Own w' B A' (n + m) c' (l ++ xs) → W.grownBy w' (blk A) → (∀ g, blk A' = some g → blk A = some g ∨ W.heap.size ≤ g) → K (a.put o.dst (.slice A' (n + m) c')) w') :
    if Region.wanted o (yielded ops a.tmps) = true then Oper.wp P o a W K Q else E := by
  have hw : Region.wanted o (yielded ops a.tmps) = true := by simp [Region.wanted, hgd]
  rw [if_pos hw]
  obtain ⟨A', c', w', hrun, h1, h2, h3⟩ := run_app (ty := o.type) ht hinfo hown hr hnil hb hB
  unfold Oper.wp
  simp [execOp, ho, resolve, invoke, builtin, hs, hx, hrun, Result.andThen]
  exact h _ _ _ h1 h2 h3
theorem zero_cells (m : Nat) : (Builtin.zeroCells (Value.int IntKind.u8 0).cells m).toList = (List.replicate m (0 : UInt8)).map kv := by
  have e0 : (Value.int IntKind.u8 0).cells = #[.int .u8 0] := rfl
  rw [e0]
  apply List.ext_getElem
  · simp [size_zeroCells]
  · intro i h1 h2
    simp [Builtin.zeroCells, kv, K]
    rw [Nat.mod_one]; rfl
theorem run_zeros {P : Program} {W : World} {t ti ty : TypeId} (ht : P.underlying t = some (.slice 5)) {k kx : IntKind} (hti : P.underlying ti = some (.int k)) (hinfo : (P.info? 5).map (fun i => (i.zero, i.size, i.bytes)) = some (some (.int .u8 0), 1, 1))
    {B : Nat} {A : Option Addr} {n c m : Nat} {l : List UInt8} (hown : Own W B A n c l) (hb : n + m ≤ 140737488355328) (hB : B ≤ W.heap.size) :
    ∃ A' c' w', (Builtin.append_ #[t, ti] ty #[.slice A n c, .int kx m]).run P W = .ok (.slice A' (n + m) c') w' ∧ Own w' B A' (n + m) c' (l ++ List.replicate m 0) ∧ W.grownBy w' (blk A) ∧ (∀ g, blk A' = some g → blk A = some g ∨ W.heap.size ≤ g) := by
  obtain ⟨i0, hi, hzz⟩ := Option.map_eq_some_iff.1 hinfo
  simp only [Prod.mk.injEq] at hzz
  obtain ⟨hz0, hz1, hz2⟩ := hzz
  have hone : ∀ u ∈ (Builtin.zeroCells (Value.int IntKind.u8 0).cells m).toList, u.oneCell' = true := by rw [zero_cells]; exact kv_one _
  obtain ⟨v', w', hrun, ho, hg, hat⟩ := Go.Proofs.YtpgceeeokjadpaaW.PrintWords.run_append_zeros (P := P) W B t ti ty 5 i0 (.int .u8 0) 1 1 ht hti hi hz0 hz1 hz2 rfl (by decide) (by decide) _ n _ hown.2 kx m hone (by omega) hB
  have hshape : ∃ A' c', v' = .slice A' (n + m) c' := by
    rcases ho.2 with ⟨hv, h0⟩ | ⟨g, cap, cur, hv, _⟩
    · exact ⟨none, 0, by rw [hv, h0]⟩
    · exact ⟨_, cap, hv⟩
  obtain ⟨A', c', rfl⟩ := hshape
  rw [own_blk] at hg
  rw [own_blk, own_blk] at hat
  refine ⟨A', c', w', hrun, ⟨by rw [List.length_append, hown.1, List.length_replicate], ?_⟩, hg, ?_⟩
  · rw [List.map_append, ← zero_cells]; exact ho
  · intro g he
    rcases hat with h | h
    · exact .inl (h ▸ he)
    · rw [h] at he
      injection he with he
      exact .inr (by omega)
theorem step_zeros {P : Program} {ops : Array Oper} {o : Oper} {a : Act} {W : World} {K : Act → World → Prop} {Q : Exit → Act → World → Prop} {E : Prop} (hgd : o.guard = none) (s x : Operand) (t ti : TypeId)
    (ho : o.op = .call { callee := .builtin .append, args := #[s, x], argTypes := #[t, ti] }) (ht : P.underlying t = some (.slice 5)) {k kx : IntKind} (hti : P.underlying ti = some (.int k)) (hinfo : (P.info? 5).map (fun i => (i.zero, i.size, i.bytes)) = some (some (.int .u8 0), 1, 1))
    {B : Nat} {A : Option Addr} {n c m : Nat} {l : List UInt8} (hs : a.eval s = .slice A n c) {y : Int} (hx : a.eval x = .int kx y) (hy : y = m) (hown : Own W B A n c l) (hb : n + m ≤ 140737488355328) (hB : B ≤ W.heap.size)
    (h : ∀ A' c' w', Own w' B A' (n + m) c' (l ++ List.replicate m 0) → W.grownBy w' (blk A) → (∀ g, blk A' = some g → blk A = some g ∨ W.heap.size ≤ g) → K (a.put o.dst (.slice A' (n + m) c')) w') :
    if Region.wanted o (yielded ops a.tmps) = true then Oper.wp P o a W K Q else E := by
  have hw : Region.wanted o (yielded ops a.tmps) = true := by simp [Region.wanted, hgd]
  rw [if_pos hw]
  subst hy
  obtain ⟨A', c', w', hrun, h1, h2, h3⟩ := run_zeros (ty := o.type) (kx := kx) ht hti hinfo hown hb hB
  unfold Oper.wp
  simp [execOp, ho, resolve, invoke, builtin, hs, hx, hrun, Result.andThen]
  exact h _ _ _ h1 h2 h3
theorem Own.drew {w : World} {B : Nat} {A : Option Addr} {n c : Nat} {l : List UInt8} (h : Own w B A n c l) : Own w.drew B A n c l := h.move (fun _ _ _ => rfl)
end Go.Proofs.Ytpgceeeokjadpaa.Mem
namespace Go.Proofs.Ytpgceeeokjadpaa.Crc
def putB (u : Un) : List UInt8 := if chk u = 0 then mk u else []
end Go.Proofs.Ytpgceeeokjadpaa.Crc
namespace Go.Proofs.Ytpgceeeokjadpaa.Code
open Go.RowKit Go.Joins Go.Proofs.Ytpgceeeokjadpaa.Crc Go.Proofs.Ytpgceeeokjadpaa.Mem
/-- A unit's block. -/
def Ub (w : World) (q : Nat) (u : Un) (A : Option Addr) (n c : Nat) : Prop := w.heap[q]? = some (.cells #[.int .i64 u.kind, .int .i64 u.label, .int .i64 u.number, .slice A n c] 45 (0, 0))
theorem Ub.cells {w : World} {q : Nat} {u : Un} {A : Option Addr} {n c : Nat} (h : Ub w q u A n c) :
    w.cell? ⟨q, 0, none⟩ = some (.int .i64 u.kind) ∧ w.cell? ⟨q, 1, none⟩ = some (.int .i64 u.label) ∧ w.cell? ⟨q, 2, none⟩ = some (.int .i64 u.number) ∧ w.cell? ⟨q, 3, none⟩ = some (.slice A n c) :=
  ⟨cell_of_block h 0, cell_of_block h 1, cell_of_block h 2, cell_of_block h 3⟩
theorem Ub.new (w : World) (u : Un) (A : Option Addr) (n c : Nat) : Ub (w.alloc (.cells #[.int .i64 u.kind, .int .i64 u.label, .int .i64 u.number, .slice A n c] 45)) w.heap.size u A n c := heap_alloc_new w _
theorem Ub.below {w w' : World} {q : Nat} {u : Un} {A : Option Addr} {n c : Nat} (h : Ub w q u A n c) (hb : Below w.heap.size w w') : Ub w' q u A n c := (hb.block q (lt_of_block h)).trans h
/-- What Put and PutFrame leave. -/
def PutPost (w : World) (u : Un) (e : Ending) (w' : World) : Prop :=
  ∃ A m c, e = .returned (.tuple #[.slice A m c, .int .i64 (chk u)]) ∧ Own w' w.heap.size A m c (putB u) ∧ Below w.heap.size w w'
theorem put_none {w w' : World} {u : Un} {x : Int} (h : chk u = x) (h0 : x ≠ 0) (hb : Below w.heap.size w w') : PutPost w u (.returned (.tuple #[.slice none 0 0, .int .i64 x])) w' :=
  ⟨none, 0, 0, by rw [h], by unfold putB; rw [if_neg (by rw [h]; exact h0)]; exact Own.nil _ _, hb⟩
theorem put_mk {w w' : World} {u : Un} {A : Option Addr} {m c : Nat} {l : List UInt8} (h : chk u = 0) (hl : l = mk u) (hm : Own w' w.heap.size A m c l) (hb : Below w.heap.size w w') : PutPost w u (.returned (.tuple #[.slice A m c, .int .i64 0])) w' :=
  ⟨A, m, c, by rw [h], by unfold putB; rw [if_pos h, ← hl]; exact hm, hb⟩
theorem put_any (w : World) (u : Un) (A : Option Addr) (n c : Nat) (hs : Sl w A n c u.load) : Calls Try.prog 28 #[uv u A n c] w fun e w' => PutPost w u e w' := by
  have hb := ((Below.refl w.heap.size w).alloc (Nat.le_refl _) (.cells #[.int .i64 u.kind, .int .i64 u.label, .int .i64 u.number, .slice A n c] 45))
  have hn := hs.len
  have HB := Lib.hid hb
  have HS := Lib.hid (hs.below hb)
  have HU := Lib.hid (Ub.new w u A n c)
  clear hs hb
  by_cases h : chk u = 0
  · have H := Lib.hid h
    clear h
    have t : ((0 : Int) == 0) = true := rfl
    unfold uv
    go_enter Try.func28, Try.ntmps28
    go_wp2_with (first
      | (go_at_call 50; (with_reducible refine (check_any _ u _ _ _ hn).mono ?_); rintro e w1 ⟨rfl, hb⟩; rw [H.out]; have HB1 := Lib.hid (below_then HB.out hb HB.out.size); have HS1 := Lib.hid (HS.out.below hb); obtain ⟨k0, k1, k2, k3⟩ := (HU.out.below hb).cells; clear hb)
      | (go_at_call 51; (with_reducible refine (made_any _ u _ _ _ HS1.out H.out).mono ?_); rintro e w2 ⟨A2, c2, rfl, hnew⟩; have N2 := Lib.hid hnew; clear hnew))
    go_ret2
    have hb2 := below_then HB1.out N2.out.2 HB1.out.size
    exact put_mk H.out rfl (N2.out.1.lower HB1.out.size) hb2
  · have HE := Lib.hid h
    obtain ⟨x, hx⟩ : ∃ x, x = chk u := ⟨_, rfl⟩
    rw [← hx] at h
    have HX := Lib.hid hx
    have t : (x == 0) = false := beq_eq_false_iff_ne.mpr h
    have t2 : (x != 0) = true := bne_iff_ne.mpr h
    clear h hx
    unfold uv
    go_enter Try.func28, Try.ntmps28
    go_wp2_with (first
      | (go_at_call 50; (with_reducible refine (check_any _ u _ _ _ hn).mono ?_); rintro e w1 ⟨rfl, hb⟩; rw [← HX.out]; have HB1 := Lib.hid (below_then HB.out hb HB.out.size); clear hb))
    go_ret2
    exact put_none HX.out.symm (fun e => HE.out (HX.out ▸ e)) HB1.out
end Go.Proofs.Ytpgceeeokjadpaa.Code
