/- A tape in a block, and the set of blocks that it holds: what writings do to it. Conditions: as each says. -/
import Derived.Test.YtnnhigojgdcdlaaDrv8
namespace Go.Proofs.Ytnnhigojgdcdlaa.Code
open Go.RowKit Go.Joins Go.Proofs.Ytnnhigojgdcdlaa.Crc Go.Proofs.Ytnnhigojgdcdlaa.Mem
section
variable {T : TypeId} {w w' W : World} {S R : Nat → Prop} {q : Nat} {t : Tp} {A A' : Option Addr} {n c c' : Nat} {vs : List Sv}
theorem TpS.upd (h : TpS T w R q t A n c vs) (hu : Upd S w w') (hs : ∀ k, S k → ¬ R k) : TpS T w' R q t A n c vs := by
  have hk : ∀ k, R k → w'.heap[k]? = w.heap[k]? := fun k hk => hu.block k (h.lim k hk) (fun e => hs k e hk)
  refine ⟨(hk q h.mem).trans h.box, ⟨h.rows.row.move fun g hg _ => hk g (h.ins.1 g hg), h.rows.len, fun i s b hs hb => (h.rows.own i s b hs hb).move fun g hg _ => hk g (h.ins.2 i s g hs hg), h.rows.ne⟩, h.mem, h.ins, fun k hr => Nat.lt_of_lt_of_le (h.lim k hr) hu.size⟩
theorem DrS.upd (h : DrS T w R q t) (hu : Upd S w w') (hs : ∀ k, S k → ¬ R k) : DrS T w' R q t := by
  obtain ⟨A, n, c, vs, h⟩ := h
  exact ⟨A, n, c, vs, h.upd hu hs⟩
theorem DrS.below (h : DrS T w R q t) (hb : Below w.heap.size w w') : DrS T w' R q t := by
  obtain ⟨A, n, c, vs, h⟩ := h
  refine ⟨A, n, c, vs, h.upd (S := fun k => w.heap.size ≤ k) (Upd.ofBelow hb) fun k hk hr => ?_⟩
  have := h.lim k hr
  omega
theorem TpS.below (h : TpS T w R q t A n c vs) (hb : Below w.heap.size w w') : TpS T w' R q t A n c vs :=
  h.upd (S := fun k => w.heap.size ≤ k) (Upd.ofBelow hb) fun k hk hr => by have := h.lim k hr; omega
theorem TpS.blks (h : TpS T w R q t A n c vs) : Blks w A n c t.blocks := h.rows.blks
theorem TpS.len (h : TpS T w R q t A n c vs) : t.blocks.length = n := h.rows.count.2
theorem TpS.cells (h : TpS T w R q t A n c vs) :
    w.cell? ⟨q, 0, none⟩ = some (.int .i64 t.label) ∧ w.cell? ⟨q, 1, none⟩ = some (.int .i64 t.cap) ∧ w.cell? ⟨q, 2, none⟩ = some (.slice A n c) ∧ w.cell? ⟨q, 3, none⟩ = some (.bool t.lost) :=
  ⟨cell_of_block h.box 0, cell_of_block h.box 1, cell_of_block h.box 2, cell_of_block h.box 3⟩
/-- The new box of an old row: a store of a slice into the box. -/
theorem box_set {bs : List (List UInt8)} (hq : w.heap[q]? = some (.cells #[.int .i64 t.label, .int .i64 t.cap, .slice A n c, .bool t.lost] T (0, 0))) (m : Nat) :
    (w.setCell ⟨q, 2, none⟩ (.slice A' m c')).heap[q]? = some (.cells #[.int .i64 (Tp.mk t.label t.cap bs t.lost).label, .int .i64 (Tp.mk t.label t.cap bs t.lost).cap, .slice A' m c', .bool (Tp.mk t.label t.cap bs t.lost).lost] T (0, 0)) := block_setCell (i := 2) hq (.slice A' m c')
/-- What stays where an append to the rows has grown them: the box. -/
theorem TpS.grown_box (h : TpS T w S q t A n c vs) (hT : T ≠ 32) (hb : Below w.heap.size w W) (gr : W.grownBy w' (blk A)) : w'.heap[q]? = some (.cells #[.int .i64 t.label, .int .i64 t.cap, .slice A n c, .bool t.lost] T (0, 0)) := by
  have hW := h.below hb
  exact stay_grown hW.rows.row gr _ _ _ hT hW.box
/-- Behind an append of a row that is new, and the store of the slice. -/
theorem TpS.app (h : TpS T w S q t A n c vs) (hT : T ≠ 32) (hT5 : T ≠ 5) (hb : Below w.heap.size w W) {v : Sv} {b : List UInt8} (hbl : BlV w' 0 A' (n + 1) c' (vs ++ [v]) (t.blocks ++ [b])) (gr : W.grownBy w' (blk A)) (hat : ∀ g, blk A' = some g → blk A = some g ∨ W.heap.size ≤ g)
    (hv : ∀ g, blk v.a = some g → S g ∨ w.heap.size ≤ g) : DrS T (w'.setCell ⟨q, 2, none⟩ (.slice A' (n + 1) c')) (Gr S w w') q ⟨t.label, t.cap, t.blocks ++ [b], t.lost⟩ ∧ Upd S w (w'.setCell ⟨q, 2, none⟩ (.slice A' (n + 1) c')) := by
  have hbox := h.grown_box hT hb gr
  have hst := stay_set (i := 2) hbox (.slice A' (n + 1) c')
  have hsz : w.heap.size ≤ w'.heap.size := Nat.le_trans hb.size gr.size
  refine ⟨⟨A', n + 1, c', vs ++ [v], box_set hbox _, ⟨hbl.row.stay hst hT.symm, hbl.len, fun i s d hs hd => ?_, hbl.ne⟩, .inl h.mem, ⟨fun g hg => ?_, fun i s g hs hg => ?_⟩, fun k hk => ?_⟩, ?_⟩
  · have ho := hbl.own i s d hs hd
    refine ho.move fun g hg _ => ?_
    rcases ho.shape with ⟨ha, _⟩ | ⟨g', cur, ha, _, _, hg', _⟩
    · rw [ha] at hg; simp [blk] at hg
    · rw [ha] at hg; simp [blk] at hg; subst hg
      exact (hst _ _ _ hT5.symm hg').trans hg'.symm
  · have hlt := (hbl.row.blk_ge g hg).2
    rcases hat g hg with e | e
    · exact .inl (h.ins.1 g e)
    · exact .inr ⟨Nat.le_trans hb.size e, hlt⟩
  · have hlt := (hbl.lt i s g hs hg).2
    rw [getElem?_snoc] at hs
    split at hs
    · exact .inl (h.ins.2 i s g hs hg)
    · split at hs
      · injection hs with hs; subst hs
        exact (hv g hg).imp id fun e => ⟨e, hlt⟩
      · cases hs
  · have hz : (w'.setCell ⟨q, 2, none⟩ (.slice A' (n + 1) c')).heap.size = w'.heap.size := by simp [World.setCell]
    rw [hz]
    rcases hk with hk | hk
    · exact Nat.lt_of_lt_of_le (h.lim k hk) hsz
    · exact hk.2
  · have hu : Upd S w W := (Upd.ofBelow hb).mono fun k hk e => absurd e (by omega)
    refine (hu.grown gr fun k _ e => h.ins.1 k e).setCell (fun _ => h.mem) _
end
theorem step_appR2 {P : Program} {ops : Array Oper} {o : Oper} {a : Act} {W : World} {K : Act → World → Prop} {Q : Exit → Act → World → Prop} {E : Prop} (hgd : o.guard = none) (s x : Operand) (t T : TypeId) {k by_ : Nat} {z : Value}
    (ho : o.op = .call { callee := .builtin .append, args := #[s, x], argTypes := #[t, t] }) (ht : P.underlying t = some (.slice T)) (hinfo : (P.info? T).map (fun i => (i.zero, i.size, i.bytes)) = some (some z, k, by_)) (hzs : z.cells.size = k) (hk : 0 < k)
    {B : Nat} {A A2 : Option Addr} {n c m c2 : Nat} {l xs : List Value} (hs : a.eval s = .slice A n c) (hx : a.eval x = .slice A2 m c2) (hown : RO T k W B A n c l) (hr : RR k W A2 m xs) (h1 : ∀ u ∈ xs, u.oneCell' = true) (hnil : A2 = none → m = 0 ∧ c2 = 0) (hmax : n + m ≤ maxLen) (hb : (n + m) * by_ ≤ 140737488355328) (hB : B ≤ W.heap.size)
    (h : ∀ A' c' w', RO T k w' B A' (n + m) c' (l ++ xs) → W.grownBy w' (blk A) → (∀ g, blk A' = some g → blk A = some g ∨ W.heap.size ≤ g) → K (a.put o.dst (.slice A' (n + m) c')) w') :
    if Region.wanted o (yielded ops a.tmps) = true then Oper.wp P o a W K Q else E := by
  have hw : Region.wanted o (yielded ops a.tmps) = true := by simp [Region.wanted, hgd]
  rw [if_pos hw]
  obtain ⟨A', c', w', hrun, h1, h2, h3⟩ := run_appR (ty := o.type) ht hinfo hzs hk hown hr h1 hnil hmax hb hB
  unfold Oper.wp
  simp [execOp, ho, resolve, invoke, builtin, hs, hx, hrun, Result.andThen]
  exact h _ _ _ h1 h2 h3
theorem step_blv {ops : Array Oper} {o : Oper} {a : Act} {W : World} {K : Act → World → Prop} {Q : Exit → Act → World → Prop} {E : Prop} (hgd : o.guard = none) (s x : Operand)
    (ho : o.op = .call { callee := .builtin .append, args := #[s, x], argTypes := #[27, 27] }) {A : Option Addr} {n c q : Nat} {vs : List Sv} {bs : List (List UInt8)} {v : Sv} {b : List UInt8} (hs : a.eval s = .slice A n c) (hx : a.eval x = .slice (some ⟨q, 0, none⟩) 1 1)
    (hW : BlV W 0 A n c vs bs) (hv : Own W 0 v.a v.n v.c b) (hne : ∀ (i : Nat) t g, vs[i]? = some t → blk t.a = some g → blk v.a ≠ some g) (hq : W.heap[q]? = some (.cells #[.slice v.a v.n v.c] 32 (0, 0))) (hn : n ≤ 1000000)
    (h : ∀ A' c' w', BlV w' 0 A' (n + 1) c' (vs ++ [v]) (bs ++ [b]) → W.grownBy w' (blk A) → (∀ g, blk A' = some g → blk A = some g ∨ W.heap.size ≤ g) → K (a.put o.dst (.slice A' (n + 1) c')) w') : if Region.wanted o (yielded ops a.tmps) = true then Oper.wp Try.prog o a W K Q else E := by
  refine step_appR2 hgd s x 27 32 ho Try.underlying27 info32 rfl (by decide) hs hx hW.row (RR.block (cs := [v.v]) hq rfl ?_) ?_ (fun h => by cases h) (by simp only [maxLen]; omega) (by omega) (Nat.zero_le _) ?_
  · intro i hi
    have : i < 1 := hi
    obtain rfl : i = 0 := by omega
    rfl
  · intro u hu
    simp at hu
    subst hu
    rfl
  · intro A' c' w' own gr hat
    exact h A' c' w' (hW.app v b hv hne own gr) gr hat
/-- The same outside a region that draws. -/
theorem app_blv {ops : Array Oper} {rest : List Oper} {o : Oper} {a : Act} {Q : Exit → Act → World → Prop} {W : World} (hgd : o.guard = none) (s x : Operand)
    (ho : o.op = .call { callee := .builtin .append, args := #[s, x], argTypes := #[27, 27] }) {A : Option Addr} {n c q : Nat} {vs : List Sv} {bs : List (List UInt8)} {v : Sv} {b : List UInt8} (hs : a.eval s = .slice A n c) (hx : a.eval x = .slice (some ⟨q, 0, none⟩) 1 1)
    (hW : BlV W 0 A n c vs bs) (hv : Own W 0 v.a v.n v.c b) (hne : ∀ (i : Nat) t g, vs[i]? = some t → blk t.a = some g → blk v.a ≠ some g) (hq : W.heap[q]? = some (.cells #[.slice v.a v.n v.c] 32 (0, 0))) (hn : n ≤ 1000000)
    (h : ∀ A' c' w', BlV w' 0 A' (n + 1) c' (vs ++ [v]) (bs ++ [b]) → W.grownBy w' (blk A) → (∀ g, blk A' = some g → blk A = some g ∨ W.heap.size ≤ g) → wpList Try.prog ops Q rest (a.put o.dst (.slice A' (n + 1) c')) w') : wpList Try.prog ops Q (o :: rest) a W := by
  refine appR_law hgd s x 27 32 ho Try.underlying27 info32 rfl (by decide) hs hx hW.row (RR.block (cs := [v.v]) hq rfl ?_) ?_ (fun h => by cases h) (by simp only [maxLen]; omega) (by omega) (Nat.zero_le _) ?_
  · intro i hi
    have : i < 1 := hi
    obtain rfl : i = 0 := by omega
    rfl
  · intro u hu
    simp at hu
    subst hu
    rfl
  · intro A' c' w' own gr hat
    exact h A' c' w' (hW.app v b hv hne own gr) gr hat
end Go.Proofs.Ytnnhigojgdcdlaa.Code
