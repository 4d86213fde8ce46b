/- Rows of rows: append to them, in a walk and in a region that draws. Conditions: as each says. -/
import Derived.Test.YtnnhigojgdcdlaaDrv2
namespace Go.Proofs.Ytnnhigojgdcdlaa.Code
open Go.RowKit Go.Joins Go.Proofs.Ytnnhigojgdcdlaa.Crc Go.Proofs.Ytnnhigojgdcdlaa.Mem
theorem info32 : (Try.prog.info? 32).map (fun i => (i.zero, i.size, i.bytes)) = some (some (.slice none 0 0), 1, 24) := by kernel_rfl
/-- Blocks of other element types stay. -/
def Stay (T : TypeId) (w w' : World) : Prop := ∀ (g : Nat) (cs : Array Value) (T' : TypeId), T' ≠ T → w.heap[g]? = some (.cells cs T' (0, 0)) → w'.heap[g]? = some (.cells cs T' (0, 0))
theorem stay_grown {T k : Nat} {w w' : World} {B : Nat} {A : Option Addr} {n c : Nat} {cs : List Value} (h : RO T k w B A n c cs) (gr : w.grownBy w' (blk A)) : Stay T w w' := by
  intro g l T' hT hg
  refine (gr.block g (lt_of_block hg) (fun e => ?_)).trans hg
  rcases h.shape with ⟨rfl, _⟩ | ⟨q, cur, rfl, _, _, hq, _⟩
  · simp [blk] at e
  · simp [blk] at e
    subst e
    rw [hg] at hq
    simp at hq
    exact hT hq.2
theorem stay_set {w : World} {q i : Nat} {l : Array Value} {T : TypeId} (hq : w.heap[q]? = some (.cells l T (0, 0))) (v : Value) : Stay T w (w.setCell ⟨q, i, none⟩ v) := by
  intro g cs T' hT hg
  refine (Below.heap_setCell w ⟨q, i, none⟩ v g (fun e => ?_)).trans hg
  have e : g = q := e
  subst e
  rw [hg] at hq
  simp at hq
  exact hT hq.2
theorem _root_.Go.Proofs.Ytnnhigojgdcdlaa.Mem.RO.stay {T T' k : Nat} {w w' : World} {B : Nat} {A : Option Addr} {n c : Nat} {cs : List Value} (h : RO T k w B A n c cs) (hs : Stay T' w w') (hT : T ≠ T') : RO T k w' B A n c cs := by
  refine h.move fun g hg _ => ?_
  rcases h.shape with ⟨rfl, _⟩ | ⟨q, cur, rfl, _, _, hq, _⟩
  · simp [blk] at hg
  · simp [blk] at hg; subst hg
    rw [hs _ _ _ hT hq, hq]
theorem _root_.Go.Proofs.Ytnnhigojgdcdlaa.Mem.Bl.stay {T : TypeId} {w w' : World} {B : Nat} {A : Option Addr} {n c : Nat} {bs : List (List UInt8)} (h : Bl w B A n c bs) (hs : Stay T w w') (hT : T ≠ 32) (hT5 : T ≠ 5) : Bl w' B A n c bs := by
  refine h.move fun g _ _ ⟨cs, T', hT', hg⟩ => ?_
  have hne : T' ≠ T := hT'.elim (fun e1 e2 => hT (e2.symm.trans e1)) (fun e1 e2 => hT5 (e2.symm.trans e1))
  rw [hs g cs T' hne hg, hg]
theorem bl_app {w0 W w' : World} {B : Nat} {A A' : Option Addr} {n c c' : Nat} {bs : List (List UInt8)} {v : Sv} {b : List UInt8} (h0 : Bl w0 B A n c bs) (hbel : Below w0.heap.size w0 W) (hB : B ≤ w0.heap.size) (hv : Own W w0.heap.size v.a v.n v.c b)
    (hrow : ∀ vs : List Sv, RO 32 1 W B A n c (vs.map Sv.v) → BlV W B A n c vs bs → RO 32 1 w' B A' (n + 1) c' (vs.map Sv.v ++ [v.v]) ∧ W.grownBy w' (blk A)) : Bl w' B A' (n + 1) c' (bs ++ [b]) := by
  obtain ⟨vs, h⟩ := h0
  have hW : BlV W B A n c vs bs := h.move fun g _ hlt _ => hbel.block g hlt
  obtain ⟨h1, h2⟩ := hrow vs hW.row hW
  refine ⟨_, hW.app v b (hv.lower hB) (fun i t g ht hg e => ?_) h1 h2⟩
  have := (h.lt i t g ht hg).2
  have := (hv.blk_ge g e).1
  omega
theorem step_appR {P : Program} {ops : Array Oper} {o : Oper} {a : Act} {W : World} {K : Act → World → Prop} {Q : Exit → Act → World → Prop} {E : Prop} (hgd : o.guard = none) (s x : Operand) (t T : TypeId) {k by_ : Nat} {z : Value}
    (ho : o.op = .call { callee := .builtin .append, args := #[s, x], argTypes := #[t, t] }) (ht : P.underlying t = some (.slice T)) (hinfo : (P.info? T).map (fun i => (i.zero, i.size, i.bytes)) = some (some z, k, by_)) (hzs : z.cells.size = k) (hk : 0 < k)
    {B : Nat} {A A2 : Option Addr} {n c m c2 : Nat} {l xs : List Value} (hs : a.eval s = .slice A n c) (hx : a.eval x = .slice A2 m c2) (hown : RO T k W B A n c l) (hr : RR k W A2 m xs) (h1 : ∀ u ∈ xs, u.oneCell' = true) (hnil : A2 = none → m = 0 ∧ c2 = 0) (hmax : n + m ≤ maxLen) (hb : (n + m) * by_ ≤ 140737488355328) (hB : B ≤ W.heap.size)
    (h : ∀ A' c' w', RO T k w' B A' (n + m) c' (l ++ xs) → W.grownBy w' (blk A) → K (a.put o.dst (.slice A' (n + m) c')) w') :
    if Region.wanted o (yielded ops a.tmps) = true then Oper.wp P o a W K Q else E := by
  have hw : Region.wanted o (yielded ops a.tmps) = true := by simp [Region.wanted, hgd]
  rw [if_pos hw]
  obtain ⟨A', c', w', hrun, h1, h2, _⟩ := run_appR (ty := o.type) ht hinfo hzs hk hown hr h1 hnil hmax hb hB
  unfold Oper.wp
  simp [execOp, ho, resolve, invoke, builtin, hs, hx, hrun, Result.andThen]
  exact h _ _ _ h1 h2
theorem ro_ne {T T' k k' : Nat} (hT : T ≠ T') {w : World} {B B' : Nat} {A A' : Option Addr} {n c n' c' : Nat} {cs cs' : List Value} (h : RO T k w B A n c cs) (h' : RO T' k' w B' A' n' c' cs') : ∀ g, blk A = some g → blk A' ≠ some g := by
  intro g hg hg'
  rcases h.shape with ⟨rfl, _⟩ | ⟨a, cur, rfl, _, _, ha, _⟩
  · simp [blk] at hg
  · rcases h'.shape with ⟨rfl, _⟩ | ⟨b, cur', rfl, _, _, hb, _⟩
    · simp [blk] at hg'
    · simp [blk] at hg hg'
      subst hg hg'
      rw [ha] at hb
      simp at hb
      exact hT hb.2
theorem _root_.Go.Proofs.Ytnnhigojgdcdlaa.Mem.RO.drew {T k : Nat} {w : World} {B : Nat} {A : Option Addr} {n c : Nat} {cs : List Value} (h : RO T k w B A n c cs) : RO T k w.drew B A n c cs := h.move (fun _ _ _ => rfl)
theorem app_bl {ops : Array Oper} {rest : List Oper} {o : Oper} {a : Act} {Q : Exit → Act → World → Prop} {W : World} (hgd : o.guard = none) (s x : Operand)
    (ho : o.op = .call { callee := .builtin .append, args := #[s, x], argTypes := #[27, 27] }) {B : Nat} {A : Option Addr} {n c q : Nat} {bs : List (List UInt8)} {v : Sv} {b : List UInt8} (hs : a.eval s = .slice A n c) (hx : a.eval x = .slice (some ⟨q, 0, none⟩) 1 1)
    {w0 : World} (h0 : Bl w0 B A n c bs) (hbel : Below w0.heap.size w0 W) (hB : B ≤ w0.heap.size) (hv : Own W w0.heap.size v.a v.n v.c b) (hq : W.heap[q]? = some (.cells #[.slice v.a v.n v.c] 32 (0, 0))) (hn : n ≤ 1000000)
    (h : ∀ A' c' w', Bl w' B A' (n + 1) c' (bs ++ [b]) → Below B W w' → Stay 32 W w' → wpList Try.prog ops Q rest (a.put o.dst (.slice A' (n + 1) c')) w') : wpList Try.prog ops Q (o :: rest) a W := by
  obtain ⟨vs, h0'⟩ := h0
  have hW : BlV W B A n c vs bs := h0'.move fun g _ hlt _ => hbel.block g hlt
  have hBW : B ≤ W.heap.size := Nat.le_trans hB hbel.size
  refine appR_law hgd s x 27 32 ho Try.underlying27 info32 rfl (by decide) hs hx hW.row (RR.block (cs := [v.v]) hq rfl ?_) ?_ (fun h => by cases h) (by simp only [maxLen]; omega) (by omega) hBW ?_
  · intro i hi
    have : i < 1 := hi
    obtain rfl : i = 0 := by omega
    rfl
  · intro u hu
    simp at hu
    subst hu
    rfl
  · intro A' c' w' own gr _
    exact h A' c' w' (bl_app ⟨vs, h0'⟩ hbel hB hv (fun vs' h1 h2 => by
      have e : vs'.map Sv.v = vs.map Sv.v := by
        have ha := h1.reads
        have hb := hW.row.reads
        apply List.ext_getElem?
        intro i
        by_cases hi : i < (vs'.map Sv.v).length
        · have hi2 : i < (vs.map Sv.v).length := by rw [hb.1, ← ha.1]; exact hi
          obtain ⟨b1, o1, e1, c1⟩ := ha.2 i hi
          obtain ⟨b2, o2, e2, c2⟩ := hb.2 i hi2
          rw [e1] at e2
          simp at e2
          obtain ⟨rfl, rfl⟩ := e2
          rw [c1] at c2
          rw [List.getElem?_eq_getElem hi, List.getElem?_eq_getElem hi2, c2]
        · rw [List.getElem?_eq_none (by omega), List.getElem?_eq_none (by rw [hb.1, ← ha.1]; omega)]
      rw [e]; exact ⟨own, gr⟩)) ((Below.refl B W).grown gr hBW (fun k hk => (hW.row.blk_ge k hk).1)) (stay_grown hW.row gr)
theorem step_bl {ops : Array Oper} {o : Oper} {a : Act} {W : World} {K : Act → World → Prop} {Q : Exit → Act → World → Prop} {E : Prop} (hgd : o.guard = none) (s x : Operand)
    (ho : o.op = .call { callee := .builtin .append, args := #[s, x], argTypes := #[27, 27] }) {B : Nat} {A : Option Addr} {n c q : Nat} {bs : List (List UInt8)} {v : Sv} {b : List UInt8} (hs : a.eval s = .slice A n c) (hx : a.eval x = .slice (some ⟨q, 0, none⟩) 1 1)
    {w0 : World} (h0 : Bl w0 B A n c bs) (hbel : Below w0.heap.size w0 W) (hB : B ≤ w0.heap.size) (hv : Own W w0.heap.size v.a v.n v.c b) (hq : W.heap[q]? = some (.cells #[.slice v.a v.n v.c] 32 (0, 0))) (hn : n ≤ 1000000)
    (h : ∀ A' c' w', Bl w' B A' (n + 1) c' (bs ++ [b]) → Below B W w' → Stay 32 W w' → K (a.put o.dst (.slice A' (n + 1) c')) w') : if Region.wanted o (yielded ops a.tmps) = true then Oper.wp Try.prog o a W K Q else E := by
  obtain ⟨vs, h0'⟩ := h0
  have hW : BlV W B A n c vs bs := h0'.move fun g _ hlt _ => hbel.block g hlt
  have hBW : B ≤ W.heap.size := Nat.le_trans hB hbel.size
  refine step_appR hgd s x 27 32 ho Try.underlying27 info32 rfl (by decide) hs hx hW.row (RR.block (cs := [v.v]) hq rfl ?_) ?_ (fun h => by cases h) (by simp only [maxLen]; omega) (by omega) hBW ?_
  · intro i hi
    have : i < 1 := hi
    obtain rfl : i = 0 := by omega
    rfl
  · intro u hu
    simp at hu
    subst hu
    rfl
  · intro A' c' w' own gr
    exact h A' c' w' (bl_app ⟨vs, h0'⟩ hbel hB hv (fun vs' h1 h2 => by
      have e : vs'.map Sv.v = vs.map Sv.v := by
        have ha := h1.reads
        have hb := hW.row.reads
        apply List.ext_getElem?
        intro i
        by_cases hi : i < (vs'.map Sv.v).length
        · have hi2 : i < (vs.map Sv.v).length := by rw [hb.1, ← ha.1]; exact hi
          obtain ⟨b1, o1, e1, c1⟩ := ha.2 i hi
          obtain ⟨b2, o2, e2, c2⟩ := hb.2 i hi2
          rw [e1] at e2
          simp at e2
          obtain ⟨rfl, rfl⟩ := e2
          rw [c1] at c2
          rw [List.getElem?_eq_getElem hi, List.getElem?_eq_getElem hi2, c2]
        · rw [List.getElem?_eq_none (by omega), List.getElem?_eq_none (by rw [hb.1, ← ha.1]; omega)]
      rw [e]; exact ⟨own, gr⟩)) ((Below.refl B W).grown gr hBW (fun k hk => (hW.row.blk_ge k hk).1)) (stay_grown hW.row gr)
end Go.Proofs.Ytnnhigojgdcdlaa.Code
