/- VerifyFinds' laws: append of a row of bytes; bits. Conditions: as each says. -/
import Derived.Test.YtpgceeeokjadpaaFinPure
import Derived.Test.YtpgceeeokjadpaaBl
import Derived.Test.YtpgceeeokjadpaaVer9
namespace Go.Proofs.Ytpgceeeokjadpaa.Code
open Go.RowKit Go.Joins Go.Proofs.Ytpgceeeokjadpaa.Crc Go.Proofs.Ytpgceeeokjadpaa.Mem
theorem info22 : (Try.prog.info? 22).map (fun i => (i.zero, i.size, i.bytes)) = some (some (.slice none 0 0), 1, 24) := by kernel_rfl
theorem info4 : (Try.prog.info? 4).map (fun i => (i.zero, i.size, i.bytes)) = some (some (.bool false), 1, 1) := by kernel_rfl
theorem and_le (x : Int) (m : Nat) (hm : m < 2 ^ 63) : ∃ k : Nat, k ≤ m ∧ Go.bits .and .i64 x (m : Int) = (k : Int) := by
  have hle : (BitVec.ofInt 64 x &&& BitVec.ofInt 64 (m : Int)).toNat ≤ m := by
    rw [BitVec.toNat_and, BitVec.ofInt_natCast, BitVec.toNat_ofNat, Nat.mod_eq_of_lt (by omega)]
    exact Nat.and_le_right
  refine ⟨(BitVec.ofInt 64 x &&& BitVec.ofInt 64 (m : Int)).toNat, hle, ?_⟩
  show IntKind.i64.wrap (((BitVec.ofInt 64 x) &&& (BitVec.ofInt 64 (m : Int))).toNat : Int) = _
  rw [IntKind.wrap_i64]
  omega
/-- Blocks of other element types stay. -/
def Stay (T : TypeId) (w w' : World) : Prop := ∀ (g : Nat) (cs : Array Value) (T' : TypeId), T' ≠ T → w.heap[g]? = some (.cells cs T' (0, 0)) → w'.heap[g]? = some (.cells cs T' (0, 0))
theorem stay_grown {T k : Nat} {w w' : World} {B : Nat} {A : Option Addr} {n c : Nat} {cs : List Value} (h : RO T k w B A n c cs) (gr : w.grownBy w' (blk A)) : Stay T w w' := by
  intro g l T' hT hg
  refine (gr.block g (lt_of_block hg) (fun e => ?_)).trans hg
  rcases h.shape with ⟨rfl, _⟩ | ⟨q, cur, rfl, _, _, hq, _⟩
  · simp [blk] at e
  · simp [blk] at e
    subst e
    rw [hg] at hq
    simp at hq
    exact hT hq.2
theorem stay_set {w : World} {q i : Nat} {l : Array Value} {T : TypeId} (hq : w.heap[q]? = some (.cells l T (0, 0))) (v : Value) : Stay T w (w.setCell ⟨q, i, none⟩ v) := by
  intro g cs T' hT hg
  refine (Below.heap_setCell w ⟨q, i, none⟩ v g (fun e => ?_)).trans hg
  have e : g = q := e
  subst e
  rw [hg] at hq
  simp at hq
  exact hT hq.2
theorem _root_.Go.Proofs.Ytpgceeeokjadpaa.Mem.RO.stay {T T' k : Nat} {w w' : World} {B : Nat} {A : Option Addr} {n c : Nat} {cs : List Value} (h : RO T k w B A n c cs) (hs : Stay T' w w') (hT : T ≠ T') : RO T k w' B A n c cs := by
  refine h.move fun g hg _ => ?_
  rcases h.shape with ⟨rfl, _⟩ | ⟨q, cur, rfl, _, _, hq, _⟩
  · simp [blk] at hg
  · simp [blk] at hg; subst hg
    rw [hs _ _ _ hT hq, hq]
theorem _root_.Go.Proofs.Ytpgceeeokjadpaa.Mem.Bl.stay {T : TypeId} {w w' : World} {B : Nat} {A : Option Addr} {n c : Nat} {bs : List (List UInt8)} (h : Bl w B A n c bs) (hs : Stay T w w') (hT : T ≠ 22) (hT5 : T ≠ 5) : Bl w' B A n c bs := by
  refine h.move fun g _ _ ⟨cs, T', hT', hg⟩ => ?_
  have hne : T' ≠ T := hT'.elim (fun e1 e2 => hT (e2.symm.trans e1)) (fun e1 e2 => hT5 (e2.symm.trans e1))
  rw [hs g cs T' hne hg, hg]
theorem bl_app {w0 W w' : World} {B : Nat} {A A' : Option Addr} {n c c' : Nat} {bs : List (List UInt8)} {v : Sv} {b : List UInt8} (h0 : Bl w0 B A n c bs) (hbel : Below w0.heap.size w0 W) (hB : B ≤ w0.heap.size) (hv : Own W w0.heap.size v.a v.n v.c b)
    (hrow : ∀ vs : List Sv, RO 22 1 W B A n c (vs.map Sv.v) → BlV W B A n c vs bs → RO 22 1 w' B A' (n + 1) c' (vs.map Sv.v ++ [v.v]) ∧ W.grownBy w' (blk A)) : Bl w' B A' (n + 1) c' (bs ++ [b]) := by
  obtain ⟨vs, h⟩ := h0
  have hW : BlV W B A n c vs bs := h.move fun g _ hlt _ => hbel.block g hlt
  obtain ⟨h1, h2⟩ := hrow vs hW.row hW
  refine ⟨_, hW.app v b (hv.lower hB) (fun i t g ht hg e => ?_) h1 h2⟩
  have := (h.lt i t g ht hg).2
  have := (hv.blk_ge g e).1
  omega
theorem app_bl {ops : Array Oper} {rest : List Oper} {o : Oper} {a : Act} {Q : Exit → Act → World → Prop} {W : World} (hgd : o.guard = none) (s x : Operand)
    (ho : o.op = .call { callee := .builtin .append, args := #[s, x], argTypes := #[63, 63] }) {B : Nat} {A : Option Addr} {n c q : Nat} {bs : List (List UInt8)} {v : Sv} {b : List UInt8} (hs : a.eval s = .slice A n c) (hx : a.eval x = .slice (some ⟨q, 0, none⟩) 1 1)
    {w0 : World} (h0 : Bl w0 B A n c bs) (hbel : Below w0.heap.size w0 W) (hB : B ≤ w0.heap.size) (hv : Own W w0.heap.size v.a v.n v.c b) (hq : W.heap[q]? = some (.cells #[.slice v.a v.n v.c] 22 (0, 0))) (hn : n ≤ 1000000)
    (h : ∀ A' c' w', Bl w' B A' (n + 1) c' (bs ++ [b]) → Below B W w' → Stay 22 W w' → wpList Try.prog ops Q rest (a.put o.dst (.slice A' (n + 1) c')) w') : wpList Try.prog ops Q (o :: rest) a W := by
  obtain ⟨vs, h0'⟩ := h0
  have hW : BlV W B A n c vs bs := h0'.move fun g _ hlt _ => hbel.block g hlt
  have hBW : B ≤ W.heap.size := Nat.le_trans hB hbel.size
  refine appR_law hgd s x 63 22 ho Try.underlying63 info22 rfl (by decide) hs hx hW.row (RR.block (cs := [v.v]) hq rfl ?_) ?_ (fun h => by cases h) (by simp only [maxLen]; omega) (by omega) hBW ?_
  · intro i hi
    have : i < 1 := hi
    obtain rfl : i = 0 := by omega
    rfl
  · intro u hu
    simp at hu
    subst hu
    rfl
  · intro A' c' w' own gr _
    exact h A' c' w' (bl_app ⟨vs, h0'⟩ hbel hB hv (fun vs' h1 h2 => by
      have e : vs'.map Sv.v = vs.map Sv.v := by
        have ha := h1.reads
        have hb := hW.row.reads
        apply List.ext_getElem?
        intro i
        by_cases hi : i < (vs'.map Sv.v).length
        · have hi2 : i < (vs.map Sv.v).length := by rw [hb.1, ← ha.1]; exact hi
          obtain ⟨b1, o1, e1, c1⟩ := ha.2 i hi
          obtain ⟨b2, o2, e2, c2⟩ := hb.2 i hi2
          rw [e1] at e2
          simp at e2
          obtain ⟨rfl, rfl⟩ := e2
          rw [c1] at c2
          rw [List.getElem?_eq_getElem hi, List.getElem?_eq_getElem hi2, c2]
        · rw [List.getElem?_eq_none (by omega), List.getElem?_eq_none (by rw [hb.1, ← ha.1]; omega)]
      rw [e]; exact ⟨own, gr⟩)) ((Below.refl B W).grown gr hBW (fun k hk => (hW.row.blk_ge k hk).1)) (stay_grown hW.row gr)
end Go.Proofs.Ytpgceeeokjadpaa.Code
