/- VerifyMembers' walk. Conditions: the numbers are as the guard lets in. -/
import Derived.Test.YtpgceeeokjadpaaMemPure
import Derived.Test.YtpgceeeokjadpaaFin
import Derived.Test.YtpgceeeokjadpaaFr12
import Derived.Deep.RegionWith
namespace Go.Proofs.Ytpgceeeokjadpaa.Code
open Go.RowKit Go.Joins Go.Proofs.Ytpgceeeokjadpaa.Crc Go.Proofs.Ytpgceeeokjadpaa.Mem
theorem info65 : (Try.prog.info? 65).map (fun i => (i.zero, i.size, i.bytes)) = some (some (.agg #[.int .i64 0, .int .i64 0, .slice none 0 0, .bool false]), 4, 48) := by kernel_rfl
def tpc (p : Tp × Sv) : List Value := [.int .i64 p.1.label, .int .i64 p.1.cap, .slice p.2.a p.2.n p.2.c, .bool p.1.lost]
/-- A row of tapes of the call's own. -/
def TR (w : World) (B : Nat) (A : Option Addr) (m c : Nat) (ts : List Tp) : Prop :=
  ∃ vs : List (Tp × Sv), RO 65 4 w B A m c (vs.flatMap tpc) ∧ vs.map Prod.fst = ts ∧ ∀ p ∈ vs, Bl w B p.2.a p.2.n p.2.c p.1.blocks
theorem tpc_len (vs : List (Tp × Sv)) : (vs.flatMap tpc).length = vs.length * 4 := by
  induction vs with
  | nil => rfl
  | cons p l ih => rw [List.flatMap_cons, List.length_append, ih]; simp [tpc]; omega
theorem tpc_at (vs : List (Tp × Sv)) : ∀ i (h : i < vs.length), (vs.flatMap tpc)[i * 4]? = some (.int .i64 vs[i].1.label) ∧ (vs.flatMap tpc)[i * 4 + 1]? = some (.int .i64 vs[i].1.cap) ∧ (vs.flatMap tpc)[i * 4 + 2]? = some (.slice vs[i].2.a vs[i].2.n vs[i].2.c) ∧ (vs.flatMap tpc)[i * 4 + 3]? = some (.bool vs[i].1.lost) := by
  induction vs with
  | nil => intro i h; simp at h
  | cons p l ih =>
    intro i h
    have e : (p :: l).flatMap tpc = .int .i64 p.1.label :: .int .i64 p.1.cap :: .slice p.2.a p.2.n p.2.c :: .bool p.1.lost :: l.flatMap tpc := rfl
    rw [e]
    cases i with
    | zero => exact ⟨rfl, rfl, rfl, rfl⟩
    | succ i =>
      obtain ⟨a, b, c, d⟩ := ih i (by simpa using h)
      rw [show (i + 1) * 4 = i * 4 + 1 + 1 + 1 + 1 by omega]
      simp only [List.getElem?_cons_succ, List.getElem_cons_succ]
      exact ⟨a, b, c, d⟩
theorem TR.nil (w : World) (B : Nat) : TR w B none 0 0 [] := ⟨[], RO.nil _ _ _ _, rfl, fun p hp => by simp at hp⟩
theorem TR.len {w : World} {B : Nat} {A : Option Addr} {m c : Nat} {ts : List Tp} (h : TR w B A m c ts) : ts.length = m := by
  obtain ⟨vs, h1, rfl, _⟩ := h
  have := h1.len
  rw [tpc_len] at this
  rw [List.length_map]
  omega
theorem TR.cap {w : World} {B : Nat} {A : Option Addr} {m c : Nat} {ts : List Tp} (h : TR w B A m c ts) : m ≤ c := by obtain ⟨vs, h1, _⟩ := h; exact h1.cap.1
theorem TR.tps {w : World} {B : Nat} {A : Option Addr} {m c : Nat} {ts : List Tp} (h : TR w B A m c ts) : Tps w A m ts := by
  refine ⟨h.len, fun i hi => ?_⟩
  obtain ⟨vs, h1, rfl, h3⟩ := h
  have hiv : i < vs.length := by simpa using hi
  have hl := tpc_len vs
  obtain ⟨e0, e1, e2, e3⟩ := tpc_at vs i hiv
  have get : ∀ j v, j < (vs.flatMap tpc).length → (vs.flatMap tpc)[j]? = some v → ∃ b o, A = some ⟨b, o, none⟩ ∧ w.cell? ⟨b, o + j, none⟩ = some v := by
    intro j v hj hv
    obtain ⟨b, o, ha, hc⟩ := h1.reads.2 j hj
    rw [List.getElem?_eq_getElem hj] at hv
    injection hv with hv
    exact ⟨b, o, ha, by rw [hc, hv]⟩
  obtain ⟨b, o, ha, c0⟩ := get _ _ (by omega) e0
  obtain ⟨b1, o1, ha1, c1⟩ := get _ _ (by omega) e1
  obtain ⟨b2, o2, ha2, c2⟩ := get _ _ (by omega) e2
  obtain ⟨b3, o3, ha3, c3⟩ := get _ _ (by omega) e3
  rw [ha] at ha1 ha2 ha3
  simp at ha1 ha2 ha3
  obtain ⟨rfl, rfl⟩ := ha1
  obtain ⟨rfl, rfl⟩ := ha2
  obtain ⟨rfl, rfl⟩ := ha3
  simp only [List.getElem_map]
  exact ⟨b, o, _, _, _, ha, c0, by rw [← Nat.add_assoc] at c1; exact c1, by rw [← Nat.add_assoc] at c2; exact c2, by rw [← Nat.add_assoc] at c3; exact c3, (h3 _ (List.getElem_mem hiv)).blks⟩
theorem TR.below {w w' : World} {B : Nat} {A : Option Addr} {m c : Nat} {ts : List Tp} (h : TR w B A m c ts) (hb : Below w.heap.size w w') : TR w' B A m c ts := by
  obtain ⟨vs, h1, h2, h3⟩ := h
  exact ⟨vs, h1.below hb, h2, fun p hp => (h3 p hp).below hb⟩
theorem TR.stay {T : TypeId} {w w' : World} {B : Nat} {A : Option Addr} {m c : Nat} {ts : List Tp} (h : TR w B A m c ts) (hs : Stay T w w') (h65 : 65 ≠ T) (h22 : T ≠ 22) (h5 : T ≠ 5) : TR w' B A m c ts := by
  obtain ⟨vs, h1, h2, h3⟩ := h
  exact ⟨vs, h1.stay hs h65, h2, fun p hp => (h3 p hp).stay hs h22 h5⟩
theorem app_tp {ops : Array Oper} {rest : List Oper} {o : Oper} {a : Act} {Q : Exit → Act → World → Prop} {W : World} (hgd : o.guard = none) (s x : Operand)
    (ho : o.op = .call { callee := .builtin .append, args := #[s, x], argTypes := #[72, 72] }) {B : Nat} {A : Option Addr} {m c q : Nat} {ts : List Tp} {v : Sv} {t : Tp} (hs : a.eval s = .slice A m c) (hx : a.eval x = .slice (some ⟨q, 0, none⟩) 1 1)
    (ht : TR W B A m c ts) (hq : W.heap[q]? = some (.cells #[.int .i64 t.label, .int .i64 t.cap, .slice v.a v.n v.c, .bool t.lost] 65 (0, 0))) (hbl : Bl W B v.a v.n v.c t.blocks) (hn : m ≤ 1000000) (hB : B ≤ W.heap.size)
    (h : ∀ A' c' w', TR w' B A' (m + 1) c' (ts ++ [t]) → Below B W w' → Stay 65 W w' → wpList Try.prog ops Q rest (a.put o.dst (.slice A' (m + 1) c')) w') : wpList Try.prog ops Q (o :: rest) a W := by
  obtain ⟨vs, h1, rfl, h3⟩ := ht
  refine appR_law hgd s x 72 65 ho Try.underlying72 info65 rfl (by decide) hs hx h1 (RR.block (cs := tpc (t, v)) hq rfl ?_) ?_ (fun h => by cases h) (by simp only [maxLen]; omega) (by omega) hB ?_
  · intro i hi
    have : i < 4 := hi
    have : i = 0 ∨ i = 1 ∨ i = 2 ∨ i = 3 := by omega
    rcases this with rfl | rfl | rfl | rfl <;> rfl
  · intro u hu
    simp [tpc] at hu
    rcases hu with rfl | rfl | rfl | rfl <;> rfl
  · intro A' c' w' own gr _
    have st := stay_grown h1 gr
    refine h A' c' w' ⟨vs ++ [(t, v)], ?_, by rw [List.map_append]; rfl, fun p hp => ?_⟩ ((Below.refl B W).grown gr hB (fun k hk => (h1.blk_ge k hk).1)) st
    · rw [List.flatMap_append, List.flatMap_singleton]; exact own
    · rcases List.mem_append.1 hp with hp | hp
      · exact (h3 p hp).stay st (by decide) (by decide)
      · simp at hp; subst hp; exact hbl.stay st (by decide) (by decide)
end Go.Proofs.Ytpgceeeokjadpaa.Code
