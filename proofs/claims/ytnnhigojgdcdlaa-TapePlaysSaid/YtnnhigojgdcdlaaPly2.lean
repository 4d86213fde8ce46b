/- TapePlays: a drive and the reference's tape, side by side. Conditions: none. -/
import Derived.Test.YtnnhigojgdcdlaaPly
import Derived.Deep.RegionHeld3
namespace Go.Proofs.Ytnnhigojgdcdlaa.Code
open Go.RowKit Go.Joins Go.Proofs.Ytnnhigojgdcdlaa.Crc Go.Proofs.Ytnnhigojgdcdlaa.Mem
/-- The drive (box q, tape td), the reference's tape (box p, tape tr), the call's copy (box x) and the bytes b of its own: none shares a block with another. -/
structure Tri (w wr : World) (q p x : Nat) (td tr : Tp) (act : Array Value) (A : Option Addr) (n c : Nat) (l : List UInt8) (S R : Nat → Prop) : Prop where
  drv : DrS 58 wr S q td
  ref : DrS 29 wr R p tr
  dis : ∀ j, S j → ¬ R j
  lo : ∀ j, S j → w.heap.size ≤ j
  lor : ∀ j, R j → w.heap.size ≤ j
  own : Own wr w.heap.size A n c l
  sep : ∀ g, blk A = some g → ¬ S g ∧ ¬ R g
  box : wr.heap[x]? = some (.cells act 48 (0, 0))
  sx : ¬ S x ∧ ¬ R x
  bel : Below w.heap.size w wr
section
variable {w wr w1 : World} {q p x : Nat} {td tr t' : Tp} {act : Array Value} {A : Option Addr} {n c : Nat} {l : List UInt8} {S R : Nat → Prop}
theorem DrS.lim {T : TypeId} {w : World} {S : Nat → Prop} {q : Nat} {t : Tp} (h : DrS T w S q t) : ∀ k, S k → k < w.heap.size := by obtain ⟨_, _, _, _, h⟩ := h; exact h.lim
theorem Tri.drive (h : Tri w wr q p x td tr act A n c l S R) (ht : Turned 58 wr S q t' w1) : Tri w w1 q p x t' tr act A n c l (Gr S wr w1) R := by
  refine ⟨ht.1, h.ref.upd ht.2 h.dis, fun j hj hR => ?_, fun j hj => ?_, h.lor, h.own.upd ht.2 (fun b hb => (h.sep b hb).1), fun g hg => ⟨fun hj => ?_, (h.sep g hg).2⟩, (ht.2.block x (lt_of_block h.box) h.sx.1).trans h.box, ⟨fun hj => ?_, h.sx.2⟩, h.bel.trans (ht.2.below (fun j _ hj => h.lo j hj) h.bel.size)⟩
  · rcases hj with hj | hj
    · exact h.dis j hj hR
    · have := h.ref.lim j hR; have := hj.1; omega
  · rcases hj with hj | hj
    · exact h.lo j hj
    · exact Nat.le_trans h.bel.size hj.1
  · rcases hj with hj | hj
    · exact (h.sep g hg).1 hj
    · have := (h.own.blk_ge g hg).2; have := hj.1; omega
  · rcases hj with hj | hj
    · exact h.sx.1 hj
    · have := lt_of_block h.box; have := hj.1; omega
theorem Tri.refer (h : Tri w wr q p x td tr act A n c l S R) (ht : Turned 29 wr R p t' w1) : Tri w w1 q p x td t' act A n c l S (Gr R wr w1) := by
  refine ⟨h.drv.upd ht.2 (fun k hR hS => h.dis k hS hR), ht.1, fun j hj hR => ?_, h.lo, fun j hj => ?_, h.own.upd ht.2 (fun b hb => (h.sep b hb).2), fun g hg => ⟨(h.sep g hg).1, fun hj => ?_⟩, (ht.2.block x (lt_of_block h.box) h.sx.2).trans h.box, ⟨h.sx.1, fun hj => ?_⟩, h.bel.trans (ht.2.below (fun j _ hj => h.lor j hj) h.bel.size)⟩
  · rcases hR with hR | hR
    · exact h.dis j hj hR
    · have := h.drv.lim j hj; have := hR.1; omega
  · rcases hj with hj | hj
    · exact h.lor j hj
    · exact Nat.le_trans h.bel.size hj.1
  · rcases hj with hj | hj
    · exact (h.sep g hg).2 hj
    · have := (h.own.blk_ge g hg).2; have := hj.1; omega
  · rcases hj with hj | hj
    · exact h.sx.2 hj
    · have := lt_of_block h.box; have := hj.1; omega
theorem Tri.below (h : Tri w wr q p x td tr act A n c l S R) (hb : Below wr.heap.size wr w1) : Tri w w1 q p x td tr act A n c l S R :=
  ⟨h.drv.below hb, h.ref.below hb, h.dis, h.lo, h.lor, h.own.below hb (Nat.le_refl _), h.sep, (hb.block x (lt_of_block h.box)).trans h.box, h.sx, h.bel.trans (hb.mono h.bel.size)⟩
theorem Tri.store (h : Tri w wr q p x td tr act A n c l S R) (i : Nat) (hi : i < n) (y : UInt8) : ∃ g, A = some ⟨g, 0, none⟩ ∧ (∃ z, wr.cell? ⟨g, i, none⟩ = some (.int .u8 (K z))) ∧ wr.frozen? ⟨g, i, none⟩ = false ∧ Tri w (wr.setCell ⟨g, i, none⟩ (.int .u8 (K y))) q p x td tr act A n c (l.set i y) S R := by
  obtain ⟨g, hA, hBg, hlt, hc, hf, hset⟩ := h.own.at i (by rw [h.own.len]; exact hi)
  have hu : Upd (fun k => k = g) wr (wr.setCell ⟨g, i, none⟩ (.int .u8 (K y))) := Upd.setCell (S := fun k => k = g) (Upd.refl _ wr) (p := ⟨g, i, none⟩) (fun _ => rfl) _
  have hs := h.sep g (by rw [hA]; rfl)
  have hxg : x ≠ g := by
    rintro rfl
    rcases h.own.shape with ⟨e, _⟩ | ⟨g', cur, e, _, _, hg', _⟩
    · rw [hA] at e; cases e
    · rw [hA] at e
      simp at e
      subst e
      have hb := h.box
      rw [hg'] at hb
      simp at hb
  exact ⟨g, hA, ⟨_, hc⟩, hf, h.drv.upd hu (fun k hk e => hs.1 (hk ▸ e)), h.ref.upd hu (fun k hk e => hs.2 (hk ▸ e)), h.dis, h.lo, h.lor, hset y, h.sep, (hu.block x (lt_of_block h.box) hxg).trans h.box, h.sx, h.bel.setCell hBg _⟩
end
/-- How the two stand ahead of a round. -/
def Pair (w wr : World) (q p : Nat) (t : Tp) : Prop := ∃ S R, DrS 58 wr S q t ∧ DrS 29 wr R p t ∧ (∀ j, S j → ¬ R j) ∧ (∀ j, S j → w.heap.size ≤ j) ∧ (∀ j, R j → w.heap.size ≤ j) ∧ Below w.heap.size w wr
/-- A tape that may be in a drive. -/
def Fit (t : Tp) : Prop := Right t.blocks ∧ (t.blocks.length : Int) ≤ t.cap ∧ t.cap ≤ 64
theorem Tri.first {w wr w7 : World} {q p : Nat} {t : Tp} {act : Array Value} {A : Option Addr} {n c : Nat} {l : List UInt8} {S R : Nat → Prop} (hd : DrS 58 wr S q t) (hr : DrS 29 wr R p t) (hdis : ∀ j, S j → ¬ R j) (hlo : ∀ j, S j → w.heap.size ≤ j) (hlor : ∀ j, R j → w.heap.size ≤ j) (hb : Below w.heap.size w wr)
    (ho : Own w7 wr.heap.size A n c l) (h7 : Below (wr.alloc (.cells act 48)).heap.size (wr.alloc (.cells act 48)) w7) : Tri w w7 q p wr.heap.size t t act A n c l S R := by
  have hz := World.size_alloc (w := wr) (o := .cells act 48)
  have hb7 : Below wr.heap.size wr w7 := ((Below.refl wr.heap.size wr).alloc (Nat.le_refl _) _).trans (h7.mono (by omega))
  refine ⟨hd.below hb7, hr.below hb7, hdis, hlo, hlor, ho.lower hb.size, fun g hg => ?_, ?_, ?_, hb.trans (hb7.mono hb.size)⟩
  · have := (ho.blk_ge g hg).1
    exact ⟨fun h => by have := hd.lim g h; omega, fun h => by have := hr.lim g h; omega⟩
  · exact (h7.block _ (by omega)).trans (heap_alloc_new wr _)
  · exact ⟨fun h => by have := hd.lim _ h; omega, fun h => by have := hr.lim _ h; omega⟩
theorem full_said (w : World) (S : Nat → Prop) (q : Nat) (t : Tp) (h : DrS 58 w S q t) (A : Option Addr) (n c : Nat) (h1 : 0 < n) (h2 : n ≤ 94) (hf : (t.blocks.length : Int) = t.cap) (hc : t.cap ≤ 64) :
    Calls Try.prog 10 #[.pointer (some ⟨q, 0, none⟩), .slice A n c] w (Said 6 w) := by
  refine (fullS w S q t h A n c h1 h2 hf hc).mono ?_
  rintro e w' ⟨rfl, hk⟩
  exact ⟨rfl, hk⟩
theorem fit_app {t : Tp} {b : List UInt8} (h : Fit t) (h1 : 0 < b.length) (h2 : b.length ≤ 94) (hf : (t.blocks.length : Int) < t.cap) : Fit ⟨t.label, t.cap, t.blocks ++ [b], t.lost⟩ := by
  refine ⟨fun d hd => ?_, ?_, h.2.2⟩
  · rcases List.mem_append.1 hd with hd | hd
    · exact h.1 d hd
    · simp at hd; subst hd; exact ⟨h1, h2⟩
  · show ((t.blocks ++ [b]).length : Int) ≤ t.cap
    rw [List.length_append]
    simp only [List.length_singleton]
    omega
theorem read_own (w : World) (S : Nat → Prop) (q : Nat) (t : Tp) (h : DrS 58 w S q t) (k : Nat) (b : List UInt8) (hb : t.blocks[k]? = some b) (hl : b.length ≤ 1000000) :
    Calls Try.prog 11 #[.pointer (some ⟨q, 0, none⟩), .int .i64 (k : Int)] w fun e w' => ∃ A' m c', e = .returned (.tuple #[.slice A' m c', .int .i64 0]) ∧ Own w' w.heap.size A' m c' b ∧ Below w.heap.size w w' := by
  obtain ⟨A, n, c, vs, h⟩ := h
  exact read_yes w q t A n c h.box h.blks k (by rw [← h.len]; exact (List.getElem?_eq_some_iff.1 hb).1) b hb hl
theorem fit_cut {t : Tp} (h : Fit t) (n bytes : Int) : Fit ⟨t.label, t.cap, cutTo t.blocks n bytes, t.lost⟩ := by
  unfold cutTo
  cases hf : t.blocks[n.toNat]? with
  | none => exact h
  | some f =>
    obtain ⟨hn, rfl⟩ := List.getElem?_eq_some_iff.1 hf
    have hl := h.2.1
    refine ⟨fun d hd => ?_, ?_, h.2.2⟩
    · have hd : d ∈ t.blocks.take n.toNat ++ (if 0 < bytes then [t.blocks[n.toNat].take bytes.toNat] else []) := hd
      rcases List.mem_append.1 hd with hd | hd
      · exact h.1 d (List.mem_of_mem_take hd)
      · by_cases hb : 0 < bytes
        · rw [if_pos hb] at hd
          simp at hd
          subst hd
          have := h.1 _ (List.getElem_mem hn)
          rw [List.length_take]
          omega
        · rw [if_neg hb] at hd
          simp at hd
    · show ((t.blocks.take n.toNat ++ (if 0 < bytes then [t.blocks[n.toNat].take bytes.toNat] else [])).length : Int) ≤ t.cap
      rw [List.length_append, List.length_take]
      by_cases hb : 0 < bytes
      · rw [if_pos hb]
        simp only [List.length_singleton]
        omega
      · rw [if_neg hb]
        simp only [List.length_nil]
        omega
theorem fit_rot {t : Tp} (h : Fit t) (k : Nat) (y : List UInt8) : Fit ⟨t.label, t.cap, rotTo t.blocks k y, t.lost⟩ := by
  refine ⟨fun d hd => ?_, ?_, h.2.2⟩
  · have hd : d ∈ rotTo t.blocks k y := hd
    unfold rotTo at hd
    cases hf : t.blocks[k]? with
    | none => rw [hf] at hd; exact h.1 d hd
    | some f =>
      rw [hf] at hd
      obtain ⟨hk, rfl⟩ := List.getElem?_eq_some_iff.1 hf
      rcases List.mem_or_eq_of_mem_set hd with hd | hd
      · exact h.1 d hd
      · subst hd
        rw [rotRow_len]
        exact h.1 _ (List.getElem_mem hk)
  · show ((rotTo t.blocks k y).length : Int) ≤ t.cap
    rw [rotTo_len]
    exact h.2.1
theorem fit_nil {t : Tp} (h : Fit t) : Fit ⟨t.label, t.cap, [], t.lost⟩ := ⟨fun d hd => by simp at hd, by have := h.2.1; show ((([] : List (List UInt8)).length : Nat) : Int) ≤ t.cap; simp; omega, h.2.2⟩
theorem step_callg {P : Program} {ops : Array Oper} {o : Oper} {a : Act} {W : World} {K : Act → World → Prop} {Q : Exit → Act → World → Prop} {E : Prop} {R : Ending → World → Prop} (hw : Region.wanted o (yielded ops a.tmps) = true) (f : FuncId) (vs : Array Value)
    (hrun : (execOp a.eval o).run P W = .ok (.enter f vs) W) (hc : Calls P f vs W R) (h : ∀ e w', R e w' → ∃ u, e = .returned u ∧ K (a.put o.dst u) w') :
    if Region.wanted o (yielded ops a.tmps) = true then Oper.wp P o a W K Q else E := by
  rw [if_pos hw]
  unfold Oper.wp
  rw [hrun, Oper.upon_enter]
  exact hc.mono (fun e w' hr => by obtain ⟨u, rfl, hk⟩ := h e w' hr; exact hk)
theorem room_said (w : World) (S : Nat → Prop) (q : Nat) (t : Tp) (h : DrS 58 w S q t) (h0 : (t.blocks.length : Int) ≤ t.cap) (h1 : t.cap ≤ 64) (m : Int) (hm : t.cap - (t.blocks.length : Int) = m) : Calls Try.prog 13 #[.pointer (some ⟨q, 0, none⟩)] w (Said m w) := by
  refine (roomS w S q t h h0 h1 m hm).mono ?_
  rintro e w' ⟨rfl, hk⟩
  exact ⟨rfl, hk⟩
theorem Tri.pair {w wr : World} {q p x : Nat} {t : Tp} {act : Array Value} {A : Option Addr} {n c : Nat} {l : List UInt8} {S R : Nat → Prop} (h : Tri w wr q p x t t act A n c l S R) : Pair w wr q p t := ⟨S, R, h.drv, h.ref, h.dis, h.lo, h.lor, h.bel⟩
/-- What region 41 finds in each of its worlds. -/
structure HoldT (w wr : World) (q p x : Nat) (t : Tp) (act : Array Value) (A : Option Addr) (n c : Nat) (l : List UInt8) (S R : Nat → Prop) (Ar : Option Addr) (nr cr : Nat) (vr : List Sv) : Prop where
  tri : Tri w wr q p x t t act A n c l S R
  tps : TpS 29 wr R p t Ar nr cr vr
theorem HoldT.below {w wr w1 : World} {q p x : Nat} {t : Tp} {act : Array Value} {A : Option Addr} {n c : Nat} {l : List UInt8} {S R : Nat → Prop} {Ar : Option Addr} {nr cr : Nat} {vr : List Sv} (h : HoldT w wr q p x t act A n c l S R Ar nr cr vr) (hb : Below wr.heap.size wr w1) : HoldT w w1 q p x t act A n c l S R Ar nr cr vr := ⟨h.tri.below hb, h.tps.below hb⟩
end Go.Proofs.Ytnnhigojgdcdlaa.Code
