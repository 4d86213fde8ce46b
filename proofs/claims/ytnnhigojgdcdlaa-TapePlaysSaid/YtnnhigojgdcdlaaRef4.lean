/- The reference's Rot. Conditions: as each says. -/
import Derived.Test.YtnnhigojgdcdlaaRef3
import Derived.BigRegion
namespace Go.Proofs.Ytnnhigojgdcdlaa.Code
open Go.RowKit Go.Joins Go.Proofs.Ytnnhigojgdcdlaa.Crc Go.Proofs.Ytnnhigojgdcdlaa.Mem
structure RotT (w wr : World) (S : Nat → Prop) (q : Nat) (t : Tp) (A : Option Addr) (m c : Nat) (vs : List Sv) (k : Nat) (b turn : List UInt8) (j : Nat) : Prop where
  tp : TpS 29 wr S q ⟨t.label, t.cap, t.blocks.set k (rotRow b (turn.take j)), t.lost⟩ A m c vs
  up : Upd S w wr
  sz : wr.heap.size = w.heap.size
theorem RotT.next {w wr : World} {S : Nat → Prop} {q : Nat} {t : Tp} {A A2 : Option Addr} {m c k n c2 : Nat} {vs : List Sv} {s : Sv} {b turn : List UInt8} {j : Nat} (h : RotT w wr S q t A m c vs k b turn j) (hvk : vs[k]? = some s) (hbk : t.blocks[k]? = some b) (hs : Sl w A2 n c2 turn) (hns : ∀ g, blk A2 = some g → 0 < n → ¬ S g) (hj : j < b.length) (hjt : j < turn.length) :
    ∃ p p2 o2 x y, s.a = some ⟨p, 0, none⟩ ∧ A2 = some ⟨p2, o2, none⟩ ∧ wr.drew.cell? ⟨p, j, none⟩ = some (.int .u8 (K x)) ∧ wr.drew.frozen? ⟨p, j, none⟩ = false ∧ wr.drew.cell? ⟨p2, o2 + j, none⟩ = some (.int .u8 (K y)) ∧ Go.bits .xor .u8 (K x) (K y) = K (x ^^^ y) ∧ RotT w (wr.drew.setCell ⟨p, j, none⟩ (.int .u8 (K (x ^^^ y)))) S q t A m c vs k b turn (j + 1) := by
  have hd : Below wr.heap.size wr wr.drew := (Below.refl _ _).drew
  have htp := h.tp.below hd
  obtain ⟨hi, _⟩ := List.getElem?_eq_some_iff.1 hbk
  have hx : b[j]? = some b[j] := List.getElem?_eq_getElem hj
  have hy : turn[j]? = some turn[j] := List.getElem?_eq_getElem hjt
  obtain ⟨e1, e2⟩ := rotRow_step b turn j _ _ hx hy
  obtain ⟨p, hp, hSp, hpq, hc, hf, hset⟩ := htp.byte (by decide) k s (rotRow b (turn.take j)) hvk (List.getElem?_set_self hi) j _ e2
  obtain ⟨htp', hu'⟩ := hset (b[j] ^^^ turn[j])
  have ht := (hs.upd h.up hns).1.below hd (Nat.le_refl _)
  obtain ⟨p2, o2, h2, hc2⟩ := ht.2 j hjt
  refine ⟨p, p2, o2, b[j], turn[j], hp, h2, hc, hf, hc2, K_xor _ _, ?_, (h.up.drew).trans hu' (fun _ _ e => e), ?_⟩
  · rw [e1]
    simp only [List.set_set] at htp'
    exact htp'
  · simp [World.setCell, h.sz]
/-- The cells of the row's slice, where it is read in the round. -/
theorem RotT.row {w wr : World} {S : Nat → Prop} {q : Nat} {t : Tp} {g m c k : Nat} {vs : List Sv} {s : Sv} {b turn : List UInt8} {j : Nat} (h : RotT w wr S q t (some ⟨g, 0, none⟩) m c vs k b turn j) (hvk : vs[k]? = some s) (hk : k < m) :
    wr.cell? ⟨q, 2, none⟩ = some (.slice (some ⟨g, 0, none⟩) m c) ∧ wr.cell? ⟨g, k, none⟩ = some (.slice s.a s.n s.c) := by
  refine ⟨h.tp.cells.2.2.1, ?_⟩
  obtain ⟨g', s', b', hrow⟩ := h.tp.row k hk
  obtain ⟨e, hv, _, hc, _⟩ := hrow.resolve_right (by decide)
  simp at e
  subst e
  rw [hvk] at hv
  injection hv with hv
  subst hv
  exact hc
theorem rrot_no (w : World) (S : Nat → Prop) (q : Nat) (t : Tp) (h : DrS 29 w S q t) (k : Int) (hk : k < 0 ∨ (t.blocks.length : Int) ≤ k) (A : Option Addr) (n c : Nat) :
    Calls Try.prog 23 #[.pointer (some ⟨q, 0, none⟩), .int .i64 k, .slice A n c] w fun e w' => e = .returned (.int .i64 5) ∧ w' = w := by
  obtain ⟨A', m, c', vs, h⟩ := h
  obtain ⟨d0, d1, d2, d3⟩ := h.cells
  have hl := h.len
  have hk2 : k < 0 ∨ (0 ≤ k ∧ (m : Int) ≤ k) := by omega
  clear h hk hl
  rcases hk2 with h | ⟨h1, h2⟩
  all_goals
    go_enter Try.func23, Try.ntmps23
    go_wp2
    go_ret
    exact ⟨rfl, rfl⟩
set_option maxHeartbeats 8000000 in
set_option maxRecDepth 100000 in
theorem rrot_ok (w : World) (S : Nat → Prop) (q : Nat) (t : Tp) (h : DrS 29 w S q t) (k : Nat) (hk : k < t.blocks.length) (A : Option Addr) (n c : Nat) (turn : List UInt8) (hs : Sl w A n c turn) (hns : ∀ g, blk A = some g → 0 < n → ¬ S g) (hn : n ≤ 1000000) :
    Calls Try.prog 23 #[.pointer (some ⟨q, 0, none⟩), .int .i64 (k : Int), .slice A n c] w (Told 29 w S q 0 ⟨t.label, t.cap, rotTo t.blocks k turn, t.lost⟩) := by
  obtain ⟨A', m, c', vs, ht⟩ := h
  have hl := ht.len
  obtain ⟨g, s, b, hrow⟩ := ht.row k (by omega)
  obtain ⟨rfl, hvk, hbk, hc, ho, hSg, hgq⟩ := hrow.resolve_right (by decide)
  obtain ⟨sa, sn, sc⟩ := s
  have hbl : b.length = sn := ho.len
  have htl := hs.len
  obtain ⟨d0, d1, d2, d3⟩ := ht.cells
  have hkm : (k : Int) < (m : Int) := by omega
  have hkm2 : k < m := by omega
  have HR0 : Hid (RotT w w S q t (some ⟨g, 0, none⟩) m c' vs k b turn 0) := by
    refine ⟨?_, Upd.refl _ _, rfl⟩
    have e : t.blocks.set k (rotRow b (turn.take 0)) = t.blocks := by
      obtain ⟨hi, rfl⟩ := List.getElem?_eq_some_iff.1 hbk
      rw [List.take_zero, rotRow_nil, List.set_getElem_self]
    rw [e]
    exact ht
  have HVK := Lib.hid hvk
  have HBK := Lib.hid hbk
  have HBL := Lib.hid hbl
  have HTL := Lib.hid htl
  have HS := Lib.hid hs
  have HNS := Lib.hid hns
  clear ht hl hvk hbk ho hbl htl hs hns hrow
  go_enter Try.func23, Try.ntmps23
  go_wp2
  clear d0 d1 d2 d3 hc
  go_loopw [7] (fun i wr => ∃ j, j ≤ min sn n ∧ i = .int .i64 (j : Int) ∧ RotT w wr S q t (some ⟨g, 0, none⟩) m c' vs k b turn j) (fun i _ => min sn n - (intOf i).toNat)
  case atStart => exact ⟨0, Nat.zero_le _, rfl, HR0.out⟩
  case round =>
    clear HR0
    obtain ⟨j, hj, rfl, hr⟩ := hrel
    obtain ⟨hx2, hxr⟩ := hr.row HVK.out hkm2
    by_cases hjn : j < n
    · by_cases hjs : j < sn
      · obtain ⟨p, p2, o2, x, y, hp, rfl, hc1, hf1, hc2, hxy, hnext⟩ := hr.next HVK.out HBK.out HS.out HNS.out (by have := HBL.out; omega) (by have := HTL.out; omega)
        have hp : sa = some ⟨p, 0, none⟩ := hp
        subst hp
        have hy2 : wr.drew.cell? ⟨q, 2, none⟩ = some (.slice (some ⟨g, 0, none⟩) m c') := hx2
        have hyr : wr.drew.cell? ⟨g, k, none⟩ = some (.slice (some ⟨p, 0, none⟩) sn sc) := hxr
        have HN := Lib.hid hnext
        have HJ : Hid (j + 1 ≤ min sn n) := by unfold Hid; omega
        have HJN : Hid (n ≤ 1000000 ∧ j < n) := ⟨hn, hjn⟩
        clear hr hnext
        go_upto_region 6 with (fail)
        go_region
        all_goals
          go_wp2
          go_roundw
          case rel => exact ⟨j + 1, HJ.out, by go_num, HN.out⟩
          case measure => have h9 := HJ.out; simp [intOf]; omega
      · have hjs' : ¬ (j : Int) < (sn : Int) := by omega
        have HR := Lib.hid hr
        have HEND : Hid (b.length ≤ j ∨ turn.length ≤ j) := by have := HBL.out; have := HTL.out; unfold Hid; omega
        clear hr
        go_wp2
        go_ret
        have htp := HR.out.tp
        rw [rotRow_end b turn j HEND.out, ← rotTo_at t.blocks k turn b HBK.out] at htp
        have hsz := HR.out.sz
        exact ⟨rfl, (DrS.same ⟨_, _, _, _, htp⟩ |>.1.mono (fun i hi => hi.imp id fun e => (show False by have := e.1; have := e.2; omega).elim) (fun i hi => hi.elim (htp.lim i) fun e => e.2)), HR.out.up⟩
    · have hjn' : ¬ (j : Int) < (n : Int) := by omega
      have HR := Lib.hid hr
      have HEND : Hid (b.length ≤ j ∨ turn.length ≤ j) := by have := HBL.out; have := HTL.out; unfold Hid; omega
      clear hr
      go_wp2
      go_ret
      have htp := HR.out.tp
      rw [rotRow_end b turn j HEND.out, ← rotTo_at t.blocks k turn b HBK.out] at htp
      have hsz := HR.out.sz
      exact ⟨rfl, (DrS.same ⟨_, _, _, _, htp⟩ |>.1.mono (fun i hi => hi.imp id fun e => (show False by have := e.1; have := e.2; omega).elim) (fun i hi => hi.elim (htp.lim i) fun e => e.2)), HR.out.up⟩
end Go.Proofs.Ytnnhigojgdcdlaa.Code
