/- A drive in memory: Rot. Conditions: as each says. -/
import Derived.Test.YtnnhigojgdcdlaaDtap
namespace Go.Proofs.Ytnnhigojgdcdlaa.Crc
/-- A row whose first bytes are turned. -/
def rotRow : List UInt8 → List UInt8 → List UInt8
  | x :: b, y :: t => (x ^^^ y) :: rotRow b t
  | b, [] => b
  | [], _ => []
theorem rotRow_len (b t : List UInt8) : (rotRow b t).length = b.length := by
  induction b generalizing t with
  | nil => cases t <;> rfl
  | cons x b ih => cases t with
    | nil => rfl
    | cons y t => simp [rotRow, ih]
theorem rotRow_nil (b : List UInt8) : rotRow b [] = b := by cases b <;> rfl
theorem rotRow_at (b t : List UInt8) (i : Nat) : (rotRow b t)[i]? = (match b[i]?, t[i]? with | some x, some y => some (x ^^^ y) | o, _ => o) := by
  induction b generalizing t i with
  | nil => cases t <;> simp [rotRow]
  | cons x b ih => cases t with
    | nil => cases h : (x :: b)[i]? <;> simp [rotRow, h]
    | cons y t => cases i with
      | zero => simp [rotRow]
      | succ i => simp [rotRow, ih]
theorem rotRow_step (b t : List UInt8) (j : Nat) (x y : UInt8) (hx : b[j]? = some x) (hy : t[j]? = some y) : rotRow b (t.take (j + 1)) = (rotRow b (t.take j)).set j (x ^^^ y) ∧ (rotRow b (t.take j))[j]? = some x := by
  obtain ⟨hj, rfl⟩ := List.getElem?_eq_some_iff.1 hx
  obtain ⟨ht, rfl⟩ := List.getElem?_eq_some_iff.1 hy
  constructor
  · apply List.ext_getElem?
    intro i
    rw [rotRow_at, List.getElem?_take, List.getElem?_set, rotRow_at, List.getElem?_take, rotRow_len]
    by_cases h1 : j = i
    · subst h1
      rw [if_pos rfl, if_pos hj, if_pos (by omega), hx, hy]
    · rw [if_neg h1]
      by_cases h2 : i < j
      · rw [if_pos (by omega), if_pos h2]
      · rw [if_neg (by omega), if_neg h2]
  · rw [rotRow_at, List.getElem?_take, if_neg (by omega), hx]
theorem rotRow_end (b t : List UInt8) (j : Nat) (h : b.length ≤ j ∨ t.length ≤ j) : rotRow b (t.take j) = rotRow b t := by
  apply List.ext_getElem?
  intro i
  rw [rotRow_at, rotRow_at, List.getElem?_take]
  by_cases h2 : i < j
  · rw [if_pos h2]
  · rw [if_neg h2]
    rcases h with h | h
    · rw [List.getElem?_eq_none (by omega)]
    · rw [List.getElem?_eq_none (l := t) (by omega)]
theorem rotRow_twice (b t : List UInt8) : rotRow (rotRow b t) t = b := by
  apply List.ext_getElem?
  intro i
  rw [rotRow_at, rotRow_at]
  cases hb : b[i]? with
  | none => simp
  | some x => cases ht : t[i]? with
    | none => simp
    | some y => simp [UInt8.xor_assoc]
end Go.Proofs.Ytnnhigojgdcdlaa.Crc
namespace Go.Proofs.Ytnnhigojgdcdlaa.Code
open Go.RowKit Go.Joins Go.Proofs.Ytnnhigojgdcdlaa.Crc Go.Proofs.Ytnnhigojgdcdlaa.Mem
theorem Sl.blk_lt {w : World} {A : Option Addr} {n c : Nat} {l : List UInt8} (h : Sl w A n c l) (hn : 0 < n) : ∀ g, blk A = some g → g < w.heap.size := by
  intro g hg
  obtain ⟨b, o, ha, hc⟩ := h.1.2 0 (by have := h.len; omega)
  rw [ha] at hg
  simp [blk] at hg
  subst hg
  exact World.block_lt_of_cell? _ _ hc
theorem rot_no (w : World) (S : Nat → Prop) (q : Nat) (t : Tp) (h : DrS 58 w S q t) (k : Int) (hk : k < 0 ∨ (t.blocks.length : Int) ≤ k) (A : Option Addr) (n c : Nat) :
    Calls Try.prog 15 #[.pointer (some ⟨q, 0, none⟩), .int .i64 k, .slice A n c] w fun e w' => e = .returned (.int .i64 5) ∧ w' = w := by
  obtain ⟨A', m, c', vs, h⟩ := h
  have hl := h.len
  have hd : Db w q t A' m c' := h.box
  have HD := Lib.hid hd
  have HK : Hid (k < 0 ∨ (m : Int) ≤ k) := by unfold Hid; omega
  clear h hd hl hk
  go_enter Try.func15, Try.ntmps15
  go_wp2_with (go_at_call 29; (with_reducible refine (is_no _ q t _ m c' HD.out k HK.out).mono ?_); rintro e w' ⟨rfl, hz⟩; obtain rfl := hz.symm)
  go_ret
  exact ⟨rfl, rfl⟩
/-- A byte of row number k: where it lies, and what is held behind a store. -/
theorem TpS.byte {T : TypeId} {w : World} {S : Nat → Prop} {q : Nat} {t : Tp} {A : Option Addr} {n c : Nat} {vs : List Sv} (h : TpS T w S q t A n c vs) (hT5 : T ≠ 5) (k : Nat) (s : Sv) (b : List UInt8) (hs : vs[k]? = some s) (hb : t.blocks[k]? = some b) (j : Nat) (x : UInt8) (hx : b[j]? = some x) :
    ∃ p, s.a = some ⟨p, 0, none⟩ ∧ S p ∧ p ≠ q ∧ w.cell? ⟨p, j, none⟩ = some (.int .u8 (K x)) ∧ w.frozen? ⟨p, j, none⟩ = false ∧
      ∀ y, TpS T (w.setCell ⟨p, j, none⟩ (.int .u8 (K y))) S q ⟨t.label, t.cap, t.blocks.set k (b.set j y), t.lost⟩ A n c vs ∧ Upd S w (w.setCell ⟨p, j, none⟩ (.int .u8 (K y))) := by
  obtain ⟨hj, rfl⟩ := List.getElem?_eq_some_iff.1 hx
  obtain ⟨hi, rfl⟩ := List.getElem?_eq_some_iff.1 hb
  have ho := h.rows.own k s _ hs hb
  obtain ⟨p, hp, _, hlt, hc, hf, hset⟩ := ho.at j hj
  have hSp := h.ins.2 k s p hs (by rw [hp]; rfl)
  have hne : p ≠ q := by
    rcases ho.shape with ⟨ha, _⟩ | ⟨g', cur, ha, _, _, hg', _⟩
    · rw [hp] at ha; cases ha
    · rw [hp] at ha
      simp at ha
      subst ha
      rintro rfl
      rw [h.box] at hg'
      simp at hg'
      exact hT5 hg'.2
  refine ⟨p, hp, hSp, hne, hc, hf, fun y => ?_⟩
  have hu : Upd S w (w.setCell ⟨p, j, none⟩ (.int .u8 (K y))) := (Upd.refl S w).setCell (fun _ => hSp) _
  refine ⟨⟨(Below.heap_setCell w ⟨p, j, none⟩ _ q (fun e => hne e.symm)).trans h.box, ⟨h.rows.row.move fun g' hg' _ => ?_, by rw [List.length_set, h.rows.len], fun i s' d hs' hd => ?_, h.rows.ne⟩, h.mem, h.ins, fun i hi => Nat.lt_of_lt_of_le (h.lim i hi) hu.size⟩, hu⟩
  · have : g' ≠ p := by
      rintro rfl
      exact own_row_ne ho h.rows.row g' (by rw [hp]; rfl) hg'
    exact Below.heap_setCell w ⟨p, j, none⟩ _ g' this
  · by_cases hik : i = k
    · subst hik
      rw [hs] at hs'
      injection hs' with hs'
      subst hs'
      rw [List.getElem?_set_self hi] at hd
      injection hd with hd
      subst hd
      exact hset y
    · rw [List.getElem?_set_ne (fun e => hik e.symm)] at hd
      refine (h.rows.own i s' d hs' hd).move fun g' hg' _ => ?_
      have : g' ≠ p := by
        rintro rfl
        exact h.rows.ne i k s' s g' hs' hs hik hg' (by rw [hp]; rfl)
      exact Below.heap_setCell w ⟨p, j, none⟩ _ g' this
def rotTo (bs : List (List UInt8)) (k : Nat) (t : List UInt8) : List (List UInt8) := match bs[k]? with | none => bs | some b => bs.set k (rotRow b t)
theorem rotTo_at (bs : List (List UInt8)) (k : Nat) (t b : List UInt8) (h : bs[k]? = some b) : rotTo bs k t = bs.set k (rotRow b t) := by unfold rotTo; rw [h]
structure RotS (w wr : World) (S : Nat → Prop) (q : Nat) (t : Tp) (A : Option Addr) (m c : Nat) (vs : List Sv) (k : Nat) (b turn : List UInt8) (j : Nat) : Prop where
  tp : TpS 58 wr S q ⟨t.label, t.cap, t.blocks.set k (rotRow b (turn.take j)), t.lost⟩ A m c vs
  up : Upd S w wr
  sz : wr.heap.size = w.heap.size
set_option maxHeartbeats 4000000 in
theorem RotS.next {w wr : World} {S : Nat → Prop} {q : Nat} {t : Tp} {A A2 : Option Addr} {m c k n c2 : Nat} {vs : List Sv} {s : Sv} {b turn : List UInt8} {j : Nat} (h : RotS w wr S q t A m c vs k b turn j) (hvk : vs[k]? = some s) (hbk : t.blocks[k]? = some b) (hs : Sl w A2 n c2 turn) (hns : ∀ g, blk A2 = some g → 0 < n → ¬ S g) (hj : j < b.length) (hjt : j < turn.length) :
    ∃ p p2 o2 x y, s.a = some ⟨p, 0, none⟩ ∧ A2 = some ⟨p2, o2, none⟩ ∧ wr.drew.cell? ⟨p, j, none⟩ = some (.int .u8 (K x)) ∧ wr.drew.frozen? ⟨p, j, none⟩ = false ∧ wr.drew.cell? ⟨p2, o2 + j, none⟩ = some (.int .u8 (K y)) ∧ Go.bits .xor .u8 (K x) (K y) = K (x ^^^ y) ∧ RotS w (wr.drew.setCell ⟨p, j, none⟩ (.int .u8 (K (x ^^^ y)))) S q t A m c vs k b turn (j + 1) := by
  have hd : Below wr.heap.size wr wr.drew := (Below.refl _ _).drew
  have htp := h.tp.below hd
  obtain ⟨hi, _⟩ := List.getElem?_eq_some_iff.1 hbk
  have hx : b[j]? = some b[j] := List.getElem?_eq_getElem hj
  have hy : turn[j]? = some turn[j] := List.getElem?_eq_getElem hjt
  obtain ⟨e1, e2⟩ := rotRow_step b turn j _ _ hx hy
  obtain ⟨p, hp, hSp, hpq, hc, hf, hset⟩ := htp.byte (by decide) k s (rotRow b (turn.take j)) hvk (List.getElem?_set_self hi) j _ e2
  obtain ⟨htp', hu'⟩ := hset (b[j] ^^^ turn[j])
  have ht := (hs.upd h.up hns).1.below hd (Nat.le_refl _)
  obtain ⟨p2, o2, h2, hc2⟩ := ht.2 j hjt
  refine ⟨p, p2, o2, b[j], turn[j], hp, h2, hc, hf, hc2, K_xor _ _, ?_, (h.up.drew).trans hu' (fun _ _ e => e), ?_⟩
  · rw [e1]
    simp only [List.set_set] at htp'
    exact htp'
  · simp [World.setCell, h.sz]
theorem rot_ok (w : World) (S : Nat → Prop) (q : Nat) (t : Tp) (h : DrS 58 w S q t) (k : Nat) (hk : k < t.blocks.length) (A : Option Addr) (n c : Nat) (turn : List UInt8) (hs : Sl w A n c turn) (hns : ∀ g, blk A = some g → 0 < n → ¬ S g) (hn : n ≤ 1000000) :
    Calls Try.prog 15 #[.pointer (some ⟨q, 0, none⟩), .int .i64 (k : Int), .slice A n c] w (Told 58 w S q 0 ⟨t.label, t.cap, rotTo t.blocks k turn, t.lost⟩) := by
  obtain ⟨A', m, c', vs, ht⟩ := h
  have hd : Db w q t A' m c' := ht.box
  have hl := ht.len
  obtain ⟨g, s, b, hrow⟩ := ht.row k (by omega)
  obtain ⟨rfl, hvk, hbk, hc, ho, hSg, hgq⟩ := hrow.resolve_right (by decide)
  obtain ⟨sa, sn, sc⟩ := s
  have hbl : b.length = sn := ho.len
  have htl := hs.len
  obtain ⟨d0, d1, d2, d3⟩ := hd.cells
  have HD := Lib.hid hd
  have hkm : (k : Int) < (m : Int) := by omega
  have HK : Hid ((0 : Int) ≤ (k : Int) ∧ (k : Int) < (m : Int)) := by unfold Hid; omega
  have HR0 : Hid (RotS w w S q t (some ⟨g, 0, none⟩) m c' vs k b turn 0) := by
    refine ⟨?_, Upd.refl _ _, rfl⟩
    have e : t.blocks.set k (rotRow b (turn.take 0)) = t.blocks := by
      obtain ⟨hi, rfl⟩ := List.getElem?_eq_some_iff.1 hbk
      rw [List.take_zero, rotRow_nil, List.set_getElem_self]
    rw [e]
    exact ht
  have HVK := Lib.hid hvk
  have HBK := Lib.hid hbk
  have HBL := Lib.hid hbl
  have HTL := Lib.hid htl
  have HS := Lib.hid hs
  have HNS := Lib.hid hns
  clear ht hd hl hvk hbk ho hbl htl hs hns hrow
  by_cases hmn : n < sn
  · go_enter Try.func15, Try.ntmps15
    go_wp2_with (go_at_call 29; (with_reducible refine (is_yes _ q t _ m c' HD.out (k : Int) HK.out.1 HK.out.2).mono ?_); rintro e w' ⟨rfl, hz⟩; obtain rfl := hz.symm)
    clear d0 d1 d2 d3 hc HD
    go_loopw [26] (fun i wr => ∃ j, j ≤ n ∧ i = .int .i64 (j : Int) ∧ RotS w wr S q t (some ⟨g, 0, none⟩) m c' vs k b turn j) (fun i _ => n - (intOf i).toNat)
    case atStart => exact ⟨0, Nat.zero_le _, rfl, HR0.out⟩
    case round =>
      clear HR0
      obtain ⟨j, hj, rfl, hr⟩ := hrel
      by_cases hjm : j < n
      · have hjs : j < sn := by omega
        have hjn : j < n := by omega
        obtain ⟨p, p2, o2, x, y, hp, rfl, hc1, hf1, hc2, hxy, hnext⟩ := hr.next HVK.out HBK.out HS.out HNS.out (by have := HBL.out; omega) (by have := HTL.out; omega)
        have hp : sa = some ⟨p, 0, none⟩ := hp
        subst hp
        have HN := Lib.hid hnext
        clear hr hnext
        go_upto_region 7 with (fail)
        go_region
        all_goals
          go_wp2
          go_roundw
          case rel => exact ⟨j + 1, by omega, by go_num, HN.out⟩
          case measure => simp [intOf]; omega
      · obtain rfl : j = n := by omega
        have HR := Lib.hid hr
        have HEND : Hid (b.length ≤ j ∨ turn.length ≤ j) := by have := HBL.out; have := HTL.out; unfold Hid; omega
        clear hr
        go_wp2
        go_ret
        have htp := HR.out.tp
        rw [rotRow_end b turn j HEND.out, ← rotTo_at t.blocks k turn b HBK.out] at htp
        exact ⟨rfl, (DrS.same ⟨_, _, _, _, htp⟩ |>.1.mono (fun i hi => hi.imp id fun e => (show False by have := e.1; have := e.2; omega).elim) (fun i hi => hi.elim (htp.lim i) fun e => e.2)), HR.out.up⟩
  · go_enter Try.func15, Try.ntmps15
    go_wp2_with (go_at_call 29; (with_reducible refine (is_yes _ q t _ m c' HD.out (k : Int) HK.out.1 HK.out.2).mono ?_); rintro e w' ⟨rfl, hz⟩; obtain rfl := hz.symm)
    clear d0 d1 d2 d3 hc HD
    go_loopw [26] (fun i wr => ∃ j, j ≤ sn ∧ i = .int .i64 (j : Int) ∧ RotS w wr S q t (some ⟨g, 0, none⟩) m c' vs k b turn j) (fun i _ => sn - (intOf i).toNat)
    case atStart => exact ⟨0, Nat.zero_le _, rfl, HR0.out⟩
    case round =>
      clear HR0
      obtain ⟨j, hj, rfl, hr⟩ := hrel
      by_cases hjm : j < sn
      · have hjs : j < sn := by omega
        have hjn : j < n := by omega
        obtain ⟨p, p2, o2, x, y, hp, rfl, hc1, hf1, hc2, hxy, hnext⟩ := hr.next HVK.out HBK.out HS.out HNS.out (by have := HBL.out; omega) (by have := HTL.out; omega)
        have hp : sa = some ⟨p, 0, none⟩ := hp
        subst hp
        have HN := Lib.hid hnext
        clear hr hnext
        go_upto_region 7 with (fail)
        go_region
        all_goals
          go_wp2
          go_roundw
          case rel => exact ⟨j + 1, by omega, by go_num, HN.out⟩
          case measure => simp [intOf]; omega
      · obtain rfl : j = sn := by omega
        have HR := Lib.hid hr
        have HEND : Hid (b.length ≤ j ∨ turn.length ≤ j) := by have := HBL.out; have := HTL.out; unfold Hid; omega
        clear hr
        go_wp2
        go_ret
        have htp := HR.out.tp
        rw [rotRow_end b turn j HEND.out, ← rotTo_at t.blocks k turn b HBK.out] at htp
        exact ⟨rfl, (DrS.same ⟨_, _, _, _, htp⟩ |>.1.mono (fun i hi => hi.imp id fun e => (show False by have := e.1; have := e.2; omega).elim) (fun i hi => hi.elim (htp.lim i) fun e => e.2)), HR.out.up⟩
end Go.Proofs.Ytnnhigojgdcdlaa.Code
