/- What the reference's BadBlocks and Spots tell. Conditions: the tapes are few, their blocks short. -/
import Derived.Test.YtpgceeeokjadpaaVer
import Derived.Deep.RegionLaw
namespace Go.Proofs.Ytpgceeeokjadpaa.Crc
def badsOf (t : Tp) : List Nat := if t.lost then [] else bads t t.blocks.length
theorem spotsOf_bads (t : Tp) : spotsOf t = (if t.lost then [(t.label, -1)] else []) ++ (badsOf t).map (fun (i : Nat) => (t.label, (i : Int))) := by
  unfold spotsOf badsOf spotsTo
  cases t.lost <;> simp
theorem badsOf_len (t : Tp) : (badsOf t).length ≤ t.blocks.length := by
  unfold badsOf
  split
  · simp
  · exact bads_len _ _
end Go.Proofs.Ytpgceeeokjadpaa.Crc
namespace Go.Proofs.Ytpgceeeokjadpaa.Code
open Go.RowKit Go.Joins Go.Proofs.Ytpgceeeokjadpaa.Crc Go.Proofs.Ytpgceeeokjadpaa.Mem
/-- Numbers as cells. -/
def ic (l : List Nat) : List Value := l.map fun (i : Nat) => .int .i64 (i : Int)
theorem ones1 (x : Nat) : ∀ u ∈ ic [x], u.oneCell' = true := by
  intro u hu
  simp [ic] at hu
  subst hu
  rfl
theorem app_int {ops : Array Oper} {rest : List Oper} {o : Oper} {a : Act} {Q : Exit → Act → World → Prop} {W : World} (hgd : o.guard = none) (s x : Operand)
    (ho : o.op = .call { callee := .builtin .append, args := #[s, x], argTypes := #[61, 61] }) {B : Nat} {A : Option Addr} {n c q : Nat} {l : List Nat} {num : Nat} (hs : a.eval s = .slice A n c) (hx : a.eval x = .slice (some ⟨q, 0, none⟩) 1 1)
    (hown : RO 3 1 W B A n c (ic l)) (hq : W.heap[q]? = some (.cells #[.int .i64 (num : Int)] 3 (0, 0))) (hn : n ≤ 1000000) (hB : B ≤ W.heap.size)
    (h : ∀ A' c' w', RO 3 1 w' B A' (n + 1) c' (ic (l ++ [num])) → W.grownBy w' (blk A) → wpList Try.prog ops Q rest (a.put o.dst (.slice A' (n + 1) c')) w') : wpList Try.prog ops Q (o :: rest) a W := by
  refine appR_law hgd s x 61 3 ho Try.underlying61 info3r rfl (by decide) hs hx hown (RR.block (cs := ic [num]) hq rfl ?_) (ones1 num) (fun h => by cases h) (by simp only [maxLen]; omega) (by omega) hB ?_
  · intro i hi
    have : i < 1 := hi
    obtain rfl : i = 0 := by omega
    rfl
  · intro A' c' w' own gr _
    have e : ic l ++ ic [num] = ic (l ++ [num]) := by simp [ic]
    rw [e] at own
    exact h A' c' w' own gr
theorem ro_tb' {T k : Nat} (hT : T ≠ 65) {w : World} {B q : Nat} {A : Option Addr} {n c : Nat} {cs : List Value} {t : Tp} {A1 : Option Addr} {n1 c1 : Nat} (h : RO T k w B A n c cs) (ht : Tb w q t A1 n1 c1) : some q ≠ blk A := by
  intro e
  rcases h.shape with ⟨rfl, _⟩ | ⟨g, cur, rfl, _, _, hg, _⟩
  · simp [blk] at e
  · simp [blk] at e
    subst e
    unfold Tb at ht
    rw [hg] at ht
    simp at ht
    exact hT ht.2
theorem tb_grown' {T k : Nat} (hT : T ≠ 65) {w w' : World} {B q : Nat} {A : Option Addr} {n c : Nat} {cs : List Value} {t : Tp} {A1 : Option Addr} {n1 c1 : Nat} (ht : Tb w q t A1 n1 c1) (h : RO T k w B A n c cs) (hg : w.grownBy w' (blk A)) : Tb w' q t A1 n1 c1 :=
  (hg.block q (lt_of_block ht) (ro_tb' hT h ht)).trans ht
/-- What BadBlocks leaves. -/
def BadPost (w : World) (l : List Nat) (e : Ending) (w' : World) : Prop :=
  ∃ A m c, e = .returned (.slice A m c) ∧ RO 3 1 w' w.heap.size A m c (ic l) ∧ m = l.length ∧ Below w.heap.size w w'
set_option maxHeartbeats 8000000 in
set_option maxRecDepth 100000 in
theorem bad_any (w : World) (t : Tp) (A : Option Addr) (n c : Nat) (h : Blks w A n c t.blocks) (h3 : ∀ b ∈ t.blocks, b.length ≤ 300) (hn : n ≤ 1000000) :
    Calls Try.prog 58 #[tv t A n c] w fun e w' => BadPost w (badsOf t) e w' := by
  have hlen := h.len
  have HBLK := Lib.hid h
  have h300 := Lib.hid h3
  have HB0 := Lib.hid ((Below.refl w.heap.size w).alloc (Nat.le_refl _) (.cells #[.int .i64 t.label, .int .i64 t.cap, .slice A n c, .bool t.lost] 65))
  have HTB0 := Lib.hid (Tb.new w t A n c)
  obtain ⟨N, hN, hND⟩ : ∃ N, badsOf t = bads t N ∧ ((t.lost = true ∧ N = 0) ∨ (t.lost = false ∧ N = n)) := by
    unfold badsOf
    cases t.lost
    · exact ⟨n, by rw [← hlen]; rfl, .inr ⟨rfl, rfl⟩⟩
    · exact ⟨0, rfl, .inl ⟨rfl, rfl⟩⟩
  have HN := Lib.hid hN
  have HND := Lib.hid hND
  have hNn : N ≤ n := by rcases hND with ⟨_, h⟩ | ⟨_, h⟩ <;> omega
  clear h h3 hlen hN hND
  unfold tv
  go_enter Try.func58, Try.ntmps58
  go_wp2
  go_loopw [3, 4] (fun out i wx => ∃ j A2 m2 c2, j ≤ N ∧ i = .int .i64 (j : Int) ∧ out = .slice A2 m2 c2 ∧ m2 = (bads t j).length ∧ Hid (RO 3 1 wx w.heap.size A2 m2 c2 (ic (bads t j))) ∧ Hid (Below w.heap.size w wx) ∧ Hid (Tb wx w.heap.size t A n c)) (fun _ i _ => n - (intOf i).toNat)
  case atStart => exact ⟨0, none, 0, 0, Nat.zero_le _, rfl, rfl, rfl, RO.nil _ _ _ _, HB0, HTB0⟩
  case round =>
    obtain ⟨j, A2, m2, c2, hj, rfl, rfl, hm2, HO2, HB2, HTB2⟩ := hrel
    have HM2 := Lib.hid hm2
    have hmj : m2 ≤ j := by rw [hm2]; exact bads_len t j
    clear hm2
    obtain ⟨d0, d1, d2, d3⟩ := HTB2.out.cells
    by_cases hjn : j < N
    · have hl : t.lost = false := HND.out.elim (fun h => absurd hjn (by omega)) (fun h => h.1)
      have hjn' : j < n := by omega
      have HL := Lib.hid hl
      rw [hl] at d3
      clear hl
      cases hgd : goodAt t j with
      | true =>
        have HGD := Lib.hid hgd
        have HSS : Hid (bads t (j + 1) = bads t j) := by unfold Hid; rw [bads_succ, if_pos hgd, List.append_nil]
        clear hgd
        go_wp2_with (go_at_call 64; rw [← HL.out]; (with_reducible refine (goodref_any _ t A n c (HBLK.out.below HB2.out) HL.out h300.out j hjn' (by omega)).mono ?_); rintro e w3 ⟨U, A5, n5, c5, rfl, hb⟩; rw [HGD.out]; have hb' := unew_below U A5 n5 c5 hb; have HO3 := Lib.hid (HO2.out.below hb'); have HB3 := Lib.hid (below_then HB2.out hb' HB2.out.size); have HTB3 := Lib.hid (HTB2.out.below hb'); clear hb hb')
        go_roundw
        case rel => exact ⟨j + 1, A2, m2, c2, by omega, by go_num, rfl, by rw [HSS.out]; exact HM2.out, by rw [HSS.out]; exact HO3, HB3, HTB3⟩
        case measure => simp [intOf]; omega
      | false =>
        have HGD := Lib.hid hgd
        have HSS : Hid (bads t (j + 1) = bads t j ++ [j]) := by unfold Hid; rw [bads_succ, hgd, if_neg Bool.false_ne_true]
        clear hgd
        go_wp2_with (first
          | (go_at_call 64; rw [← HL.out]; (with_reducible refine (goodref_any _ t A n c (HBLK.out.below HB2.out) HL.out h300.out j hjn' (by omega)).mono ?_); rintro e w3 ⟨U, A5, n5, c5, rfl, hb⟩; rw [HGD.out]; have hb' := unew_below U A5 n5 c5 hb; have HO3 := Lib.hid (HO2.out.below hb'); have HB3 := Lib.hid (below_then HB2.out hb' HB2.out.size); have HTB3 := Lib.hid (HTB2.out.below hb'); clear hb hb')
          | (at_builtin; refine app_int rfl (.tmp 27) (.tmp 29) rfl rfl rfl (HO3.out.alloc _) (heap2 _ _ _) (by omega) ?_ ?_; (have h9 := HB3.out.size); (simp only [World.size_alloc] at h9 ⊢); omega; intro A6 c6 w6 own gr; have HB6 := Lib.hid (below_app (HB3.out.alloc HB3.out.size _) (HB3.out.alloc HB3.out.size _).size (HO3.out.alloc _) gr); have HTB6 := Lib.hid (tb_grown' (by decide) (HTB3.out.below ((Below.refl _ _).alloc (Nat.le_refl _) _)) (HO3.out.alloc _) gr); rw [← HSS.out] at own; have HO6 := Lib.hid own; clear own gr))
        go_roundw
        case rel => exact ⟨j + 1, A6, m2 + 1, c6, by omega, by go_num, rfl, by rw [HSS.out, List.length_append, ← HM2.out]; rfl, HO6, HB6, HTB6⟩
        case measure => simp [intOf]; omega
    · obtain rfl : j = N := by omega
      rcases HND.out with ⟨hl, hj0⟩ | ⟨hl, hj0⟩
      · rw [hl] at d3
        clear hl
        by_cases hn0 : 0 < n
        · go_wp2
          go_ret
          exact ⟨A2, m2, c2, rfl, by rw [HN.out]; exact HO2.out, by rw [HN.out]; exact HM2.out, HB2.out⟩
        · go_wp2
          go_ret
          exact ⟨A2, m2, c2, rfl, by rw [HN.out]; exact HO2.out, by rw [HN.out]; exact HM2.out, HB2.out⟩
      · clear hl
        go_wp2
        go_ret
        exact ⟨A2, m2, c2, rfl, by rw [HN.out]; exact HO2.out, by rw [HN.out]; exact HM2.out, HB2.out⟩
end Go.Proofs.Ytpgceeeokjadpaa.Code
