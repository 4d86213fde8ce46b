/- Plain law: frames: which block a unit is, which unit a block; that frames of unlike units are unlike and a turned, cut or longer block is none. Conditions: as each law says. -/
import Derived.Test.YtpgceeeokjadpaaRdPure
namespace Go.Proofs.Ytpgceeeokjadpaa.Crc
/-- A unit. -/
structure Un where
  kind : Int
  label : Int
  number : Int
  load : List UInt8
def Un.zero : Un := ⟨0, 0, 0, []⟩
def room (k : Int) : Nat := if k = 6 then 79 else 64
/-- Why a unit can't be (0: it can). -/
def chk (u : Un) : Int :=
  if u.label < 1 ∨ 2147483647 < u.label ∨ u.number < 0 ∨ 2147483647 < u.number then 1
  else if u.kind < 1 ∨ 6 < u.kind then 1 else if room u.kind < u.load.length then 4 else 0
/-- A frame's bytes but for its sum. -/
def body (u : Un) : List UInt8 :=
  byteI u.kind 0 :: (be4 u.label ++ be4 u.number ++ [byteI (u.load.length : Int) 1, byteI (u.load.length : Int) 0] ++ u.load ++ List.replicate (room u.kind - u.load.length) 0)
def mk (u : Un) : List UInt8 := body u ++ be4 (J (sum (body u)))
/-- What bytes are read as: a unit, and whether bytes were missing. -/
def prs (b : List UInt8) : Un × Rs :=
  let s0 : Rs := ⟨b, false⟩
  let s1 := s0.step 1
  let s2 := s1.step 4
  let s3 := s2.step 4
  let s4 := s3.step 1
  let s5 := s4.step 1
  let size := s3.byte.toNat * 256 + s4.byte.toNat
  (⟨K s0.byte, s1.int, s2.int, s5.got size⟩, s5.step size)
def Good (b : List UInt8) : Prop := (prs b).2.bad = false ∧ chk (prs b).1 = 0 ∧ b = mk (prs b).1
instance (b : List UInt8) : Decidable (Good b) := by unfold Good; exact inferInstance
def getU (b : List UInt8) : Un := if Good b then (prs b).1 else Un.zero
def getE (b : List UInt8) : Int := if Good b then 0 else 2
theorem chk_zero {u : Un} (h : chk u = 0) : 1 ≤ u.label ∧ u.label ≤ 2147483647 ∧ 0 ≤ u.number ∧ u.number ≤ 2147483647 ∧ 1 ≤ u.kind ∧ u.kind ≤ 6 ∧ u.load.length ≤ room u.kind := by
  unfold chk at h
  split at h
  · omega
  · split at h
    · omega
    · split at h
      · omega
      · omega
theorem room_le (k : Int) : room k ≤ 79 := by unfold room; split <;> omega
theorem body_len {u : Un} (h : u.load.length ≤ room u.kind) : (body u).length = 11 + room u.kind := by
  simp [body, be4]; omega
theorem mk_len {u : Un} (h : u.load.length ≤ room u.kind) : (mk u).length = 15 + room u.kind := by
  have := body_len h
  unfold mk
  rw [List.length_append, this]; simp [be4]; omega
theorem K_byteI_toNat (b : Int) (i : Nat) : ((byteI b i).toNat : Int) = b / (2 : Int) ^ (8 * i) % 256 := K_byteI b i
theorem be4_val (x : Int) (h0 : 0 ≤ x) (h1 : x < 4294967296) : (beN (be4 x) : Int) = x := by
  have e : beN (be4 x) = (((byteI x 3).toNat * 256 + (byteI x 2).toNat) * 256 + (byteI x 1).toNat) * 256 + (byteI x 0).toNat := by simp [beN, be4]
  rw [e]
  have h3 := K_byteI_toNat x 3; have h2 := K_byteI_toNat x 2; have h4 := K_byteI_toNat x 1; have h5 := K_byteI_toNat x 0
  simp at h3 h2 h4 h5
  omega
theorem Rs.int_app (a r : List UInt8) (h : a.length = 4) : (⟨a ++ r, false⟩ : Rs).int = (beN a : Int) := by
  have hok : (⟨a ++ r, false⟩ : Rs).ok 4 = true := by simp [Rs.ok]; omega
  unfold Rs.int
  rw [got_take _ _ hok, ← h, List.take_left]
theorem Rs.step_app (a r : List UInt8) (k : Nat) (h : a.length = k) : (⟨a ++ r, false⟩ : Rs).step k = ⟨r, false⟩ := by
  have hok : (⟨a ++ r, false⟩ : Rs).ok k = true := by simp [Rs.ok]; omega
  rw [step_ok _ _ hok]
  subst h
  rw [List.drop_left]
theorem Rs.got_app (a r : List UInt8) (k : Nat) (h : a.length = k) : (⟨a ++ r, false⟩ : Rs).got k = a := by
  have hok : (⟨a ++ r, false⟩ : Rs).ok k = true := by simp [Rs.ok]; omega
  rw [got_take _ _ hok]
  subst h
  rw [List.take_left]
theorem Rs.byte_cons' (c : UInt8) (r : List UInt8) : (⟨c :: r, false⟩ : Rs).byte = c := by simp [Rs.byte, Rs.got, Rs.ok]
theorem Rs.step_cons' (c : UInt8) (r : List UInt8) : (⟨c :: r, false⟩ : Rs).step 1 = ⟨r, false⟩ := by simp [Rs.step, Rs.ok]
/-- What was made is read as it was. -/
theorem prs_mk {u : Un} (h : chk u = 0) : (prs (mk u)).1 = u ∧ (prs (mk u)).2.bad = false := by
  obtain ⟨h1, h2, h3, h4, h5, h6, h7⟩ := chk_zero h
  have hr := room_le u.kind
  obtain ⟨t, ht⟩ : ∃ t, t = List.replicate (room u.kind - u.load.length) (0 : UInt8) ++ be4 (J (sum (body u))) := ⟨_, rfl⟩
  have e : mk u = byteI u.kind 0 :: (be4 u.label ++ (be4 u.number ++ (byteI (u.load.length : Int) 1 :: (byteI (u.load.length : Int) 0 :: (u.load ++ t))))) := by
    rw [ht]; unfold mk
    generalize be4 (J (sum (body u))) = q
    unfold body
    simp [List.append_assoc]
  have hsize : (byteI (u.load.length : Int) 1).toNat * 256 + (byteI (u.load.length : Int) 0).toNat = u.load.length := by
    have a := K_byteI_toNat (u.load.length : Int) 1
    have b := K_byteI_toNat (u.load.length : Int) 0
    simp at a b
    omega
  rw [e]
  unfold prs
  simp only [Rs.byte_cons', Rs.step_cons']
  rw [Rs.step_app _ _ 4 rfl, Rs.step_app _ _ 4 rfl]
  simp only [Rs.byte_cons', Rs.step_cons']
  rw [Rs.int_app _ _ rfl, Rs.int_app _ _ rfl, hsize, Rs.got_app _ _ _ rfl, Rs.step_app _ _ _ rfl, be4_val _ (by omega) (by omega), be4_val _ (by omega) (by omega), K_byteI]
  refine ⟨?_, rfl⟩
  have : u.kind / (2 : Int) ^ (8 * 0) % 256 = u.kind := by simp; omega
  rw [this]
theorem good_mk {u : Un} (h : chk u = 0) : Good (mk u) := by
  obtain ⟨h1, h2⟩ := prs_mk h
  exact ⟨h2, by rw [h1]; exact h, by rw [h1]⟩
theorem getU_mk {u : Un} (h : chk u = 0) : getU (mk u) = u := by unfold getU; rw [if_pos (good_mk h)]; exact (prs_mk h).1
theorem getE_mk {u : Un} (h : chk u = 0) : getE (mk u) = 0 := by unfold getE; rw [if_pos (good_mk h)]
theorem mk_inj {u v : Un} (hu : chk u = 0) (hv : chk v = 0) (h : mk u = mk v) : u = v := by rw [← getU_mk hu, h, getU_mk hv]
theorem good_iff {b : List UInt8} : Good b ↔ ∃ u, chk u = 0 ∧ b = mk u :=
  ⟨fun h => ⟨_, h.2.1, h.2.2⟩, fun ⟨_, h1, h2⟩ => h2 ▸ good_mk h1⟩
theorem getE_bad {b : List UInt8} (h : ¬ Good b) : getE b = 2 := if_neg h
/-- A block's length hangs on its first byte alone. -/
theorem mk_head {u v : Un} (hu : chk u = 0) (hv : chk v = 0) (h : (mk u).head? = (mk v).head?) : (mk u).length = (mk v).length := by
  obtain ⟨_, _, _, _, a1, a2, a3⟩ := chk_zero hu
  obtain ⟨_, _, _, _, b1, b2, b3⟩ := chk_zero hv
  rw [mk_len a3, mk_len b3]
  have hk : byteI u.kind 0 = byteI v.kind 0 := by simpa [mk, body] using h
  have a := K_byteI u.kind 0
  have b := K_byteI v.kind 0
  rw [hk] at a
  simp at a b
  have : u.kind = v.kind := by omega
  rw [this]
theorem J_be4_inj {x y : W32} (h : be4 (J x) = be4 (J y)) : x = y := by
  apply J_inj
  rw [← be4_val (J x) (J_lo x) (J_hi x), ← be4_val (J y) (J_lo y) (J_hi y), h]
/-- A block of which one byte was turned is none. -/
theorem turned {u : Un} (hu : chk u = 0) (i : Nat) (hi : i < (mk u).length) (c : UInt8) (hc : c ≠ (mk u)[i]) : ¬ Good ((mk u).set i c) := by
  intro hg
  obtain ⟨v, hv, e⟩ := good_iff.1 hg
  obtain ⟨_, _, _, _, _, _, a3⟩ := chk_zero hu
  obtain ⟨_, _, _, _, _, _, b3⟩ := chk_zero hv
  have hlen : (body u).length = (body v).length := by
    have := congrArg List.length e
    rw [List.length_set, mk_len a3, mk_len b3] at this
    rw [body_len a3, body_len b3]; omega
  by_cases h : i < (body u).length
  · have e1 : (mk u).set i c = (body u).set i c ++ be4 (J (sum (body u))) := by unfold mk; rw [List.set_append_left _ _ h]
    have hb : (mk u)[i] = (body u)[i] := List.getElem_append_left (as := body u) (bs := be4 (J (sum (body u)))) h
    rw [e1] at e
    unfold mk at e
    have e2 := List.append_inj e (by rw [List.length_set]; exact hlen)
    have e3 := J_be4_inj e2.2
    rw [← e2.1] at e3
    exact more_set 0#32 (body u) i c h (hb ▸ hc) e3.symm
  · have e1 : (mk u).set i c = body u ++ (be4 (J (sum (body u)))).set (i - (body u).length) c := by unfold mk; rw [List.set_append_right _ _ (by omega)]
    rw [e1] at e
    unfold mk at e
    have e2 := List.append_inj e hlen
    rw [← e2.1] at e2
    have h4 : i - (body u).length < (be4 (J (sum (body u)))).length := by
      unfold mk at hi; rw [List.length_append] at hi; omega
    have e3 : ((be4 (J (sum (body u)))).set (i - (body u).length) c)[i - (body u).length]'(by rw [List.length_set]; exact h4) = c := by rw [List.getElem_set_self]
    have hb : (mk u)[i] = (be4 (J (sum (body u))))[i - (body u).length] := List.getElem_append_right (as := body u) (bs := be4 (J (sum (body u)))) (Nat.le_of_not_lt h)
    rw [hb] at hc
    refine hc ?_
    rw [← e3]
    simp only [e2.2]
/-- A block that was cut is none. -/
theorem shorter {u : Un} (hu : chk u = 0) (n : Nat) (hn : n < (mk u).length) : ¬ Good ((mk u).take n) := by
  intro hg
  obtain ⟨v, hv, e⟩ := good_iff.1 hg
  cases n with
  | zero =>
    have := congrArg List.length e
    rw [mk_len (chk_zero hv).2.2.2.2.2.2] at this
    simp at this
    omega
  | succ n =>
    have h : (mk u).head? = (mk v).head? := by rw [← e]; simp [mk, body]
    have := mk_head hu hv h
    have h2 := congrArg List.length e
    rw [List.length_take] at h2
    omega
/-- Nor is one that has more. -/
theorem longer {u : Un} (hu : chk u = 0) (c : UInt8) : ¬ Good (mk u ++ [c]) := by
  intro hg
  obtain ⟨v, hv, e⟩ := good_iff.1 hg
  have h : (mk u).head? = (mk v).head? := by rw [← e]; simp [mk, body]
  have := mk_head hu hv h
  have h2 := congrArg List.length e
  rw [List.length_append] at h2
  simp at h2
  omega
theorem good_nil : ¬ Good [] := by
  intro h
  obtain ⟨v, hv, e⟩ := good_iff.1 h
  have := congrArg List.length e
  rw [mk_len (chk_zero hv).2.2.2.2.2.2] at this
  simp at this
  omega
end Go.Proofs.Ytpgceeeokjadpaa.Crc
