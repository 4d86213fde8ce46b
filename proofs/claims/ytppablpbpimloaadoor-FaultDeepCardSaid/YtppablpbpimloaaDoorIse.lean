/- errors.Is over faults in layers. Conditions: as each says. -/
import Derived.Test.YtppablpbpimloaaDoorFnd
import Derived.BigQuiet
import Derived.Deep.CutRange
import Derived.Deep.CutBlock
import Derived.Deep.RegionLaw
namespace Go.Proofs.YtppablpbpimloaaDoor.Code
open Go Go.RowKit Go.Joins Go.Extern.Stop Go.Stop Go.Extern Go.Proofs.YtppablpbpimloaaDoor.Rl
theorem bdrawn {B : Nat} {a w : World} (h : Below B a w) (n : Nat) : Below B a (w.drewN n) := h.trans ⟨rfl, rfl, rfl, Nat.le_refl _, fun _ _ => rfl⟩
theorem fis_yes (w : World) (e f m : Nat) (u : Value) (c l b : Int) (hu : Ch w f m u) (he : Flt w e c l b) (hf : Flt w f c l b) (hg : Ety w) : Calls Tryd.prog 47 #[.pointer (some ⟨e, 0, none⟩), u] w (Gives w (.bool true)) := by
  have HU := Lib.hid hu
  have HE := Lib.hid he
  have HF := Lib.hid hf
  have HG := Lib.hid hg
  clear hu he hf hg
  go_enter Tryd.func47, Tryd.ntmps47
  go_upto_region 2 with (go_at_call 17; (refine (find_any _ f m u HU.out HG.out).mono ?_); rintro r w' ⟨rfl, hb⟩; have h1 := HF.out.below hb; have a0 := cell_of_block h1 0; have a1 := cell_of_block h1 1; have a2 := cell_of_block h1 2; have h2 := HE.out.below hb; have b0 := cell_of_block h2 0; have b1 := cell_of_block h2 1; have b2 := cell_of_block h2 2; have HB := Lib.hid hb; clear hb h1 h2)
  go_quiet (fail)
  go_wp2
  go_ret
  exact ⟨rfl, bdrawn HB.out _⟩
theorem fis_no (w : World) (e f m : Nat) (u : Value) (c l b c' l' b' : Int) (hu : Ch w f m u) (he : Flt w e c l b) (hf : Flt w f c' l' b') (hg : Ety w) (hne : ¬ (c' = c ∧ l' = l ∧ b' = b)) : Calls Tryd.prog 47 #[.pointer (some ⟨e, 0, none⟩), u] w (Gives w (.bool false)) := by
  have HU := Lib.hid hu
  have HE := Lib.hid he
  have HF := Lib.hid hf
  have HG := Lib.hid hg
  clear hu he hf hg
  by_cases h1 : c' = c
  · subst h1
    have h2 : ¬ (l' = l ∧ b' = b) := fun h => hne ⟨rfl, h⟩
    clear hne
    by_cases h3 : l' = l
    · subst h3
      have h4 : (b' == b) = false := beq_eq_false_iff_ne.mpr (fun h => h2 ⟨rfl, h⟩)
      clear h2
      go_enter Tryd.func47, Tryd.ntmps47
      go_upto_region 2 with (go_at_call 17; (refine (find_any _ f m u HU.out HG.out).mono ?_); rintro r w' ⟨rfl, hb⟩; have h1 := HF.out.below hb; have a0 := cell_of_block h1 0; have a1 := cell_of_block h1 1; have a2 := cell_of_block h1 2; have h2 := HE.out.below hb; have b0 := cell_of_block h2 0; have b1 := cell_of_block h2 1; have b2 := cell_of_block h2 2; have HB := Lib.hid hb; clear hb h1 h2)
      go_quiet (fail)
      go_wp2
      go_ret
      exact ⟨rfl, bdrawn HB.out _⟩
    · have h4 : (l' == l) = false := beq_eq_false_iff_ne.mpr h3
      clear h2 h3
      go_enter Tryd.func47, Tryd.ntmps47
      go_upto_region 2 with (go_at_call 17; (refine (find_any _ f m u HU.out HG.out).mono ?_); rintro r w' ⟨rfl, hb⟩; have h1 := HF.out.below hb; have a0 := cell_of_block h1 0; have a1 := cell_of_block h1 1; have a2 := cell_of_block h1 2; have h2 := HE.out.below hb; have b0 := cell_of_block h2 0; have b1 := cell_of_block h2 1; have b2 := cell_of_block h2 2; have HB := Lib.hid hb; clear hb h1 h2)
      go_quiet (fail)
      go_wp2
      go_ret
      exact ⟨rfl, bdrawn HB.out _⟩
  · have h4 : (c' == c) = false := beq_eq_false_iff_ne.mpr h1
    clear hne h1
    go_enter Tryd.func47, Tryd.ntmps47
    go_upto_region 2 with (go_at_call 17; (refine (find_any _ f m u HU.out HG.out).mono ?_); rintro r w' ⟨rfl, hb⟩; have h1 := HF.out.below hb; have a0 := cell_of_block h1 0; have a1 := cell_of_block h1 1; have a2 := cell_of_block h1 2; have h2 := HE.out.below hb; have b0 := cell_of_block h2 0; have b1 := cell_of_block h2 1; have b2 := cell_of_block h2 2; have HB := Lib.hid hb; clear hb h1 h2)
    go_quiet (fail)
    go_wp2
    go_ret
    exact ⟨rfl, bdrawn HB.out _⟩
/-- Two faults say the same. -/
def Alike (c l b c' l' b' : Int) : Prop := c' = c ∧ l' = l ∧ b' = b
theorem fis_any (w : World) (e f m : Nat) (u : Value) (c l b c' l' b' : Int) (hu : Ch w f m u) (he : Flt w e c l b) (hf : Flt w f c' l' b') (hg : Ety w) (r : Bool) (hr : r = true ↔ Alike c l b c' l' b') : Calls Tryd.prog 47 #[.pointer (some ⟨e, 0, none⟩), u] w (Gives w (.bool r)) := by
  cases r with
  | true =>
    obtain ⟨rfl, rfl, rfl⟩ := hr.1 rfl
    exact fis_yes w e f m u c' l' b' hu he hf hg
  | false => exact fis_no w e f m u c l b c' l' b' hu he hf hg (fun h => by cases hr.2 h)
/-- v is the fault in block e, in n layers; each block of them meets X. -/
inductive Lay (w : World) (X : Nat → Prop) (e : Nat) : Nat → Value → Prop
  | base (hX : X e) : Lay w X e 0 (.iface 43 (.pointer (some ⟨e, 0, none⟩)))
  | wrap {n : Nat} {v : Value} {b : Nat} {s : ByteArray} (hb : w.heap[b]? = some (.cells #[.string s, v] 48 (0, 0))) (hX : X b) (h : Lay w X e n v) : Lay w X e (n + 1) (.iface 46 (.pointer (some ⟨b, 0, none⟩)))
theorem Lay.ch {w : World} {X : Nat → Prop} {e n : Nat} {v : Value} (h : Lay w X e n v) : Ch w e n v := by
  induction h with
  | base _ => exact .base
  | wrap hb _ _ ih => exact .wrap hb ih
theorem Lay.move {w w' : World} {X : Nat → Prop} {e n : Nat} {v : Value} (h : Lay w X e n v) (hb : Below w.heap.size w w') : Lay w' X e n v := by
  induction h with
  | base hX => exact .base hX
  | wrap hb' hX _ ih => exact .wrap ((hb.block _ (lt_of_block hb')).trans hb') hX ih
theorem Lay.mono {w : World} {X Y : Nat → Prop} {e n : Nat} {v : Value} (h : Lay w X e n v) (hXY : ∀ k, X k → Y k) : Lay w Y e n v := by
  induction h with
  | base hX => exact .base (hXY _ hX)
  | wrap hb' hX _ ih => exact .wrap hb' (hXY _ hX) ih
/-- The outermost block. -/
theorem Lay.top {w : World} {X : Nat → Prop} {e n : Nat} {v : Value} {c l b : Int} (h : Lay w X e n v) (he : Flt w e c l b) : ∃ T k cs t, v = .iface T (.pointer (some ⟨k, 0, none⟩)) ∧ (T = 43 ∨ T = 46) ∧ X k ∧ w.heap[k]? = some (.cells cs t (0, 0)) := by
  cases h with
  | base hX => exact ⟨43, e, _, _, rfl, .inl rfl, hX, he⟩
  | wrap hb hX _ => exact ⟨46, _, _, _, rfl, .inr rfl, hX, hb⟩
theorem comp43 : (Tryd.prog.info? 43).map (·.comparable) = some true := by kernel_rfl
theorem comp46 : (Tryd.prog.info? 46).map (·.comparable) = some true := by kernel_rfl
theorem size45 : (Tryd.prog.info? 45).map (fun i => i.size != 0) = some true := by kernel_rfl
theorem size48 : (Tryd.prog.info? 48).map (fun i => i.size != 0) = some true := by kernel_rfl
/-- '==' between two errors whose blocks are two. -/
theorem eql_other (w : World) (T T' k k' : Nat) (cs cs' : Array Value) (t t' : TypeId) (hT : T = 43 ∨ T = 46) (hT' : T' = 43 ∨ T' = 46) (hne : k ≠ k') (h : w.heap[k]? = some (.cells cs t (0, 0))) (h' : w.heap[k']? = some (.cells cs' t' (0, 0))) :
    (binOp .eql 27 (.iface T (.pointer (some ⟨k, 0, none⟩))) (.iface T' (.pointer (some ⟨k', 0, none⟩)))).run Tryd.prog w = .ok (.bool false) w := by
  by_cases hTT : T = T'
  · subst hTT
    rcases hT with rfl | rfl
    · obtain ⟨i, hi, hc⟩ := Option.map_eq_some_iff.1 comp43
      obtain ⟨j, hj, hs⟩ := Option.map_eq_some_iff.1 size45
      exact run_eql_iface_ptr_other (P := Tryd.prog) w Tryd.underlying27 Tryd.underlying43 hi hc hj (by simpa using hs) (fun e => hne (by injection e)) h h'
    · obtain ⟨i, hi, hc⟩ := Option.map_eq_some_iff.1 comp46
      obtain ⟨j, hj, hs⟩ := Option.map_eq_some_iff.1 size48
      exact run_eql_iface_ptr_other (P := Tryd.prog) w Tryd.underlying27 Tryd.underlying46 hi hc hj (by simpa using hs) (fun e => hne (by injection e)) h h'
  · exact run_eql_iface_types (P := Tryd.prog) T T' _ _ Tryd.underlying27 hTT w
theorem noIs46 (v : Value) (xT : TypeId) (w : World) : (Instr.typeAssert (.iface 46 v) xT 75 true).run Tryd.prog w = .ok (.tuple #[.nilIface, .bool false]) w := run_typeAssert_lacksB Tryd.underlying75 (by kernel_rfl) (by kernel_rfl) v xT w
theorem hasIs43 (v : Value) (xT : TypeId) (w : World) : (Instr.typeAssert (.iface 43 v) xT 75 true).run Tryd.prog w = .ok (.tuple #[.iface 43 v, .bool true]) w := run_typeAssert_hasB Tryd.underlying75 (by kernel_rfl) v xT w
theorem noUn43 (v : Value) (xT : TypeId) (w : World) : (Instr.typeAssert (.iface 43 v) xT 78 true).run Tryd.prog w = .ok (.tuple #[.nilIface, .bool false]) w := run_typeAssert_lacksB Tryd.underlying78 (by kernel_rfl) (by kernel_rfl) v xT w
theorem noUns43 (v : Value) (xT : TypeId) (w : World) : (Instr.typeAssert (.iface 43 v) xT 80 true).run Tryd.prog w = .ok (.tuple #[.nilIface, .bool false]) w := run_typeAssert_lacksB Tryd.underlying80 (by kernel_rfl) (by kernel_rfl) v xT w
theorem methodIs (v : Value) (w : World) : (Go.method 234 43 v "Is").run Tryd.prog w = .ok (47, v) w := by kernel_rfl
set_option maxHeartbeats 4000000 in
theorem is_diff (w : World) (X : Nat → Prop) (e n : Nat) (v : Value) (f m : Nat) (u : Value) (c l b c' l' b' : Int) (hv : Lay w X e n v) (hu : Ch w f m u) (T k : Nat) (cs : Array Value) (t : TypeId) (hue : u = .iface T (.pointer (some ⟨k, 0, none⟩))) (hT : T = 43 ∨ T = 46) (hX : ¬ X k) (hk : w.heap[k]? = some (.cells cs t (0, 0)))
    (he : Flt w e c l b) (hf : Flt w f c' l' b') (hg : Ety w) (r : Bool) (hr : r = true ↔ Alike c l b c' l' b') : Calls Tryd.prog 22 #[v, u, .bool true] w (Gives w (.bool r)) := by
  have HFI := Lib.hid (fis_any w e f m u c l b c' l' b' hu he hf hg r hr)
  have HV := Lib.hid hv
  have HE := Lib.hid he
  have HK := Lib.hid hk
  have HX := Lib.hid hX
  have HTT := Lib.hid hT
  have nI := noIs46
  have hI := hasIs43
  have n4 := noUn43
  have n5 := noUns43
  have hU := hasUn46
  have mU := methodUnwrap
  have mI := methodIs
  subst hue
  clear hv hu hk he hf hg hr hX hT
  cases r
  all_goals
    go_enter Tryd.func22, Tryd.ntmps22
    go_wp2
    go_loopg [0] n (fun k v wr => Lay w X e k v ∧ wr = w)
    case atStart => exact ⟨HV.out, rfl⟩
    case round =>
      clear HV
      obtain ⟨hl, rfl⟩ := hrel
      cases hl with
      | base hXe =>
        have hq := eql_other wr 43 T e k _ cs _ t (.inl rfl) HTT.out (fun h => HX.out (h ▸ hXe)) HE.out HK.out
        clear hXe
        go_wp2_with (go_at_call 47; (with_reducible refine HFI.out.mono ?_); rintro r w' ⟨rfl, hb⟩; have HB := Lib.hid hb; clear hb)
        go_ret
        exact ⟨rfl, HB.out⟩
      | @wrap k' v' b2 s hb hXb hin =>
        have hq := eql_other wr 46 T b2 k _ cs _ t (.inr rfl) HTT.out (fun h => HX.out (h ▸ hXb)) hb HK.out
        obtain ⟨T2, b3, rfl, hT2⟩ := hin.ch.shape
        have HIN := Lib.hid hin
        have x0 := cell_of_block hb 0
        have x1 := cell_of_block hb 1
        clear hin hb hXb
        go_wp2
        go_roundg k'
        case measure => omega
        case rel => exact ⟨HIN.out, rfl⟩
end Go.Proofs.YtppablpbpimloaaDoor.Code
