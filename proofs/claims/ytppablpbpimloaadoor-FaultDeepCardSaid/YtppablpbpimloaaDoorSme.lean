/- errors.Is, law 7's same, and fault.New. Conditions: as each says. -/
import Derived.Test.YtppablpbpimloaaDoorIse
namespace Go.Proofs.YtppablpbpimloaaDoor.Code
open Go Go.RowKit Go.Joins Go.Extern.Stop Go.Stop Go.Extern Go.Proofs.YtppablpbpimloaaDoor.Rl
/-- The model's own Comparable. -/
def cmpF : Array Value → Sem Value := ReflectliteType.method fun t => do Rtype.noPackHeld "Comparable" t; pure (.bool (← typeInfo t).comparable)
theorem comparable43 (w : World) : (cmpF #[.agg #[.pointer (some ⟨4, 43, none⟩)]]).run Tryd.prog w = .ok (.bool true) w := by kernel_rfl
theorem comparable46 (w : World) : (cmpF #[.agg #[.pointer (some ⟨4, 46, none⟩)]]).run Tryd.prog w = .ok (.bool true) w := by kernel_rfl
theorem methodComparable (v : Value) (w : World) : (Go.method 234 73 v "Comparable").run Tryd.prog w = .ok (70, v) w := by kernel_rfl
set_option maxHeartbeats 4000000 in
theorem Is_diff (w : World) (X : Nat → Prop) (e n : Nat) (v : Value) (f m : Nat) (u : Value) (c l b c' l' b' : Int) (hv : Lay w X e n v) (hu : Ch w f m u) (T k : Nat) (cs : Array Value) (t : TypeId) (hue : u = .iface T (.pointer (some ⟨k, 0, none⟩))) (hT : T = 43 ∨ T = 46) (hX : ¬ X k) (hk : w.heap[k]? = some (.cells cs t (0, 0)))
    (he : Flt w e c l b) (hf : Flt w f c' l' b') (hg : Ety w) (r : Bool) (hr : r = true ↔ Alike c l b c' l' b') : Calls Tryd.prog 18 #[v, u] w (Gives w (.bool r)) := by
  have h21 := @run_callFunc_extern Tryd.prog 21 _ ReflectliteType.typeOf Tryd.func21 (by kernel_rfl) (by kernel_rfl) (by kernel_rfl) (by kernel_rfl)
  have h70 := @run_callFunc_extern Tryd.prog 70 _ cmpF Tryd.func70 (by kernel_rfl) (by kernel_rfl) (by kernel_rfl) (by kernel_rfl)
  have tO := typeOf43
  have tW := typeOf46
  have c3 := comparable43
  have c6 := comparable46
  have mC := methodComparable
  have HD := Lib.hid (is_diff w X e n v f m u c l b c' l' b' hv hu T k cs t hue hT hX hk he hf hg r hr)
  obtain ⟨T2, k2, rfl, hT2⟩ := hv.ch.shape
  subst hue
  clear hv hu hX hk he hf hg hr
  rcases hT with rfl | rfl
  all_goals
    go_enter Tryd.func18, Tryd.ntmps18
    go_wp2_with (go_at_call 22; (with_reducible refine HD.out.mono ?_); rintro r w' ⟨rfl, hb⟩; have HB := Lib.hid hb; clear hb)
    go_ret
    exact ⟨rfl, HB.out⟩
set_option maxHeartbeats 4000000 in
theorem Is_self (w : World) (T k : Nat) (hT : T = 43 ∨ T = 46) : Calls Tryd.prog 18 #[.iface T (.pointer (some ⟨k, 0, none⟩)), .iface T (.pointer (some ⟨k, 0, none⟩))] w fun e w' => e = .returned (.bool true) ∧ w' = w := by
  have h21 := @run_callFunc_extern Tryd.prog 21 _ ReflectliteType.typeOf Tryd.func21 (by kernel_rfl) (by kernel_rfl) (by kernel_rfl) (by kernel_rfl)
  have h70 := @run_callFunc_extern Tryd.prog 70 _ cmpF Tryd.func70 (by kernel_rfl) (by kernel_rfl) (by kernel_rfl) (by kernel_rfl)
  have tO := typeOf43
  have tW := typeOf46
  have c3 := comparable43
  have c6 := comparable46
  have mC := methodComparable
  obtain ⟨i3, hi3, hc3⟩ := Option.map_eq_some_iff.1 comp43
  obtain ⟨j3, hj3, _⟩ := Option.map_eq_some_iff.1 size45
  obtain ⟨i6, hi6, hc6⟩ := Option.map_eq_some_iff.1 comp46
  obtain ⟨j6, hj6, _⟩ := Option.map_eq_some_iff.1 size48
  rcases hT with rfl | rfl
  · have hq := run_eql_iface_ptr_same (P := Tryd.prog) w ⟨k, 0, none⟩ Tryd.underlying27 Tryd.underlying43 hi3 hc3 hj3
    clear hi3 hc3 hj3 hi6 hc6 hj6
    go_enter Tryd.func18, Tryd.ntmps18
    go_wp2
    refine wp_loop_rounds 1 ?_
    rw [rounds_succ]
    go_wp2
    go_ret
    exact ⟨rfl, rfl⟩
  · have hq := run_eql_iface_ptr_same (P := Tryd.prog) w ⟨k, 0, none⟩ Tryd.underlying27 Tryd.underlying46 hi6 hc6 hj6
    clear hi3 hc3 hj3 hi6 hc6 hj6
    go_enter Tryd.func18, Tryd.ntmps18
    go_wp2
    refine wp_loop_rounds 1 ?_
    rw [rounds_succ]
    go_wp2
    go_ret
    exact ⟨rfl, rfl⟩
theorem same_self (w : World) (T k : Nat) (hT : T = 43 ∨ T = 46) : Calls Tryd.prog 15 #[.iface T (.pointer (some ⟨k, 0, none⟩)), .iface T (.pointer (some ⟨k, 0, none⟩))] w fun e w' => e = .returned (.bool true) ∧ w' = w := by
  have HT := Lib.hid hT
  clear hT
  go_enter Tryd.func15, Tryd.ntmps15
  go_wp2_with (go_at_call 18; (with_reducible refine (Is_self _ T k HT.out).mono ?_); rintro r w' ⟨rfl, hz⟩; obtain rfl := hz.symm)
  go_ret
  exact ⟨rfl, rfl⟩
theorem alike_symm {c l b c' l' b' : Int} : Alike c l b c' l' b' ↔ Alike c' l' b' c l b := ⟨fun ⟨a, b, c⟩ => ⟨a.symm, b.symm, c.symm⟩, fun ⟨a, b, c⟩ => ⟨a.symm, b.symm, c.symm⟩⟩
theorem same_diff (w : World) (X Y : Nat → Prop) (e n : Nat) (v : Value) (f m : Nat) (u : Value) (c l b c' l' b' : Int) (hv : Lay w X e n v) (hu : Lay w Y f m u) (hXY : ∀ k, X k → ¬ Y k) (he : Flt w e c l b) (hf : Flt w f c' l' b') (hg : Ety w) (r : Bool) (hr : r = true ↔ Alike c l b c' l' b') : Calls Tryd.prog 15 #[v, u] w (Gives w (.bool r)) := by
  obtain ⟨T, k, cs, t, hve, hT, hX, hk⟩ := hv.top he
  obtain ⟨T', k', cs', t', hue, hT', hY, hk'⟩ := hu.top hf
  have H1 := Lib.hid (Is_diff w X e n v f m u c l b c' l' b' hv hu.ch T' k' cs' t' hue hT' (fun h => hXY _ h hY) hk' he hf hg r hr)
  have H2 : Hid (∀ w', Below w.heap.size w w' → Calls Tryd.prog 18 #[u, v] w' (Gives w' (.bool r))) := fun w' hb =>
    Is_diff w' Y f m u e n v c' l' b' c l b (hu.move hb) (hv.move hb).ch T k cs t hve hT (hXY _ hX) ((hb.block _ (lt_of_block hk)).trans hk) (hf.below hb) (he.below hb) (hg.below hb) r (hr.trans alike_symm)
  clear hv hu hXY he hf hg hr hk hk' hX hY hve hue
  cases r
  · go_enter Tryd.func15, Tryd.ntmps15
    go_wp2_with (go_at_call 18; (with_reducible refine H1.out.mono ?_); rintro r w' ⟨rfl, hb⟩; have HB := Lib.hid hb; clear hb)
    go_ret
    exact ⟨rfl, HB.out⟩
  · go_enter Tryd.func15, Tryd.ntmps15
    go_wp2_with (first
      | (go_at_call 18; (with_reducible refine H1.out.mono ?_); rintro r w' ⟨rfl, hb⟩; have HB := Lib.hid hb; clear hb)
      | (go_at_call 18; (with_reducible refine (H2.out _ HB.out).mono ?_); rintro r w' ⟨rfl, hb⟩; have HB2 := Lib.hid hb; clear hb))
    go_ret
    exact ⟨rfl, HB.out.trans (HB2.out.mono HB.out.size)⟩
end Go.Proofs.YtppablpbpimloaaDoor.Code
