/- FaultOther: an error that is no fault. Conditions: none. -/
import Derived.Test.YtppablpbpimloaaDoorTxt
namespace Go.Proofs.YtppablpbpimloaaDoor.Code
open Go Go.RowKit Go.Joins Go.Extern.Stop Go.Stop Go.Extern Go.Proofs.YtppablpbpimloaaDoor.Rl
set_option maxHeartbeats 4000000 in
theorem as_miss (w : World) (k t a : Nat) :
    Calls Tryd.prog 26 #[.iface 51 (.pointer (some ⟨k, 0, none⟩)), .iface 57 (.pointer (some ⟨t, 0, none⟩)), .agg #[.pointer (some ⟨4, 57, none⟩), .pointer (some ⟨a, 0, none⟩), .int .u64 150], .iface 73 (.agg #[.pointer (some ⟨4, 43, none⟩)])] w (Gives w (.bool false)) := by
  have h21 := @run_callFunc_extern Tryd.prog 21 _ ReflectliteType.typeOf Tryd.func21 (by kernel_rfl) (by kernel_rfl) (by kernel_rfl) (by kernel_rfl)
  have h69 := @run_callFunc_extern Tryd.prog 69 _ (ReflectliteType.relation "AssignableTo" ReflectliteType.assignableTo) Tryd.func69 (by kernel_rfl) (by kernel_rfl) (by kernel_rfl) (by kernel_rfl)
  have tO := typeOf51
  have mA := methodAssignableTo
  have a51 := assignable51
  have nA := noAs51
  have n4 := noUn51
  have n5 := noUns51
  go_enter Tryd.func26, Tryd.ntmps26
  go_wp2
  refine wp_loop_rounds 1 ?_
  rw [rounds_succ]
  go_wp2
  go_ret
  exact ⟨rfl, (Below.refl _ _).alloc (Nat.le_refl _) _⟩
set_option maxHeartbeats 4000000 in
theorem asOther (w : World) (k t : Nat) (hg : Ety w) :
    Calls Tryd.prog 20 #[.iface 51 (.pointer (some ⟨k, 0, none⟩)), .iface 57 (.pointer (some ⟨t, 0, none⟩))] w (Gives w (.bool false)) := by
  have h23 := @run_callFunc_extern Tryd.prog 23 _ (fun args => ReflectliteValue.unpack (args.getD 0 (.tuple #[]))) Tryd.func23 (by kernel_rfl) (by kernel_rfl) (by kernel_rfl) (by kernel_rfl)
  have h24 := @run_callFunc_extern Tryd.prog 24 _ (ReflectliteValue.methodAny (ReflectliteValue.valueError "reflectlite.Value.Type" 0) (fun t _ _ _ => ReflectliteType.toType t)) Tryd.func24 (by kernel_rfl) (by kernel_rfl) (by kernel_rfl) (by kernel_rfl)
  have h25 := @run_callFunc_extern Tryd.prog 25 _ (ReflectliteValue.method (ReflectliteValue.valueError "reflectlite.Value.IsNil" 0) ReflectliteValue.isNil) Tryd.func25 (by kernel_rfl) (by kernel_rfl) (by kernel_rfl) (by kernel_rfl)
  have h43 := @run_callFunc_extern Tryd.prog 43 _ (ReflectliteType.abiMethod fun t => do pure (.int .u8 (← Rtype.kind t))) Tryd.func43 (by kernel_rfl) (by kernel_rfl) (by kernel_rfl) (by kernel_rfl)
  have h71 := @run_callFunc_extern Tryd.prog 71 _ (ReflectliteType.method ReflectliteType.elem) Tryd.func71 (by kernel_rfl) (by kernel_rfl) (by kernel_rfl) (by kernel_rfl)
  have h72 := @run_callFunc_extern Tryd.prog 72 _ (ReflectliteType.relation "Implements" ReflectliteType.implements_) Tryd.func72 (by kernel_rfl) (by kernel_rfl) (by kernel_rfl) (by kernel_rfl)
  have f6 := valueOf57
  have f7 := type57
  have mK := methodKind
  have mE := methodElem
  have mI := methodImplements
  have k57 := kind57
  have k43 := kind43
  have e57 := elem57
  have i43 := implements43
  have hb1 := (Below.refl w.heap.size w).alloc (Nat.le_refl _) (.cells #[.pointer (some ⟨t, 0, none⟩)] 57)
  have hb2 := hb1.alloc hb1.size (.cells #[.pointer (some ⟨4, 57, none⟩), .pointer (some ⟨w.heap.size, 0, none⟩), .int .u64 150] 65)
  have hA1 : ((w.alloc (.cells #[.pointer (some ⟨t, 0, none⟩)] 57)).alloc (.cells #[.pointer (some ⟨4, 57, none⟩), .pointer (some ⟨w.heap.size, 0, none⟩), .int .u64 150] 65)).heap[w.heap.size]? = some (.cells #[.pointer (some ⟨t, 0, none⟩)] 57 (0, 0)) := (heap_alloc_old _ _ (by simp)).trans (heap_alloc_new w _)
  have n25 := isNil57 ⟨w.heap.size, 0, none⟩ ⟨t, 0, none⟩ ((w.alloc (.cells #[.pointer (some ⟨t, 0, none⟩)] 57)).alloc (.cells #[.pointer (some ⟨4, 57, none⟩), .pointer (some ⟨w.heap.size, 0, none⟩), .int .u64 150] 65)) (cell_of_block hA1 0)
  have hg2 : ((w.alloc (.cells #[.pointer (some ⟨t, 0, none⟩)] 57)).alloc (.cells #[.pointer (some ⟨4, 57, none⟩), .pointer (some ⟨w.heap.size, 0, none⟩), .int .u64 150] 65)).cell? ⟨0, 0, none⟩ = some (.iface 73 (.agg #[.pointer (some ⟨4, 27, none⟩)])) := hg.below hb2
  have HB2 := Lib.hid hb2
  clear hg hb1 hb2 hA1
  go_enter Tryd.func20, Tryd.ntmps20
  go_wp2_with (go_at_call 26; (refine (as_miss _ k t w.heap.size).mono ?_); rintro r w' ⟨rfl, hb⟩; have HB := Lib.hid hb; clear hb)
  go_ret
  exact ⟨rfl, HB2.out.trans (HB.out.mono HB2.out.size)⟩
theorem find_miss (w : World) (k : Nat) (hg : Ety w) : Calls Tryd.prog 17 #[.iface 51 (.pointer (some ⟨k, 0, none⟩))] w (Gives w (.pointer none)) := by
  have hb1 := (Below.refl w.heap.size w).alloc (Nat.le_refl _) (.cells #[.pointer none] 43)
  have HB1 := Lib.hid hb1
  have HG := Lib.hid (hg.below hb1)
  clear hg hb1
  go_enter Tryd.func17, Tryd.ntmps17
  go_wp2_with (go_at_call 20; (refine (asOther _ k w.heap.size HG.out).mono ?_); rintro r w' ⟨rfl, hb⟩; have HB := Lib.hid hb; clear hb)
  go_ret
  exact ⟨rfl, HB1.out.trans (HB.out.mono HB1.out.size)⟩
theorem code_miss (w : World) (k : Nat) (hg : Ety w) : Calls Tryd.prog 13 #[.iface 51 (.pointer (some ⟨k, 0, none⟩))] w (Gives w (.int .i64 1)) := by
  have HG := Lib.hid hg
  clear hg
  go_enter Tryd.func13, Tryd.ntmps13
  go_wp2_with (go_at_call 17; (refine (find_miss _ k HG.out).mono ?_); rintro r w' ⟨rfl, hb⟩; have HB := Lib.hid hb; clear hb)
  go_ret
  exact ⟨rfl, HB.out⟩
theorem where_miss (w : World) (k : Nat) (hg : Ety w) : Calls Tryd.prog 10 #[.iface 51 (.pointer (some ⟨k, 0, none⟩))] w (Gives w (.tuple #[.agg #[.int .i64 0, .int .i64 0], .bool false])) := by
  have hb1 := (Below.refl w.heap.size w).alloc (Nat.le_refl _) (.cells #[.int .i64 0, .int .i64 0] 25)
  have HB1 := Lib.hid hb1
  have HG := Lib.hid (hg.below hb1)
  have HZ : Hid ((w.alloc (.cells #[.int .i64 0, .int .i64 0] 25)).heap[w.heap.size]? = some (.cells #[.int .i64 0, .int .i64 0] 25 (0, 0))) := heap_alloc_new w _
  clear hg hb1
  go_enter Tryd.func10, Tryd.ntmps10
  go_wp2_with (go_at_call 17; (refine (find_miss _ k HG.out).mono ?_); rintro r w' ⟨rfl, hb⟩; have hz2 := (hb.block _ (lt_of_block HZ.out)).trans HZ.out; have z0 := cell_of_block hz2 0; have z1 := cell_of_block hz2 1; have f0 := unfrozen_of_block hz2 0; have f1 := unfrozen_of_block hz2 1; have HZ2 := Lib.hid hz2; have HB := Lib.hid hb; clear hb hz2)
  obtain ⟨s0, s1⟩ := two_set HZ2.out (.int .i64 0) (.int .i64 0)
  refine bodyPost_ret (v := .tuple #[.agg #[.int .i64 0, .int .i64 0], .bool false]) (by simp [results, Tryd.results10, go_sem, s0, s1]) rfl ⟨rfl, ?_⟩
  exact ((HB1.out.trans (HB.out.mono (by simp))).setCell (by simp) _).setCell (by simp) _
def OtherR (w : World) (r : Ending) (w' : World) : Prop := ∃ k, r = .returned (.iface 51 (.pointer (some ⟨k, 0, none⟩))) ∧ Below w.heap.size w w'
theorem new_other (w : World) (s : ByteArray) : Calls Tryd.prog 14 #[.string s] w (OtherR w) := by
  go_enter Tryd.func14, Tryd.ntmps14
  go_wp2
  go_ret
  exact ⟨_, rfl, (Below.refl _ _).alloc (Nat.le_refl _) _⟩
set_option maxHeartbeats 4000000 in
theorem other_any (w : World) (s : ByteArray) (hg : Ety w) : Calls Tryd.prog 4 #[.string s] w (Gives w (.bool true)) := by
  have HG := Lib.hid hg
  clear hg
  by_cases h : (100 : Int) < (s.size : Int)
  · go_enter Tryd.func4, Tryd.ntmps4
    go_wp2_with (go_at_call 7; (with_reducible refine (alive_any _ HG.out).mono ?_); rintro r w' ⟨rfl, hb⟩; have HB := Lib.hid hb; clear hb)
    go_ret
    exact ⟨rfl, HB.out⟩
  · go_enter Tryd.func4, Tryd.ntmps4
    go_wp2_with (first
      | (go_at_call 7; (with_reducible refine (alive_any _ HG.out).mono ?_); rintro r w1 ⟨rfl, hb⟩; have HB := Lib.hid hb; clear hb)
      | (go_at_call 14; (with_reducible refine (new_other _ s).mono ?_); rintro r w2 ⟨k, rfl, hb⟩; have HB2 := Lib.hid (HB.out.trans (hb.mono HB.out.size)); clear hb)
      | (go_at_call 10; (with_reducible refine (where_miss _ k (HG.out.below HB2.out)).mono ?_); rintro r w3 ⟨rfl, hb⟩; have HB3 := Lib.hid (HB2.out.trans (hb.mono HB2.out.size)); have HB4 := Lib.hid (HB3.out.alloc HB3.out.size (.cells #[.int .i64 0, .int .i64 0] 25)); have hc := heap_alloc_new w3 (.cells #[.int .i64 0, .int .i64 0] 25); have HC := Lib.hid hc; clear hb hc)
      | (go_at_call 13; (with_reducible refine (code_miss _ k (HG.out.below HB4.out)).mono ?_); rintro r w5 ⟨rfl, hb⟩; have hx := (hb.block _ (lt_of_block HC.out)).trans HC.out; have x0 := cell_of_block hx 0; have x1 := cell_of_block hx 1; have HB5 := Lib.hid (HB4.out.trans (hb.mono HB4.out.size)); clear hb hx)
      | (go_at_call 12; (with_reducible refine (num_any _ _).mono ?_); rintro r w' ⟨rfl, hz⟩; obtain rfl := hz.symm))
    go_ret
    exact ⟨rfl, HB5.out⟩
end Go.Proofs.YtppablpbpimloaaDoor.Code
