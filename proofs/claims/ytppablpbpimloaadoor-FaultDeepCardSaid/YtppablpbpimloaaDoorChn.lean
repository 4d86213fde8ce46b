/- Errors in layers, and what errors.As finds in them. Conditions: as each says. -/
import Derived.Test.YtppablpbpimloaaDoorRl
import Derived.Deep.LoopGhost
namespace Go.Proofs.YtppablpbpimloaaDoor.Code
open Go Go.RowKit Go.Joins Go.Extern.Stop Go.Stop Go.Extern Go.Proofs.YtppablpbpimloaaDoor.Rl
/-- A fault: its code, and its spot. -/
def Flt (w : World) (e : Nat) (code l b : Int) : Prop := w.heap[e]? = some (.cells #[.int .i64 code, .int .i64 l, .int .i64 b] 45 (0, 0))
/-- v is the fault in block e, in n layers. -/
inductive Ch (w : World) (e : Nat) : Nat → Value → Prop
  | base : Ch w e 0 (.iface 43 (.pointer (some ⟨e, 0, none⟩)))
  | wrap {n : Nat} {v : Value} {b : Nat} {s : ByteArray} (hb : w.heap[b]? = some (.cells #[.string s, v] 48 (0, 0))) (h : Ch w e n v) : Ch w e (n + 1) (.iface 46 (.pointer (some ⟨b, 0, none⟩)))
theorem Ch.move {w w' : World} {e n : Nat} {v : Value} (h : Ch w e n v) (hb : Below w.heap.size w w') : Ch w' e n v := by
  induction h with
  | base => exact .base
  | wrap hb' _ ih => exact .wrap ((hb.block _ (lt_of_block hb')).trans hb') ih
theorem Ch.shape {w : World} {e n : Nat} {v : Value} (h : Ch w e n v) : ∃ T b, v = .iface T (.pointer (some ⟨b, 0, none⟩)) ∧ (T = 43 ∨ T = 46) := by
  cases h with
  | base => exact ⟨43, e, rfl, .inl rfl⟩
  | wrap _ _ => exact ⟨46, _, rfl, .inr rfl⟩
theorem noAs46 (v : Value) (xT : TypeId) (w : World) : (Instr.typeAssert (.iface 46 v) xT 85 true).run Tryd.prog w = .ok (.tuple #[.nilIface, .bool false]) w := run_typeAssert_lacksB Tryd.underlying85 (by kernel_rfl) (by kernel_rfl) v xT w
theorem noAs51 (v : Value) (xT : TypeId) (w : World) : (Instr.typeAssert (.iface 51 v) xT 85 true).run Tryd.prog w = .ok (.tuple #[.nilIface, .bool false]) w := run_typeAssert_lacksB Tryd.underlying85 (by kernel_rfl) (by kernel_rfl) v xT w
theorem hasUn46 (v : Value) (xT : TypeId) (w : World) : (Instr.typeAssert (.iface 46 v) xT 78 true).run Tryd.prog w = .ok (.tuple #[.iface 46 v, .bool true]) w := run_typeAssert_hasB Tryd.underlying78 (by kernel_rfl) v xT w
theorem noUn51 (v : Value) (xT : TypeId) (w : World) : (Instr.typeAssert (.iface 51 v) xT 78 true).run Tryd.prog w = .ok (.tuple #[.nilIface, .bool false]) w := run_typeAssert_lacksB Tryd.underlying78 (by kernel_rfl) (by kernel_rfl) v xT w
theorem noUns51 (v : Value) (xT : TypeId) (w : World) : (Instr.typeAssert (.iface 51 v) xT 80 true).run Tryd.prog w = .ok (.tuple #[.nilIface, .bool false]) w := run_typeAssert_lacksB Tryd.underlying80 (by kernel_rfl) (by kernel_rfl) v xT w
theorem methodUnwrap (v : Value) (w : World) : (Go.method 234 46 v "Unwrap").run Tryd.prog w = .ok (63, v) w := by kernel_rfl
def Set_ (w : World) (t : Nat) (e : Nat) (r : Ending) (w' : World) : Prop := r = .returned (.bool true) ∧ w'.heap[t]? = some (.cells #[.pointer (some ⟨e, 0, none⟩)] 43 (0, 0)) ∧ ∀ B, B ≤ t → B ≤ w.heap.size → Below B w w'
set_option maxHeartbeats 4000000 in
theorem as_chain (w : World) (e n : Nat) (v : Value) (h : Ch w e n v) (t a : Nat) (ha : w.heap[a]? = some (.cells #[.pointer (some ⟨t, 0, none⟩)] 57 (0, 0))) (ht : w.heap[t]? = some (.cells #[.pointer none] 43 (0, 0))) :
    Calls Tryd.prog 26 #[v, .iface 57 (.pointer (some ⟨t, 0, none⟩)), .agg #[.pointer (some ⟨4, 57, none⟩), .pointer (some ⟨a, 0, none⟩), .int .u64 150], .iface 73 (.agg #[.pointer (some ⟨4, 43, none⟩)])] w (Set_ w t e) := by
  have h21 := @run_callFunc_extern Tryd.prog 21 _ ReflectliteType.typeOf Tryd.func21 (by kernel_rfl) (by kernel_rfl) (by kernel_rfl) (by kernel_rfl)
  have h23 := @run_callFunc_extern Tryd.prog 23 _ (fun args => ReflectliteValue.unpack (args.getD 0 (.tuple #[]))) Tryd.func23 (by kernel_rfl) (by kernel_rfl) (by kernel_rfl) (by kernel_rfl)
  have h69 := @run_callFunc_extern Tryd.prog 69 _ (ReflectliteType.relation "AssignableTo" ReflectliteType.assignableTo) Tryd.func69 (by kernel_rfl) (by kernel_rfl) (by kernel_rfl) (by kernel_rfl)
  have h27 := @run_callFunc_extern Tryd.prog 27 _ (ReflectliteValue.method (ReflectliteValue.valueError "reflectlite.Value.Elem" 0) ReflectliteValue.elem) Tryd.func27 (by kernel_rfl) (by kernel_rfl) (by kernel_rfl) (by kernel_rfl)
  have h28 := @run_callFunc_extern Tryd.prog 28 _ ReflectliteValue.set Tryd.func28 (by kernel_rfl) (by kernel_rfl) (by kernel_rfl) (by kernel_rfl)
  have tO := typeOf43
  have tW := typeOf46
  have mA := methodAssignableTo
  have a43 := assignable43
  have a46 := assignable46
  have v43 := valueOf43
  have nA := noAs46
  have hU := hasUn46
  have mU := methodUnwrap
  have hb1 := (Below.refl w.heap.size w).alloc (Nat.le_refl _) (.cells #[.pointer (some ⟨4, 57, none⟩), .pointer (some ⟨a, 0, none⟩), .int .u64 150] 65)
  have HCH := Lib.hid (h.move hb1)
  have hta : (w.alloc (.cells #[.pointer (some ⟨4, 57, none⟩), .pointer (some ⟨a, 0, none⟩), .int .u64 150] 65)).heap[a]? = some (.cells #[.pointer (some ⟨t, 0, none⟩)] 57 (0, 0)) := (hb1.block _ (lt_of_block ha)).trans ha
  have htt : (w.alloc (.cells #[.pointer (some ⟨4, 57, none⟩), .pointer (some ⟨a, 0, none⟩), .int .u64 150] 65)).heap[t]? = some (.cells #[.pointer none] 43 (0, 0)) := (hb1.block _ (lt_of_block ht)).trans ht
  have HTT := Lib.hid htt
  have HB1 := Lib.hid hb1
  have el := elemV57 ⟨a, 0, none⟩ ⟨t, 0, none⟩ (w.alloc (.cells #[.pointer (some ⟨4, 57, none⟩), .pointer (some ⟨a, 0, none⟩), .int .u64 150] 65)) (cell_of_block hta 0)
  clear h ha ht hta htt hb1
  go_enter Tryd.func26, Tryd.ntmps26
  go_wp2
  obtain ⟨W, hW⟩ : ∃ W, W = w.alloc (.cells #[.pointer (some ⟨4, 57, none⟩), .pointer (some ⟨a, 0, none⟩), .int .u64 150] 65) := ⟨_, rfl⟩
  have hbox : W.heap[w.heap.size]? = some (.cells #[.pointer (some ⟨4, 57, none⟩), .pointer (some ⟨a, 0, none⟩), .int .u64 150] 65 (0, 0)) := by rw [hW]; exact heap_alloc_new w _
  rw [← hW] at HCH HTT HB1 el ⊢
  clear hW
  have c0 := cell_of_block hbox 0
  have c1 := cell_of_block hbox 1
  have c2 := cell_of_block hbox 2
  have hlt := lt_of_block HTT.out
  have hst := set43 ⟨t, 0, none⟩ ⟨W.heap.size, 0, none⟩ ⟨e, 0, none⟩ (.pointer none) (W.alloc (.cells #[.pointer (some ⟨e, 0, none⟩)] 43)) (cell_of_block (heap_alloc_new W _) 0)
    (cell_of_block ((heap_alloc_old W (.cells #[.pointer (some ⟨e, 0, none⟩)] 43) hlt).trans HTT.out) 0) (unfrozen_of_block ((heap_alloc_old W (.cells #[.pointer (some ⟨e, 0, none⟩)] 43) hlt).trans HTT.out) 0)
  clear hbox
  go_loopg [0] n (fun k v wr => Ch W e k v ∧ wr = W)
  case atStart => exact ⟨HCH.out, rfl⟩
  case round =>
    clear HCH
    obtain ⟨hch, rfl⟩ := hrel
    cases hch with
    | base =>
      go_wp2
      go_ret
      have ht := block_setCell (i := 0) HTT.out (.pointer (some ⟨e, 0, none⟩))
      have hb2 : Below w.heap.size w wr := HB1.out
      exact ⟨rfl, (heap_alloc_old _ _ (lt_of_block ht)).trans ht, fun B hB hz => by
        have h1 : Below B w (wr.setCell ⟨t, 0, none⟩ (.pointer (some ⟨e, 0, none⟩))) := (hb2.mono hz).setCell hB _
        exact h1.alloc (Nat.le_trans hz h1.size) _⟩
    | @wrap k' v' b' s hb hin =>
      obtain ⟨T, b2, rfl, hT⟩ := hin.shape
      have HIN := Lib.hid hin
      have x0 := cell_of_block hb 0
      have x1 := cell_of_block hb 1
      clear hin hb
      go_wp2
      go_roundg k'
      case measure => omega
      case rel => exact ⟨HIN.out, rfl⟩
/-- Package errors' own variable. -/
def Ety (w : World) : Prop := w.cell? ⟨0, 0, none⟩ = some (.iface 73 (.agg #[.pointer (some ⟨4, 27, none⟩)]))
theorem Ety.below {w w' : World} (h : Ety w) (hb : Below w.heap.size w w') : Ety w' := (hb.cell (World.block_lt_of_cell? _ _ h)).trans h
theorem heap_alloc2 (w : World) (o1 o2 : Obj) : ((w.alloc o1).alloc o2).heap[w.heap.size + 1]? = some o2 := by
  have h := heap_alloc_new (w.alloc o1) o2
  rw [World.size_alloc] at h
  exact h
set_option maxHeartbeats 4000000 in
theorem as_hit (w : World) (e n : Nat) (v : Value) (h : Ch w e n v) (t : Nat) (ht : w.heap[t]? = some (.cells #[.pointer none] 43 (0, 0))) (hg : Ety w) :
    Calls Tryd.prog 20 #[v, .iface 57 (.pointer (some ⟨t, 0, none⟩))] w (Set_ w t e) := by
  have h23 := @run_callFunc_extern Tryd.prog 23 _ (fun args => ReflectliteValue.unpack (args.getD 0 (.tuple #[]))) Tryd.func23 (by kernel_rfl) (by kernel_rfl) (by kernel_rfl) (by kernel_rfl)
  have h24 := @run_callFunc_extern Tryd.prog 24 _ (ReflectliteValue.methodAny (ReflectliteValue.valueError "reflectlite.Value.Type" 0) (fun t _ _ _ => ReflectliteType.toType t)) Tryd.func24 (by kernel_rfl) (by kernel_rfl) (by kernel_rfl) (by kernel_rfl)
  have h25 := @run_callFunc_extern Tryd.prog 25 _ (ReflectliteValue.method (ReflectliteValue.valueError "reflectlite.Value.IsNil" 0) ReflectliteValue.isNil) Tryd.func25 (by kernel_rfl) (by kernel_rfl) (by kernel_rfl) (by kernel_rfl)
  have h43 := @run_callFunc_extern Tryd.prog 43 _ (ReflectliteType.abiMethod fun t => do pure (.int .u8 (← Rtype.kind t))) Tryd.func43 (by kernel_rfl) (by kernel_rfl) (by kernel_rfl) (by kernel_rfl)
  have h71 := @run_callFunc_extern Tryd.prog 71 _ (ReflectliteType.method ReflectliteType.elem) Tryd.func71 (by kernel_rfl) (by kernel_rfl) (by kernel_rfl) (by kernel_rfl)
  have h72 := @run_callFunc_extern Tryd.prog 72 _ (ReflectliteType.relation "Implements" ReflectliteType.implements_) Tryd.func72 (by kernel_rfl) (by kernel_rfl) (by kernel_rfl) (by kernel_rfl)
  have f6 := valueOf57
  have f7 := type57
  have mK := methodKind
  have mE := methodElem
  have mI := methodImplements
  have k57 := kind57
  have k43 := kind43
  have e57 := elem57
  have i43 := implements43
  have hb1 := (Below.refl w.heap.size w).alloc (Nat.le_refl _) (.cells #[.pointer (some ⟨t, 0, none⟩)] 57)
  have hb2 := hb1.alloc hb1.size (.cells #[.pointer (some ⟨4, 57, none⟩), .pointer (some ⟨w.heap.size, 0, none⟩), .int .u64 150] 65)
  have hA1 : ((w.alloc (.cells #[.pointer (some ⟨t, 0, none⟩)] 57)).alloc (.cells #[.pointer (some ⟨4, 57, none⟩), .pointer (some ⟨w.heap.size, 0, none⟩), .int .u64 150] 65)).heap[w.heap.size]? = some (.cells #[.pointer (some ⟨t, 0, none⟩)] 57 (0, 0)) := (heap_alloc_old _ _ (by simp)).trans (heap_alloc_new w _)
  have n25 := isNil57 ⟨w.heap.size, 0, none⟩ ⟨t, 0, none⟩ ((w.alloc (.cells #[.pointer (some ⟨t, 0, none⟩)] 57)).alloc (.cells #[.pointer (some ⟨4, 57, none⟩), .pointer (some ⟨w.heap.size, 0, none⟩), .int .u64 150] 65)) (cell_of_block hA1 0)
  have hg2 : ((w.alloc (.cells #[.pointer (some ⟨t, 0, none⟩)] 57)).alloc (.cells #[.pointer (some ⟨4, 57, none⟩), .pointer (some ⟨w.heap.size, 0, none⟩), .int .u64 150] 65)).cell? ⟨0, 0, none⟩ = some (.iface 73 (.agg #[.pointer (some ⟨4, 27, none⟩)])) := hg.below hb2
  have HA1 := Lib.hid hA1
  have HB2 := Lib.hid hb2
  have HT2 := Lib.hid ((hb2.block _ (lt_of_block ht)).trans ht)
  have HCH := Lib.hid (h.move hb2)
  obtain ⟨T, b, rfl, hT⟩ := h.shape
  clear h ht hg hb1 hb2 hA1
  go_enter Tryd.func20, Tryd.ntmps20
  go_wp2_with (go_at_call 26; (refine (as_chain _ e n _ HCH.out t w.heap.size HA1.out HT2.out).mono ?_); rintro r w' ⟨rfl, hs, hb⟩; have HS := Lib.hid hs; have HB := Lib.hid hb; clear hs hb)
  go_ret
  exact ⟨rfl, HS.out, fun B hB hz => (HB2.out.mono hz).trans (HB.out B hB (Nat.le_trans hz HB2.out.size))⟩
end Go.Proofs.YtppablpbpimloaaDoor.Code
