/- Whether two units are one. Conditions: their loads lie where the slices say. -/
import Derived.Test.YtpgceeeokjadpaaFr4
import Derived.Lib.Strings
namespace Go.Proofs.Ytpgceeeokjadpaa.Code
open Go.RowKit Go.Joins Go.Proofs.Ytpgceeeokjadpaa.Crc Go.Proofs.Ytpgceeeokjadpaa.Mem
theorem str_eq (a b : List UInt8) : ((str a).toList == (str b).toList) = decide (a = b) := by
  rw [Lib.toList_data, Lib.toList_data]
  by_cases h : a = b
  · subst h; rw [decide_eq_true rfl]; exact beq_self_eq_true _
  · rw [decide_eq_false h]; exact beq_eq_false_iff_ne.mpr (fun e => h (by simpa [str] using e))
instance : DecidableEq Un := fun a b => decidable_of_iff (a.kind = b.kind ∧ a.label = b.label ∧ a.number = b.number ∧ a.load = b.load) (by cases a; cases b; simp)
theorem un_iff (a b : Un) : a = b ↔ a.kind = b.kind ∧ a.label = b.label ∧ a.number = b.number ∧ a.load = b.load := by cases a; cases b; simp
set_option maxRecDepth 100000 in
theorem same_any (w : World) (u v : Un) (A : Option Addr) (n c : Nat) (A2 : Option Addr) (n2 c2 : Nat) (h : Sl w A n c u.load) (h2 : Sl w A2 n2 c2 v.load) :
    Calls Try.prog 33 #[uv u A n c, uv v A2 n2 c2] w fun e w' => e = .returned (.bool (decide (u = v))) ∧ Below w.heap.size w w' := by
  have hb := ((Below.refl w.heap.size w).alloc (Nat.le_refl _) (.cells #[.int .i64 u.kind, .int .i64 u.label, .int .i64 u.number, .slice A n c] 45)).alloc (by simp) (.cells #[.int .i64 v.kind, .int .i64 v.label, .int .i64 v.number, .slice A2 n2 c2] 45)
  have HB := Lib.hid hb
  have hcv := conv_str Try.underlying22 Try.underlying5 Try.underlying9 (h.below hb).1 (h.below hb).2.2
  have hcv2 := conv_str Try.underlying22 Try.underlying5 Try.underlying9 (h2.below hb).1 (h2.below hb).2.2
  have HN := Lib.hid (un_iff u v)
  clear h h2 hb
  unfold uv
  by_cases e1 : u.kind = v.kind
  · by_cases e2 : u.label = v.label
    · by_cases e3 : u.number = v.number
      · by_cases e4 : u.load = v.load
        · have t1 : (u.kind == v.kind) = true := beq_iff_eq.mpr e1
          have t2 : (u.label == v.label) = true := beq_iff_eq.mpr e2
          have t3 : (u.number == v.number) = true := beq_iff_eq.mpr e3
          have t4 : ((str u.load).toList == (str v.load).toList) = true := by rw [str_eq]; exact decide_eq_true e4
          have HD : Hid (true = decide (u = v)) := (decide_eq_true (HN.out.2 ⟨e1, e2, e3, e4⟩)).symm
          clear e1 e2 e3 e4
          go_enter Try.func33, Try.ntmps33
          go_wp2
          go_ret
          exact ⟨ret_bool HD.out, HB.out⟩
        · have t1 : (u.kind == v.kind) = true := beq_iff_eq.mpr e1
          have t2 : (u.label == v.label) = true := beq_iff_eq.mpr e2
          have t3 : (u.number == v.number) = true := beq_iff_eq.mpr e3
          have t4 : ((str u.load).toList == (str v.load).toList) = false := by rw [str_eq]; exact decide_eq_false e4
          have HD : Hid (false = decide (u = v)) := (decide_eq_false (fun e => e4 (HN.out.1 e).2.2.2)).symm
          clear e1 e2 e3 e4
          go_enter Try.func33, Try.ntmps33
          go_wp2
          go_ret
          exact ⟨ret_bool HD.out, HB.out⟩
      · have t1 : (u.kind == v.kind) = true := beq_iff_eq.mpr e1
        have t2 : (u.label == v.label) = true := beq_iff_eq.mpr e2
        have t3 : (u.number == v.number) = false := beq_eq_false_iff_ne.mpr e3
        have HD : Hid (false = decide (u = v)) := (decide_eq_false (fun e => e3 (HN.out.1 e).2.2.1)).symm
        clear e1 e2 e3
        go_enter Try.func33, Try.ntmps33
        go_wp2
        go_ret
        exact ⟨ret_bool HD.out, HB.out⟩
    · have t1 : (u.kind == v.kind) = true := beq_iff_eq.mpr e1
      have t2 : (u.label == v.label) = false := beq_eq_false_iff_ne.mpr e2
      have HD : Hid (false = decide (u = v)) := (decide_eq_false (fun e => e2 (HN.out.1 e).2.1)).symm
      clear e1 e2
      go_enter Try.func33, Try.ntmps33
      go_wp2
      go_ret
      exact ⟨ret_bool HD.out, HB.out⟩
  · have t1 : (u.kind == v.kind) = false := beq_eq_false_iff_ne.mpr e1
    have HD : Hid (false = decide (u = v)) := (decide_eq_false (fun e => e1 (HN.out.1 e).1)).symm
    clear e1
    go_enter Try.func33, Try.ntmps33
    go_wp2
    go_ret
    exact ⟨ret_bool HD.out, HB.out⟩
end Go.Proofs.Ytpgceeeokjadpaa.Code
