/- slices.Clone of a slice of rows: the slice is new, the rows are the old ones. Conditions: as it says. -/
import Derived.Test.YtnnhigojgdcdlaaDrv4
namespace Go.Proofs.Ytnnhigojgdcdlaa.Code
open Go.RowKit Go.Joins Go.Proofs.Ytnnhigojgdcdlaa.Crc Go.Proofs.Ytnnhigojgdcdlaa.Mem
theorem one_sv (vs : List Sv) : ∀ u ∈ vs.map Sv.v, u.oneCell' = true := by
  intro u hu
  obtain ⟨s, _, rfl⟩ := List.mem_map.1 hu
  rfl
theorem clone2_any (w : World) (A : Option Addr) (n c : Nat) (vs : List Sv) (h : RR 1 w A n (vs.map Sv.v)) (hz : A = none → n = 0 ∧ c = 0) (hn : n ≤ 1000000) :
    Calls Try.prog 33 #[.slice A n c] w fun e w' => ∃ A' c', e = .returned (.slice A' n c') ∧ RO 32 1 w' w.heap.size A' n c' (vs.map Sv.v) ∧ Below w.heap.size w w' := by
  have hnil := fun (w : World) (a : Option Addr) (n c : Nat) => run_eql_slice_nil (P := Try.prog) w 27 32 a n c Try.underlying27
  cases A with
  | none =>
    obtain ⟨rfl, rfl⟩ := hz rfl
    have e : vs.map Sv.v = [] := List.length_eq_zero_iff.1 (by simpa using h.1)
    rw [e]
    clear h hz e
    go_enter Try.func33, Try.ntmps33
    go_wp2
    go_ret
    exact ⟨none, 0, rfl, RO.nil _ _ _ _, Below.refl _ _⟩
  | some a =>
    have HR := Lib.hid h
    have HO := Lib.hid (one_sv vs)
    clear h hz
    have HE : Hid (∀ W : World, RO 32 1 (W.alloc (.cells #[] 32)) W.heap.size (some ⟨W.heap.size, 0, none⟩) 0 0 []) := fun W => RO.lit 32 1 W #[] 0 (Nat.le_refl _) rfl (Nat.zero_le _) rfl
    go_enter Try.func33, Try.ntmps33
    go_wp2_with (at_builtin; refine appR_law rfl (.tmp 5) (.tmp 6) 27 32 rfl Try.underlying27 info32 rfl (by decide) rfl rfl (HE.out w) (HR.out.below ((Below.refl _ _).alloc (Nat.le_refl _) _)) HO.out (fun h => by cases h) (by simp only [maxLen]; omega) (by omega) (by simp) ?_; intro A' c' w1 own gr hat; simp only [Nat.zero_add, List.nil_append] at own ⊢; have hb := ((Below.refl w.heap.size w).alloc (Nat.le_refl _) _).grown gr (by simp) (fun k hk => by simp [blk] at hk; omega); have OWN := Lib.hid own; have HB := Lib.hid hb; clear own gr hat hb)
    go_ret
    exact ⟨A', c', rfl, OWN.out, HB.out⟩
end Go.Proofs.Ytnnhigojgdcdlaa.Code
