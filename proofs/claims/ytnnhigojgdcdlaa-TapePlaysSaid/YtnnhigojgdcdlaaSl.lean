/- Slices of bytes with their capacity, and what slices.Clone makes of them. Conditions: as each law says. -/
import Derived.Test.YtnnhigojgdcdlaaUpd
import Derived.Test.YtnnhigojgdcdlaaRdPure
import Derived.WalkSpells
import Derived.Lib.LazyBuf
namespace Go.Proofs.Ytnnhigojgdcdlaa.Mem
open Go.RowKit Go.Joins Go.Proofs.Ytnnhigojgdcdlaa.Crc
/-- A slice of bytes as it may come in: it reads as l; its capacity. -/
def Sl (w : World) (A : Option Addr) (n c : Nat) (l : List UInt8) : Prop := Reads w A n l ∧ n ≤ c ∧ (A = none → n = 0 ∧ c = 0)
theorem Sl.nil (w : World) : Sl w none 0 0 [] := ⟨Reads.nil _ _, Nat.le_refl _, fun _ => ⟨rfl, rfl⟩⟩
theorem Sl.len {w : World} {A : Option Addr} {n c : Nat} {l : List UInt8} (h : Sl w A n c l) : l.length = n := h.1.1
theorem Own.sl {w : World} {B : Nat} {A : Option Addr} {n c : Nat} {l : List UInt8} (h : Own w B A n c l) : Sl w A n c l := by
  refine ⟨h.reads, ?_, ?_⟩
  · rcases h.shape with ⟨_, rfl, rfl, _⟩ | ⟨_, _, _, _, _, _, hn, _⟩
    · exact Nat.le_refl _
    · exact hn
  · intro hA
    rcases h.shape with ⟨_, h1, h2, _⟩ | ⟨_, _, h1, _⟩
    · exact ⟨h1, h2⟩
    · rw [hA] at h1; cases h1
theorem Sl.upd {S : Nat → Prop} {w w' : World} {A : Option Addr} {n c : Nat} {l : List UInt8} (h : Sl w A n c l) (hu : Upd S w w') (hs : ∀ b, blk A = some b → 0 < n → ¬ S b) : Sl w' A n c l := ⟨h.1.upd hu hs, h.2⟩
theorem Sl.below {w w' : World} {A : Option Addr} {n c : Nat} {l : List UInt8} (h : Sl w A n c l) (hb : Below w.heap.size w w') : Sl w' A n c l := ⟨h.1.below hb (Nat.le_refl _), h.2⟩
/-- A slice that was made anew by a call that began in world w. -/
def New (w : World) (A : Option Addr) (n c : Nat) (l : List UInt8) (w' : World) : Prop := Own w' w.heap.size A n c l ∧ Below w.heap.size w w'
def Cloned (w : World) (n : Nat) (l : List UInt8) (e : Ending) (w' : World) : Prop := ∃ A c, e = .returned (.slice A n c) ∧ New w A n c l w'
end Go.Proofs.Ytnnhigojgdcdlaa.Mem
namespace Go.Proofs.Ytnnhigojgdcdlaa.Code
open Go.RowKit Go.Joins Go.Proofs.Ytnnhigojgdcdlaa.Crc Go.Proofs.Ytnnhigojgdcdlaa.Mem
theorem info5' : (Try.prog.info? 5).map (fun i => (i.zero, i.size, i.bytes)) = some (some (.int .u8 0), 1, 1) := by kernel_rfl
theorem clone_any (w : World) (A : Option Addr) (n c : Nat) (l : List UInt8) (h : Sl w A n c l) (hn : n ≤ 140737488351232) :
    Calls Try.prog 28 #[.slice A n c] w fun e w' => Cloned w n l e w' := by
  have hnil := fun (w : World) (a : Option Addr) (n c : Nat) => run_eql_slice_nil (P := Try.prog) w 32 5 a n c Try.underlying32
  cases A with
  | none =>
    obtain ⟨hr, _, hz⟩ := h
    obtain ⟨rfl, rfl⟩ := hz rfl
    have e : l = [] := List.length_eq_zero_iff.1 hr.1
    subst e
    clear hr hz
    go_enter Try.func28, Try.ntmps28
    go_wp2
    go_ret
    exact ⟨none, 0, rfl, Own.nil _ _, Below.refl _ _⟩
  | some a =>
    have HR := Lib.hid h.1
    clear h
    have hE : ∀ W : World, Own (W.alloc (.cells #[] 5)) W.heap.size (some ⟨W.heap.size, 0, none⟩) 0 0 [] := fun W => Own.lit W #[] 0 [] (Nat.le_refl _) rfl (Nat.zero_le _) rfl
    have HE := Lib.hid hE
    clear hE
    go_enter Try.func28, Try.ntmps28
    go_wp2_with (at_builtin; refine app_law rfl (.tmp 5) (.tmp 6) 32 rfl Try.underlying32 info5' rfl rfl (HE.out w) (HR.out.below ((Below.refl _ _).alloc (Nat.le_refl _) _) (Nat.le_refl _)) (fun h => by cases h) (by omega) (by simp) ?_; intro A' c' w1 own gr hat; simp only [Nat.zero_add, List.nil_append] at own ⊢; have hb := ((Below.refl w.heap.size w).alloc (Nat.le_refl _) _).grown gr (by simp) (fun k hk => by simp [blk] at hk; omega); have OWN := Lib.hid own; have HB := Lib.hid hb; clear own gr hat hb)
    go_ret
    exact ⟨A', c', rfl, OWN.out, HB.out⟩
end Go.Proofs.Ytnnhigojgdcdlaa.Code
