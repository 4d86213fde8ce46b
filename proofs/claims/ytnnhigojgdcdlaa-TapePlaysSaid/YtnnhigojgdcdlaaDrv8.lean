/- Load of a tape into a drive. Conditions: as each says. -/
import Derived.Test.YtnnhigojgdcdlaaDrv7
namespace Go.Proofs.Ytnnhigojgdcdlaa.Code
open Go.RowKit Go.Joins Go.Proofs.Ytnnhigojgdcdlaa.Crc Go.Proofs.Ytnnhigojgdcdlaa.Mem
theorem contains_yes (w : World) (A : Option Addr) (n c : Nat) (bs : List (List UInt8)) (h : Blks w A n c bs) (hn : n ≤ 1000000) (hr : ¬ Right bs) :
    Calls Try.prog 25 #[.slice A n c, .func (.func 26) #[] #[]] w fun e w' => e = .returned (.bool true) ∧ w' = w := by
  have HL := Lib.hid h
  have HR := Lib.hid hr
  clear h hr
  go_enter Try.func25, Try.ntmps25
  go_wp2_with (go_at_call 32; (with_reducible refine (find_wrong _ A n c bs HL.out hn).mono ?_); rintro e w' ⟨r, rfl, rfl, hx⟩; have hr0 : 0 ≤ r := (by rcases hx with ⟨_, h⟩ | ⟨h, _⟩; exact absurd h HR.out; exact h); clear hx)
  go_ret
  exact ⟨ret_bool (by simp), rfl⟩
theorem contains_no (w : World) (A : Option Addr) (n c : Nat) (bs : List (List UInt8)) (h : Blks w A n c bs) (hn : n ≤ 1000000) (hr : Right bs) :
    Calls Try.prog 25 #[.slice A n c, .func (.func 26) #[] #[]] w fun e w' => e = .returned (.bool false) ∧ w' = w := by
  have HL := Lib.hid h
  have HR := Lib.hid hr
  clear h hr
  go_enter Try.func25, Try.ntmps25
  go_wp2_with (go_at_call 32; (with_reducible refine (find_wrong _ A n c bs HL.out hn).mono ?_); rintro e w' ⟨r, rfl, rfl, hx⟩; have hr0 : r < 0 := (by rcases hx with ⟨h, _⟩ | ⟨_, h⟩; omega; exact absurd HR.out h); clear hx)
  go_ret
  exact ⟨ret_bool (by simpa using hr0), rfl⟩
/-- Blocks that lie in S. -/
def InS (S : Nat → Prop) (A : Option Addr) (vs : List Sv) : Prop := (∀ g, blk A = some g → S g) ∧ ∀ (i : Nat) s g, vs[i]? = some s → blk s.a = some g → S g
/-- A tape's four cells in a block of type T; its rows are its own; all of it lies in S. -/
structure TpS (T : TypeId) (w : World) (S : Nat → Prop) (q : Nat) (t : Tp) (A : Option Addr) (n c : Nat) (vs : List Sv) : Prop where
  box : w.heap[q]? = some (.cells #[.int .i64 t.label, .int .i64 t.cap, .slice A n c, .bool t.lost] T (0, 0))
  rows : BlV w 0 A n c vs t.blocks
  mem : S q
  ins : InS S A vs
  lim : ∀ k, S k → k < w.heap.size
/-- What came new. -/
def Nw (w w' : World) (k : Nat) : Prop := w.heap.size ≤ k ∧ k < w'.heap.size
def Gr (S : Nat → Prop) (w w' : World) (k : Nat) : Prop := S k ∨ Nw w w' k
def DrS (T : TypeId) (w : World) (S : Nat → Prop) (q : Nat) (t : Tp) : Prop := ∃ A n c vs, TpS T w S q t A n c vs
/-- What a loading answers. -/
def Loaded (w : World) (t : Tp) (e : Ending) (w' : World) : Prop := ∃ q, e = .returned (.tuple #[.pointer (some ⟨q, 0, none⟩), .int .i64 0]) ∧ DrS 58 w' (Nw w w') q t ∧ Below w.heap.size w w'
def Refused (w : World) (k : Int) (e : Ending) (w' : World) : Prop := e = .returned (.tuple #[.pointer none, .int .i64 k]) ∧ Below w.heap.size w w'
theorem _root_.Go.Proofs.Ytnnhigojgdcdlaa.Mem.BlV.ins {w : World} {B : Nat} {A : Option Addr} {n c : Nat} {vs : List Sv} {bs : List (List UInt8)} (h : BlV w B A n c vs bs) : InS (fun k => B ≤ k ∧ k < w.heap.size) A vs :=
  ⟨fun g hg => h.row.blk_ge g hg, fun i s g hs hg => h.lt i s g hs hg⟩
theorem InS.mono {S S' : Nat → Prop} {A : Option Addr} {vs : List Sv} (h : InS S A vs) (hs : ∀ k, S k → S' k) : InS S' A vs := ⟨fun g hg => hs g (h.1 g hg), fun i s g ha hg => hs g (h.2 i s g ha hg)⟩
theorem _root_.Go.Proofs.Ytnnhigojgdcdlaa.Mem.BlV.lower {w : World} {B B' : Nat} {A : Option Addr} {n c : Nat} {vs : List Sv} {bs : List (List UInt8)} (h : BlV w B A n c vs bs) (hB : B' ≤ B) : BlV w B' A n c vs bs :=
  ⟨h.row.lower hB, h.len, fun i s b hs hb => (h.own i s b hs hb).lower hB, h.ne⟩
/-- A tape's block that was just laid, over rows that are new. -/
theorem drs_new {T : TypeId} {w0 w : World} {t : Tp} {A : Option Addr} {n c : Nat} (hb : Bl w w0.heap.size A n c t.blocks) (hz : w0.heap.size ≤ w.heap.size) :
    DrS T (w.alloc (.cells #[.int .i64 t.label, .int .i64 t.cap, .slice A n c, .bool t.lost] T)) (Nw w0 (w.alloc (.cells #[.int .i64 t.label, .int .i64 t.cap, .slice A n c, .bool t.lost] T))) w.heap.size t := by
  obtain ⟨vs, h⟩ := hb
  have hbl := (Below.refl w.heap.size w).alloc (Nat.le_refl _) (.cells #[.int .i64 t.label, .int .i64 t.cap, .slice A n c, .bool t.lost] T)
  refine ⟨A, n, c, vs, heap_alloc_new w _, (h.move fun g _ hlt _ => hbl.block g hlt).lower (Nat.zero_le _), ⟨hz, by simp⟩, h.ins.mono fun k hk => ⟨hk.1, by simp; omega⟩, fun k hk => hk.2⟩
theorem load_arg (w : World) (t : Tp) (A : Option Addr) (n c : Nat) (h : Blks w A n c t.blocks) (hn : n ≤ 1000) (hr : t.label < 1 ∨ t.cap < 0 ∨ 64 < t.cap ∨ t.cap < (n : Int) ∨ ¬ Right t.blocks) :
    Calls Try.prog 8 #[tv t A n c] w (Refused w 1) := by
  have hb1 := (Below.refl w.heap.size w).alloc (Nat.le_refl _) (.cells #[.int .i64 t.label, .int .i64 t.cap, .slice A n c, .bool t.lost] 29)
  have HB1 := Lib.hid hb1
  have HL1 := Lib.hid (h.below hb1)
  clear h hb1
  have hr5 : t.label < 1 ∨ (1 ≤ t.label ∧ t.cap < 0) ∨ (1 ≤ t.label ∧ 0 ≤ t.cap ∧ 64 < t.cap) ∨ (1 ≤ t.label ∧ 0 ≤ t.cap ∧ t.cap ≤ 64 ∧ t.cap < (n : Int)) ∨ (1 ≤ t.label ∧ 0 ≤ t.cap ∧ t.cap ≤ 64 ∧ (n : Int) ≤ t.cap ∧ ¬ Right t.blocks) := by
    by_cases h1 : t.label < 1
    · exact .inl h1
    by_cases h2 : t.cap < 0
    · exact .inr (.inl ⟨by omega, h2⟩)
    by_cases h3 : 64 < t.cap
    · exact .inr (.inr (.inl ⟨by omega, by omega, h3⟩))
    by_cases h4 : t.cap < (n : Int)
    · exact .inr (.inr (.inr (.inl ⟨by omega, by omega, by omega, h4⟩)))
    refine .inr (.inr (.inr (.inr ⟨by omega, by omega, by omega, by omega, ?_⟩)))
    rcases hr with h | h | h | h | h
    · exact absurd h h1
    · exact absurd h h2
    · exact absurd h h3
    · exact absurd h h4
    · exact h
  clear hr
  unfold tv
  rcases hr5 with h | ⟨h1, h⟩ | ⟨h1, h2, h⟩ | ⟨h1, h2, h3, h⟩ | ⟨h1, h2, h3, h4, h⟩
  · go_enter Try.func8, Try.ntmps8
    go_wp2
    go_ret2
    exact ⟨rfl, HB1.out⟩
  · go_enter Try.func8, Try.ntmps8
    go_wp2
    go_ret2
    exact ⟨rfl, HB1.out⟩
  · go_enter Try.func8, Try.ntmps8
    go_wp2
    go_ret2
    exact ⟨rfl, HB1.out⟩
  · go_enter Try.func8, Try.ntmps8
    go_wp2
    go_ret2
    exact ⟨rfl, HB1.out⟩
  · have HR := Lib.hid h
    clear h
    go_enter Try.func8, Try.ntmps8
    go_wp2_with (go_at_call 25; (with_reducible refine (contains_yes _ A n c _ HL1.out (by omega) HR.out).mono ?_); rintro e w' ⟨rfl, rfl⟩)
    go_ret2
    exact ⟨rfl, HB1.out⟩
theorem load_lost (w : World) (t : Tp) (A : Option Addr) (n c : Nat) (h : Blks w A n c t.blocks) (h1 : 1 ≤ t.label) (h2 : 0 ≤ t.cap) (h3 : t.cap ≤ 64) (h4 : (n : Int) ≤ t.cap) (hr : Right t.blocks) (hlo : t.lost = true) :
    Calls Try.prog 8 #[tv t A n c] w (Refused w 9) := by
  have hb1 := (Below.refl w.heap.size w).alloc (Nat.le_refl _) (.cells #[.int .i64 t.label, .int .i64 t.cap, .slice A n c, .bool t.lost] 29)
  rw [hlo] at hb1
  have HB1 := Lib.hid hb1
  have HL1 := Lib.hid (h.below hb1)
  have HR := Lib.hid hr
  clear h hb1 hr
  unfold tv
  rw [hlo]
  clear hlo
  go_enter Try.func8, Try.ntmps8
  go_wp2_with (go_at_call 25; (with_reducible refine (contains_no _ A n c _ HL1.out (by omega) HR.out).mono ?_); rintro e w' ⟨rfl, rfl⟩)
  go_ret2
  exact ⟨rfl, HB1.out⟩
theorem load_ok (w : World) (t : Tp) (A : Option Addr) (n c : Nat) (h : Blks w A n c t.blocks) (h1 : 1 ≤ t.label) (h2 : 0 ≤ t.cap) (h3 : t.cap ≤ 64) (h4 : (n : Int) ≤ t.cap) (hr : Right t.blocks) (hlo : t.lost = false) :
    Calls Try.prog 8 #[tv t A n c] w (Loaded w t) := by
  obtain ⟨tl, tc, tb, tlo⟩ := t
  simp only at h h1 h2 h3 h4 hr hlo
  subst hlo
  have hb1 := (Below.refl w.heap.size w).alloc (Nat.le_refl _) (.cells #[.int .i64 tl, .int .i64 tc, .slice A n c, .bool false] 29)
  have HB1 := Lib.hid hb1
  have HL1 := Lib.hid (h.below hb1)
  have HR := Lib.hid hr
  have HBL : Hid (∀ b ∈ tb, b.length ≤ 1000000) := fun b hb => by have := (hr b hb).2; omega
  clear h hb1 hr
  unfold tv
  go_enter Try.func8, Try.ntmps8
  go_wp2_with (first
    | (go_at_call 25; (with_reducible refine (contains_no _ A n c _ HL1.out (by omega) HR.out).mono ?_); rintro e w' ⟨rfl, rfl⟩)
    | (go_at_call 27; (refine (clonet_any _ ⟨tl, tc, tb, false⟩ A n c HL1.out (by omega) HBL.out).mono ?_); rintro e w2 ⟨A', c', rfl, hbl, hb⟩; have HN := Lib.hid hbl; have HB := Lib.hid hb; clear hbl hb))
  go_ret2
  exact ⟨_, rfl, drs_new (t := ⟨tl, tc, tb, false⟩) (HN.out.lower (by simp)) (HB1.out.trans (HB.out.mono (by simp))).size, (HB1.out.trans (HB.out.mono (by simp))).alloc (HB1.out.trans (HB.out.mono (by simp))).size _⟩
end Go.Proofs.Ytnnhigojgdcdlaa.Code
