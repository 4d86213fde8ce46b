/- What the readers of package code and of the reference do: each reading takes bytes off the front, or is bad from then on. Conditions: the row is short of 2^47 bytes. -/
import Derived.Test.YtpgceeeokjadpaaSl
namespace Go.Proofs.Ytpgceeeokjadpaa.Mem
open Go.RowKit Go.Joins Go.Proofs.Ytpgceeeokjadpaa.Crc
theorem Sl.take {w : World} {A : Option Addr} {n c : Nat} {l : List UInt8} (h : Sl w A n c l) (k : Nat) (hk : k ≤ n) : Sl w A k c (l.take k) := by
  refine ⟨⟨by rw [List.length_take, h.len]; omega, fun i hi => ?_⟩, by have := h.2.1; omega, fun e => ⟨by have := (h.2.2 e).1; omega, (h.2.2 e).2⟩⟩
  rw [List.length_take] at hi
  obtain ⟨b, o, hA, hc⟩ := h.1.2 i (by omega)
  exact ⟨b, o, hA, by rw [List.getElem_take]; exact hc⟩
theorem Sl.drop {w : World} {A : Option Addr} {n c : Nat} {l : List UInt8} (h : Sl w A n c l) (k : Nat) (hk : k ≤ n) : Sl w (Option.map (fun x => x.add k) A) (n - k) (c - k) (l.drop k) := by
  refine ⟨⟨by rw [List.length_drop, h.len], fun i hi => ?_⟩, by have := h.2.1; omega, fun e => ?_⟩
  · rw [List.length_drop] at hi
    obtain ⟨b, o, rfl, hc⟩ := h.1.2 (k + i) (by omega)
    refine ⟨b, o + k, ?_, ?_⟩
    · simp [Addr.add]
    · rw [List.getElem_drop, Nat.add_assoc]; exact hc
  · cases A with
    | none => have := h.2.2 rfl; omega
    | some a => cases e
theorem Sl.drop_all {w : World} {A : Option Addr} {n c : Nat} {l : List UInt8} (h : Sl w A n c l) (k : Nat) (hk : n ≤ k) : Sl w A (n - k) 0 (l.drop k) := by
  have e : l.drop k = [] := List.drop_eq_nil_of_le (by rw [h.len]; exact hk)
  rw [e, show n - k = 0 by omega]
  exact ⟨Reads.nil _ _, Nat.le_refl _, fun _ => ⟨rfl, rfl⟩⟩
/-- A block of two cells: a slice of bytes and a bool. -/
def Two (w : World) (p T : Nat) (A : Option Addr) (n c : Nat) (b : Bool) : Prop := w.heap[p]? = some (.cells #[.slice A n c, .bool b] T (0, 0))
theorem two_ne {w : World} {p T : Nat} {A B : Option Addr} {n c n2 c2 : Nat} {b : Bool} {l : List UInt8} (h : Two w p T A n c b) (hs : Sl w B n2 c2 l) : ∀ q, blk B = some q → 0 < n2 → ¬ q = p := by
  rintro q hq hn rfl
  obtain ⟨b', o, rfl, hc⟩ := hs.1.2 0 (by rw [hs.len]; exact hn)
  simp [blk] at hq
  subst hq
  rw [cell_of_block h] at hc
  rcases Nat.lt_or_ge (o + 0) 2 with h2 | h2
  · have : o = 0 ∨ o = 1 := by omega
    rcases this with rfl | rfl
    · simp at hc
    · simp at hc
  · rw [Array.getElem?_eq_none (by simpa using h2)] at hc
    cases hc
/-- The one of package code. -/
def CAt (w : World) (p : Nat) (s : Rs) : Prop := s.fit ∧ ∃ A n c, Two w p 86 A n c s.bad ∧ Sl w A n c s.l ∧ n ≤ 140737488351232 ∧ c ≤ 9223372036854775807
/-- The reference's: where bytes were missing it keeps what it had. -/
def RAt (w : World) (p : Nat) (s : Rs) : Prop := s.fit ∧ ∃ A n c l, Two w p 100 A n c s.bad ∧ Sl w A n c l ∧ (s.bad = false → l = s.l) ∧ n ≤ 140737488351232 ∧ c ≤ 9223372036854775807
def One (p : Nat) : Nat → Prop := fun k => k = p
theorem CAt.upd {S : Nat → Prop} {w w' : World} {p : Nat} {s : Rs} (h : CAt w p s) (hu : Upd S w w') (hp : ¬ S p) (hs : ∀ A n c, Two w p 86 A n c s.bad → ∀ b, blk A = some b → 0 < n → ¬ S b) : CAt w' p s := by
  obtain ⟨hf, A, n, c, h1, h2, h3⟩ := h
  exact ⟨hf, A, n, c, (hu.block p (lt_of_block h1) hp).trans h1, h2.upd hu (hs A n c h1), h3⟩
/-- Where only blocks are written that hold no bytes. -/
theorem two_upd {w w' : World} {p q T : Nat} {A : Option Addr} {n c n' c' : Nat} {b b' : Bool} {A' : Option Addr} {T' : Nat} {l : List UInt8} (h : Two w p T A n c b) (hs : Sl w A n c l) (hq : Two w q T' A' n' c' b') (hne : p ≠ q) (hu : Upd (One q) w w') : Two w' p T A n c b ∧ Sl w' A n c l :=
  ⟨(hu.block p (lt_of_block h) hne).trans h, hs.upd hu (two_ne hq hs)⟩
theorem lt_two {w : World} {p T : Nat} {A : Option Addr} {n c : Nat} {b : Bool} (h : Two w p T A n c b) : p < w.heap.size := lt_of_block h
theorem two_set0 {w : World} {p T : Nat} {A A' : Option Addr} {n c n' c' : Nat} {b : Bool} (h : Two w p T A n c b) : Two (w.setCell ⟨p, 0, none⟩ (.slice A' n' c')) p T A' n' c' b := by
  have := block_setCell (i := 0) h (.slice A' n' c')
  simpa [Two] using this
theorem two_set1 {w : World} {p T : Nat} {A : Option Addr} {n c : Nat} {b b' : Bool} (h : Two w p T A n c b) : Two (w.setCell ⟨p, 1, none⟩ (.bool b')) p T A n c b' := by
  have := block_setCell (i := 1) h (.bool b')
  simpa [Two] using this
theorem upd_set (w : World) (p i : Nat) (v : Value) : Upd (One p) w (w.setCell ⟨p, i, none⟩ v) := Upd.setCell (p := ⟨p, i, none⟩) (Upd.refl (One p) w) (fun _ => rfl) v
theorem CAt.took {w : World} {p : Nat} {s : Rs} {A A' : Option Addr} {n c n' c' k : Nat} (h1 : Two w p 86 A n c s.bad) (hok : s.ok k = true) (h3 : Sl w A' n' c' (s.l.drop k)) (hn : n' ≤ 140737488351232) (hc : c' ≤ 9223372036854775807) :
    CAt (w.setCell ⟨p, 0, none⟩ (.slice A' n' c')) p (s.step k) := by
  refine ⟨s.fit_step k, A', n', c', ?_, ?_, hn, hc⟩
  · have hb : s.bad = false := by unfold Rs.ok at hok; cases hs : s.bad <;> simp [hs] at hok ⊢
    rw [step_ok s k hok]
    rw [hb] at h1
    exact two_set0 h1
  · rw [step_ok s k hok]
    exact h3.upd (upd_set w p 0 _) (two_ne h1 h3)
theorem RAt.took {w : World} {p : Nat} {s : Rs} {A A' : Option Addr} {n c n' c' k : Nat} (h1 : Two w p 100 A n c s.bad) (hok : s.ok k = true) (h3 : Sl w A' n' c' (s.l.drop k)) (hn : n' ≤ 140737488351232) (hc : c' ≤ 9223372036854775807) :
    RAt (w.setCell ⟨p, 0, none⟩ (.slice A' n' c')) p (s.step k) := by
  refine ⟨s.fit_step k, A', n', c', s.l.drop k, ?_, ?_, ?_, hn, hc⟩
  · have hb : s.bad = false := by unfold Rs.ok at hok; cases hs : s.bad <;> simp [hs] at hok ⊢
    rw [step_ok s k hok]
    rw [hb] at h1
    exact two_set0 h1
  · exact h3.upd (upd_set w p 0 _) (two_ne h1 h3)
  · rw [step_ok s k hok]
    exact fun _ => rfl
/-- What a taking leaves. -/
def Took (At : World → Nat → Rs → Prop) (w : World) (p : Nat) (s : Rs) (k : Nat) (e : Ending) (w' : World) : Prop :=
  ∃ A n c, e = .returned (.slice A n c) ∧ Sl w' A n c (s.got k) ∧ At w' p (s.step k) ∧ Upd (One p) w w'
/-- What a reading leaves. -/
def Reading (At : World → Nat → Rs → Prop) (w : World) (p : Nat) (s' : Rs) (w' : World) : Prop := At w' p s' ∧ Upd (One p) w w'
end Go.Proofs.Ytpgceeeokjadpaa.Mem
namespace Go.Proofs.Ytpgceeeokjadpaa.Code
open Go.RowKit Go.Joins Go.Proofs.Ytpgceeeokjadpaa.Crc Go.Proofs.Ytpgceeeokjadpaa.Mem
theorem ok_parts {s : Rs} {k : Nat} (h : s.ok k = true) : s.bad = false ∧ k ≤ s.l.length := by
  unfold Rs.ok at h
  cases hs : s.bad <;> simp [hs] at h ⊢
  exact h
theorem bad_parts {s : Rs} {k : Nat} (h : s.ok k = false) : s.bad = true ∨ (s.bad = false ∧ s.l.length < k) := by
  unfold Rs.ok at h
  cases hs : s.bad <;> simp [hs] at h ⊢
  exact h

theorem take_any (w : World) (p : Nat) (s : Rs) (k : Nat) (h : CAt w p s) (hk : k ≤ 9223372036854775807) :
    Calls Try.prog 49 #[.pointer (some ⟨p, 0, none⟩), .int .i64 (k : Int)] w fun e w' => Took CAt w p s k e w' := by
  obtain ⟨hfit, A, n, c, htwo, hsl, hn, hc⟩ := h
  have hnc := hsl.2.1
  have hc0 : w.cell? ⟨p, 0, none⟩ = some (.slice A n c) := cell_of_block htwo 0
  have hc1 : w.cell? ⟨p, 1, none⟩ = some (.bool s.bad) := cell_of_block htwo 1
  have hf0 : w.frozen? ⟨p, 0, none⟩ = false := unfrozen_of_block htwo 0
  have hf1 : w.frozen? ⟨p, 1, none⟩ = false := unfrozen_of_block htwo 1
  have H2 := Lib.hid htwo
  cases hok : s.ok k with
  | true =>
    obtain ⟨hb, hlen⟩ := ok_parts hok
    rw [hb] at hc1
    have hkn : k ≤ n := by have := hsl.len; omega
    have HT := Lib.hid (hsl.take k hkn)
    have HD := Lib.hid (hsl.drop k hkn)
    have HDA := Lib.hid (fun h => hsl.drop_all k h)
    have HOK := Lib.hid hok
    clear htwo hsl hok hlen hb hfit
    by_cases hck : c = k
    · obtain rfl : n = k := by omega
      obtain rfl := hck
      have HD2 := Lib.hid (HDA.out (Nat.le_refl _))
      rw [Nat.sub_self] at HD2
      clear HDA HD
      go_enter Try.func49, Try.ntmps49
      go_wp2
      go_ret
      exact ⟨A, c, c, rfl, (by rw [got_take _ _ HOK.out]; exact HT.out.upd (upd_set w p 0 _) (two_ne H2.out HT.out)), CAt.took H2.out HOK.out HD2.out (by omega) (by omega), upd_set w p 0 _⟩
    · go_enter Try.func49, Try.ntmps49
      go_wp2
      go_ret
      exact ⟨A, k, c, rfl, (by rw [got_take _ _ HOK.out]; exact HT.out.upd (upd_set w p 0 _) (two_ne H2.out HT.out)), CAt.took H2.out HOK.out HD.out (by omega) (by omega), upd_set w p 0 _⟩
  | false =>
    have HOK := Lib.hid hok
    rcases bad_parts hok with hb | ⟨hb, hlen⟩
    · rw [hb] at hc1
      have hl : s.l = [] := hfit hb
      have HA : Hid (CAt w p (s.step k)) := by
        rw [Hid, step_bad s k hok]
        refine ⟨fun _ => rfl, A, n, c, ?_, ?_, hn, hc⟩
        · rw [hb] at htwo; exact htwo
        · rw [hl] at hsl; exact hsl
      clear htwo hsl hok hb hfit hl hf0 hf1
      go_enter Try.func49, Try.ntmps49
      go_wp2
      go_ret
      exact ⟨none, 0, 0, rfl, (by rw [got_nil _ _ HOK.out]; exact Sl.nil _), HA.out, Upd.refl _ _⟩
    · rw [hb] at hc1
      have hkn : n < k := by have := hsl.len; omega
      have HB : Hid (s.bad = false) := hb
      clear htwo hsl hok hb hfit hlen
      go_enter Try.func49, Try.ntmps49
      go_wp2
      go_ret
      have hu : Upd (One p) w ((w.setCell ⟨p, 0, none⟩ (.slice none 0 0)).setCell ⟨p, 1, none⟩ (.bool true)) := (upd_set w p 0 _).trans (upd_set _ p 1 _) (fun _ _ h => h)
      refine ⟨none, 0, 0, rfl, (by rw [got_nil _ _ HOK.out]; exact Sl.nil _), ?_, hu⟩
      rw [step_bad _ _ HOK.out]
      exact ⟨fun _ => rfl, none, 0, 0, two_set1 (two_set0 H2.out), Sl.nil _, by omega, by omega⟩

theorem rtake_any (w : World) (p : Nat) (s : Rs) (k : Nat) (h : RAt w p s) (hk : k ≤ 9223372036854775807) :
    Calls Try.prog 55 #[.pointer (some ⟨p, 0, none⟩), .int .i64 (k : Int)] w fun e w' => Took RAt w p s k e w' := by
  obtain ⟨hfit, A, n, c, l0, htwo, hsl, hl0, hn, hc⟩ := h
  have hnc := hsl.2.1
  have hc0 : w.cell? ⟨p, 0, none⟩ = some (.slice A n c) := cell_of_block htwo 0
  have hc1 : w.cell? ⟨p, 1, none⟩ = some (.bool s.bad) := cell_of_block htwo 1
  have hf0 : w.frozen? ⟨p, 0, none⟩ = false := unfrozen_of_block htwo 0
  have hf1 : w.frozen? ⟨p, 1, none⟩ = false := unfrozen_of_block htwo 1
  have H2 := Lib.hid htwo
  cases hok : s.ok k with
  | true =>
    obtain ⟨hb, hlen⟩ := ok_parts hok
    obtain rfl := hl0 hb
    rw [hb] at hc1
    have hkn : k ≤ n := by have := hsl.len; omega
    have HT := Lib.hid (hsl.take k hkn)
    have HD := Lib.hid (hsl.drop k hkn)
    have HDA := Lib.hid (fun h => hsl.drop_all k h)
    have HOK := Lib.hid hok
    clear htwo hsl hok hlen hb hfit hl0
    by_cases hck : c = k
    · obtain rfl : n = k := by omega
      obtain rfl := hck
      have HD2 := Lib.hid (HDA.out (Nat.le_refl _))
      rw [Nat.sub_self] at HD2
      clear HDA HD
      go_enter Try.func55, Try.ntmps55
      go_wp2
      go_ret
      exact ⟨A, c, c, rfl, (by rw [got_take _ _ HOK.out]; exact HT.out.upd (upd_set w p 0 _) (two_ne H2.out HT.out)), RAt.took H2.out HOK.out HD2.out (by omega) (by omega), upd_set w p 0 _⟩
    · go_enter Try.func55, Try.ntmps55
      go_wp2
      go_ret
      exact ⟨A, k, c, rfl, (by rw [got_take _ _ HOK.out]; exact HT.out.upd (upd_set w p 0 _) (two_ne H2.out HT.out)), RAt.took H2.out HOK.out HD.out (by omega) (by omega), upd_set w p 0 _⟩
  | false =>
    have HOK := Lib.hid hok
    have HS := Lib.hid hsl
    rcases bad_parts hok with hb | ⟨hb, hlen⟩
    · rw [hb] at hc1
      clear htwo hsl hok hb hfit hf0 hl0
      go_enter Try.func55, Try.ntmps55
      go_wp2
      go_ret
      refine ⟨none, 0, 0, rfl, (by rw [got_nil _ _ HOK.out]; exact Sl.nil _), ?_, upd_set w p 1 _⟩
      rw [step_bad _ _ HOK.out]
      exact ⟨fun _ => rfl, A, n, c, l0, two_set1 H2.out, HS.out.upd (upd_set w p 1 _) (two_ne H2.out HS.out), (fun h => by cases h), hn, hc⟩
    · rw [hb] at hc1
      obtain rfl := hl0 hb
      have hkn : n < k := by have := hsl.len; omega
      clear htwo hsl hok hb hfit hf0 hl0 hlen
      go_enter Try.func55, Try.ntmps55
      go_wp2
      go_ret
      refine ⟨none, 0, 0, rfl, (by rw [got_nil _ _ HOK.out]; exact Sl.nil _), ?_, upd_set w p 1 _⟩
      rw [step_bad _ _ HOK.out]
      exact ⟨fun _ => rfl, A, n, c, _, two_set1 H2.out, HS.out.upd (upd_set w p 1 _) (two_ne H2.out HS.out), (fun h => by cases h), hn, hc⟩
end Go.Proofs.Ytpgceeeokjadpaa.Code
