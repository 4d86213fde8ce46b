/- The walks of the laws of package castagnoli. Conditions: what comes in reads as bytes. -/
import Derived.Test.YtnbibgbelhaenaaCrcWalk
namespace Go.Proofs.Ytnbibgbelhaenaa.CrcLaw
open Go.RowKit Go.Proofs.Ytnbibgbelhaenaa.Crc Go.Proofs.Ytnbibgbelhaenaa.CrcWalk Go.Proofs.Ytnbibgbelhaenaa.Mem
theorem info5 : (Try.prog.info? 5).map (fun i => (i.zero, i.size, i.bytes)) = some (some (.int .u8 0), 1, 1) := by kernel_rfl
theorem alive_any (w : World) :
    Calls Try.prog 12 #[] w fun e w' => e = .returned (.bool true) ∧ Below w.heap.size w w' := by
  have kc := fun (w : World) (C : Array Value) (n c : Nat) => Lib.run_convert_bytes_const (P := Try.prog) w 22 5 C n c Try.underlying22 Try.underlying5
  have hS : J (sum [49, 50, 51, 52, 53, 54, 55, 56, 57]) = 3808858755 := by rw [sum_nine]; rfl
  have HS := Lib.hid hS
  clear hS
  have hR : ∀ cs t fr, cs = #[Value.int IntKind.u8 49, .int .u8 50, .int .u8 51, .int .u8 52, .int .u8 53, .int .u8 54, .int .u8 55, .int .u8 56, .int .u8 57] →  Reads (w.alloc (.cells cs t fr)) (some ⟨w.heap.size, 0, none⟩) 9 [49, 50, 51, 52, 53, 54, 55, 56, 57] := by
    rintro cs t fr rfl
    refine Reads.block (heap_alloc_new w _) rfl ?_
    intro i hi
    have : i < 9 := hi
    match i, this with
    | 0, _ => rfl
    | 1, _ => rfl
    | 2, _ => rfl
    | 3, _ => rfl
    | 4, _ => rfl
    | 5, _ => rfl
    | 6, _ => rfl
    | 7, _ => rfl
    | 8, _ => rfl
  have HR := Lib.hid hR
  clear hR
  go_enter Try.func12, Try.ntmps12
  go_wp2_with (first
    | (go_at_call 13; (with_reducible refine (sum_any _ 9 9 [49, 50, 51, 52, 53, 54, 55, 56, 57] _ (HR.out _ _ _ rfl) (by omega)).mono ?_); rintro e w' ⟨rfl, rfl⟩; rw [HS.out])
    | (go_at_call 13; (with_reducible refine (sum_any _ 0 _ [] _ (Reads.nil _ _) (by omega)).mono ?_); rintro e w' ⟨rfl, rfl⟩; rw [sum_nil]))
  go_ret
  exact ⟨rfl, (Below.refl _ _).alloc (Nat.le_refl _) _⟩
theorem beq_self (x : Int) : (x == x) = true := by simp
/-- SumTells. -/
theorem tells_any (w : World) (A : Option Addr) (n c : Nat) (l : List UInt8) (hr : Reads w A n l) (_hz : A = none → n = 0 ∧ c = 0) (hn : n ≤ 140737488351232) (s : W32) :
    Calls Try.prog 3 #[.slice A n c, .int .u32 (J s)] w fun e w' => e = .returned (.bool true) ∧ Below w.heap.size w w' := by
  have HR := Lib.hid hr
  clear hr
  have t1 := beq_self (J (sum l))
  have t2 := beq_self (J (more s l))
  have T1 := Lib.hid t1
  have T2 := Lib.hid t2
  clear t1 t2
  by_cases h : n ≤ 2000
  all_goals
    go_enter Try.func3, Try.ntmps3
    go_wp2_with (first
      | (go_at_call 12; (with_reducible refine (alive_any _).mono ?_); rintro e w1 ⟨rfl, hb⟩; have HR1 := Lib.hid (HR.out.below hb (Nat.le_refl _)); have HB := Lib.hid hb; clear hb)
      | (go_at_call 13; (with_reducible refine (sum_any _ n _ l _ HR1.out (by omega)).mono ?_); rintro e w' ⟨rfl, rfl⟩)
      | (go_at_call 14; (with_reducible refine (crc_any _ n _ l _ HR1.out (by omega)).mono ?_); rintro e w' ⟨rfl, rfl⟩; have t1 := T1.out)
      | (go_at_call 15; (with_reducible refine (more_any _ _ n _ l _ HR1.out (by omega)).mono ?_); rintro e w' ⟨rfl, rfl⟩)
      | (go_at_call 16; (with_reducible refine (rmore_any _ _ n _ l _ HR1.out (by omega)).mono ?_); rintro e w' ⟨rfl, rfl⟩; have t2 := T2.out))
    go_ret
    exact ⟨rfl, HB.out⟩
/-- SumJoins. -/
theorem joins_any (w : World) (A : Option Addr) (n c : Nat) (l : List UInt8) (hr : Reads w A n l) (hz : A = none → n = 0 ∧ c = 0) (hn : n ≤ 140737488351232) (A2 : Option Addr) (n2 c2 : Nat) (l2 : List UInt8) (hr2 : Reads w A2 n2 l2) (hz2 : A2 = none → n2 = 0 ∧ c2 = 0) (hn2 : n2 ≤ 140737488351232) :
    Calls Try.prog 4 #[.slice A n c, .slice A2 n2 c2] w fun e w' => e = .returned (.bool true) ∧ Below w.heap.size w w' := by
  have HR := Lib.hid hr
  have HR2 := Lib.hid hr2
  have HZ := Lib.hid hz
  have HZ2 := Lib.hid hz2
  clear hr hr2 hz hz2
  have t1 := beq_self (J (sum (l ++ l2)))
  have T1 := Lib.hid t1
  clear t1
  obtain ⟨B, hB⟩ : ∃ B, B = w.heap.size := ⟨_, rfl⟩
  have HBe := Lib.hid hB
  clear hB
  by_cases h : n ≤ 1000 ∧ n2 ≤ 1000
  · obtain ⟨h1, h2⟩ := h
    go_enter Try.func4, Try.ntmps4
    go_wp2_with (first
      | (go_at_call 12; (with_reducible refine (alive_any _).mono ?_); rintro e w1 ⟨rfl, hb⟩; have HR1 := Lib.hid (HR.out.below hb (Nat.le_refl _)); have HRR := Lib.hid (HR2.out.below hb (Nat.le_refl _)); have HB := Lib.hid hb; clear hb)
      | (go_at_call 13; (with_reducible refine (sum_any _ n _ l _ HR1.out (by omega)).mono ?_); rintro e w' ⟨rfl, rfl⟩)
      | (go_at_call 15; (with_reducible refine (more_any _ _ n2 _ l2 _ HRR.out (by omega)).mono ?_); rintro e w' ⟨rfl, rfl⟩; rw [sum_append])
      | (at_builtin; refine app_law rfl (.const (.slice none 0 0)) (.tmp 24) 22 rfl Try.underlying22 info5 rfl rfl (Own.nil _ w1.heap.size) HR1.out HZ.out (by omega) (Nat.le_refl _) ?_; intro A3 c3 w3 own3 gr3 _; simp only [Nat.zero_add, List.nil_append] at own3 ⊢; have hb3 := (Below.refl w1.heap.size w1).grown gr3 (Nat.le_refl _) (by simp [blk]); have HR3 := Lib.hid (HRR.out.below hb3 (Nat.le_refl _)); have OWN3 := Lib.hid own3; have HB3 := Lib.hid hb3; clear own3 gr3 hb3)
      | (at_builtin; refine app_law rfl (.tmp 25) (.tmp 26) 22 rfl Try.underlying22 info5 rfl rfl OWN3.out HR3.out HZ2.out (by omega) (HB3.out.size) ?_; intro A4 c4 w4 own4 gr4 _; have hb4 := HB3.out.grown gr4 HB3.out.size (fun k hk => (OWN3.out.blk_ge k hk).1); have OWN4 := Lib.hid own4; have HB4 := Lib.hid hb4; clear own4 gr4 hb4)
      | (go_at_call 13; (with_reducible refine (sum_any _ (n + n2) _ (l ++ l2) _ OWN4.out.reads (by omega)).mono ?_); rintro e w' ⟨rfl, rfl⟩; have t1 := T1.out))
    go_ret
    exact ⟨rfl, HB.out.trans (HB4.out.mono HB.out.size)⟩
  · have h' : 1000 < n ∨ (n ≤ 1000 ∧ 1000 < n2) := by omega
    clear h
    rcases h' with h1 | ⟨h1, h2⟩
    all_goals
      go_enter Try.func4, Try.ntmps4
      go_wp2_with (first
        | (go_at_call 12; (with_reducible refine (alive_any _).mono ?_); rintro e w1 ⟨rfl, hb⟩; have HB := Lib.hid hb; clear hb))
      go_ret
      exact ⟨rfl, HB.out⟩
/-- SumEnd. -/
theorem end_any (w : World) (A : Option Addr) (n c : Nat) (l : List UInt8) (hr : Reads w A n l) (hz : A = none → n = 0 ∧ c = 0) (_hn : n ≤ 140737488351232) :
    Calls Try.prog 6 #[.slice A n c] w fun e w' => e = .returned (.bool true) ∧ Below w.heap.size w w' := by
  have HR := Lib.hid hr
  have HZ := Lib.hid hz
  clear hr hz
  have hS : J (sum (l ++ low (sum l))) = 1214729159 := by rw [sum_end]; rfl
  have HS := Lib.hid hS
  clear hS
  obtain ⟨s, hs⟩ : ∃ s, s = sum l := ⟨_, rfl⟩
  have hC : ∀ W : World, Reads (W.alloc (.cells #[.int .u8 (Go.bits .and .u32 (J (sum l)) 255 % 256), .int .u8 (Go.bits .and .u32 (J (sum l) / 256) 255 % 256), .int .u8 (Go.bits .and .u32 (J (sum l) / 65536) 255 % 256), .int .u8 (J (sum l) / 16777216 % 256)] 5)) (some ⟨W.heap.size, 0, none⟩) 4 (low (sum l)) := by
    intro W
    rw [low_0, low_1, low_2, low_3]
    refine Reads.block (heap_alloc_new W _) rfl ?_
    intro i hi
    have : i < 4 := hi
    match i, this with
    | 0, _ => rfl
    | 1, _ => rfl
    | 2, _ => rfl
    | 3, _ => rfl
  have HC := Lib.hid hC
  clear hC hs
  by_cases h : n ≤ 1000
  · go_enter Try.func6, Try.ntmps6
    go_wp2_with (first
      | (go_at_call 12; (with_reducible refine (alive_any _).mono ?_); rintro e w1 ⟨rfl, hb⟩; have HR1 := Lib.hid (HR.out.below hb (Nat.le_refl _)); have HB := Lib.hid hb; clear hb)
      | (go_at_call 13; (with_reducible refine (sum_any _ n _ l _ HR1.out (by omega)).mono ?_); rintro e w' ⟨rfl, rfl⟩)
      | (at_builtin; refine app_law rfl (.const (.slice none 0 0)) (.tmp 17) 22 rfl Try.underlying22 info5 rfl rfl (Own.nil _ w1.heap.size) HR1.out HZ.out (by omega) (Nat.le_refl _) ?_; intro A3 c3 w3 own3 gr3 _; simp only [Nat.zero_add, List.nil_append] at own3 ⊢; have hb3 := (Below.refl w1.heap.size w1).grown gr3 (Nat.le_refl _) (by simp [blk]); have OWN3 := Lib.hid own3; have HB3 := Lib.hid hb3; clear own3 gr3 hb3)
      | (at_builtin; refine app_law rfl (.tmp 18) (.tmp 33) 22 rfl Try.underlying22 info5 rfl rfl (OWN3.out.alloc _) (HC.out _) (fun h => by cases h) (by omega) (by have := HB3.out.size; simp; omega) ?_; intro A4 c4 w4 own4 gr4 _; have hb4 := (HB3.out.alloc HB3.out.size _).grown gr4 (by have := HB3.out.size; simp; omega) (fun k hk => (OWN3.out.blk_ge k hk).1); have OWN4 := Lib.hid own4; have HB4 := Lib.hid hb4; clear own4 gr4 hb4)
      | (go_at_call 13; (with_reducible refine (sum_any _ (n + 4) _ (l ++ low (sum l)) _ OWN4.out.reads (by omega)).mono ?_); rintro e w' ⟨rfl, rfl⟩; rw [HS.out]))
    go_ret
    exact ⟨rfl, HB.out.trans (HB4.out.mono HB.out.size)⟩
  · go_enter Try.func6, Try.ntmps6
    go_wp2_with (first
      | (go_at_call 12; (with_reducible refine (alive_any _).mono ?_); rintro e w1 ⟨rfl, hb⟩; have HB := Lib.hid hb; clear hb))
    go_ret
    exact ⟨rfl, HB.out⟩
theorem bit_some (w : World) (A : Option Addr) (n c : Nat) (l : List UInt8) (hr : Reads w A n l) (hz : A = none → n = 0 ∧ c = 0) (hn : n ≤ 1000) (h1 : 1 ≤ n) (m : Nat) (hm : m ≤ 9223372036854775807) (bit : Int) (k : Nat) (hk : k < 8) (hbit : Go.bits .and .i64 bit 7 = (k : Int)) :
    Calls Try.prog 5 #[.slice A n c, .int .i64 (m : Int), .int .i64 bit] w fun e w' => e = .returned (.bool true) ∧ Below w.heap.size w w' := by
  have hi : m % n < n := Nat.mod_lt _ (by omega)
  have hl : m % n < l.length := by rw [hr.1]; exact hi
  obtain ⟨y, hy⟩ : ∃ y, y = l[m % n] := ⟨_, rfl⟩
  have hne : (J (sum (l.set (m % n) (y ^^^ bitOf k))) != J (sum l)) = true := by
    have := more_set 0#32 l (m % n) (y ^^^ bitOf k) hl (by rw [← hy]; exact bit_ne k hk y)
    simp only [bne_iff_ne, ne_eq]
    exact fun h => this (J_inj h)
  have HNE := Lib.hid hne
  have HY := Lib.hid hy
  have hx := xor_bit k hk y
  have HX := Lib.hid hx
  clear hy hne hx
  have HR := Lib.hid hr
  have HZ := Lib.hid hz
  clear hr hz
  go_enter Try.func5, Try.ntmps5
  go_wp2_with (first
      | (go_at_call 12; (with_reducible refine (alive_any _).mono ?_); rintro e w1 ⟨rfl, hb⟩; have HR1 := Lib.hid (HR.out.below hb (Nat.le_refl _)); have HB := Lib.hid hb; clear hb)
      | (at_builtin; refine app_law rfl (.const (.slice none 0 0)) (.tmp 27) 22 rfl Try.underlying22 info5 rfl rfl (Own.nil _ w1.heap.size) HR1.out HZ.out (by omega) (Nat.le_refl _) ?_; intro A3 c3 w3 own3 gr3 _; simp only [Nat.zero_add, List.nil_append] at own3 ⊢; have hb3 := (Below.refl w1.heap.size w1).grown gr3 (Nat.le_refl _) (by simp [blk]); have HB3 := Lib.hid hb3; obtain ⟨g, rfl, hg1, hg2, hcell, hfro, hset⟩ := own3.at (m % n) hl; rw [← HY.out] at hcell; have HSET := Lib.hid hset; clear own3 gr3 hb3 hset))
  go_region
  rw [HX.out]
  have own4 := HSET.out (y ^^^ bitOf k)
  have hb4 : Below w1.heap.size w1 (w3.setCell ⟨g, m % n, none⟩ (.int .u8 (K (y ^^^ bitOf k)))).drew := (HB3.out.setCell hg1 _).drew
  have own5 : Own (w3.setCell ⟨g, m % n, none⟩ (.int .u8 (K (y ^^^ bitOf k)))).drew w1.heap.size (some ⟨g, 0, none⟩) n c3 (l.set (m % n) (y ^^^ bitOf k)) := own4.move (fun _ _ _ => rfl)
  generalize (w3.setCell ⟨g, m % n, none⟩ (.int .u8 (K (y ^^^ bitOf k)))).drew = w4 at hb4 own5 ⊢
  have HR5 := Lib.hid (HR1.out.below hb4 (Nat.le_refl _))
  have OWN5 := Lib.hid own5
  have HB5 := Lib.hid (HB.out.trans (hb4.mono HB.out.size))
  clear own4 own5 hb4 hcell hfro hg1 hg2
  go_wp2_with (first
      | (go_at_call 13; (with_reducible refine (sum_any (some ⟨g, 0, none⟩) n _ (l.set (m % n) (y ^^^ bitOf k)) _ OWN5.out.reads (by omega)).mono ?_); rintro e w' ⟨rfl, rfl⟩)
      | (go_at_call 13; (with_reducible refine (sum_any A n _ l _ HR5.out (by omega)).mono ?_); rintro e w' ⟨rfl, rfl⟩; have hne := HNE.out))
  go_ret
  exact ⟨rfl, HB5.out⟩
/-- SumBit. -/
theorem bit_any (w : World) (A : Option Addr) (n c : Nat) (l : List UInt8) (hr : Reads w A n l) (hz : A = none → n = 0 ∧ c = 0) (_hn : n ≤ 140737488351232) (m : Int) (hm : (Lit.int .i64 m).wf = true) (bit : Int) (_hb : (Lit.int .i64 bit).wf = true) :
    Calls Try.prog 5 #[.slice A n c, .int .i64 m, .int .i64 bit] w fun e w' => e = .returned (.bool true) ∧ Below w.heap.size w w' := by
  by_cases h : 1 ≤ n ∧ n ≤ 1000 ∧ 0 ≤ m
  · obtain ⟨h1, h2, h3⟩ := h
    obtain ⟨k, hk, hbit⟩ := and7 bit
    obtain ⟨q, rfl⟩ := Int.eq_ofNat_of_zero_le h3
    refine bit_some w A n c l hr hz h2 h1 q ?_ bit k hk hbit
    simp [Lit.wf, IntKind.min, IntKind.max, IntKind.bits, IntKind.signed] at hm
    omega
  · clear hr hz
    have h' : n < 1 ∨ (1 ≤ n ∧ 1000 < n) ∨ (1 ≤ n ∧ n ≤ 1000 ∧ m < 0) := by omega
    clear h
    rcases h' with h1 | ⟨h1, h2⟩ | ⟨h1, h2, h3⟩
    · obtain rfl : n = 0 := by omega
      go_enter Try.func5, Try.ntmps5
      go_wp2_with (first
        | (go_at_call 12; (with_reducible refine (alive_any _).mono ?_); rintro e w1 ⟨rfl, hb⟩; have HB := Lib.hid hb; clear hb))
      go_ret
      exact ⟨rfl, HB.out⟩
    all_goals
      go_enter Try.func5, Try.ntmps5
      go_wp2_with (first
        | (go_at_call 12; (with_reducible refine (alive_any _).mono ?_); rintro e w1 ⟨rfl, hb⟩; have HB := Lib.hid hb; clear hb))
      go_ret
      exact ⟨rfl, HB.out⟩
end Go.Proofs.Ytnbibgbelhaenaa.CrcLaw
