/- The chapter's examples hold. Conditions: none. -/
import Derived.Test.YtpgceeeokjadpaaFr9
namespace Go.Proofs.Ytpgceeeokjadpaa.Code
open Go.RowKit Go.Joins Go.Proofs.Ytpgceeeokjadpaa.Crc Go.Proofs.Ytpgceeeokjadpaa.Mem
/-- A new unit's block, written. -/
abbrev unew (w : World) (u : Un) (A : Option Addr) (n c : Nat) : World := w.alloc (.cells #[.int .i64 u.kind, .int .i64 u.label, .int .i64 u.number, .slice A n c] 45)
theorem unew_below {w0 w : World} (u : Un) (A : Option Addr) (n c : Nat) (h : Below w0.heap.size w0 w) : Below w0.heap.size w0 (unew w u A n c) := h.alloc h.size _
theorem unew_at (w : World) (u : Un) (A : Option Addr) (n c : Nat) : Ub (unew w u A n c) w.heap.size u A n c := Ub.new w u A n c
theorem put_at (w : World) (k l m : Int) (load : List UInt8) (A : Option Addr) (n c : Nat) (hs : Sl w A n c load) : Calls Try.prog 28 #[.agg #[.int .i64 k, .int .i64 l, .int .i64 m, .slice A n c]] w fun e w' => PutPost w ⟨k, l, m, load⟩ e w' := put_any w ⟨k, l, m, load⟩ A n c hs
theorem putB_ok {u : Un} (h : chk u = 0) : putB u = mk u := if_pos h
theorem putB_none {u : Un} (h : chk u ≠ 0) : putB u = [] := if_neg h
set_option maxHeartbeats 4000000 in
theorem alive9_any (w : World) : Calls Try.prog 27 #[] w fun e w' => e = .returned (.bool true) ∧ Below w.heap.size w w' := by
  have HE0 : Hid (getE [] = 2) := getE_bad good_nil
  have HC : Hid (chk ⟨4, 1, 0, []⟩ = 0) := by unfold Hid; decide
  obtain ⟨u, hu⟩ : ∃ u : Un, u = ⟨4, 1, 0, []⟩ := ⟨_, rfl⟩
  have hk : u.kind = 4 := by rw [hu]
  have HU := Lib.hid hu
  rw [← hu] at HC
  have HL : Hid ((mk u).length = 79) := by unfold Hid; rw [mk_len (chk_zero HC.out).2.2.2.2.2.2, hk]; rfl
  have HPB : Hid (putB u = mk u) := putB_ok HC.out
  have HGU : Hid (getU (mk u) = u) := getU_mk HC.out
  have HGE : Hid (getE (mk u) = 0) := getE_mk HC.out
  have t9 : (u.kind == 4) = true := by rw [hk]; rfl
  clear hu hk
  go_enter Try.func27, Try.ntmps27
  go_upto_region 2 with (first
    | (go_at_call 30; (with_reducible refine (get_any _ none 0 0 [] (Sl.nil _) (by omega)).mono ?_); rintro e w1 ⟨A1, n1, c1, rfl, _, hb1⟩; rw [HE0.out]; have HB1 := Lib.hid (unew_below (getU []) A1 n1 c1 hb1); clear hb1))
  go_upto_region 4 with (first
    | (go_at_call 28; (with_reducible refine (put_at _ 4 1 0 [] none 0 0 (Sl.nil _)).mono ?_); rw [← HU.out]; rintro e w2 ⟨A2, n2, c2, rfl, hown, hb2⟩; rw [HC.out]; rw [HPB.out] at hown; obtain rfl : n2 = 79 := by have h1 := hown.len; rw [HL.out] at h1; exact h1.symm
       have HO := Lib.hid hown.sl; have HB2 := Lib.hid (below_then HB1.out hb2 HB1.out.size); clear hown hb2)
    | (go_at_call 30; (with_reducible refine (get_any _ _ 79 _ (mk u) HO.out (by omega)).mono ?_); rintro e w3 ⟨A3, n3, c3, rfl, _, hb3⟩; rw [HGE.out, HGU.out]; have HB3 := Lib.hid (unew_below u A3 n3 c3 (below_then HB2.out hb3 HB2.out.size)); obtain ⟨d0, _, _, _⟩ := (unew_at w3 u A3 n3 c3).cells; clear hb3))
  go_wp2_with (first
    | (go_at_call 32; (with_reducible refine (num_any _ 2).mono ?_); rintro e wx ⟨rfl, rfl⟩)
    | (go_at_call 32; (with_reducible refine (num_any _ 0).mono ?_); rintro e wx ⟨rfl, rfl⟩))
  go_ret
  exact ⟨rfl, HB3.out⟩
end Go.Proofs.Ytpgceeeokjadpaa.Code
