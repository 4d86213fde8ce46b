/- The walk of CodeLong. Conditions: none. -/
import Derived.Test.YtpgceeeokjadpaaLaw6b
import Derived.OwnWalk
namespace Go.Proofs.Ytpgceeeokjadpaa.Code
open Go.RowKit Go.Joins Go.Proofs.Ytpgceeeokjadpaa.Crc Go.Proofs.Ytpgceeeokjadpaa.Mem
theorem World.alloc_size_ (w : World) (o : Obj) : (w.alloc o).heap.size = w.heap.size + 1 := by simp
theorem be9_int : (⟨be4 9, false⟩ : Rs).int = 9 := by decide +kernel
theorem be9_left : (((⟨be4 9, false⟩ : Rs).step 4).left : Int) = 0 := by decide +kernel
theorem be9_bad : ((⟨be4 9, false⟩ : Rs).step 4).bad = false := by decide +kernel
theorem be9_int2 : ((⟨be4 9, false⟩ : Rs).step 4).int = 0 := by decide +kernel
theorem be9_bad2 : (((⟨be4 9, false⟩ : Rs).step 4).step 4).bad = true := by decide +kernel
set_option maxRecDepth 100000 in
theorem long_some (w : World) (n : Nat) (hn : n ≤ 600) (k : Nat) (hk : k = min n 255) : Calls Try.prog 4 #[.int .i64 (n : Int)] w fun e w' => e = .returned (.bool true) ∧ Below w.heap.size w w' := by
  obtain ⟨i0, hi, hz0, hz1, hz2⟩ := info_parts info5
  obtain ⟨z, hz⟩ : ∃ z, z = List.replicate n (0 : UInt8) := ⟨_, rfl⟩
  have hzl : z.length = n := by rw [hz]; simp
  have hkl : (str (z.take 255)).size = k := by rw [hk, str, ByteArray.size]; simp; omega
  have HKL := Lib.hid hkl
  have hsz : (str z).size = n := by rw [str, ByteArray.size]; simpa using hzl
  have HSZ := Lib.hid hsz
  have htx : (str z).data.toList = z := rfl
  have HTX := Lib.hid htx
  have HZ := Lib.hid hz
  have hlen : ([] ++ tx z ++ be4 9).length ≤ 300 := by
    have := tx_len z
    simp [tx, be4]
    omega
  have HLEN := Lib.hid hlen
  obtain ⟨q, hq⟩ : ∃ q, ([] ++ tx z ++ be4 9).length = q := ⟨_, rfl⟩
  have hq3 : q ≤ 300 := by omega
  have HQ := Lib.hid hq
  clear hq
  have hconv : ∀ (w : World) (A : Option Addr) (c : Nat), Hid (Sl w A n c z) → (convert 22 9 (.slice A n c)).run Try.prog w = .ok (.string (str z)) w := fun w A c h => conv_str Try.underlying22 Try.underlying5 Try.underlying9 h.out.1 h.out.2.2
  have HC := Lib.hid hconv
  have HK := Lib.hid hk
  clear hz hzl hkl hsz htx hlen hconv hk
  by_cases h255 : n ≤ 255
  all_goals
    have hk2 : (k : Int) = if n ≤ 255 then (n : Int) else 255 := by have := HK.out; split <;> omega
    first | rw [if_pos h255] at hk2 | rw [if_neg h255] at hk2
    have HK2 := Lib.hid hk2
    clear hk2
    go_enter Try.func4, Try.ntmps4
    go_wp2_with (first
      | (go_at_call 13; (with_reducible refine (alive_any _).mono ?_); rintro e w1 ⟨rfl, hb⟩; have HB := Lib.hid hb; clear hb)
      | (at_make; refine wpList_make_full _ rfl (.tmp 22) (.tmp 22) 22 rfl w1.heap.size 5 i0 (.int .u8 0) 1 Try.underlying22 hi hz0 hz1 .i64 .i64 (n : Int) (n : Int) n rfl rfl rfl rfl (by rw [hz2]; omega) (by simp only [maxLen]; omega) (by simp) ?_; intro w2 hown hgr; have ho := own_zeros hown; rw [← HZ.out] at ho; have HS : Hid (Sl w2 (some ⟨w1.heap.size + 1, 0, none⟩) n n z) := (by have h9 := ho.sl; simp only [World.alloc_size_] at h9; exact h9); have hcv := HC.out _ _ _ HS; have hu2 : Upd (fun _ => False) (w1.alloc (.cells #[.slice none 0 0] 28)) w2 := (Upd.refl _ _).grown hgr (fun _ _ h => by cases h); obtain ⟨hwat, hfoot⟩ := (WAt.new 28 w1).1.upd hu2 (fun _ _ h => h); have HW2 := Lib.hid hwat; have HF2 := Lib.hid (fun k hk => (WAt.new 28 w1).2 k (hfoot k hk)); have HB2 := Lib.hid (((Below.refl w1.heap.size w1).alloc (Nat.le_refl _) (.cells #[.slice none 0 0] 28)).trans (hu2.below (fun _ _ h => h.elim) (by simp))); clear ho hown hgr hu2 hwat hfoot)
      | (go_at_call 15; (with_reducible refine (wtext _ _ [] _ HW2.out (by simp) (by rw [HSZ.out]; omega)).mono ?_); rintro e w3 ⟨rfl, hw, hu, hf⟩; rw [HTX.out] at hw; have HW3 := Lib.hid hw; have HU3 := Lib.hid hu; have HF3 := Lib.hid hf; clear hw hu hf)
      | (go_at_call 16; (with_reducible refine (wint _ _ ([] ++ tx z) 9 HW3.out (by have := HLEN.out; rw [List.length_append] at this; omega)).mono ?_); rintro e w4 ⟨rfl, hw, hu, hf⟩; have HW4 := Lib.hid hw; have HU4 := Lib.hid hu; clear hw hu hf)
      | (go_at_call 18; (with_reducible refine (wr_bytes _ _ q ([] ++ tx z ++ be4 9) 28 HW4.out HQ.out (by omega)).mono ?_); rintro e w5 ⟨A5, c5, rfl, hn⟩; have HB5 := Lib.hid hn.2; have HS5 := Lib.hid hn.1.sl; clear hn)
      | (go_at_call 17; (with_reducible refine (rd_new _ _ _ _ ([] ++ tx z ++ be4 9) HS5.out (by omega)).mono ?_); rintro e w6 ⟨p, rfl, hp, hat, hb⟩; rw [List.nil_append] at hat; have HP := Lib.hid hp; have HA6 := Lib.hid hat; have HB6 := Lib.hid hb; clear hat hb hp)
      | (go_at_call 19; (with_reducible refine (rd_text _ _ _ HA6.out).mono ?_); rintro e w7 ⟨rfl, hat, hu⟩; rw [tx_text]; rw [tx_text'] at hat; have hkl := HKL.out; have HA7 := Lib.hid hat; have HU7 := Lib.hid hu; have hk2 := HK2.out; clear hat hu)
      | (go_at_call 20; (with_reducible refine (rd_int _ _ _ HA7.out).mono ?_); rintro e w8 ⟨rfl, hat, hu⟩; rw [be9_int]; have HA8 := Lib.hid hat; have HU8 := Lib.hid hu; clear hat hu)
      | (go_at_call 21; (with_reducible refine (rd_left _ _ _ HA8.out).mono ?_); rintro e w9 ⟨rfl, rfl⟩; rw [be9_left])
      | (go_at_call 22; (with_reducible refine (rd_bad _ _ _ HA8.out).mono ?_); rintro e w9 ⟨rfl, rfl⟩; rw [be9_bad])
      | (go_at_call 20; (with_reducible refine (rd_int _ _ _ HA8.out).mono ?_); rintro e w9 ⟨rfl, hat, hu⟩; rw [be9_int2]; have HA9 := Lib.hid hat; have HU9 := Lib.hid hu; clear hat hu)
      | (go_at_call 22; (with_reducible refine (rd_bad _ _ _ HA9.out).mono ?_); rintro e w10 ⟨rfl, rfl⟩; rw [be9_bad2]))
    go_ret
    refine ⟨rfl, ?_⟩
    have b1 : Below w.heap.size w w1 := HB.out
    have b2 := below_then b1 HB2.out b1.size
    have f3 : ∀ k, Foot w2 w1.heap.size k → w.heap.size ≤ k := fun k hk => by have := HF2.out k hk; have := b1.size; omega
    have b3 := below_upd b2 HU3.out f3 b2.size
    have f4 : ∀ k, Foot w3 w1.heap.size k → w.heap.size ≤ k := fun k hk => by
      rcases HF3.out k hk with h | h
      · exact f3 k h
      · have := b2.size; omega
    have b4 := below_upd b3 HU4.out f4 b3.size
    have b5 := below_then b4 HB5.out b4.size
    have b6 := below_then b5 HB6.out b5.size
    have hp : w.heap.size ≤ p := Nat.le_trans b5.size HP.out
    have one : ∀ k, Mem.One p k → w.heap.size ≤ k := fun k hk => by unfold Mem.One at hk; omega
    have b7 := below_upd b6 HU7.out one b6.size
    have b8 := below_upd b7 HU8.out one b7.size
    exact below_upd b8 HU9.out one b8.size
/-- CodeLong. -/
theorem long_any (w : World) (n : Int) (hw : (Lit.int .i64 n).wf = true) : Calls Try.prog 4 #[.int .i64 n] w fun e w' => e = .returned (.bool true) ∧ Below w.heap.size w w' := by
  by_cases h : 0 ≤ n ∧ n ≤ 600
  · obtain ⟨m, rfl⟩ := Int.eq_ofNat_of_zero_le h.1
    exact long_some w m (by omega) _ rfl
  · have h' : n < 0 ∨ (0 ≤ n ∧ 600 < n) := by omega
    clear h hw
    rcases h' with h1 | ⟨h1, h2⟩
    all_goals
      go_enter Try.func4, Try.ntmps4
      go_wp2_with (first
        | (go_at_call 13; (with_reducible refine (alive_any _).mono ?_); rintro e w1 ⟨rfl, hb⟩; have HB := Lib.hid hb; clear hb))
      go_ret
      exact ⟨rfl, HB.out⟩
end Go.Proofs.Ytpgceeeokjadpaa.Code
