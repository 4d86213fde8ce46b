/- What the readings of package code and of the reference tell: numbers, bytes, texts. Conditions: the row is short of 2^47 bytes. -/
import Derived.Test.YtpgceeeokjadpaaRd
import Derived.Laws.IdiomStrings
import Derived.Laws.BytesArg
namespace Go.Proofs.Ytpgceeeokjadpaa.Mem
open Go.RowKit Go.Joins Go.Proofs.Ytpgceeeokjadpaa.Crc
/-- A text of bytes. -/
def str (l : List UInt8) : ByteArray := ⟨l.toArray⟩
theorem str_inj {a b : List UInt8} : str a = str b ↔ a = b := ⟨fun h => by simpa [str] using h, fun h => by rw [h]⟩
theorem conv_str {P : Program} {w : World} {src dst : TypeId} (hs : P.underlying src = some (.slice 5)) (he : P.underlying 5 = some (.int .u8)) (hd : P.underlying dst = some .string) {A : Option Addr} {n c : Nat} {l : List UInt8} (h : Reads w A n l) (hz : A = none → n = 0 ∧ c = 0) :
    (convert src dst (.slice A n c)).run P w = .ok (.string (str l)) w := by
  cases A with
  | none =>
    obtain ⟨rfl, rfl⟩ := hz rfl
    have e : l = [] := List.length_eq_zero_iff.1 h.1
    subst e
    rw [run_convert_bytes_nil w src 5 hs he 0 0 dst hd]; rfl
  | some a =>
    obtain ⟨rfl, hr⟩ := h
    refine run_convert_bytes_back (P := P) w src dst 5 a c l hs he hd ?_
    intro j hj
    obtain ⟨b, o, ha, hc⟩ := hr j hj
    simp at ha
    subst ha
    rw [Go.WideShapes.add_plain]
    exact hc
end Go.Proofs.Ytpgceeeokjadpaa.Mem
namespace Go.Proofs.Ytpgceeeokjadpaa.Code
open Go.RowKit Go.Joins Go.Proofs.Ytpgceeeokjadpaa.Crc Go.Proofs.Ytpgceeeokjadpaa.Mem
theorem got_len (s : Rs) (k : Nat) : (s.got k).length ≤ k := by
  unfold Rs.got
  cases s.ok k
  · simp
  · simp only [cond_true, List.length_take]; omega
theorem ret_int {k : IntKind} {a b : Int} (h : a = b) : Ending.returned (.int k a) = .returned (.int k b) := by rw [h]
theorem ret_str {a b : ByteArray} (h : a = b) : Ending.returned (.string a) = .returned (.string b) := by rw [h]

theorem take_any1 (w : World) (p : Nat) (s : Rs) (h : CAt w p s) :
    Calls Try.prog 49 #[.pointer (some ⟨p, 0, none⟩), .int .i64 1] w fun e w' => Took CAt w p s 1 e w' := take_any w p s 1 h (by omega)

theorem take_any4 (w : World) (p : Nat) (s : Rs) (h : CAt w p s) :
    Calls Try.prog 49 #[.pointer (some ⟨p, 0, none⟩), .int .i64 4] w fun e w' => Took CAt w p s 4 e w' := take_any w p s 4 h (by omega)

theorem rtake_any1 (w : World) (p : Nat) (s : Rs) (h : RAt w p s) :
    Calls Try.prog 55 #[.pointer (some ⟨p, 0, none⟩), .int .i64 1] w fun e w' => Took RAt w p s 1 e w' := rtake_any w p s 1 h (by omega)

theorem rtake_any4 (w : World) (p : Nat) (s : Rs) (h : RAt w p s) :
    Calls Try.prog 55 #[.pointer (some ⟨p, 0, none⟩), .int .i64 4] w fun e w' => Took RAt w p s 4 e w' := rtake_any w p s 4 h (by omega)

set_option maxRecDepth 100000 in
theorem rd_int (w : World) (p : Nat) (s : Rs) (h : CAt w p s) :
    Calls Try.prog 20 #[.pointer (some ⟨p, 0, none⟩)] w fun e w' => e = .returned (.int .i64 s.int) ∧ Reading CAt w p (s.step 4) w' := by
  have H := Lib.hid h
  clear h
  obtain ⟨l, hl⟩ : ∃ l, l = s.got 4 := ⟨_, rfl⟩
  have hl4 : l.length ≤ 4 := by rw [hl]; exact got_len s 4
  have HL := Lib.hid hl
  have hbl : beN l < 4294967296 := by have := beN_lt l 4; rw [List.take_of_length_le hl4] at this; exact this
  clear hl
  go_enter Try.func20, Try.ntmps20
  go_wp2_with (go_at_call 49; (with_reducible refine (take_any4 _ _ s H.out).mono ?_); rintro e w1 ⟨A, n, c, rfl, hsl, hat, hu⟩; rw [← HL.out] at hsl; have hn := hsl.len; have HR := Lib.hid hsl.1.2; have HA := Lib.hid hat; have HU := Lib.hid hu; clear hsl hat hu)
  subst hn
  go_loop [3, 9] (fun v i => ∃ k : Nat, k ≤ l.length ∧ i = .int .i64 k ∧ v = .int .u32 (beN (l.take k) : Nat)) (fun _ i => l.length - (intOf i).toNat)
  case atStart => exact ⟨0, Nat.zero_le _, rfl, rfl⟩
  case round =>
    obtain ⟨k, hk, rfl, rfl⟩ := hrel
    by_cases hlt : k < l.length
    · obtain ⟨b, o, rfl, hc⟩ := HR.out k hlt
      obtain ⟨z, hz⟩ : ∃ z, z = l[k] := ⟨_, rfl⟩
      obtain ⟨x, hx⟩ : ∃ x, x = beN (l.take k) := ⟨_, rfl⟩
      have hx2 : x < 16777216 := by rw [hx]; exact beN_lt4 l k (by omega)
      have hnx := beN_take l k hlt
      rw [← hz, ← hx] at hnx
      rw [← hz] at hc
      rw [← hx]
      have HN : Hid (beN (l.take (k + 1)) = x * 256 + z.toNat) := hnx
      have HO : Hid (Go.bits .or .u32 ((x : Int) * 256) (K z) = ((x * 256 + z.toNat : Nat) : Int)) := or_u32b x z hx2
      have k0 := K_lo z
      have k1 := K_hi z
      clear hz hx hnx
      go_wp2
      go_round
      case rel => exact ⟨k + 1, by omega, by go_num, by rw [HO.out, HN.out]⟩
      case measure => simp [intOf]; omega
    · obtain rfl : k = l.length := by omega
      go_wp2
      go_ret
      refine ⟨ret_int ?_, HA.out, HU.out⟩
      rw [Rs.int, ← HL.out]

set_option maxRecDepth 100000 in
theorem rrd_int (w : World) (p : Nat) (s : Rs) (h : RAt w p s) :
    Calls Try.prog 42 #[.pointer (some ⟨p, 0, none⟩)] w fun e w' => e = .returned (.int .i64 s.int) ∧ Reading RAt w p (s.step 4) w' := by
  have H := Lib.hid h
  clear h
  obtain ⟨l, hl⟩ : ∃ l, l = s.got 4 := ⟨_, rfl⟩
  have hl4 : l.length ≤ 4 := by rw [hl]; exact got_len s 4
  have HL := Lib.hid hl
  have hbl : beN l < 4294967296 := by have := beN_lt l 4; rw [List.take_of_length_le hl4] at this; exact this
  clear hl
  go_enter Try.func42, Try.ntmps42
  go_wp2_with (go_at_call 55; (with_reducible refine (rtake_any4 _ _ s H.out).mono ?_); rintro e w1 ⟨A, n, c, rfl, hsl, hat, hu⟩; rw [← HL.out] at hsl; have hn := hsl.len; have HR := Lib.hid hsl.1.2; have HA := Lib.hid hat; have HU := Lib.hid hu; clear hsl hat hu)
  subst hn
  go_loop [4, 5] (fun v i => ∃ k : Nat, k ≤ l.length ∧ i = .int .i64 k ∧ v = .int .i64 (beN (l.take k) : Nat)) (fun _ i => l.length - (intOf i).toNat)
  case atStart => exact ⟨0, Nat.zero_le _, rfl, rfl⟩
  case round =>
    obtain ⟨k, hk, rfl, rfl⟩ := hrel
    by_cases hlt : k < l.length
    · obtain ⟨b, o, rfl, hc⟩ := HR.out k hlt
      obtain ⟨z, hz⟩ : ∃ z, z = l[k] := ⟨_, rfl⟩
      obtain ⟨x, hx⟩ : ∃ x, x = beN (l.take k) := ⟨_, rfl⟩
      have hx2 : x < 16777216 := by rw [hx]; exact beN_lt4 l k (by omega)
      have hnx := beN_take l k hlt
      rw [← hz, ← hx] at hnx
      rw [← hz] at hc
      rw [← hx]
      have HN : Hid (beN (l.take (k + 1)) = x * 256 + z.toNat) := hnx
      have HO : Hid (Go.bits .or .i64 ((x : Int) * 256) (K z) = ((x * 256 + z.toNat : Nat) : Int)) := or_i64 x z hx2
      have k0 := K_lo z
      have k1 := K_hi z
      clear hz hx hnx
      go_wp2
      go_round
      case rel => exact ⟨k + 1, by omega, by go_num, by rw [HO.out, HN.out]⟩
      case measure => simp [intOf]; omega
    · obtain rfl : k = l.length := by omega
      go_wp2
      go_ret
      refine ⟨ret_int ?_, HA.out, HU.out⟩
      rw [Rs.int, ← HL.out]

theorem rd_byte (w : World) (p : Nat) (s : Rs) (h : CAt w p s) :
    Calls Try.prog 43 #[.pointer (some ⟨p, 0, none⟩)] w fun e w' => e = .returned (.int .u8 (K s.byte)) ∧ Reading CAt w p (s.step 1) w' := by
  have H := Lib.hid h
  clear h
  obtain ⟨l, hl⟩ : ∃ l, l = s.got 1 := ⟨_, rfl⟩
  have HL := Lib.hid hl
  have hb : s.byte = l.headD 0 := by rw [hl]; rfl
  have HB := Lib.hid hb
  clear hb hl
  cases l with
  | nil =>
    go_enter Try.func43, Try.ntmps43
    go_wp2_with (go_at_call 49; (with_reducible refine (take_any1 _ _ s H.out).mono ?_); rintro e w1 ⟨A, n, c, rfl, hsl, hat, hu⟩; rw [← HL.out] at hsl; have hn : (([] : List UInt8)).length = n := hsl.len; obtain rfl : n = 0 := hn.symm; have HA := Lib.hid hat; have HU := Lib.hid hu; clear hsl hat hu hn)
    go_ret
    exact ⟨by rw [HB.out]; rfl, HA.out, HU.out⟩
  | cons z t =>
    go_enter Try.func43, Try.ntmps43
    go_wp2_with (go_at_call 49; (with_reducible refine (take_any1 _ _ s H.out).mono ?_); rintro e w1 ⟨A, n, c, rfl, hsl, hat, hu⟩; rw [← HL.out] at hsl; have hn : (z :: t).length = n := hsl.len; have hn0 : 0 < n := hn ▸ Nat.succ_pos _; have hn1 : ((n : Int) == 0) = false := beq_eq_false_iff_ne.mpr (by omega); obtain ⟨b, o, rfl, hc⟩ := hsl.1.2 0 (by simp); have hc' : w1.cell? ⟨b, o, none⟩ = some (.int .u8 (K z)) := hc; have HA := Lib.hid hat; have HU := Lib.hid hu; clear hsl hat hu hn hc)
    go_ret
    exact ⟨by rw [HB.out]; rfl, HA.out, HU.out⟩

theorem rrd_byte (w : World) (p : Nat) (s : Rs) (h : RAt w p s) :
    Calls Try.prog 44 #[.pointer (some ⟨p, 0, none⟩)] w fun e w' => e = .returned (.int .u8 (K s.byte)) ∧ Reading RAt w p (s.step 1) w' := by
  have H := Lib.hid h
  clear h
  obtain ⟨l, hl⟩ : ∃ l, l = s.got 1 := ⟨_, rfl⟩
  have HL := Lib.hid hl
  have hb : s.byte = l.headD 0 := by rw [hl]; rfl
  have HB := Lib.hid hb
  clear hb hl
  cases l with
  | nil =>
    go_enter Try.func44, Try.ntmps44
    go_wp2_with (go_at_call 55; (with_reducible refine (rtake_any1 _ _ s H.out).mono ?_); rintro e w1 ⟨A, n, c, rfl, hsl, hat, hu⟩; rw [← HL.out] at hsl; have hn : (([] : List UInt8)).length = n := hsl.len; obtain rfl : n = 0 := hn.symm; have HA := Lib.hid hat; have HU := Lib.hid hu; clear hsl hat hu hn)
    go_ret
    exact ⟨by rw [HB.out]; rfl, HA.out, HU.out⟩
  | cons z t =>
    go_enter Try.func44, Try.ntmps44
    go_wp2_with (go_at_call 55; (with_reducible refine (rtake_any1 _ _ s H.out).mono ?_); rintro e w1 ⟨A, n, c, rfl, hsl, hat, hu⟩; rw [← HL.out] at hsl; have hn : (z :: t).length = n := hsl.len; have hn0 : 0 < n := hn ▸ Nat.succ_pos _; have hn1 : ((n : Int) == 0) = false := beq_eq_false_iff_ne.mpr (by omega); obtain ⟨b, o, rfl, hc⟩ := hsl.1.2 0 (by simp); have hc' : w1.cell? ⟨b, o, none⟩ = some (.int .u8 (K z)) := hc; have HA := Lib.hid hat; have HU := Lib.hid hu; clear hsl hat hu hn hc)
    go_ret
    exact ⟨by rw [HB.out]; rfl, HA.out, HU.out⟩

theorem rd_text (w : World) (p : Nat) (s : Rs) (h : CAt w p s) :
    Calls Try.prog 19 #[.pointer (some ⟨p, 0, none⟩)] w fun e w' => e = .returned (.string (str s.text)) ∧ Reading CAt w p s.text' w' := by
  have H := Lib.hid h
  clear h
  obtain ⟨b, hb⟩ : ∃ b, b = s.byte := ⟨_, rfl⟩
  have HB := Lib.hid hb
  clear hb
  obtain ⟨m, hm⟩ : ∃ m : Nat, K b = (m : Int) := ⟨b.toNat, rfl⟩
  have hmb : m = b.toNat := by unfold K at hm; omega
  have hm2 : m < 256 := by rw [hmb]; exact b.toNat_lt
  have HM := Lib.hid hm
  have HMB := Lib.hid hmb
  clear hm hmb
  obtain ⟨l, hl⟩ : ∃ l, l = s.text := ⟨_, rfl⟩
  have HT := Lib.hid hl
  clear hl
  have hconv : ∀ (w : World) (A : Option Addr) (n c : Nat), Hid (Sl w A n c l) → (convert 22 9 (.slice A n c)).run Try.prog w = .ok (.string (str l)) w := fun w A n c h => conv_str Try.underlying22 Try.underlying5 Try.underlying9 h.out.1 h.out.2.2
  have HC := Lib.hid hconv
  clear hconv
  go_enter Try.func19, Try.ntmps19
  go_wp2_with (first
    | (go_at_call 43; (with_reducible refine (rd_byte _ _ s H.out).mono ?_); rintro e w1 ⟨rfl, hat, hu⟩; rw [← HB.out, HM.out]; have HA := Lib.hid hat; have HU := Lib.hid hu; clear hat hu)
    | (go_at_call 49; (with_reducible refine (take_any _ _ (s.step 1) m HA.out (by omega)).mono ?_); rintro e w2 ⟨A, n, c, rfl, hsl, hat, hu⟩; have hg : (s.step 1).got m = l := (by rw [HT.out, Rs.text, HMB.out, HB.out]); rw [hg] at hsl; have HS : Hid (Sl w2 A n c l) := hsl; have hcv := HC.out w2 A n c HS; have HA2 := Lib.hid hat; have HU2 := Lib.hid (HU.out.trans hu (fun _ _ h => h)); clear hsl hat hu hg))
  go_ret
  refine ⟨ret_str (by rw [← HT.out]), ?_, HU2.out⟩
  have := HA2.out
  rw [HMB.out, HB.out] at this
  exact this

theorem rrd_text (w : World) (p : Nat) (s : Rs) (h : RAt w p s) :
    Calls Try.prog 45 #[.pointer (some ⟨p, 0, none⟩)] w fun e w' => e = .returned (.string (str s.text)) ∧ Reading RAt w p s.text' w' := by
  have H := Lib.hid h
  clear h
  obtain ⟨b, hb⟩ : ∃ b, b = s.byte := ⟨_, rfl⟩
  have HB := Lib.hid hb
  clear hb
  obtain ⟨m, hm⟩ : ∃ m : Nat, K b = (m : Int) := ⟨b.toNat, rfl⟩
  have hmb : m = b.toNat := by unfold K at hm; omega
  have hm2 : m < 256 := by rw [hmb]; exact b.toNat_lt
  have HM := Lib.hid hm
  have HMB := Lib.hid hmb
  clear hm hmb
  obtain ⟨l, hl⟩ : ∃ l, l = s.text := ⟨_, rfl⟩
  have HT := Lib.hid hl
  clear hl
  have hconv : ∀ (w : World) (A : Option Addr) (n c : Nat), Hid (Sl w A n c l) → (convert 22 9 (.slice A n c)).run Try.prog w = .ok (.string (str l)) w := fun w A n c h => conv_str Try.underlying22 Try.underlying5 Try.underlying9 h.out.1 h.out.2.2
  have HC := Lib.hid hconv
  clear hconv
  go_enter Try.func45, Try.ntmps45
  go_wp2_with (first
    | (go_at_call 44; (with_reducible refine (rrd_byte _ _ s H.out).mono ?_); rintro e w1 ⟨rfl, hat, hu⟩; rw [← HB.out, HM.out]; have HA := Lib.hid hat; have HU := Lib.hid hu; clear hat hu)
    | (go_at_call 55; (with_reducible refine (rtake_any _ _ (s.step 1) m HA.out (by omega)).mono ?_); rintro e w2 ⟨A, n, c, rfl, hsl, hat, hu⟩; have hg : (s.step 1).got m = l := (by rw [HT.out, Rs.text, HMB.out, HB.out]); rw [hg] at hsl; have HS : Hid (Sl w2 A n c l) := hsl; have hcv := HC.out w2 A n c HS; have HA2 := Lib.hid hat; have HU2 := Lib.hid (HU.out.trans hu (fun _ _ h => h)); clear hsl hat hu hg))
  go_ret
  refine ⟨ret_str (by rw [← HT.out]), ?_, HU2.out⟩
  have := HA2.out
  rw [HMB.out, HB.out] at this
  exact this
end Go.Proofs.Ytpgceeeokjadpaa.Code
