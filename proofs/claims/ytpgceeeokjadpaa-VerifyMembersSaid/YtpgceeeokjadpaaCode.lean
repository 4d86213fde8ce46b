/- What the writers of package code and of the reference do: each writing appends its bytes. Conditions: what is written is short of a thousand million bytes. -/
import Derived.Test.YtpgceeeokjadpaaUpd
import Derived.WalkSpells
namespace Go.Proofs.Ytpgceeeokjadpaa.Code
open Go.RowKit Go.Joins Go.Proofs.Ytpgceeeokjadpaa.Crc Go.Proofs.Ytpgceeeokjadpaa.Mem
theorem info5 : (Try.prog.info? 5).map (fun i => (i.zero, i.size, i.bytes)) = some (some (.int .u8 0), 1, 1) := by kernel_rfl

theorem wbyte (w : World) (p : Nat) (l : List UInt8) (b : UInt8) (h : WAt 28 w p l) (hl : l.length ≤ 1000000000) :
    Calls Try.prog 24 #[.pointer (some ⟨p, 0, none⟩), .int .u8 (K b)] w fun e w' => e = .returned (.tuple #[]) ∧ Wrote 28 w p (l ++ [b]) w' := by
  obtain ⟨A, n, c, hp, ho⟩ := h
  have hc := cell_of_one hp
  have hlt := lt_of_block hp
  have HP := Lib.hid hp
  have HO := Lib.hid ho
  have hn2 : n ≤ 1000000000 := by have := ho.1; omega
  clear hp ho hl
  go_enter Try.func24, Try.ntmps24
  go_wp2_with (at_builtin; refine app_law rfl (.tmp 8) (.tmp 10) 22 rfl Try.underlying22 info5 rfl rfl (HO.out.alloc _) (Reads.one _ _ _) (fun h => by cases h) (by omega) (Nat.zero_le _) ?_; intro A' c' w1 own gr hat; obtain ⟨hc1, hf1⟩ := wat_kept (by decide) HP.out HO.out ((Upd.refl _ _).alloc _) gr; have OWN := Lib.hid own; have GR := Lib.hid gr; have HAT := Lib.hid hat; clear own gr hat)
  go_end0
  exact ⟨rfl, WAt.wrote (by decide) HP.out HO.out ((Upd.refl _ _).alloc _) GR.out OWN.out HAT.out⟩

theorem rbyte (w : World) (p : Nat) (l : List UInt8) (b : UInt8) (h : WAt 39 w p l) (hl : l.length ≤ 1000000000) :
    Calls Try.prog 25 #[.pointer (some ⟨p, 0, none⟩), .int .u8 (K b)] w fun e w' => e = .returned (.tuple #[]) ∧ Wrote 39 w p (l ++ [b]) w' := by
  obtain ⟨A, n, c, hp, ho⟩ := h
  have hc := cell_of_one hp
  have hlt := lt_of_block hp
  have HP := Lib.hid hp
  have HO := Lib.hid ho
  have hn2 : n ≤ 1000000000 := by have := ho.1; omega
  clear hp ho hl
  go_enter Try.func25, Try.ntmps25
  go_wp2_with (at_builtin; refine app_law rfl (.tmp 8) (.tmp 10) 22 rfl Try.underlying22 info5 rfl rfl (HO.out.alloc _) (Reads.one _ _ _) (fun h => by cases h) (by omega) (Nat.zero_le _) ?_; intro A' c' w1 own gr hat; obtain ⟨hc1, hf1⟩ := wat_kept (by decide) HP.out HO.out ((Upd.refl _ _).alloc _) gr; have OWN := Lib.hid own; have GR := Lib.hid gr; have HAT := Lib.hid hat; clear own gr hat)
  go_end0
  exact ⟨rfl, WAt.wrote (by decide) HP.out HO.out ((Upd.refl _ _).alloc _) GR.out OWN.out HAT.out⟩

theorem wint (w : World) (p : Nat) (l : List UInt8) (b : Int) (h : WAt 28 w p l) (hl : l.length ≤ 1000000000) :
    Calls Try.prog 16 #[.pointer (some ⟨p, 0, none⟩), .int .i64 b] w fun e w' => e = .returned (.tuple #[]) ∧ Wrote 28 w p (l ++ be4 b) w' := by
  obtain ⟨A, n, c, hp, ho⟩ := h
  have hc := cell_of_one hp
  have hlt := lt_of_block hp
  have HP := Lib.hid hp
  have HO := Lib.hid ho
  have hn2 : n ≤ 1000000000 := by have := ho.1; omega
  have hC : ∀ W : World, Reads (W.alloc (.cells #[.int .u8 (b % 4294967296 / 16777216), .int .u8 (b % 4294967296 / 65536 % 256), .int .u8 (b % 4294967296 / 256 % 256), .int .u8 (b % 256)] 5)) (some ⟨W.heap.size, 0, none⟩) 4 (be4 b) := by
    intro W
    rw [be_3, be_2, be_1, be_0]
    exact Reads.four W _ _ _ _ 5
  have HC := Lib.hid hC
  clear hp ho hl hC
  go_enter Try.func16, Try.ntmps16
  go_wp2_with (at_builtin; refine app_law rfl (.tmp 11) (.tmp 23) 22 rfl Try.underlying22 info5 rfl rfl (HO.out.alloc _) (HC.out _) (fun h => by cases h) (by omega) (Nat.zero_le _) ?_; intro A' c' w1 own gr hat; obtain ⟨hc1, hf1⟩ := wat_kept (by decide) HP.out HO.out ((Upd.refl _ _).alloc _) gr; have OWN := Lib.hid own; have GR := Lib.hid gr; have HAT := Lib.hid hat; clear own gr hat)
  go_end0
  exact ⟨rfl, WAt.wrote (by decide) HP.out HO.out ((Upd.refl _ _).alloc _) GR.out OWN.out HAT.out⟩

theorem rint (w : World) (p : Nat) (l : List UInt8) (b : Int) (h : WAt 39 w p l) (hl : l.length ≤ 1000000000) :
    Calls Try.prog 23 #[.pointer (some ⟨p, 0, none⟩), .int .i64 b] w fun e w' => e = .returned (.tuple #[]) ∧ Wrote 39 w p (l ++ be4 b) w' := by
  obtain ⟨A, n, c, hp, ho⟩ := h
  have hc := cell_of_one hp
  have hlt := lt_of_block hp
  have HP := Lib.hid hp
  have HO := Lib.hid ho
  have hn2 : n ≤ 1000000000 := by have := ho.1; omega
  have hC : ∀ W : World, Reads (W.alloc (.cells #[.int .u8 (Go.bits .and .u64 (IntKind.u64.wrap b / 16777216) 255 % 256), .int .u8 (Go.bits .and .u64 (IntKind.u64.wrap b / 65536) 255 % 256), .int .u8 (Go.bits .and .u64 (IntKind.u64.wrap b / 256) 255 % 256), .int .u8 (Go.bits .and .u64 (IntKind.u64.wrap b) 255 % 256)] 5)) (some ⟨W.heap.size, 0, none⟩) 4 (be4 b) := by
    intro W
    rw [re_3, re_2, re_1, re_0]
    exact Reads.four W _ _ _ _ 5
  have HC := Lib.hid hC
  clear hp ho hl hC
  go_enter Try.func23, Try.ntmps23
  go_wp2_with (at_builtin; refine app_law rfl (.tmp 11) (.tmp 27) 22 rfl Try.underlying22 info5 rfl rfl (HO.out.alloc _) (HC.out _) (fun h => by cases h) (by omega) (Nat.zero_le _) ?_; intro A' c' w1 own gr hat; obtain ⟨hc1, hf1⟩ := wat_kept (by decide) HP.out HO.out ((Upd.refl _ _).alloc _) gr; have OWN := Lib.hid own; have GR := Lib.hid gr; have HAT := Lib.hid hat; clear own gr hat)
  go_end0
  exact ⟨rfl, WAt.wrote (by decide) HP.out HO.out ((Upd.refl _ _).alloc _) GR.out OWN.out HAT.out⟩

theorem tx_short (b : ByteArray) (h : b.size ≤ 255) : tx b.data.toList = UInt8.ofNat b.size :: b.data.toList := by
  have e : b.data.toList.take 255 = b.data.toList := List.take_of_length_le (by rw [Array.length_toList]; exact h)
  have e2 : b.data.toList.length = b.size := Array.length_toList
  unfold tx
  rw [e, e2]
theorem tx_long (b : ByteArray) : tx b.data.toList = UInt8.ofNat (min 255 b.size) :: (b.extract 0 255).data.toList := by
  have e : (b.extract 0 255).data.toList = b.data.toList.take 255 := by simp [ByteArray.data_extract]
  have e2 : b.data.toList.length = b.size := Array.length_toList
  unfold tx
  rw [e, List.length_take, e2]

theorem wtext (w : World) (p : Nat) (l : List UInt8) (b : ByteArray) (h : WAt 28 w p l) (hl : l.length ≤ 1000000000) (hb : b.size ≤ 1000000000) :
    Calls Try.prog 15 #[.pointer (some ⟨p, 0, none⟩), .string b] w fun e w' => e = .returned (.tuple #[]) ∧ Wrote 28 w p (l ++ tx b.data.toList) w' := by
  obtain ⟨A, n, c, hp, ho⟩ := h
  have hc := cell_of_one hp
  have hlt := lt_of_block hp
  have HP := Lib.hid hp
  have HO := Lib.hid ho
  have hn2 : n ≤ 1000000000 := by have := ho.1; omega
  have hs : ∀ (m : Nat) (W : World), m < 256 → Reads (W.alloc (.cells #[.int .u8 (m : Int)] 5)) (some ⟨W.heap.size, 0, none⟩) 1 [UInt8.ofNat m] := by
    intro m W hm
    rw [← K_nat m hm]
    exact Reads.one W _ 5
  clear hp ho hl
  by_cases h : b.size ≤ 255
  · have HC := Lib.hid (fun W => hs b.size W (by omega))
    clear hs
    go_enter Try.func15, Try.ntmps15
    go_wp2_with (first
      | (at_builtin; refine app_law rfl (.tmp 13) (.tmp 17) 22 rfl Try.underlying22 info5 rfl rfl (HO.out.alloc _) (HC.out _) (fun h => by cases h) (by omega) (Nat.zero_le _) ?_; intro A' c' w1 own gr hat; obtain ⟨hc1, hf1⟩ := wat_kept (by decide) HP.out HO.out ((Upd.refl _ _).alloc _) gr; obtain ⟨hp2, own2⟩ := wrote_parts (by decide) HP.out HO.out ((Upd.refl _ _).alloc _) gr own; have W1 := Lib.hid (WAt.wrote (by decide) HP.out HO.out ((Upd.refl _ _).alloc _) gr own hat); have HP2 := Lib.hid hp2; have OWN2 := Lib.hid own2; clear own gr hat hp2 own2)
      | (refine app_str_law rfl (.tmp 25) (.tmp 26) 22 9 rfl Try.underlying22 Try.underlying9 info5 rfl OWN2.out rfl (by first | omega | (simp only [ByteArray.size_extract]; omega)) (Nat.zero_le _) ?_; intro A3 c3 w3 own3 gr3 hat3; obtain ⟨hc3, hf3⟩ := wat_kept (by decide) HP2.out OWN2.out (Upd.refl _ _) gr3; have W2 := Lib.hid (WAt.wrote (by decide) HP2.out OWN2.out (Upd.refl _ _) gr3 own3 hat3); clear own3 gr3 hat3))
    go_end0
    have hw : Wrote 28 w p _ _ := Wrote.trans W1.out W2.out
    refine ⟨rfl, ?_⟩
    have e : l ++ tx b.data.toList = l ++ [UInt8.ofNat b.size] ++ b.data.toList := by
      rw [tx_short b h, List.append_assoc]; rfl
    rw [e]
    exact hw
  · have HC := Lib.hid (fun W => hs (min 255 b.size) W (by omega))
    clear hs
    go_enter Try.func15, Try.ntmps15
    go_wp2_with (first
      | (at_builtin; refine app_law rfl (.tmp 13) (.tmp 17) 22 rfl Try.underlying22 info5 rfl rfl (HO.out.alloc _) (HC.out _) (fun h => by cases h) (by omega) (Nat.zero_le _) ?_; intro A' c' w1 own gr hat; obtain ⟨hc1, hf1⟩ := wat_kept (by decide) HP.out HO.out ((Upd.refl _ _).alloc _) gr; obtain ⟨hp2, own2⟩ := wrote_parts (by decide) HP.out HO.out ((Upd.refl _ _).alloc _) gr own; have W1 := Lib.hid (WAt.wrote (by decide) HP.out HO.out ((Upd.refl _ _).alloc _) gr own hat); have HP2 := Lib.hid hp2; have OWN2 := Lib.hid own2; clear own gr hat hp2 own2)
      | (refine app_str_law rfl (.tmp 25) (.tmp 26) 22 9 rfl Try.underlying22 Try.underlying9 info5 rfl OWN2.out rfl (by first | omega | (simp only [ByteArray.size_extract]; omega)) (Nat.zero_le _) ?_; intro A3 c3 w3 own3 gr3 hat3; obtain ⟨hc3, hf3⟩ := wat_kept (by decide) HP2.out OWN2.out (Upd.refl _ _) gr3; have W2 := Lib.hid (WAt.wrote (by decide) HP2.out OWN2.out (Upd.refl _ _) gr3 own3 hat3); clear own3 gr3 hat3))
    go_end0
    have hw : Wrote 28 w p _ _ := Wrote.trans W1.out W2.out
    refine ⟨rfl, ?_⟩
    have e : l ++ tx b.data.toList = l ++ [UInt8.ofNat (min 255 b.size)] ++ (b.extract 0 255).data.toList := by
      rw [tx_long b, List.append_assoc]; rfl
    rw [e]
    have e3 : (b.extract 0 255).size = min 255 b.size := by rw [ByteArray.size_extract]; omega
    rw [e3] at hw
    exact hw

theorem rtext (w : World) (p : Nat) (l : List UInt8) (b : ByteArray) (h : WAt 39 w p l) (hl : l.length ≤ 1000000000) (hb : b.size ≤ 1000000000) :
    Calls Try.prog 26 #[.pointer (some ⟨p, 0, none⟩), .string b] w fun e w' => e = .returned (.tuple #[]) ∧ Wrote 39 w p (l ++ tx b.data.toList) w' := by
  obtain ⟨A, n, c, hp, ho⟩ := h
  have hc := cell_of_one hp
  have hlt := lt_of_block hp
  have HP := Lib.hid hp
  have HO := Lib.hid ho
  have hn2 : n ≤ 1000000000 := by have := ho.1; omega
  have hs : ∀ (m : Nat) (W : World), m < 256 → Reads (W.alloc (.cells #[.int .u8 (m : Int)] 5)) (some ⟨W.heap.size, 0, none⟩) 1 [UInt8.ofNat m] := by
    intro m W hm
    rw [← K_nat m hm]
    exact Reads.one W _ 5
  clear hp ho hl
  by_cases h : b.size ≤ 255
  · have HC := Lib.hid (fun W => hs b.size W (by omega))
    clear hs
    go_enter Try.func26, Try.ntmps26
    go_wp2_with (first
      | (at_builtin; refine app_law rfl (.tmp 13) (.tmp 17) 22 rfl Try.underlying22 info5 rfl rfl (HO.out.alloc _) (HC.out _) (fun h => by cases h) (by omega) (Nat.zero_le _) ?_; intro A' c' w1 own gr hat; obtain ⟨hc1, hf1⟩ := wat_kept (by decide) HP.out HO.out ((Upd.refl _ _).alloc _) gr; obtain ⟨hp2, own2⟩ := wrote_parts (by decide) HP.out HO.out ((Upd.refl _ _).alloc _) gr own; have W1 := Lib.hid (WAt.wrote (by decide) HP.out HO.out ((Upd.refl _ _).alloc _) gr own hat); have HP2 := Lib.hid hp2; have OWN2 := Lib.hid own2; clear own gr hat hp2 own2)
      | (refine app_str_law rfl (.tmp 25) (.tmp 26) 22 9 rfl Try.underlying22 Try.underlying9 info5 rfl OWN2.out rfl (by first | omega | (simp only [ByteArray.size_extract]; omega)) (Nat.zero_le _) ?_; intro A3 c3 w3 own3 gr3 hat3; obtain ⟨hc3, hf3⟩ := wat_kept (by decide) HP2.out OWN2.out (Upd.refl _ _) gr3; have W2 := Lib.hid (WAt.wrote (by decide) HP2.out OWN2.out (Upd.refl _ _) gr3 own3 hat3); clear own3 gr3 hat3))
    go_end0
    have hw : Wrote 39 w p _ _ := Wrote.trans W1.out W2.out
    refine ⟨rfl, ?_⟩
    have e : l ++ tx b.data.toList = l ++ [UInt8.ofNat b.size] ++ b.data.toList := by
      rw [tx_short b h, List.append_assoc]; rfl
    rw [e]
    exact hw
  · have HC := Lib.hid (fun W => hs (min 255 b.size) W (by omega))
    clear hs
    go_enter Try.func26, Try.ntmps26
    go_wp2_with (first
      | (at_builtin; refine app_law rfl (.tmp 13) (.tmp 17) 22 rfl Try.underlying22 info5 rfl rfl (HO.out.alloc _) (HC.out _) (fun h => by cases h) (by omega) (Nat.zero_le _) ?_; intro A' c' w1 own gr hat; obtain ⟨hc1, hf1⟩ := wat_kept (by decide) HP.out HO.out ((Upd.refl _ _).alloc _) gr; obtain ⟨hp2, own2⟩ := wrote_parts (by decide) HP.out HO.out ((Upd.refl _ _).alloc _) gr own; have W1 := Lib.hid (WAt.wrote (by decide) HP.out HO.out ((Upd.refl _ _).alloc _) gr own hat); have HP2 := Lib.hid hp2; have OWN2 := Lib.hid own2; clear own gr hat hp2 own2)
      | (refine app_str_law rfl (.tmp 25) (.tmp 26) 22 9 rfl Try.underlying22 Try.underlying9 info5 rfl OWN2.out rfl (by first | omega | (simp only [ByteArray.size_extract]; omega)) (Nat.zero_le _) ?_; intro A3 c3 w3 own3 gr3 hat3; obtain ⟨hc3, hf3⟩ := wat_kept (by decide) HP2.out OWN2.out (Upd.refl _ _) gr3; have W2 := Lib.hid (WAt.wrote (by decide) HP2.out OWN2.out (Upd.refl _ _) gr3 own3 hat3); clear own3 gr3 hat3))
    go_end0
    have hw : Wrote 39 w p _ _ := Wrote.trans W1.out W2.out
    refine ⟨rfl, ?_⟩
    have e : l ++ tx b.data.toList = l ++ [UInt8.ofNat (min 255 b.size)] ++ (b.extract 0 255).data.toList := by
      rw [tx_long b, List.append_assoc]; rfl
    rw [e]
    have e3 : (b.extract 0 255).size = min 255 b.size := by rw [ByteArray.size_extract]; omega
    rw [e3] at hw
    exact hw
end Go.Proofs.Ytpgceeeokjadpaa.Code
