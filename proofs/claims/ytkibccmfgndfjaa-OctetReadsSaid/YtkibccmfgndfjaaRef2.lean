/- Contracts and words that the laws stand on (Ref2). -/
import Derived.Test.YtkibccmfgndfjaaRef1
set_option linter.unusedVariables false
set_option linter.unusedSimpArgs false
namespace Go.Proofs.Ytkibccmfgndfjaa
section
open Go.RowKit Go.Proofs
theorem wrap_div (n q : Nat) (hn : n < 18446744073709551616) : IntKind.u64.wrap ((n : Int) / (q : Int)) = (n : Int) / (q : Int) := by
  rw [← Int.natCast_ediv, IntKind.wrap_u64]
  have := Nat.div_le_self n q
  generalize n / q = t at *
  omega
def RFixRel (w : World) (k n : Nat) (s7 s6 : Value) (w' : World) : Prop :=
  ∃ i : Nat, i ≤ k ∧ s7 = .int .i64 i ∧ w'.ownsRow w.heap.size 5 1 s6 (le i n).length (bs (le i n)) ∧ Below w.heap.size w w'
set_option maxHeartbeats 400000 in
set_option maxRecDepth 100000 in
theorem rfixed_1 (n : Nat) (w : World) (hn : n < 18446744073709551616) (hg : n < 256 ^ 1) :
    Calls Try.prog 61 #[.int .i64 1, .int .u64 (n : Int)] w fun e w' => ∃ v', e = .returned (.tuple #[v', .int .i64 0]) ∧ w'.ownsRow w.heap.size 5 1 v' (le 1 n).length (bs (le 1 n)) ∧ Below w.heap.size w w' := by
  have Hn := Lib.hid hn
  clear hn
  obtain ⟨p, hp⟩ : ∃ p, 256 ^ 1 = p := ⟨_, rfl⟩
  rw [hp] at hg
  have hpb : decide (p ≤ n) = false := by simp; omega
  have HP := Lib.hid hp
  clear hp
  go_enter Try.func61, Try.ntmps61
  go_wp2_with (go_at_call 75; refine (power_any 1 (by decide) _).mono ?_; rw [HP.out]; rintro e w' ⟨rfl, rfl⟩)
  go_loopw [7, 6] (fun s7 s6 w' => RFixRel w 1 n s7 s6 w') (fun s7 _ _ => 1 - (intOf s7).toNat)
  case atStart => exact ⟨0, by omega, rfl, World.ownsRow_nil _ _ _ _, Below.refl _ _⟩
  case round =>
    obtain ⟨i, hi, rfl, hown, hb⟩ := hrel
    have HO := Lib.hid hown; have HB := Lib.hid hb
    obtain ⟨A, c, rfl⟩ := own_slice hown
    clear hown hb
    by_cases hlt : i < 1
    · have hp0 : 0 < 256 ^ i := Nat.pow_pos (by omega)
      have hln : le (i + 1) n = le i n ++ [UInt8.ofNat (n / 256 ^ i % 256)] := le_snoc i n
      have hll := le_length i n
      obtain ⟨q, hq⟩ : ∃ q, 256 ^ i = q := ⟨_, rfl⟩
      rw [hq] at hp0 hln
      have HQ := Lib.hid hq; have HLN := Lib.hid hln; have HLL := Lib.hid hll
      clear hq hln hll
      have hq0 : ((q : Int) == 0) = false := by simp; omega
      have hdq : ((n / q : Nat) : Int) = (n : Int) / (q : Int) := Int.natCast_ediv n q
      have wq : IntKind.u64.wrap ((n : Int) / (q : Int)) = (n : Int) / (q : Int) := wrap_div n q Hn.out
      have htm : ((n : Int) / (q : Int)).tmod 256 = (n : Int) / (q : Int) % 256 := Int.tmod_eq_emod_of_nonneg (by rw [← hdq]; exact Int.natCast_nonneg _)
      have HDQ := Lib.hid hdq
      have HOb := Lib.hid (show wr.ownsRow w.heap.size 5 1 (.slice A (le i n).length c) (bs (le i n)).length (bs (le i n)) from by rw [bs_length]; exact HO.out)
      clear hdq
      go_wp2_with (first
        | (go_at_call 75; refine (power_any i (by omega) _).mono ?_; rw [HQ.out]; rintro e w' ⟨rfl, rfl⟩)
        | (at_builtin; go_loud (refine wpl_push w.heap.size rfl _ _ 29 5 (.int .u8 0) 1 rfl Try.underlying29 u8_info rfl (by decide) (.slice A (le i n).length c) (bs (le i n)) _ rfl rfl rfl HOb.out HB.out.size ?c1 ?_)))
      case c1 => rw [bs_length, HLL.out]; omega
      intro v1 w1 hown1 hg1 hnx1
      have hb1 : Below w.heap.size w w1 := HB.out.grown hg1 HB.out.size (fun g hk => (HO.out.lt g hk).1)
      have hy : bs (le (i + 1) n) = bs (le i n) ++ [Value.int .u8 ((n : Int) / (q : Int) % 256)] := by
        rw [HLN.out, bs_append, ← HDQ.out, u8_cell]; rfl
      have hown2 : w1.ownsRow w.heap.size 5 1 v1 (le (i + 1) n).length (bs (le (i + 1) n)) := by
        rw [hy, show (le (i + 1) n).length = (le i n).length + 1 from by simp [le_length]]; exact hown1
      obtain ⟨A2, c2, rfl⟩ := own_slice hown2
      have HO2 := Lib.hid hown2; have HB2 := Lib.hid hb1
      clear hy hown2 hb1 hown1 hg1 hnx1
      go_wp2_with fail
      go_roundw
      case rel => exact ⟨i + 1, by omega, by go_num, HO2.out, HB2.out⟩
      case measure => simp [intOf]; omega
    · obtain rfl : i = 1 := by omega
      go_wp2_with fail
      go_ret2
      exact ⟨_, rfl, HO.out, HB.out⟩
set_option maxHeartbeats 400000 in
set_option maxRecDepth 100000 in
theorem rfixed_2 (n : Nat) (w : World) (hn : n < 18446744073709551616) (hg : n < 256 ^ 2) :
    Calls Try.prog 61 #[.int .i64 2, .int .u64 (n : Int)] w fun e w' => ∃ v', e = .returned (.tuple #[v', .int .i64 0]) ∧ w'.ownsRow w.heap.size 5 1 v' (le 2 n).length (bs (le 2 n)) ∧ Below w.heap.size w w' := by
  have Hn := Lib.hid hn
  clear hn
  obtain ⟨p, hp⟩ : ∃ p, 256 ^ 2 = p := ⟨_, rfl⟩
  rw [hp] at hg
  have hpb : decide (p ≤ n) = false := by simp; omega
  have HP := Lib.hid hp
  clear hp
  go_enter Try.func61, Try.ntmps61
  go_wp2_with (go_at_call 75; refine (power_any 2 (by decide) _).mono ?_; rw [HP.out]; rintro e w' ⟨rfl, rfl⟩)
  go_loopw [7, 6] (fun s7 s6 w' => RFixRel w 2 n s7 s6 w') (fun s7 _ _ => 2 - (intOf s7).toNat)
  case atStart => exact ⟨0, by omega, rfl, World.ownsRow_nil _ _ _ _, Below.refl _ _⟩
  case round =>
    obtain ⟨i, hi, rfl, hown, hb⟩ := hrel
    have HO := Lib.hid hown; have HB := Lib.hid hb
    obtain ⟨A, c, rfl⟩ := own_slice hown
    clear hown hb
    by_cases hlt : i < 2
    · have hp0 : 0 < 256 ^ i := Nat.pow_pos (by omega)
      have hln : le (i + 1) n = le i n ++ [UInt8.ofNat (n / 256 ^ i % 256)] := le_snoc i n
      have hll := le_length i n
      obtain ⟨q, hq⟩ : ∃ q, 256 ^ i = q := ⟨_, rfl⟩
      rw [hq] at hp0 hln
      have HQ := Lib.hid hq; have HLN := Lib.hid hln; have HLL := Lib.hid hll
      clear hq hln hll
      have hq0 : ((q : Int) == 0) = false := by simp; omega
      have hdq : ((n / q : Nat) : Int) = (n : Int) / (q : Int) := Int.natCast_ediv n q
      have wq : IntKind.u64.wrap ((n : Int) / (q : Int)) = (n : Int) / (q : Int) := wrap_div n q Hn.out
      have htm : ((n : Int) / (q : Int)).tmod 256 = (n : Int) / (q : Int) % 256 := Int.tmod_eq_emod_of_nonneg (by rw [← hdq]; exact Int.natCast_nonneg _)
      have HDQ := Lib.hid hdq
      have HOb := Lib.hid (show wr.ownsRow w.heap.size 5 1 (.slice A (le i n).length c) (bs (le i n)).length (bs (le i n)) from by rw [bs_length]; exact HO.out)
      clear hdq
      go_wp2_with (first
        | (go_at_call 75; refine (power_any i (by omega) _).mono ?_; rw [HQ.out]; rintro e w' ⟨rfl, rfl⟩)
        | (at_builtin; go_loud (refine wpl_push w.heap.size rfl _ _ 29 5 (.int .u8 0) 1 rfl Try.underlying29 u8_info rfl (by decide) (.slice A (le i n).length c) (bs (le i n)) _ rfl rfl rfl HOb.out HB.out.size ?c1 ?_)))
      case c1 => rw [bs_length, HLL.out]; omega
      intro v1 w1 hown1 hg1 hnx1
      have hb1 : Below w.heap.size w w1 := HB.out.grown hg1 HB.out.size (fun g hk => (HO.out.lt g hk).1)
      have hy : bs (le (i + 1) n) = bs (le i n) ++ [Value.int .u8 ((n : Int) / (q : Int) % 256)] := by
        rw [HLN.out, bs_append, ← HDQ.out, u8_cell]; rfl
      have hown2 : w1.ownsRow w.heap.size 5 1 v1 (le (i + 1) n).length (bs (le (i + 1) n)) := by
        rw [hy, show (le (i + 1) n).length = (le i n).length + 1 from by simp [le_length]]; exact hown1
      obtain ⟨A2, c2, rfl⟩ := own_slice hown2
      have HO2 := Lib.hid hown2; have HB2 := Lib.hid hb1
      clear hy hown2 hb1 hown1 hg1 hnx1
      go_wp2_with fail
      go_roundw
      case rel => exact ⟨i + 1, by omega, by go_num, HO2.out, HB2.out⟩
      case measure => simp [intOf]; omega
    · obtain rfl : i = 2 := by omega
      go_wp2_with fail
      go_ret2
      exact ⟨_, rfl, HO.out, HB.out⟩
set_option maxHeartbeats 400000 in
set_option maxRecDepth 100000 in
theorem rfixed_4 (n : Nat) (w : World) (hn : n < 18446744073709551616) (hg : n < 256 ^ 4) :
    Calls Try.prog 61 #[.int .i64 4, .int .u64 (n : Int)] w fun e w' => ∃ v', e = .returned (.tuple #[v', .int .i64 0]) ∧ w'.ownsRow w.heap.size 5 1 v' (le 4 n).length (bs (le 4 n)) ∧ Below w.heap.size w w' := by
  have Hn := Lib.hid hn
  clear hn
  obtain ⟨p, hp⟩ : ∃ p, 256 ^ 4 = p := ⟨_, rfl⟩
  rw [hp] at hg
  have hpb : decide (p ≤ n) = false := by simp; omega
  have HP := Lib.hid hp
  clear hp
  go_enter Try.func61, Try.ntmps61
  go_wp2_with (go_at_call 75; refine (power_any 4 (by decide) _).mono ?_; rw [HP.out]; rintro e w' ⟨rfl, rfl⟩)
  go_loopw [7, 6] (fun s7 s6 w' => RFixRel w 4 n s7 s6 w') (fun s7 _ _ => 4 - (intOf s7).toNat)
  case atStart => exact ⟨0, by omega, rfl, World.ownsRow_nil _ _ _ _, Below.refl _ _⟩
  case round =>
    obtain ⟨i, hi, rfl, hown, hb⟩ := hrel
    have HO := Lib.hid hown; have HB := Lib.hid hb
    obtain ⟨A, c, rfl⟩ := own_slice hown
    clear hown hb
    by_cases hlt : i < 4
    · have hp0 : 0 < 256 ^ i := Nat.pow_pos (by omega)
      have hln : le (i + 1) n = le i n ++ [UInt8.ofNat (n / 256 ^ i % 256)] := le_snoc i n
      have hll := le_length i n
      obtain ⟨q, hq⟩ : ∃ q, 256 ^ i = q := ⟨_, rfl⟩
      rw [hq] at hp0 hln
      have HQ := Lib.hid hq; have HLN := Lib.hid hln; have HLL := Lib.hid hll
      clear hq hln hll
      have hq0 : ((q : Int) == 0) = false := by simp; omega
      have hdq : ((n / q : Nat) : Int) = (n : Int) / (q : Int) := Int.natCast_ediv n q
      have wq : IntKind.u64.wrap ((n : Int) / (q : Int)) = (n : Int) / (q : Int) := wrap_div n q Hn.out
      have htm : ((n : Int) / (q : Int)).tmod 256 = (n : Int) / (q : Int) % 256 := Int.tmod_eq_emod_of_nonneg (by rw [← hdq]; exact Int.natCast_nonneg _)
      have HDQ := Lib.hid hdq
      have HOb := Lib.hid (show wr.ownsRow w.heap.size 5 1 (.slice A (le i n).length c) (bs (le i n)).length (bs (le i n)) from by rw [bs_length]; exact HO.out)
      clear hdq
      go_wp2_with (first
        | (go_at_call 75; refine (power_any i (by omega) _).mono ?_; rw [HQ.out]; rintro e w' ⟨rfl, rfl⟩)
        | (at_builtin; go_loud (refine wpl_push w.heap.size rfl _ _ 29 5 (.int .u8 0) 1 rfl Try.underlying29 u8_info rfl (by decide) (.slice A (le i n).length c) (bs (le i n)) _ rfl rfl rfl HOb.out HB.out.size ?c1 ?_)))
      case c1 => rw [bs_length, HLL.out]; omega
      intro v1 w1 hown1 hg1 hnx1
      have hb1 : Below w.heap.size w w1 := HB.out.grown hg1 HB.out.size (fun g hk => (HO.out.lt g hk).1)
      have hy : bs (le (i + 1) n) = bs (le i n) ++ [Value.int .u8 ((n : Int) / (q : Int) % 256)] := by
        rw [HLN.out, bs_append, ← HDQ.out, u8_cell]; rfl
      have hown2 : w1.ownsRow w.heap.size 5 1 v1 (le (i + 1) n).length (bs (le (i + 1) n)) := by
        rw [hy, show (le (i + 1) n).length = (le i n).length + 1 from by simp [le_length]]; exact hown1
      obtain ⟨A2, c2, rfl⟩ := own_slice hown2
      have HO2 := Lib.hid hown2; have HB2 := Lib.hid hb1
      clear hy hown2 hb1 hown1 hg1 hnx1
      go_wp2_with fail
      go_roundw
      case rel => exact ⟨i + 1, by omega, by go_num, HO2.out, HB2.out⟩
      case measure => simp [intOf]; omega
    · obtain rfl : i = 4 := by omega
      go_wp2_with fail
      go_ret2
      exact ⟨_, rfl, HO.out, HB.out⟩
set_option maxHeartbeats 400000 in
set_option maxRecDepth 100000 in
theorem rfixed_8 (n : Nat) (w : World) (hn : n < 18446744073709551616) (hg : n < 256 ^ 8) :
    Calls Try.prog 61 #[.int .i64 8, .int .u64 (n : Int)] w fun e w' => ∃ v', e = .returned (.tuple #[v', .int .i64 0]) ∧ w'.ownsRow w.heap.size 5 1 v' (le 8 n).length (bs (le 8 n)) ∧ Below w.heap.size w w' := by
  have Hn := Lib.hid hn
  clear hn
  clear hg
  go_enter Try.func61, Try.ntmps61
  go_wp2_with fail
  go_loopw [7, 6] (fun s7 s6 w' => RFixRel w 8 n s7 s6 w') (fun s7 _ _ => 8 - (intOf s7).toNat)
  case atStart => exact ⟨0, by omega, rfl, World.ownsRow_nil _ _ _ _, Below.refl _ _⟩
  case round =>
    obtain ⟨i, hi, rfl, hown, hb⟩ := hrel
    have HO := Lib.hid hown; have HB := Lib.hid hb
    obtain ⟨A, c, rfl⟩ := own_slice hown
    clear hown hb
    by_cases hlt : i < 8
    · have hp0 : 0 < 256 ^ i := Nat.pow_pos (by omega)
      have hln : le (i + 1) n = le i n ++ [UInt8.ofNat (n / 256 ^ i % 256)] := le_snoc i n
      have hll := le_length i n
      obtain ⟨q, hq⟩ : ∃ q, 256 ^ i = q := ⟨_, rfl⟩
      rw [hq] at hp0 hln
      have HQ := Lib.hid hq; have HLN := Lib.hid hln; have HLL := Lib.hid hll
      clear hq hln hll
      have hq0 : ((q : Int) == 0) = false := by simp; omega
      have hdq : ((n / q : Nat) : Int) = (n : Int) / (q : Int) := Int.natCast_ediv n q
      have wq : IntKind.u64.wrap ((n : Int) / (q : Int)) = (n : Int) / (q : Int) := wrap_div n q Hn.out
      have htm : ((n : Int) / (q : Int)).tmod 256 = (n : Int) / (q : Int) % 256 := Int.tmod_eq_emod_of_nonneg (by rw [← hdq]; exact Int.natCast_nonneg _)
      have HDQ := Lib.hid hdq
      have HOb := Lib.hid (show wr.ownsRow w.heap.size 5 1 (.slice A (le i n).length c) (bs (le i n)).length (bs (le i n)) from by rw [bs_length]; exact HO.out)
      clear hdq
      go_wp2_with (first
        | (go_at_call 75; refine (power_any i (by omega) _).mono ?_; rw [HQ.out]; rintro e w' ⟨rfl, rfl⟩)
        | (at_builtin; go_loud (refine wpl_push w.heap.size rfl _ _ 29 5 (.int .u8 0) 1 rfl Try.underlying29 u8_info rfl (by decide) (.slice A (le i n).length c) (bs (le i n)) _ rfl rfl rfl HOb.out HB.out.size ?c1 ?_)))
      case c1 => rw [bs_length, HLL.out]; omega
      intro v1 w1 hown1 hg1 hnx1
      have hb1 : Below w.heap.size w w1 := HB.out.grown hg1 HB.out.size (fun g hk => (HO.out.lt g hk).1)
      have hy : bs (le (i + 1) n) = bs (le i n) ++ [Value.int .u8 ((n : Int) / (q : Int) % 256)] := by
        rw [HLN.out, bs_append, ← HDQ.out, u8_cell]; rfl
      have hown2 : w1.ownsRow w.heap.size 5 1 v1 (le (i + 1) n).length (bs (le (i + 1) n)) := by
        rw [hy, show (le (i + 1) n).length = (le i n).length + 1 from by simp [le_length]]; exact hown1
      obtain ⟨A2, c2, rfl⟩ := own_slice hown2
      have HO2 := Lib.hid hown2; have HB2 := Lib.hid hb1
      clear hy hown2 hb1 hown1 hg1 hnx1
      go_wp2_with fail
      go_roundw
      case rel => exact ⟨i + 1, by omega, by go_num, HO2.out, HB2.out⟩
      case measure => simp [intOf]; omega
    · obtain rfl : i = 8 := by omega
      go_wp2_with fail
      go_ret2
      exact ⟨_, rfl, HO.out, HB.out⟩
set_option maxHeartbeats 400000 in
set_option maxRecDepth 100000 in
theorem rbig_1 (n : Nat) (w : World) (hg : 256 ^ 1 ≤ n) :
    Calls Try.prog 61 #[.int .i64 1, .int .u64 (n : Int)] w fun e w' => e = .returned (.tuple #[.slice none 0 0, .int .i64 10]) ∧ w = w' := by
  obtain ⟨p, hp⟩ : ∃ p, 256 ^ 1 = p := ⟨_, rfl⟩
  rw [hp] at hg
  have hpb : decide (p ≤ n) = true := by simp; omega
  have HP := Lib.hid hp
  clear hp
  go_enter Try.func61, Try.ntmps61
  go_wp2_with (go_at_call 75; refine (power_any 1 (by decide) _).mono ?_; rw [HP.out]; rintro e w' ⟨rfl, rfl⟩)
  go_ret2
  exact ⟨rfl, rfl⟩
set_option maxHeartbeats 400000 in
set_option maxRecDepth 100000 in
theorem rbig_2 (n : Nat) (w : World) (hg : 256 ^ 2 ≤ n) :
    Calls Try.prog 61 #[.int .i64 2, .int .u64 (n : Int)] w fun e w' => e = .returned (.tuple #[.slice none 0 0, .int .i64 10]) ∧ w = w' := by
  obtain ⟨p, hp⟩ : ∃ p, 256 ^ 2 = p := ⟨_, rfl⟩
  rw [hp] at hg
  have hpb : decide (p ≤ n) = true := by simp; omega
  have HP := Lib.hid hp
  clear hp
  go_enter Try.func61, Try.ntmps61
  go_wp2_with (go_at_call 75; refine (power_any 2 (by decide) _).mono ?_; rw [HP.out]; rintro e w' ⟨rfl, rfl⟩)
  go_ret2
  exact ⟨rfl, rfl⟩
set_option maxHeartbeats 400000 in
set_option maxRecDepth 100000 in
theorem rbig_4 (n : Nat) (w : World) (hg : 256 ^ 4 ≤ n) :
    Calls Try.prog 61 #[.int .i64 4, .int .u64 (n : Int)] w fun e w' => e = .returned (.tuple #[.slice none 0 0, .int .i64 10]) ∧ w = w' := by
  obtain ⟨p, hp⟩ : ∃ p, 256 ^ 4 = p := ⟨_, rfl⟩
  rw [hp] at hg
  have hpb : decide (p ≤ n) = true := by simp; omega
  have HP := Lib.hid hp
  clear hp
  go_enter Try.func61, Try.ntmps61
  go_wp2_with (go_at_call 75; refine (power_any 4 (by decide) _).mono ?_; rw [HP.out]; rintro e w' ⟨rfl, rfl⟩)
  go_ret2
  exact ⟨rfl, rfl⟩
set_option maxHeartbeats 400000 in
set_option maxRecDepth 100000 in
theorem rfixed_wide (k : Int) (n : Nat) (w : World) (hw : wideB k = false) :
    Calls Try.prog 61 #[.int .i64 k, .int .u64 (n : Int)] w fun e w' => e = .returned (.tuple #[.slice none 0 0, .int .i64 2]) ∧ w = w' := by
  have h1 : (k != 1) = true := by simp [wideB] at hw ⊢; omega
  have h2 : (k != 2) = true := by simp [wideB] at hw ⊢; omega
  have h4 : (k != 4) = true := by simp [wideB] at hw ⊢; omega
  have h8 : (k != 8) = true := by simp [wideB] at hw ⊢; omega
  clear hw
  go_enter Try.func61, Try.ntmps61
  go_wp2_with fail
  go_ret2
  exact ⟨rfl, rfl⟩
/-- The reference's fixed number. -/
theorem rfixed_any (k : Int) (n : Nat) (w : World) (hn : n < 18446744073709551616) :
    Calls Try.prog 61 #[.int .i64 k, .int .u64 (n : Int)] w fun e w' => ∃ v', e = .returned (.tuple #[v', .int .i64 (fixedE k n)]) ∧ w'.ownsRow w.heap.size 5 1 v' (fixedB k n).length (bs (fixedB k n)) ∧ Below w.heap.size w w' := by
  by_cases hw : wideB k = true
  · have hk := wideB_cases hw
    by_cases hg : goesB n k.toNat = true
    · have hE : fixedE k n = 0 := by rw [fixedE, if_neg (by rw [hw]; decide), if_neg (by rw [hg]; decide)]
      rw [fixedB, hE, if_pos rfl]
      have hgp : n < 256 ^ k.toNat := by simpa [goesB] using hg
      rcases hk with rfl | rfl | rfl | rfl
      · exact rfixed_1 n w hn hgp
      · exact rfixed_2 n w hn hgp
      · exact rfixed_4 n w hn hgp
      · exact rfixed_8 n w hn hgp
    · have hE : fixedE k n = 10 := by rw [fixedE, if_neg (by rw [hw]; decide), if_pos (by simpa using hg)]
      rw [fixedB, hE, if_neg (by decide)]
      have hgp : 256 ^ k.toNat ≤ n := by simpa [goesB] using hg
      have key : Calls Try.prog 61 #[.int .i64 k, .int .u64 (n : Int)] w fun e w' => e = .returned (.tuple #[.slice none 0 0, .int .i64 10]) ∧ w = w' := by
        rcases hk with rfl | rfl | rfl | rfl
        · exact rbig_1 n w hgp
        · exact rbig_2 n w hgp
        · exact rbig_4 n w hgp
        · exact absurd hn (by have : (256 : Nat) ^ (8 : Int).toNat = 18446744073709551616 := by decide
                              omega)
      refine key.mono ?_
      rintro e w' ⟨rfl, rfl⟩
      exact ⟨_, rfl, World.ownsRow_nil _ _ _ _, Below.refl _ _⟩
  · simp only [Bool.not_eq_true] at hw
    have hE : fixedE k n = 2 := by rw [fixedE, if_pos hw]
    rw [fixedB, hE, if_neg (by decide)]
    refine (rfixed_wide k n w hw).mono ?_
    rintro e w' ⟨rfl, rfl⟩
    exact ⟨_, rfl, World.ownsRow_nil _ _ _ _, Below.refl _ _⟩
end
end Go.Proofs.Ytkibccmfgndfjaa
