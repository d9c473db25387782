/- Contracts and words that the laws stand on (CrcLin). -/
import Derived.Test.YtkibccmfgndfjaaCrcPlain
set_option linter.unusedVariables false
set_option linter.unusedSimpArgs false
namespace Go.Proofs.Ytkibccmfgndfjaa
section
theorem notN (n : Nat) (h : n < 4294967296) : 4294967295 - n = 4294967295 ^^^ n := by
  apply Nat.eq_of_testBit_eq
  intro i
  have h1 := Nat.testBit_two_pow_sub_one 32 i
  have h2 := Nat.testBit_two_pow_sub_succ (n := 32) (x := n) h i
  rw [show 4294967295 - n = 2 ^ 32 - (n + 1) by omega, h2, Nat.testBit_xor, show 4294967295 = 2 ^ 32 - 1 by rfl, h1]
  by_cases hi : i < 32
  · simp [hi]
  · simp [hi]; exact Nat.testBit_lt_two_pow (Nat.lt_of_lt_of_le h (Nat.pow_le_pow_right (n := 2) (i := 32) (by omega) (by omega)))
theorem crcOn_zero (l : List UInt8) : crcOn 0 l = 4294967295 ^^^ creg 4294967295 l := by
  have := creg_lt (c := 4294967295) (by omega) l
  rw [crcOn, Nat.sub_zero, notN _ this]
theorem cstep_xor (c d h k : Nat) (hh : h < 16) (hk : k < 16) : cstep (c ^^^ d) (h ^^^ k) = cstep c h ^^^ cstep d k := by
  have hx : h ^^^ k < 16 := Nat.xor_lt_two_pow (n := 4) hh hk
  rw [cstep_z4 _ _ hx, cstep_z4 _ _ hh, cstep_z4 _ _ hk, ← z4_xor]
  congr 1
  rw [Nat.xor_assoc, Nat.xor_assoc]; congr 1
  rw [← Nat.xor_assoc, Nat.xor_comm d h, Nat.xor_assoc]
theorem creg_cons (c : Nat) (x : UInt8) (r : List UInt8) : creg c (x :: r) = creg (cstep (cstep c (x.toNat % 16)) (x.toNat / 16)) r := rfl
theorem creg_xor (a b : List UInt8) : ∀ (c d : Nat), a.length = b.length → creg (c ^^^ d) (List.zipWith (· ^^^ ·) a b) = creg c a ^^^ creg d b := by
  induction a generalizing b with
  | nil => intro c d h; cases b with
    | nil => rfl
    | cons y r => simp at h
  | cons x a ih =>
    intro c d h
    cases b with
    | nil => simp at h
    | cons y b =>
      have hx := x.toNat_lt
      have hy := y.toNat_lt
      have e1 : (x ^^^ y).toNat % 16 = (x.toNat % 16) ^^^ (y.toNat % 16) := by
        rw [UInt8.toNat_xor, show (16 : Nat) = 2 ^ 4 from rfl, Nat.xor_mod_two_pow]
      have e2 : (x ^^^ y).toNat / 16 = (x.toNat / 16) ^^^ (y.toNat / 16) := by
        rw [UInt8.toNat_xor, show (16 : Nat) = 2 ^ 4 from rfl, ← Nat.shiftRight_eq_div_pow, ← Nat.shiftRight_eq_div_pow, ← Nat.shiftRight_eq_div_pow, Nat.shiftRight_xor_distrib]
      rw [List.zipWith_cons_cons, creg_cons, creg_cons, creg_cons, e1, e2, cstep_xor _ _ _ _ (by omega) (by omega), cstep_xor _ _ _ _ (by omega) (by omega)]
      exact ih b _ _ (by simpa using h)
/-- Byte by byte, the three's xor. -/
def x3 (xs ys zs : List UInt8) (m : Nat) : List UInt8 := (List.range m).map fun i => xs.getD i 0 ^^^ ys.getD i 0 ^^^ zs.getD i 0
theorem x3_length (xs ys zs : List UInt8) (m : Nat) : (x3 xs ys zs m).length = m := by simp [x3]
theorem x3_succ (xs ys zs : List UInt8) (m : Nat) (hx : m < xs.length) (hy : m < ys.length) (hz : m < zs.length) : x3 xs ys zs (m + 1) = x3 xs ys zs m ++ [xs[m] ^^^ ys[m] ^^^ zs[m]] := by
  simp [x3, List.range_succ, List.getD, List.getElem?_eq_getElem hx, List.getElem?_eq_getElem hy, List.getElem?_eq_getElem hz]
theorem x3_zip (xs ys zs : List UInt8) (m : Nat) (hx : m ≤ xs.length) (hy : m ≤ ys.length) (hz : m ≤ zs.length) : x3 xs ys zs m = List.zipWith (· ^^^ ·) (List.zipWith (· ^^^ ·) (xs.take m) (ys.take m)) (zs.take m) := by
  apply List.ext_getElem
  · simp [x3]; omega
  · intro i h1 h2
    rw [x3_length] at h1
    simp [x3, List.getD, List.getElem?_eq_getElem (show i < xs.length by omega), List.getElem?_eq_getElem (show i < ys.length by omega), List.getElem?_eq_getElem (show i < zs.length by omega)]
theorem crc_x3 (xs ys zs : List UInt8) (m : Nat) (hx : m ≤ xs.length) (hy : m ≤ ys.length) (hz : m ≤ zs.length) :
    crcOn 0 (x3 xs ys zs m) = crcOn 0 (xs.take m) ^^^ crcOn 0 (ys.take m) ^^^ crcOn 0 (zs.take m) := by
  have key := creg_xor (List.zipWith (· ^^^ ·) (xs.take m) (ys.take m)) (zs.take m) (4294967295 ^^^ 4294967295) 4294967295 (by simp; omega)
  rw [creg_xor (xs.take m) (ys.take m) 4294967295 4294967295 (by simp; omega), ← x3_zip xs ys zs m hx hy hz] at key
  rw [Nat.xor_self, Nat.zero_xor] at key
  simp only [crcOn_zero]
  rw [key]
  generalize creg 4294967295 (xs.take m) = a
  generalize creg 4294967295 (ys.take m) = b
  generalize creg 4294967295 (zs.take m) = c
  apply Nat.eq_of_testBit_eq
  intro i
  simp only [Nat.testBit_xor]
  cases (4294967295 : Nat).testBit i <;> cases a.testBit i <;> cases b.testBit i <;> cases c.testBit i <;> rfl
end
end Go.Proofs.Ytkibccmfgndfjaa
