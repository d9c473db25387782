/- Contracts and words that the laws stand on (CrcPlain). -/
set_option linter.unusedVariables false
set_option linter.unusedSimpArgs false
namespace Go.Proofs.Ytkibccmfgndfjaa
section
/- plain: the sum's steps -/
/-- One step of the register, a zero bit coming in. -/
def zst (c : Nat) : Nat := (c / 2) ^^^ (if c % 2 = 1 then 2197175160 else 0)
/-- Four steps. -/
def z4 (c : Nat) : Nat := zst (zst (zst (zst c)))
def zn : Nat → Nat → Nat
  | 0, c => c
  | k + 1, c => zst (zn k c)
/-- The table of four steps. -/
def tab (r : Nat) : Nat := z4 r
theorem zst_lt {c : Nat} (h : c < 4294967296) : zst c < 4294967296 := by
  unfold zst
  have : c / 2 < 2 ^ 32 := by omega
  split
  · exact Nat.xor_lt_two_pow (n := 32) this (by decide)
  · exact Nat.xor_lt_two_pow (n := 32) this (by decide)
theorem z4_lt {c : Nat} (h : c < 4294967296) : z4 c < 4294967296 := zst_lt (zst_lt (zst_lt (zst_lt h)))
theorem zst_xor (a b : Nat) : zst (a ^^^ b) = zst a ^^^ zst b := by
  have h1 : (a ^^^ b) / 2 = a / 2 ^^^ b / 2 := by
    have := Nat.shiftRight_xor_distrib (a := a) (b := b) (i := 1)
    simpa only [Nat.shiftRight_eq_div_pow, Nat.pow_one] using this
  have h2 : (a ^^^ b) % 2 = (a % 2 + b % 2) % 2 := by
    have := Nat.testBit_xor a b 0
    simp only [Nat.testBit_zero] at this
    rcases Nat.mod_two_eq_zero_or_one a with ha | ha <;> rcases Nat.mod_two_eq_zero_or_one b with hb | hb <;> rcases Nat.mod_two_eq_zero_or_one (a ^^^ b) with hc | hc <;> simp_all
  unfold zst
  rw [h1, h2]
  rcases Nat.mod_two_eq_zero_or_one a with ha | ha <;> rcases Nat.mod_two_eq_zero_or_one b with hb | hb <;> simp only [ha, hb] <;> simp
  · rw [Nat.xor_assoc]
  · rw [Nat.xor_assoc, Nat.xor_assoc]; congr 1; rw [Nat.xor_comm]
  · rw [Nat.xor_assoc, ← Nat.xor_assoc 2197175160, Nat.xor_comm 2197175160, Nat.xor_assoc, Nat.xor_self, Nat.xor_zero]
theorem z4_xor (a b : Nat) : z4 (a ^^^ b) = z4 a ^^^ z4 b := by simp only [z4, zst_xor]
theorem zst_two (c : Nat) : zst (2 * c) = c := by simp [zst]
theorem z4_16 (c : Nat) : z4 (16 * c) = c := by
  unfold z4
  rw [show 16 * c = 2 * (2 * (2 * (2 * c))) by omega, zst_two, zst_two, zst_two, zst_two]
theorem split16 (c : Nat) : c = (16 * (c / 16)) ^^^ (c % 16) := by
  have := Nat.two_pow_add_eq_or_of_lt (i := 4) (b := c % 16) (by omega) (c / 16)
  have hx : (16 * (c / 16)) ^^^ (c % 16) = 16 * (c / 16) + c % 16 := by
    rw [show (16 : Nat) * (c / 16) = 2 ^ 4 * (c / 16) from rfl, this]
    apply Nat.eq_of_testBit_eq
    intro i
    simp only [Nat.testBit_xor, Nat.testBit_or, Nat.testBit_two_pow_mul]
    by_cases hi : 4 ≤ i
    · have : (c % 16).testBit i = false := Nat.testBit_lt_two_pow (Nat.lt_of_lt_of_le (by omega : c % 16 < 2 ^ 4) (Nat.pow_le_pow_right (by omega) hi))
      simp [this]
    · simp [hi]
  omega
/-- Four steps by the table. -/
theorem z4_tab (c : Nat) : z4 c = (c / 16) ^^^ tab (c % 16) := by
  conv => lhs; rw [split16 c]
  rw [z4_xor, z4_16]; rfl
/-- A half byte comes in. -/
def cstep (c h : Nat) : Nat := (c / 16) ^^^ tab ((c ^^^ h) % 16)
theorem cstep_z4 (c h : Nat) (hh : h < 16) : cstep c h = z4 (c ^^^ h) := by
  rw [z4_tab, cstep]
  congr 1
  have : (c ^^^ h) / 16 = c / 16 ^^^ h / 16 := by
    rw [show (16 : Nat) = 2 ^ 4 from rfl, ← Nat.shiftRight_eq_div_pow, ← Nat.shiftRight_eq_div_pow, ← Nat.shiftRight_eq_div_pow, Nat.shiftRight_xor_distrib]
  rw [this, Nat.div_eq_of_lt hh, Nat.xor_zero]
theorem cstep_lt {c h : Nat} (hc : c < 4294967296) (hh : h < 16) : cstep c h < 4294967296 := by
  rw [cstep_z4 c h hh]
  exact z4_lt (Nat.xor_lt_two_pow (n := 32) hc (by omega))
/-- The halves of bytes, the lower one first. -/
def halves : List UInt8 → List Nat
  | [] => []
  | x :: r => x.toNat % 16 :: x.toNat / 16 :: halves r
def creg (c : Nat) (l : List UInt8) : Nat := (halves l).foldl cstep c
/-- The sum of bytes behind others. -/
def crcOn (sum : Nat) (l : List UInt8) : Nat := 4294967295 - creg (4294967295 - sum) l
theorem halves_append (a b : List UInt8) : halves (a ++ b) = halves a ++ halves b := by
  induction a with
  | nil => rfl
  | cons x r ih => simp [halves, ih]
theorem halves_lt (l : List UInt8) : ∀ h ∈ halves l, h < 16 := by
  induction l with
  | nil => simp [halves]
  | cons x r ih => have := x.toNat_lt; intro h hm; simp only [halves, List.mem_cons] at hm; rcases hm with rfl | rfl | hm; omega; omega; exact ih h hm
theorem creg_append (c : Nat) (a b : List UInt8) : creg c (a ++ b) = creg (creg c a) b := by simp [creg, halves_append]
theorem fold_lt (l : List Nat) : ∀ c, c < 4294967296 → (∀ h ∈ l, h < 16) → l.foldl cstep c < 4294967296 := by
  induction l with
  | nil => intro c h _; exact h
  | cons x r ih => intro c h hl; exact ih _ (cstep_lt h (hl x (by simp))) (fun y hy => hl y (by simp [hy]))
theorem creg_lt {c : Nat} (h : c < 4294967296) (l : List UInt8) : creg c l < 4294967296 := fold_lt _ _ h (halves_lt l)
theorem crcOn_lt (sum : Nat) (l : List UInt8) : crcOn sum l < 4294967296 := by unfold crcOn; omega
theorem crcOn_append (sum : Nat) (hs : sum < 4294967296) (a b : List UInt8) : crcOn sum (a ++ b) = crcOn (crcOn sum a) b := by
  have := creg_lt (c := 4294967295 - sum) (by omega) a
  simp only [crcOn, creg_append]
  congr 2
  omega
theorem crcOn_nil (sum : Nat) (hs : sum < 4294967296) : crcOn sum [] = sum := by simp [crcOn, creg, halves]; omega
end
section
/-- The lowest k bits of n, turned round. -/
def rev : Nat → Nat → Nat
  | 0, _ => 0
  | k + 1, n => 2 ^ k * (n % 2) + rev k (n / 2)
theorem rev_lt (k n : Nat) : rev k n < 2 ^ k := by
  induction k generalizing n with
  | zero => simp [rev]
  | succ k ih => have := ih (n / 2); rw [rev, Nat.pow_succ]; rcases Nat.mod_two_eq_zero_or_one n with h | h <;> rw [h] <;> omega
theorem rev_bit (k n i : Nat) : (rev k n).testBit i = (decide (i < k) && n.testBit (k - 1 - i)) := by
  induction k generalizing n with
  | zero => simp [rev]
  | succ k ih =>
    rw [rev, Nat.testBit_two_pow_mul_add _ (rev_lt _ _)]
    by_cases hi : i < k
    · rw [if_pos hi, ih]
      have e : k + 1 - 1 - i = (k - 1 - i) + 1 := by omega
      rw [e, Nat.testBit_succ]
      simp [hi, show i < k + 1 by omega]
    · rw [if_neg hi]
      by_cases h2 : i = k
      · subst h2
        simp
      · have : ¬ i < k + 1 := by omega
        simp only [this, decide_false, Bool.false_and]
        refine Nat.testBit_lt_two_pow (Nat.lt_of_lt_of_le (Nat.mod_lt n (by omega)) ?_)
        have : i - k = (i - k - 1) + 1 := by omega
        rw [this, Nat.pow_succ]; have := Nat.two_pow_pos (i - k - 1); omega
theorem rev_xor (k a b : Nat) : rev k (a ^^^ b) = rev k a ^^^ rev k b := by
  apply Nat.eq_of_testBit_eq; intro i
  simp only [Nat.testBit_xor, rev_bit]
  cases decide (i < k) <;> simp
theorem rev_rev (k n : Nat) (h : n < 2 ^ k) : rev k (rev k n) = n := by
  apply Nat.eq_of_testBit_eq; intro i
  rw [rev_bit, rev_bit]
  by_cases hi : i < k
  · simp [hi, show k - 1 - i < k by omega, show k - 1 - (k - 1 - i) = i by omega]
  · simp [hi]; exact Nat.testBit_lt_two_pow (Nat.lt_of_lt_of_le h (Nat.pow_le_pow_right (n := 2) (by omega) (by omega : k ≤ i)))
/-- The loop of 'about'. -/
def abo : Nat → Nat → Nat → Nat
  | 0, v, _ => v
  | k + 1, v, n => abo k (2 * v + n % 2) (n / 2)
theorem abo_rev (k v n : Nat) : abo k v n = 2 ^ k * v + rev k n := by
  induction k generalizing v n with
  | zero => simp [abo, rev]
  | succ k ih => rw [abo, ih, rev, Nat.pow_succ, Nat.mul_add]; simp only [Nat.mul_assoc, Nat.add_assoc]
/-- A bit comes in from above. -/
def rst (r b : Nat) : Nat := if (r / 2147483648 + b) % 2 = 1 then ((2 * r) % 4294967296) ^^^ 517762881 else (2 * r) % 4294967296
theorem rev_half (c : Nat) (h : c < 4294967296) : rev 32 (c / 2) = (2 * rev 32 c) % 4294967296 := by
  apply Nat.eq_of_testBit_eq; intro i
  rw [show (4294967296 : Nat) = 2 ^ 32 from rfl, Nat.testBit_mod_two_pow, rev_bit]
  by_cases hi : i < 32
  · cases i with
    | zero => simp [Nat.testBit_zero]; rw [show c / 2 = c / 2 from rfl]; exact Nat.testBit_lt_two_pow (by omega)
    | succ i =>
      rw [show 2 * rev 32 c = 2 ^ 1 * rev 32 c by rfl, Nat.testBit_two_pow_mul]
      simp only [hi, decide_true, Bool.true_and, show i + 1 ≥ 1 by omega, Nat.add_sub_cancel, rev_bit, show i < 32 by omega]
      rw [← Nat.testBit_succ, show (32 - 1 - (i + 1)).succ = 32 - 1 - i by omega]
  · simp [hi]
theorem rev_top (c : Nat) (h : c < 4294967296) : rev 32 c / 2147483648 = c % 2 := by
  have h2 := rev_lt 31 (c / 2)
  rw [rev]
  rcases Nat.mod_two_eq_zero_or_one c with h | h <;> rw [h] <;> omega
theorem xor_mod2 (a b : Nat) : (a ^^^ b) % 2 = (a % 2 + b % 2) % 2 := by
  have := Nat.testBit_xor a b 0
  simp only [Nat.testBit_zero] at this
  rcases Nat.mod_two_eq_zero_or_one a with ha | ha <;> rcases Nat.mod_two_eq_zero_or_one b with hb | hb <;> rcases Nat.mod_two_eq_zero_or_one (a ^^^ b) with hc | hc <;> simp_all
theorem xor_bit (c b : Nat) (hb : b < 2) : (c ^^^ b) / 2 = c / 2 ∧ (c ^^^ b) % 2 = (c % 2 + b) % 2 := by
  constructor
  · have := Nat.shiftRight_xor_distrib (a := c) (b := b) (i := 1)
    simp only [Nat.shiftRight_eq_div_pow, Nat.pow_one] at this
    rw [this, Nat.div_eq_of_lt hb, Nat.xor_zero]
  · have := xor_mod2 c b; omega
theorem rst_rev (c b : Nat) (h : c < 4294967296) (hb : b < 2) : rst (rev 32 c) b = rev 32 (zst (c ^^^ b)) := by
  obtain ⟨h1, h2⟩ := xor_bit c b hb
  rw [rst, rev_top c h, ← rev_half c h, zst, h1, h2, rev_xor]
  split
  · congr 1
  · rw [show rev 32 0 = 0 by decide, Nat.xor_zero]
/-- The bits of x, the lowest first, come in. -/
def bfold : Nat → Nat → Nat → Nat
  | 0, c, _ => c
  | k + 1, c, x => bfold k (zst (c ^^^ (x % 2))) (x / 2)
theorem zn_comm (k c : Nat) : zn k (zst c) = zst (zn k c) := by
  induction k with
  | zero => rfl
  | succ k ih => rw [zn, ih, zn]
theorem bfold_zn (k c x : Nat) (h : x < 2 ^ k) : bfold k c x = zn k (c ^^^ x) := by
  induction k generalizing c x with
  | zero => have : x = 0 := by simp at h; omega
            subst this; simp [bfold, zn]
  | succ k ih =>
    rw [Nat.pow_succ] at h
    rw [bfold, ih _ _ (by omega), zn, ← zn_comm]
    congr 1
    conv => lhs; rw [← zst_two (x / 2), ← zst_xor]
    congr 1
    rw [Nat.xor_assoc]
    congr 1
    have := (xor_bit (2 * (x / 2)) (x % 2) (by omega))
    have h3 : 2 * (x / 2) ^^^ x % 2 = x := by
      have h4 := Nat.div_add_mod (2 * (x / 2) ^^^ x % 2) 2
      rw [this.1, this.2] at h4
      omega
    rw [Nat.xor_comm]; exact h3
theorem bfold_cstep (c x : Nat) (hx : x < 256) : bfold 8 c x = cstep (cstep c (x % 16)) (x / 16) := by
  rw [bfold_zn 8 c x (by omega), cstep_z4 _ _ (by omega), cstep_z4 _ _ (by omega)]
  conv => rhs; rw [← z4_16 (x / 16), ← z4_xor, Nat.xor_assoc]
  have h3 : x % 16 ^^^ 16 * (x / 16) = x := by rw [Nat.xor_comm]; exact (split16 x).symm
  rw [h3]; rfl
end
end Go.Proofs.Ytkibccmfgndfjaa
