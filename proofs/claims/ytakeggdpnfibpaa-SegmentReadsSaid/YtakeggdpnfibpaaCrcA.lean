/- Contracts and words that the laws stand on (CrcA). -/
import Derived.Laws.BitsAllLaws
import Derived.WalkMore
import Derived.ScopeJumps
import Derived.Laws.Tables
import Derived.Test.YtakeggdpnfibpaaEyeA
import Derived.Test.YtakeggdpnfibpaaLawA
set_option linter.unusedVariables false
set_option linter.unusedSimpArgs false
namespace Go.Proofs.Ytakeggdpnfibpaa
section
/- plain: the sum's steps -/
/-- One step of the register, a zero bit coming in. -/
def zst (c : Nat) : Nat := (c / 2) ^^^ (if c % 2 = 1 then 2197175160 else 0)
/-- Four steps. -/
def z4 (c : Nat) : Nat := zst (zst (zst (zst c)))
def zn : Nat → Nat → Nat
  | 0, c => c
  | k + 1, c => zst (zn k c)
/-- The table of four steps. -/
def tab (r : Nat) : Nat := z4 r
theorem zst_lt {c : Nat} (h : c < 4294967296) : zst c < 4294967296 := by
  unfold zst
  have : c / 2 < 2 ^ 32 := by omega
  split
  · exact Nat.xor_lt_two_pow (n := 32) this (by decide)
  · exact Nat.xor_lt_two_pow (n := 32) this (by decide)
theorem z4_lt {c : Nat} (h : c < 4294967296) : z4 c < 4294967296 := zst_lt (zst_lt (zst_lt (zst_lt h)))
theorem zst_xor (a b : Nat) : zst (a ^^^ b) = zst a ^^^ zst b := by
  have h1 : (a ^^^ b) / 2 = a / 2 ^^^ b / 2 := by
    have := Nat.shiftRight_xor_distrib (a := a) (b := b) (i := 1)
    simpa only [Nat.shiftRight_eq_div_pow, Nat.pow_one] using this
  have h2 : (a ^^^ b) % 2 = (a % 2 + b % 2) % 2 := by
    have := Nat.testBit_xor a b 0
    simp only [Nat.testBit_zero] at this
    rcases Nat.mod_two_eq_zero_or_one a with ha | ha <;> rcases Nat.mod_two_eq_zero_or_one b with hb | hb <;> rcases Nat.mod_two_eq_zero_or_one (a ^^^ b) with hc | hc <;> simp_all
  unfold zst
  rw [h1, h2]
  rcases Nat.mod_two_eq_zero_or_one a with ha | ha <;> rcases Nat.mod_two_eq_zero_or_one b with hb | hb <;> simp only [ha, hb] <;> simp
  · rw [Nat.xor_assoc]
  · rw [Nat.xor_assoc, Nat.xor_assoc]; congr 1; rw [Nat.xor_comm]
  · rw [Nat.xor_assoc, ← Nat.xor_assoc 2197175160, Nat.xor_comm 2197175160, Nat.xor_assoc, Nat.xor_self, Nat.xor_zero]
theorem z4_xor (a b : Nat) : z4 (a ^^^ b) = z4 a ^^^ z4 b := by simp only [z4, zst_xor]
theorem zst_two (c : Nat) : zst (2 * c) = c := by simp [zst]
theorem z4_16 (c : Nat) : z4 (16 * c) = c := by
  unfold z4
  rw [show 16 * c = 2 * (2 * (2 * (2 * c))) by omega, zst_two, zst_two, zst_two, zst_two]
theorem split16 (c : Nat) : c = (16 * (c / 16)) ^^^ (c % 16) := by
  have := Nat.two_pow_add_eq_or_of_lt (i := 4) (b := c % 16) (by omega) (c / 16)
  have hx : (16 * (c / 16)) ^^^ (c % 16) = 16 * (c / 16) + c % 16 := by
    rw [show (16 : Nat) * (c / 16) = 2 ^ 4 * (c / 16) from rfl, this]
    apply Nat.eq_of_testBit_eq
    intro i
    simp only [Nat.testBit_xor, Nat.testBit_or, Nat.testBit_two_pow_mul]
    by_cases hi : 4 ≤ i
    · have : (c % 16).testBit i = false := Nat.testBit_lt_two_pow (Nat.lt_of_lt_of_le (by omega : c % 16 < 2 ^ 4) (Nat.pow_le_pow_right (by omega) hi))
      simp [this]
    · simp [hi]
  omega
/-- Four steps by the table. -/
theorem z4_tab (c : Nat) : z4 c = (c / 16) ^^^ tab (c % 16) := by
  conv => lhs; rw [split16 c]
  rw [z4_xor, z4_16]; rfl
/-- A half byte comes in. -/
def cstep (c h : Nat) : Nat := (c / 16) ^^^ tab ((c ^^^ h) % 16)
theorem cstep_z4 (c h : Nat) (hh : h < 16) : cstep c h = z4 (c ^^^ h) := by
  rw [z4_tab, cstep]
  congr 1
  have : (c ^^^ h) / 16 = c / 16 ^^^ h / 16 := by
    rw [show (16 : Nat) = 2 ^ 4 from rfl, ← Nat.shiftRight_eq_div_pow, ← Nat.shiftRight_eq_div_pow, ← Nat.shiftRight_eq_div_pow, Nat.shiftRight_xor_distrib]
  rw [this, Nat.div_eq_of_lt hh, Nat.xor_zero]
theorem cstep_lt {c h : Nat} (hc : c < 4294967296) (hh : h < 16) : cstep c h < 4294967296 := by
  rw [cstep_z4 c h hh]
  exact z4_lt (Nat.xor_lt_two_pow (n := 32) hc (by omega))
/-- The halves of bytes, the lower one first. -/
def halves : List UInt8 → List Nat
  | [] => []
  | x :: r => x.toNat % 16 :: x.toNat / 16 :: halves r
def creg (c : Nat) (l : List UInt8) : Nat := (halves l).foldl cstep c
/-- The sum of bytes behind others. -/
def crcOn (sum : Nat) (l : List UInt8) : Nat := 4294967295 - creg (4294967295 - sum) l
theorem halves_append (a b : List UInt8) : halves (a ++ b) = halves a ++ halves b := by
  induction a with
  | nil => rfl
  | cons x r ih => simp [halves, ih]
theorem halves_lt (l : List UInt8) : ∀ h ∈ halves l, h < 16 := by
  induction l with
  | nil => simp [halves]
  | cons x r ih => have := x.toNat_lt; intro h hm; simp only [halves, List.mem_cons] at hm; rcases hm with rfl | rfl | hm; omega; omega; exact ih h hm
theorem creg_append (c : Nat) (a b : List UInt8) : creg c (a ++ b) = creg (creg c a) b := by simp [creg, halves_append]
theorem fold_lt (l : List Nat) : ∀ c, c < 4294967296 → (∀ h ∈ l, h < 16) → l.foldl cstep c < 4294967296 := by
  induction l with
  | nil => intro c h _; exact h
  | cons x r ih => intro c h hl; exact ih _ (cstep_lt h (hl x (by simp))) (fun y hy => hl y (by simp [hy]))
theorem creg_lt {c : Nat} (h : c < 4294967296) (l : List UInt8) : creg c l < 4294967296 := fold_lt _ _ h (halves_lt l)
theorem crcOn_lt (sum : Nat) (l : List UInt8) : crcOn sum l < 4294967296 := by unfold crcOn; omega
theorem crcOn_append (sum : Nat) (hs : sum < 4294967296) (a b : List UInt8) : crcOn sum (a ++ b) = crcOn (crcOn sum a) b := by
  have := creg_lt (c := 4294967295 - sum) (by omega) a
  simp only [crcOn, creg_append]
  congr 2
  omega
theorem crcOn_nil (sum : Nat) (hs : sum < 4294967296) : crcOn sum [] = sum := by simp [crcOn, creg, halves]; omega
end
section
/-- The lowest k bits of n, turned round. -/
def rev : Nat → Nat → Nat
  | 0, _ => 0
  | k + 1, n => 2 ^ k * (n % 2) + rev k (n / 2)
theorem rev_lt (k n : Nat) : rev k n < 2 ^ k := by
  induction k generalizing n with
  | zero => simp [rev]
  | succ k ih => have := ih (n / 2); rw [rev, Nat.pow_succ]; rcases Nat.mod_two_eq_zero_or_one n with h | h <;> rw [h] <;> omega
theorem rev_bit (k n i : Nat) : (rev k n).testBit i = (decide (i < k) && n.testBit (k - 1 - i)) := by
  induction k generalizing n with
  | zero => simp [rev]
  | succ k ih =>
    rw [rev, Nat.testBit_two_pow_mul_add _ (rev_lt _ _)]
    by_cases hi : i < k
    · rw [if_pos hi, ih]
      have e : k + 1 - 1 - i = (k - 1 - i) + 1 := by omega
      rw [e, Nat.testBit_succ]
      simp [hi, show i < k + 1 by omega]
    · rw [if_neg hi]
      by_cases h2 : i = k
      · subst h2
        simp
      · have : ¬ i < k + 1 := by omega
        simp only [this, decide_false, Bool.false_and]
        refine Nat.testBit_lt_two_pow (Nat.lt_of_lt_of_le (Nat.mod_lt n (by omega)) ?_)
        have : i - k = (i - k - 1) + 1 := by omega
        rw [this, Nat.pow_succ]; have := Nat.two_pow_pos (i - k - 1); omega
theorem rev_xor (k a b : Nat) : rev k (a ^^^ b) = rev k a ^^^ rev k b := by
  apply Nat.eq_of_testBit_eq; intro i
  simp only [Nat.testBit_xor, rev_bit]
  cases decide (i < k) <;> simp
theorem rev_rev (k n : Nat) (h : n < 2 ^ k) : rev k (rev k n) = n := by
  apply Nat.eq_of_testBit_eq; intro i
  rw [rev_bit, rev_bit]
  by_cases hi : i < k
  · simp [hi, show k - 1 - i < k by omega, show k - 1 - (k - 1 - i) = i by omega]
  · simp [hi]; exact Nat.testBit_lt_two_pow (Nat.lt_of_lt_of_le h (Nat.pow_le_pow_right (n := 2) (by omega) (by omega : k ≤ i)))
/-- The loop of 'about'. -/
def abo : Nat → Nat → Nat → Nat
  | 0, v, _ => v
  | k + 1, v, n => abo k (2 * v + n % 2) (n / 2)
theorem abo_rev (k v n : Nat) : abo k v n = 2 ^ k * v + rev k n := by
  induction k generalizing v n with
  | zero => simp [abo, rev]
  | succ k ih => rw [abo, ih, rev, Nat.pow_succ, Nat.mul_add]; simp only [Nat.mul_assoc, Nat.add_assoc]
/-- A bit comes in from above. -/
def rst (r b : Nat) : Nat := if (r / 2147483648 + b) % 2 = 1 then ((2 * r) % 4294967296) ^^^ 517762881 else (2 * r) % 4294967296
theorem rev_half (c : Nat) (h : c < 4294967296) : rev 32 (c / 2) = (2 * rev 32 c) % 4294967296 := by
  apply Nat.eq_of_testBit_eq; intro i
  rw [show (4294967296 : Nat) = 2 ^ 32 from rfl, Nat.testBit_mod_two_pow, rev_bit]
  by_cases hi : i < 32
  · cases i with
    | zero => simp [Nat.testBit_zero]; rw [show c / 2 = c / 2 from rfl]; exact Nat.testBit_lt_two_pow (by omega)
    | succ i =>
      rw [show 2 * rev 32 c = 2 ^ 1 * rev 32 c by rfl, Nat.testBit_two_pow_mul]
      simp only [hi, decide_true, Bool.true_and, show i + 1 ≥ 1 by omega, Nat.add_sub_cancel, rev_bit, show i < 32 by omega]
      rw [← Nat.testBit_succ, show (32 - 1 - (i + 1)).succ = 32 - 1 - i by omega]
  · simp [hi]
theorem rev_top (c : Nat) (h : c < 4294967296) : rev 32 c / 2147483648 = c % 2 := by
  have h2 := rev_lt 31 (c / 2)
  rw [rev]
  rcases Nat.mod_two_eq_zero_or_one c with h | h <;> rw [h] <;> omega
theorem xor_mod2 (a b : Nat) : (a ^^^ b) % 2 = (a % 2 + b % 2) % 2 := by
  have := Nat.testBit_xor a b 0
  simp only [Nat.testBit_zero] at this
  rcases Nat.mod_two_eq_zero_or_one a with ha | ha <;> rcases Nat.mod_two_eq_zero_or_one b with hb | hb <;> rcases Nat.mod_two_eq_zero_or_one (a ^^^ b) with hc | hc <;> simp_all
theorem xor_bit (c b : Nat) (hb : b < 2) : (c ^^^ b) / 2 = c / 2 ∧ (c ^^^ b) % 2 = (c % 2 + b) % 2 := by
  constructor
  · have := Nat.shiftRight_xor_distrib (a := c) (b := b) (i := 1)
    simp only [Nat.shiftRight_eq_div_pow, Nat.pow_one] at this
    rw [this, Nat.div_eq_of_lt hb, Nat.xor_zero]
  · have := xor_mod2 c b; omega
theorem rst_rev (c b : Nat) (h : c < 4294967296) (hb : b < 2) : rst (rev 32 c) b = rev 32 (zst (c ^^^ b)) := by
  obtain ⟨h1, h2⟩ := xor_bit c b hb
  rw [rst, rev_top c h, ← rev_half c h, zst, h1, h2, rev_xor]
  split
  · congr 1
  · rw [show rev 32 0 = 0 by decide, Nat.xor_zero]
/-- The bits of x, the lowest first, come in. -/
def bfold : Nat → Nat → Nat → Nat
  | 0, c, _ => c
  | k + 1, c, x => bfold k (zst (c ^^^ (x % 2))) (x / 2)
theorem zn_comm (k c : Nat) : zn k (zst c) = zst (zn k c) := by
  induction k with
  | zero => rfl
  | succ k ih => rw [zn, ih, zn]
theorem bfold_zn (k c x : Nat) (h : x < 2 ^ k) : bfold k c x = zn k (c ^^^ x) := by
  induction k generalizing c x with
  | zero => have : x = 0 := by simp at h; omega
            subst this; simp [bfold, zn]
  | succ k ih =>
    rw [Nat.pow_succ] at h
    rw [bfold, ih _ _ (by omega), zn, ← zn_comm]
    congr 1
    conv => lhs; rw [← zst_two (x / 2), ← zst_xor]
    congr 1
    rw [Nat.xor_assoc]
    congr 1
    have := (xor_bit (2 * (x / 2)) (x % 2) (by omega))
    have h3 : 2 * (x / 2) ^^^ x % 2 = x := by
      have h4 := Nat.div_add_mod (2 * (x / 2) ^^^ x % 2) 2
      rw [this.1, this.2] at h4
      omega
    rw [Nat.xor_comm]; exact h3
theorem bfold_cstep (c x : Nat) (hx : x < 256) : bfold 8 c x = cstep (cstep c (x % 16)) (x / 16) := by
  rw [bfold_zn 8 c x (by omega), cstep_z4 _ _ (by omega), cstep_z4 _ _ (by omega)]
  conv => rhs; rw [← z4_16 (x / 16), ← z4_xor, Nat.xor_assoc]
  have h3 : x % 16 ^^^ 16 * (x / 16) = x := by rw [Nat.xor_comm]; exact (split16 x).symm
  rw [h3]; rfl
end
section
open Go.RowKit Go.Proofs
/-- The first i rows stand. -/
def FourC (i : Nat) (C : Array Value) : Prop := C.size = 16 ∧ ∀ j, j < i → C[j]? = some (.int .u32 (tab j : Nat))
def FourRel (w0 : World) (v : Value) (w' : World) : Prop :=
  ∃ (i : Nat) (C : Array Value), i ≤ 16 ∧ v = .int .i64 i ∧ w'.heap[w0.heap.size]? = some (.cells C 104 (0, 0)) ∧ FourC i C ∧ Below w0.heap.size w0 w'
def InRel (i : Nat) (W : World) (v x : Value) (w' : World) : Prop :=
  ∃ j : Nat, j ≤ 4 ∧ v = .int .i64 j ∧ x = .int .u32 (zn j i : Nat) ∧ w' = W
theorem FourC.step {i : Nat} {C : Array Value} (h : FourC i C) (hi : i < 16) : FourC (i + 1) (C.setIfInBounds i (.int .u32 (tab i : Nat))) := by
  refine ⟨by rw [Array.size_setIfInBounds]; exact h.1, fun j hj => ?_⟩
  by_cases e : j = i
  · subst e; rw [Array.getElem?_setIfInBounds_self_of_lt (by have := h.1; omega)]
  · rw [Array.getElem?_setIfInBounds_ne (by omega)]; exact h.2 j (by omega)
theorem zn_lt {c : Nat} (h : c < 4294967296) : ∀ k, zn k c < 4294967296
  | 0 => h
  | k + 1 => zst_lt (zn_lt h k)
theorem FourC.done {C : Array Value} (h : FourC 16 C) : C = ((List.range 16).map fun j => Value.int .u32 (tab j : Nat)).toArray := by
  apply Array.ext_getElem?
  intro j
  by_cases hj : j < 16
  · rw [h.2 j hj]; simp [hj]
  · rw [Array.getElem?_eq_none (by have := h.1; omega)]; simp [hj]
/-- The table's cells. -/
def tabC : Array Value := (((List.range 16).map fun j => Value.int .u32 (tab j : Nat)).toArray)
theorem tab_info : (Try.prog.info? 104).map (·.size) = some tabC.size := by kernel_rfl
set_option maxHeartbeats 400000 in
set_option maxRecDepth 100000 in
theorem fours_any (w : World) : Calls Try.prog 65 #[] w fun e w' => e = .returned (.agg tabC) ∧ Below w.heap.size w w' := by
  go_enter Try.func65, Try.ntmps65
  go_wp2_with fail
  go_loopw [4] (fun s4 w' => FourRel w s4 w') (fun s4 _ => 16 - (intOf s4).toNat)
  case atStart => exact ⟨0, _, by omega, rfl, heap_alloc_new w _, ⟨rfl, fun j hj => by omega⟩, (Below.refl _ _).alloc (Nat.le_refl _) _⟩
  case round =>
    obtain ⟨i, C, hi, rfl, hb, hC, hbel⟩ := hrel
    have HB := Lib.hid hb; have HC := Lib.hid hC; have HBel := Lib.hid hbel
    clear hb hC hbel
    by_cases hlt : i < 16
    · have wi : IntKind.u32.wrap (i : Int) = (i : Int) := by rw [IntKind.wrap_u32]; omega
      go_wp2_with fail
      go_step3
      go_wp2_with fail
      go_step3
      go_wp2_with fail
      go_loopw [9, 2] (fun s9 s2 w' => InRel i wr s9 s2 w') (fun s9 _ _ => 4 - (intOf s9).toNat)
      case atStart => exact ⟨0, by omega, rfl, rfl, rfl⟩
      case round =>
        obtain ⟨j, hj, rfl, rfl, rfl⟩ := hrel
        by_cases hjl : j < 4
        · have hm := zn_lt (c := i) (by omega) j
          generalize he : zn j i = m at hm
          have hz : zn (j + 1) i = zst m := by rw [zn, he]
          have HZ := Lib.hid hz; clear hz he
          by_cases h1 : m % 2 = 1
          · have ha : bits .and .u32 (m : Int) 1 = 1 := by
              have := u32_and_nat m 1 hm (by omega); rw [Nat.and_one_is_mod, h1] at this; exact this
            have hx : bits .xor .u32 ((m : Int) / 2) 2197175160 = ((zst m : Nat) : Int) := by
              have := u32_xor_nat (m / 2) 2197175160 (by omega) (by omega)
              rw [zst, if_pos h1]; exact this
            clear h1
            go_wp2_with fail
            go_roundw
            case rel => exact ⟨j + 1, by omega, by go_num, by rw [HZ.out], rfl⟩
            case measure => simp [intOf]; omega
          · have ha : bits .and .u32 (m : Int) 1 = 0 := by
              have := u32_and_nat m 1 hm (by omega); rw [Nat.and_one_is_mod, show m % 2 = 0 by omega] at this; exact this
            have hx : ((m : Int) / 2) = ((zst m : Nat) : Int) := by
              rw [zst, if_neg h1]; simp
            clear h1
            go_wp2_with fail
            go_roundw
            case rel => exact ⟨j + 1, by omega, by go_num, by rw [HZ.out, ← hx], rfl⟩
            case measure => simp [intOf]; omega
        · obtain rfl : j = 4 := by omega
          have hsz := HC.out.1
          have hcl := blk_cell HB.out i
          have hfr := blk_free HB.out i
          rw [Array.getElem?_eq_getElem (by omega)] at hcl
          go_wp2_with fail
          rw [Exit.noGoto_normal]
          have hb2 := blk_set HB.out i (.int .u32 (zn 4 i : Nat))
          go_wp2_with fail
          go_roundw
          case rel => exact ⟨i + 1, _, by omega, by go_num, hb2, HC.out.step hlt, HBel.out.setCell (Nat.le_refl _) _⟩
          case measure => simp [intOf]; omega
    · obtain rfl : i = 16 := by omega
      have hc : ∀ j, j < 16 → wr.cell? ⟨w.heap.size, j, none⟩ = some (.int .u32 (tab j : Nat)) := fun j hj => (blk_cell HB.out j).trans (HC.out.2 j hj)
      have hc0 := hc 0 (by omega)
      have hc1 := hc 1 (by omega)
      have hc2 := hc 2 (by omega)
      have hc3 := hc 3 (by omega)
      have hc4 := hc 4 (by omega)
      have hc5 := hc 5 (by omega)
      have hc6 := hc 6 (by omega)
      have hc7 := hc 7 (by omega)
      have hc8 := hc 8 (by omega)
      have hc9 := hc 9 (by omega)
      have hc10 := hc 10 (by omega)
      have hc11 := hc 11 (by omega)
      have hc12 := hc 12 (by omega)
      have hc13 := hc 13 (by omega)
      have hc14 := hc 14 (by omega)
      have hc15 := hc 15 (by omega)
      have hf0 := blk_free HB.out 0
      have hf1 := blk_free HB.out 1
      have hf2 := blk_free HB.out 2
      have hf3 := blk_free HB.out 3
      have hf4 := blk_free HB.out 4
      have hf5 := blk_free HB.out 5
      have hf6 := blk_free HB.out 6
      have hf7 := blk_free HB.out 7
      have hf8 := blk_free HB.out 8
      have hf9 := blk_free HB.out 9
      have hf10 := blk_free HB.out 10
      have hf11 := blk_free HB.out 11
      have hf12 := blk_free HB.out 12
      have hf13 := blk_free HB.out 13
      have hf14 := blk_free HB.out 14
      have hf15 := blk_free HB.out 15
      clear hc
      have hCC : (C |>.setIfInBounds 0 (Value.int .u32 (tab 0 : Nat)) |>.setIfInBounds 1 (Value.int .u32 (tab 1 : Nat)) |>.setIfInBounds 2 (Value.int .u32 (tab 2 : Nat)) |>.setIfInBounds 3 (Value.int .u32 (tab 3 : Nat)) |>.setIfInBounds 4 (Value.int .u32 (tab 4 : Nat)) |>.setIfInBounds 5 (Value.int .u32 (tab 5 : Nat)) |>.setIfInBounds 6 (Value.int .u32 (tab 6 : Nat)) |>.setIfInBounds 7 (Value.int .u32 (tab 7 : Nat)) |>.setIfInBounds 8 (Value.int .u32 (tab 8 : Nat)) |>.setIfInBounds 9 (Value.int .u32 (tab 9 : Nat)) |>.setIfInBounds 10 (Value.int .u32 (tab 10 : Nat)) |>.setIfInBounds 11 (Value.int .u32 (tab 11 : Nat)) |>.setIfInBounds 12 (Value.int .u32 (tab 12 : Nat)) |>.setIfInBounds 13 (Value.int .u32 (tab 13 : Nat)) |>.setIfInBounds 14 (Value.int .u32 (tab 14 : Nat)) |>.setIfInBounds 15 (Value.int .u32 (tab 15 : Nat))) = tabC := by rw [HC.out.done]; rfl
      go_wp2_with fail
      have hg := HB.out
      replace hg := blk_set hg 0 (.int .u32 (tab 0 : Nat))
      replace hg := blk_set hg 1 (.int .u32 (tab 1 : Nat))
      replace hg := blk_set hg 2 (.int .u32 (tab 2 : Nat))
      replace hg := blk_set hg 3 (.int .u32 (tab 3 : Nat))
      replace hg := blk_set hg 4 (.int .u32 (tab 4 : Nat))
      replace hg := blk_set hg 5 (.int .u32 (tab 5 : Nat))
      replace hg := blk_set hg 6 (.int .u32 (tab 6 : Nat))
      replace hg := blk_set hg 7 (.int .u32 (tab 7 : Nat))
      replace hg := blk_set hg 8 (.int .u32 (tab 8 : Nat))
      replace hg := blk_set hg 9 (.int .u32 (tab 9 : Nat))
      replace hg := blk_set hg 10 (.int .u32 (tab 10 : Nat))
      replace hg := blk_set hg 11 (.int .u32 (tab 11 : Nat))
      replace hg := blk_set hg 12 (.int .u32 (tab 12 : Nat))
      replace hg := blk_set hg 13 (.int .u32 (tab 13 : Nat))
      replace hg := blk_set hg 14 (.int .u32 (tab 14 : Nat))
      replace hg := blk_set hg 15 (.int .u32 (tab 15 : Nat))
      rw [hCC] at hg
      have hbl := HBel.out
      replace hbl := hbl.setCell (p := ⟨w.heap.size, 0, none⟩) (Nat.le_refl _) (.int .u32 (tab 0 : Nat))
      replace hbl := hbl.setCell (p := ⟨w.heap.size, 1, none⟩) (Nat.le_refl _) (.int .u32 (tab 1 : Nat))
      replace hbl := hbl.setCell (p := ⟨w.heap.size, 2, none⟩) (Nat.le_refl _) (.int .u32 (tab 2 : Nat))
      replace hbl := hbl.setCell (p := ⟨w.heap.size, 3, none⟩) (Nat.le_refl _) (.int .u32 (tab 3 : Nat))
      replace hbl := hbl.setCell (p := ⟨w.heap.size, 4, none⟩) (Nat.le_refl _) (.int .u32 (tab 4 : Nat))
      replace hbl := hbl.setCell (p := ⟨w.heap.size, 5, none⟩) (Nat.le_refl _) (.int .u32 (tab 5 : Nat))
      replace hbl := hbl.setCell (p := ⟨w.heap.size, 6, none⟩) (Nat.le_refl _) (.int .u32 (tab 6 : Nat))
      replace hbl := hbl.setCell (p := ⟨w.heap.size, 7, none⟩) (Nat.le_refl _) (.int .u32 (tab 7 : Nat))
      replace hbl := hbl.setCell (p := ⟨w.heap.size, 8, none⟩) (Nat.le_refl _) (.int .u32 (tab 8 : Nat))
      replace hbl := hbl.setCell (p := ⟨w.heap.size, 9, none⟩) (Nat.le_refl _) (.int .u32 (tab 9 : Nat))
      replace hbl := hbl.setCell (p := ⟨w.heap.size, 10, none⟩) (Nat.le_refl _) (.int .u32 (tab 10 : Nat))
      replace hbl := hbl.setCell (p := ⟨w.heap.size, 11, none⟩) (Nat.le_refl _) (.int .u32 (tab 11 : Nat))
      replace hbl := hbl.setCell (p := ⟨w.heap.size, 12, none⟩) (Nat.le_refl _) (.int .u32 (tab 12 : Nat))
      replace hbl := hbl.setCell (p := ⟨w.heap.size, 13, none⟩) (Nat.le_refl _) (.int .u32 (tab 13 : Nat))
      replace hbl := hbl.setCell (p := ⟨w.heap.size, 14, none⟩) (Nat.le_refl _) (.int .u32 (tab 14 : Nat))
      replace hbl := hbl.setCell (p := ⟨w.heap.size, 15, none⟩) (Nat.le_refl _) (.int .u32 (tab 15 : Nat))
      generalize World.setCell _ _ _ = W at hg hbl ⊢
      clear hCC hc0 hc1 hc2 hc3 hc4 hc5 hc6 hc7 hc8 hc9 hc10 hc11 hc12 hc13 hc14 hc15 hf0 hf1 hf2 hf3 hf4 hf5 hf6 hf7 hf8 hf9 hf10 hf11 hf12 hf13 hf14 hf15
      have HG := results_cell_row (P := Try.prog) (fn := Try.f65) (p := 0) (ty := 104) rfl #[.pointer (some ⟨w.heap.size, 0, none⟩)] W w.heap.size 104 tabC (0, 0) _ rfl hg Try.underlying104 rfl tab_info
      refine bodyPost_ret (v := .agg tabC) (results_cell_row (p := 0) (ty := 104) rfl _ _ w.heap.size 104 tabC (0, 0) _ (by rfl) hg Try.underlying104 rfl tab_info) rfl ⟨rfl, hbl⟩
end
section
open Go.RowKit Go.Proofs Go.Shelf
attribute [local go_sem] Oper.semAt_some

/-- The halves with their numbers. -/
def hit : Nat → List UInt8 → List (Nat × Nat)
  | _, [] => []
  | i, x :: r => (2 * i, x.toNat % 16) :: (2 * i + 1, x.toNat / 16) :: hit (i + 1) r
theorem hit_length (i : Nat) (l : List UInt8) : (hit i l).length = 2 * l.length := by
  induction l generalizing i with
  | nil => rfl
  | cons x r ih => simp [hit, ih]; omega
theorem hit_halves (i : Nat) (l : List UInt8) : (hit i l).map Prod.snd = halves l := by
  induction l generalizing i with
  | nil => rfl
  | cons x r ih => simp [hit, ih, halves]
def enc2 (x : Nat × Nat) : Array Value := #[.int .i64 (x.1 : Int), .int .u32 ((x.2 % 16 : Nat) : Int)]

set_option maxHeartbeats 1000000 in
set_option maxRecDepth 100000 in
theorem halves1_in (F : Fence) (n : Nat) (h73 : F.fn 70) (hro : F.round = none) (hn : 1 ≤ n) (X : Nat → Prop) (e : Nat) (u : Value) (xs : List UInt8) (w : World)
    (he : w.cell? ⟨e, 0, none⟩ = some u) (hu : HB w u xs) (hl : xs.length ≤ 1000000)
    (hXe : X e) (hXu : ∀ g, xs ≠ [] → u.ownBlock = some g → X g) (hX : ∀ k, X k → k < w.heap.size) :
    SeqStopsK F n Try.prog 70 #[.pointer (some ⟨e, 0, none⟩)] enc2 (Keeps X) (fun ys => ys = hit 0 xs) (fun pre => pre <+: hit 0 xs) (2 * xs.length) w := by
  intro l J Jx W hW hJ hJx hY h0
  have hK := Keeps.of_below hW hX
  have he0 := hK.cell he hXe
  have hu0 : HB W u xs := hu.below hW
  obtain ⟨A, c, rfl, hlc⟩ := hu.shape
  refine callsIn_of_wp Try.func70 rfl h73 ?_ hro
  simp only [Try.ntmps70, List.size_toArray, List.length_cons, List.length_nil, Nat.reduceAdd, Nat.reduceSub, Array.replicate_succ, Array.replicate_zero, List.push_toArray, List.append_toArray, List.nil_append, List.cons_append]
  gi_wp2
  gi_loopw [7] (fun s7 wr => ∃ (j : Nat) (pre : List (Nat × Nat)), s7 = .int .i64 (j : Int) ∧ hit 0 xs = pre ++ hit j (xs.drop j) ∧ j ≤ xs.length ∧ Keeps X w wr ∧ J pre wr) (fun s7 _ => xs.length - (intOf s7).toNat)
  case atStart => exact ⟨0, [], rfl, rfl, Nat.zero_le _, hK, h0⟩
  case round =>
    obtain ⟨j, pre, rfl, hx, hj, hK1, hJ1⟩ := hrel
    have HX := Lib.hid hx; clear hx
    by_cases hjx : j < xs.length
    · obtain ⟨a0, rfl, hc0⟩ := hu.at_ (i := j) hjx hjx
      have hc1 := hK1.cell hc0 (by rw [blk_of_add]; exact hXu _ (by intro e; simp [e] at hjx) rfl)
      have hx2 : hit 0 xs = pre ++ (2 * j, xs[j].toNat % 16) :: (2 * j + 1, xs[j].toNat / 16) :: hit (j + 1) (xs.drop (j + 1)) := by
        rw [HX.out, List.drop_eq_getElem_cons hjx, hit]
      have hlen : pre.length + 1 < 2 * xs.length := by
        have := congrArg List.length hx2
        rw [hit_length] at this; simp at this; omega
      have HX2 := Lib.hid hx2
      have HLen := Lib.hid hlen
      obtain ⟨fn, tmps, assign, body, hy, hR⟩ := hY pre (2 * j, xs[j].toNat % 16) wr hJ1 (by omega)
      dsimp only [enc2] at hy
      generalize hxj : xs[j] = x at *
      have hx8 := x.toNat_lt
      have v4 : ((2 * j : Nat) : Int) = 2 * (j : Int) := by omega
      have v5 : ((2 * j + 1 : Nat) : Int) = 2 * (j : Int) + 1 := by omega
      have v6 : ((x.toNat % 16 % 16 : Nat) : Int) = (x.toNat : Int) % 16 := by omega
      have v7 : ((x.toNat / 16 % 16 : Nat) : Int) = (x.toNat : Int) / 16 := by omega
      rw [v4, v6] at hy
      clear hu he hx2 hlen
      gi_wp2
      refine hR.mono ?_
      rintro e3 W3 (⟨rfl, hJ3, hk3⟩ | ⟨rfl, hJx3⟩)
      · have hK3 := hK1.trans hk3
        obtain ⟨fn', tmps', assign', body', hy', hR'⟩ := hY (pre ++ [(2 * j, x.toNat % 16)]) (2 * j + 1, x.toNat / 16) W3 hJ3 (by have := HLen.out; simp; omega)
        dsimp only [enc2] at hy'
        rw [v5, v7] at hy'
        clear hy hR hc1
        gi_wp2
        refine hR'.mono ?_
        rintro e4 W4 (⟨rfl, hJ4, hk4⟩ | ⟨rfl, hJx4⟩)
        · gi_wp2
          go_roundw
          case rel => exact ⟨j + 1, pre ++ [(2 * j, x.toNat % 16)] ++ [(2 * j + 1, x.toNat / 16)], by go_num, by rw [HX2.out]; simp, by omega, hK3.trans hk4, hJ4⟩
          case measure => simp [intOf]; omega
        · gi_wp2
          refine bodyPost_ret (results_none rfl _ _ _) rfl ?_
          exact ⟨⟨_, rfl⟩, .inr ⟨_, ⟨hit (j + 1) (xs.drop (j + 1)), by rw [HX2.out]; simp⟩, hJx4⟩⟩
      · gi_wp2
        refine ⟨nofun, ?_⟩
        gi_wp2
        refine bodyPost_ret (results_none rfl _ _ _) rfl ?_
        exact ⟨⟨_, rfl⟩, .inr ⟨_, ⟨(2 * j + 1, x.toNat / 16) :: hit (j + 1) (xs.drop (j + 1)), by rw [HX2.out]; simp⟩, hJx3⟩⟩
    · obtain rfl : j = xs.length := by omega
      have hx3 : hit 0 xs = pre := by rw [HX.out]; simp [hit]
      have HX3 := Lib.hid hx3; clear hx3
      gi_wp2
      go_end0
      exact ⟨⟨_, rfl⟩, .inl ⟨hit 0 xs, rfl, by rw [HX3.out]; exact hJ1⟩⟩

set_option maxHeartbeats 400000 in
set_option maxRecDepth 100000 in
theorem halves_in (F : Fence) (n : Nat) (h56 : F.fn 66) (hro : F.round = none) (v : Value) (A : Option Addr) (l c : Nat) (hv : v = .slice A l c) (w : World) :
    CallsIn F n Try.prog 66 #[v] w fun e w' => e = .returned (.func (.func 70) #[] #[.pointer (some ⟨w.heap.size, 0, none⟩)]) ∧ w' = w.alloc (.cells #[v] 28) := by
  subst hv
  refine callsIn_of_wp Try.func66 rfl h56 ?_ hro
  simp only [Try.ntmps66, List.size_toArray, List.length_cons, List.length_nil, Nat.reduceAdd, Nat.reduceSub, Array.replicate_succ, Array.replicate_zero, List.push_toArray, List.append_toArray, List.nil_append, List.cons_append]
  gi_wp2
  go_ret
  exact ⟨rfl, rfl⟩
/-- What has been folded in. -/
def itc (c : Nat) (l : List (Nat × Nat)) : Nat := l.foldl (fun c x => cstep c (x.2 % 16)) c
theorem itc_snoc (c : Nat) (l : List (Nat × Nat)) (x : Nat × Nat) : itc c (l ++ [x]) = cstep (itc c l) (x.2 % 16) := by simp [itc]
theorem itc_lt {c : Nat} (h : c < 4294967296) (l : List (Nat × Nat)) : itc c l < 4294967296 := by
  induction l generalizing c with
  | nil => exact h
  | cons x r ih => exact ih (cstep_lt h (by omega))
theorem itc_hit (i c : Nat) (xs : List UInt8) : itc c (hit i xs) = creg c xs := by
  induction xs generalizing i c with
  | nil => rfl
  | cons x r ih =>
    have h1 : x.toNat % 16 % 16 = x.toNat % 16 := by omega
    have h2 : x.toNat / 16 % 16 = x.toNat / 16 := by have := x.toNat_lt; omega
    have e : creg c (x :: r) = creg (cstep (cstep c (x.toNat % 16)) (x.toNat / 16)) r := rfl
    rw [e, ← ih (i + 1)]
    simp only [hit, itc, List.foldl_cons, h1, h2]
end
section
open Go.RowKit Go.Proofs Go.Shelf
attribute [local go_sem] Oper.semAt_some

theorem tabC_eq : tabC = #[.int .u32 (tab 0 : Nat), .int .u32 (tab 1 : Nat), .int .u32 (tab 2 : Nat), .int .u32 (tab 3 : Nat), .int .u32 (tab 4 : Nat), .int .u32 (tab 5 : Nat), .int .u32 (tab 6 : Nat), .int .u32 (tab 7 : Nat), .int .u32 (tab 8 : Nat), .int .u32 (tab 9 : Nat), .int .u32 (tab 10 : Nat), .int .u32 (tab 11 : Nat), .int .u32 (tab 12 : Nat), .int .u32 (tab 13 : Nat), .int .u32 (tab 14 : Nat), .int .u32 (tab 15 : Nat)] := rfl
theorem not_u32 (n : Nat) (h : n < 4294967296) : bits BinOp.xor IntKind.u32 IntKind.u32.max (n : Int) = ((4294967295 - n : Nat) : Int) := by
  have e : IntKind.u32.max = ((4294967295 : Nat) : Int) := by decide
  rw [e, u32_xor_nat _ _ (by omega) h]
  congr 1
  apply Nat.eq_of_testBit_eq
  intro i
  have h1 := Nat.testBit_two_pow_sub_one 32 i
  have h2 := Nat.testBit_two_pow_sub_succ (n := 32) (x := n) h i
  rw [show 4294967295 - n = 2 ^ 32 - (n + 1) by omega, h2, Nat.testBit_xor, show 4294967295 = 2 ^ 32 - 1 by rfl, h1]
  by_cases hi : i < 32
  · simp [hi]
  · simp [hi]; exact Nat.testBit_lt_two_pow (Nat.lt_of_lt_of_le h (Nat.pow_le_pow_right (n := 2) (i := 32) (by omega) (by omega)))
set_option maxHeartbeats 1000000 in
set_option maxRecDepth 100000 in
theorem on_in (sum : Nat) (hs : sum < 4294967296) (b : Value) (xs : List UInt8) (w : World) (hb : HB w b xs) (hl : xs.length ≤ 1000000) :
    CallsIn Fence.wide 3 Try.prog 60 #[.int .u32 (sum : Int), b] w fun e w' => e = .returned (.int .u32 (crcOn sum xs : Nat)) ∧ Below w.heap.size w w' := by
  have Hb := Lib.hid hb
  obtain ⟨A, c, rfl, hlc⟩ := hb.shape
  have Hs := Lib.hid hs
  clear hs hb
  have hsg : IntKind.u32.signed = false := rfl
  have hnot : bits BinOp.xor IntKind.u32 IntKind.u32.max (sum : Int) = ((4294967295 - sum : Nat) : Int) := not_u32 sum Hs.out
  have h55 : Fence.wide.fn 65 := trivial
  have h56 : Fence.wide.fn 66 := trivial
  refine callsIn_of_wp_marks Try.func60 rfl trivial ?_ rfl
  simp only [Try.ntmps60, List.size_toArray, List.length_cons, List.length_nil, Nat.reduceAdd, Nat.reduceSub, Array.replicate_succ, Array.replicate_zero, List.push_toArray, List.append_toArray, List.nil_append, List.cons_append]
  gi_wp2_with (first
    | (gi_at_call 65; refine (callsIn_wide.2 (fours_any _)).mono ?_; rw [tabC_eq]; rintro e w1 ⟨rfl, hB1⟩)
    | (gi_at_call 66; refine (halves_in Fence.wide 2 trivial rfl _ _ _ _ rfl _).mono ?_; rintro e w2 ⟨rfl, rfl⟩))
  obtain ⟨W0, hW0⟩ : ∃ W0, W0 = ((w1.alloc (.cells #[.int .u32 (tab 0 : Nat), .int .u32 (tab 1 : Nat), .int .u32 (tab 2 : Nat), .int .u32 (tab 3 : Nat), .int .u32 (tab 4 : Nat), .int .u32 (tab 5 : Nat), .int .u32 (tab 6 : Nat), .int .u32 (tab 7 : Nat), .int .u32 (tab 8 : Nat), .int .u32 (tab 9 : Nat), .int .u32 (tab 10 : Nat), .int .u32 (tab 11 : Nat), .int .u32 (tab 12 : Nat), .int .u32 (tab 13 : Nat), .int .u32 (tab 14 : Nat), .int .u32 (tab 15 : Nat)] 104)).alloc (.cells #[.int .u32 ((4294967295 - sum : Nat) : Int)] 23)).alloc (.cells #[.slice A xs.length c] 28) := ⟨_, rfl⟩
  rw [← hW0]
  have hB0 : Below w1.heap.size w1 W0 := by rw [hW0]; exact (((Below.refl _ w1).alloc (Nat.le_refl _) _).alloc (by simp) _).alloc (by simp; omega) _
  have hsz : W0.heap.size = w1.heap.size + 3 := by rw [hW0]; simp
  have h0 : W0.heap[w1.heap.size]? = some (.cells tabC 104 (0, 0)) := by rw [hW0, tabC_eq]; exact (Below.heap_alloc _ _ _ (by simp; omega)).trans ((Below.heap_alloc _ _ _ (by simp)).trans (heap_alloc_new w1 _))
  have h1 : W0.heap[w1.heap.size + 1]? = some (.cells #[.int .u32 ((4294967295 - sum : Nat) : Int)] 23 (0, 0)) := by
    rw [hW0]; refine (Below.heap_alloc _ _ _ (by simp)).trans ?_
    have := heap_alloc_new (w1.alloc (.cells tabC 104)) (Obj.cells #[.int .u32 ((4294967295 - sum : Nat) : Int)] 23); simpa [tabC_eq] using this
  have h2 : W0.heap[w1.heap.size + 1 + 1]? = some (.cells #[.slice A xs.length c] 28 (0, 0)) := by
    rw [hW0]
    have := heap_alloc_new ((w1.alloc (.cells tabC 104)).alloc (Obj.cells #[.int .u32 ((4294967295 - sum : Nat) : Int)] 23)) (Obj.cells #[.slice A xs.length c] 28); simpa [tabC_eq] using this
  have hcs : 4294967295 - sum < 4294967296 := by omega
  have HC0 := Lib.hid hcs
  have HT0 := Lib.hid (show ∀ j, j < 16 → W0.cell? ⟨w1.heap.size, j, none⟩ = some (.int .u32 (tab j : Nat)) from fun j hj => by rw [blk_cell h0 j]; simp [tabC, hj])
  have HBB := Lib.hid (hB1.trans (hB0.mono hB1.size))
  have HB1 := Lib.hid hB1
  have HbW := Lib.hid (Hb.out.below HBB.out)
  have HbL : ∀ g, (Value.slice A xs.length c).ownBlock = some g → xs ≠ [] → g < w.heap.size := fun g hg hn => by
    obtain ⟨g', e', hg'⟩ := Hb.out.lt hn
    rw [hg] at e'; injection e' with e'; omega
  have hc0 := blk_cell h0; have hc1 := blk_cell h1 0; have hf1 := blk_free h1 0; have hc2 := blk_cell h2 0
  have hwsz := hB1.size
  clear hW0 hnot h0 h1 h2
  have hmk : Hid ((4294967295 - sum : Nat) < 4294967296) := HC0
  refine wpIn_rangeFunc_ownF rfl (by omega) (gf := 70) (lb := #[.pointer (some ⟨w1.heap.size + 1 + 1, 0, none⟩)]) rfl trivial (enters_of Try.func70 (by kernel_rfl) rfl)
    (halves1_in Fence.wide 2 trivial rfl (by omega) (fun k => k = w1.heap.size + 1 + 1 ∨ (xs ≠ [] ∧ (Value.slice A xs.length c).ownBlock = some k)) (w1.heap.size + 1 + 1) _ xs W0 hc2 HbW.out hl (.inl rfl) (fun g h1 h2 => .inr ⟨h1, h2⟩) ?hX)
    Keeps.trans ?hKb (Below.refl _ _) (fun _ => rfl)
    (fun pre W => (W.cell? ⟨w1.heap.size + 1, 0, none⟩ = some (.int .u32 (itc (4294967295 - sum) pre : Nat)) ∧ W.frozen? ⟨w1.heap.size + 1, 0, none⟩ = false) ∧ (∀ j, j < 16 → W.cell? ⟨w1.heap.size, j, none⟩ = some (.int .u32 (tab j : Nat))) ∧ Below w.heap.size w W)
    (fun c pre W => False)
    ?hI ?hIx ⟨⟨hc1, hf1⟩, HT0.out, HBB.out⟩
    (fun x => { tmps := #[.int .u32 (sum : Int), .slice A xs.length c, undef, undef, .int .u32 0, .pointer (some ⟨w1.heap.size, 0, none⟩), .pointer (some ⟨w1.heap.size + 1, 0, none⟩), undef, .int .u32 ((x.2 % 16 : Nat) : Int), .agg tabC, .int .u32 (sum : Int), .int .u32 ((4294967295 - sum : Nat) : Int), .slice A xs.length c, .func (.func 70) #[] #[.pointer (some ⟨w1.heap.size + 1 + 1, 0, none⟩)], .int .i64 (x.1 : Int), .int .u32 ((x.2 % 16 : Nat) : Int), undef, undef, undef, undef, undef, undef, undef, undef, undef, undef, undef], defers := [] }) ?assign ?body ?done ?stop
  case hX =>
    rintro g (rfl | ⟨hne, hg⟩)
    · omega
    · have := HbL g hg hne; omega
  case hKb =>
    intro W l o o' hl _ _ _ g hg
    refine World.putObj_heap_other ?_
    rcases hg with rfl | ⟨hne, hg⟩
    · omega
    · have := HbL g hg hne; omega
  case hI =>
    exact OwnFrom.and (Own.from (fun s A B row hs hg hr => ⟨cell_kept hs.1 hg hr, (frozen_kept hs.1 hg hr).trans hs.2⟩) _) (OwnFrom.and (Own.from (fun s A B row hs hg hr => fun j hj => cell_kept (hs j hj) hg hr) _) (ownFrom_below (Nat.le_refl _) (by omega)))
  case hIx =>
    intro c
    exact ownFrom_pure _ _
  case assign =>
    intro l x W K hK
    dsimp only [enc2]
    gi_wp2
    rw [tabC_eq] at hK
    exact hK
  case body =>
    rintro l pre x W ⟨⟨hc, hf⟩, hT, hB⟩ hlt
    have hm := itc_lt HC0.out pre
    have HS := Lib.hid (itc_snoc (4294967295 - sum) pre x)
    generalize itc (4294967295 - sum) pre = m at *
    have hh : x.2 % 16 < 16 := by omega
    generalize x.2 % 16 = h at *
    have hi16 : (m ^^^ h) % 16 < 16 := by omega
    have hxl : m ^^^ h < 4294967296 := Nat.xor_lt_two_pow (n := 32) hm (by omega)
    have b1 : bits .xor .u32 (m : Int) (h : Int) = ((m ^^^ h : Nat) : Int) := u32_xor_nat _ _ hm (by omega)
    have b2 : bits .and .u32 ((m ^^^ h : Nat) : Int) 15 = (((m ^^^ h) % 16 : Nat) : Int) := by
      have := u32_and_nat (m ^^^ h) 15 hxl (by omega)
      rw [show (15 : Nat) = 2 ^ 4 - 1 from rfl, Nat.and_two_pow_sub_one_eq_mod] at this; exact this
    have b3 : bits .xor .u32 ((m : Int) / 16) (tab ((m ^^^ h) % 16) : Nat) = ((cstep m h : Nat) : Int) :=
      u32_xor_nat (m / 16) (tab ((m ^^^ h) % 16)) (by omega) (z4_lt (by omega))
    have htd := hT _ hi16
    have HT := Lib.hid hT
    have HBW := Lib.hid hB
    generalize (m ^^^ h) % 16 = q at *
    generalize m ^^^ h = r at *
    generalize tab q = tq at *
    have hcd : W.drew.cell? ⟨w1.heap.size + 1, 0, none⟩ = some (.int .u32 (m : Int)) := hc
    have hfd : W.drew.frozen? ⟨w1.heap.size + 1, 0, none⟩ = false := hf
    have htd' : W.drew.cell? ⟨w1.heap.size, q, none⟩ = some (.int .u32 (tq : Int)) := htd
    have hend : KeepsOthers W (W.setCell ⟨w1.heap.size + 1, 0, none⟩ (.int .u32 (cstep m h : Nat))).drew ∧ Keeps (fun k => k = w1.heap.size + 1 + 1 ∨ (xs ≠ [] ∧ (Value.slice A xs.length c).ownBlock = some k)) W (W.setCell ⟨w1.heap.size + 1, 0, none⟩ (.int .u32 (cstep m h : Nat))).drew ∧
        (((W.setCell ⟨w1.heap.size + 1, 0, none⟩ (.int .u32 (cstep m h : Nat))).drew.cell? ⟨w1.heap.size + 1, 0, none⟩ = some (.int .u32 (itc (4294967295 - sum) (pre ++ [x]) : Nat)) ∧ (W.setCell ⟨w1.heap.size + 1, 0, none⟩ (.int .u32 (cstep m h : Nat))).drew.frozen? ⟨w1.heap.size + 1, 0, none⟩ = false) ∧ (∀ j, j < 16 → (W.setCell ⟨w1.heap.size + 1, 0, none⟩ (.int .u32 (cstep m h : Nat))).drew.cell? ⟨w1.heap.size, j, none⟩ = some (.int .u32 (tab j : Nat))) ∧ Below w.heap.size w (W.setCell ⟨w1.heap.size + 1, 0, none⟩ (.int .u32 (cstep m h : Nat))).drew) := by
      refine ⟨?_, ?_, ⟨?_, ?_⟩, ?_, ?_⟩
      · exact (KeepsOthers.setCell W ⟨w1.heap.size + 1, 0, none⟩ (.int .u32 (cstep m h : Nat))).trans (KeepsOthers.drew _)
      · intro g hg
        refine Below.heap_setCell W ⟨w1.heap.size + 1, 0, none⟩ _ g ?_
        show g ≠ w1.heap.size + 1
        rcases hg with rfl | ⟨hne, hg⟩
        · omega
        · have := HbL g hg hne; omega
      · rw [HS.out]; exact World.cell?_setCell_same' W ⟨w1.heap.size + 1, 0, none⟩ _ (by rw [hc]; rfl)
      · show (W.setCell ⟨w1.heap.size + 1, 0, none⟩ (.int .u32 (cstep m h : Nat))).frozen? ⟨w1.heap.size + 1, 0, none⟩ = false
        rw [World.frozen?_setCell]; exact hf
      · intro j hj
        exact (World.cell?_of_block (Below.heap_setCell W ⟨w1.heap.size + 1, 0, none⟩ _ w1.heap.size (by show w1.heap.size ≠ w1.heap.size + 1; omega))).trans (HT.out j hj)
      · exact (HBW.out.setCell (p := ⟨w1.heap.size + 1, 0, none⟩) (by show w.heap.size ≤ w1.heap.size + 1; omega) _).drew
    have HEND := Lib.hid hend
    clear hend
    clear hT hB hB0 HbL hc0 hc1 hc2 hf1
    gi_wp2
    gi_region
    all_goals
      gi_wp2
      exact HEND.out
  case done =>
    rintro D ys W hD rfl ⟨⟨hc, _⟩, _, hB⟩ hK
    have hI : itc (4294967295 - sum) (hit 0 xs) = creg (4294967295 - sum) xs := itc_hit _ _ _
    rw [hI] at hc
    have hcr := creg_lt hcs xs
    have hn := not_u32 (creg (4294967295 - sum) xs) hcr
    have HB := Lib.hid (hB.trans (belowK_b (w := w) (Nat.le_refl _) W D _ (.deferred none) (by omega) hK rfl rfl))
    clear hc0 hc1 hc2 hf1 hI
    gi_wp2
    refine ⟨by simp, .inl ⟨_, _, rfl, run_takeDeferred hK, ?_⟩⟩
    exact ⟨_, results_tmp rfl _ _ _, rfl, HB.out⟩
  case stop =>
    rintro D c pre W hD hpre h hK
    exact h.elim
theorem on_any (sum : Nat) (hs : sum < 4294967296) (b : Value) (xs : List UInt8) (w : World) (hb : HB w b xs) (hl : xs.length ≤ 1000000) :
    Calls Try.prog 60 #[.int .u32 (sum : Int), b] w fun e w' => e = .returned (.int .u32 (crcOn sum xs : Nat)) ∧ Below w.heap.size w w' :=
  callsIn_wide.1 (on_in sum hs b xs w hb hl)
end
section
open Go.RowKit Go.Proofs

def AboRel (n : Nat) (w : World) (s4 s3 s0 : Value) (w' : World) : Prop :=
  ∃ i v m : Nat, i ≤ 32 ∧ s4 = .int .i64 i ∧ s3 = .int .u64 v ∧ s0 = .int .u64 m ∧ abo (32 - i) v m = n ∧ v < 2 ^ i ∧ m < 4294967296 ∧ w' = w
set_option maxHeartbeats 400000 in
set_option maxRecDepth 100000 in
theorem about_any (n : Nat) (hn : n < 4294967296) (w : World) : Calls Try.prog 72 #[.int .u64 (n : Int)] w fun e w' => e = .returned (.int .u64 (rev 32 n : Nat)) ∧ w = w' := by
  have Hn := Lib.hid hn; clear hn
  go_enter Try.func72, Try.ntmps72
  go_wp2_with fail
  go_loopw [4, 3, 0] (fun s4 s3 s0 w' => AboRel (rev 32 n) w s4 s3 s0 w') (fun s4 _ _ _ => 32 - (intOf s4).toNat)
  case atStart => exact ⟨0, 0, n, by omega, rfl, rfl, rfl, by rw [abo_rev]; simp, by omega, Hn.out, rfl⟩
  case round =>
    obtain ⟨i, v, m, hi, rfl, rfl, rfl, ha, hv, hm, rfl⟩ := hrel
    have HA := Lib.hid ha; clear ha
    by_cases hlt : i < 32
    · have hv32 : v < 4294967296 := Nat.lt_of_lt_of_le hv (Nat.pow_le_pow_right (n := 2) (by omega) hi)
      have w1 : IntKind.u64.wrap (2 * (v : Int)) = 2 * (v : Int) := by rw [IntKind.wrap_u64]; omega
      have w2 : IntKind.u64.wrap (2 * (v : Int) + (m : Int) % 2) = 2 * (v : Int) + (m : Int) % 2 := by rw [IntKind.wrap_u64]; omega
      have HV := Lib.hid hv; clear hv
      go_wp2_with fail
      go_roundw
      case rel =>
        refine ⟨i + 1, 2 * v + m % 2, m / 2, by omega, by go_num, by go_num, by go_num, ?_, ?_, by omega, rfl⟩
        · rw [← HA.out, show 32 - i = (32 - (i + 1)) + 1 by omega, abo]
        · rw [Nat.pow_succ]; have := HV.out; omega
      case measure => simp [intOf]; omega
    · obtain rfl : i = 32 := by omega
      have hv' : v = rev 32 n := by rw [← HA.out]; rfl
      have HV := Lib.hid hv'; clear hv hv'
      go_wp2_with fail
      go_ret
      exact ⟨by rw [HV.out]; rfl, rfl⟩

set_option maxHeartbeats 400000 in
set_option maxRecDepth 100000 in
theorem rest_lo (r b r2 bm s : Int) (w : World) (h1 : IntKind.u64.wrap (2 * r) = r2) (h2 : IntKind.u64.wrap (b * 4294967296) = bm) (h3 : IntKind.u64.wrap (r2 + bm) = s) (hs : s < 4294967296) : Calls Try.prog 73 #[.int .u64 r, .int .u64 b] w fun e w' => e = .returned (.int .u64 s) ∧ w = w' := by
  go_enter Try.func73, Try.ntmps73
  go_wp2_with fail
  go_ret
  exact ⟨rfl, rfl⟩
set_option maxHeartbeats 400000 in
set_option maxRecDepth 100000 in
theorem rest_mid (r b r2 bm s q x : Int) (w : World) (h1 : IntKind.u64.wrap (2 * r) = r2) (h2 : IntKind.u64.wrap (b * 4294967296) = bm) (h3 : IntKind.u64.wrap (r2 + bm) = s) (hs : 4294967296 ≤ s) (hs2 : s < 8589934592) (hq : IntKind.u64.wrap (s - 4294967296) = q) (hx : bits .xor .u64 q 517762881 = x) : Calls Try.prog 73 #[.int .u64 r, .int .u64 b] w fun e w' => e = .returned (.int .u64 x) ∧ w = w' := by
  go_enter Try.func73, Try.ntmps73
  go_wp2_with fail
  go_ret
  exact ⟨rfl, rfl⟩
set_option maxHeartbeats 400000 in
set_option maxRecDepth 100000 in
theorem rest_hi (r b r2 bm s q : Int) (w : World) (h1 : IntKind.u64.wrap (2 * r) = r2) (h2 : IntKind.u64.wrap (b * 4294967296) = bm) (h3 : IntKind.u64.wrap (r2 + bm) = s) (hs2 : 8589934592 ≤ s) (hq : IntKind.u64.wrap (s - 8589934592) = q) (hq2 : q < 4294967296) : Calls Try.prog 73 #[.int .u64 r, .int .u64 b] w fun e w' => e = .returned (.int .u64 q) ∧ w = w' := by
  go_enter Try.func73, Try.ntmps73
  go_wp2_with fail
  go_ret
  exact ⟨rfl, rfl⟩
theorem rest_any (r b : Nat) (hr : r < 4294967296) (hb : b < 2) (w : World) : Calls Try.prog 73 #[.int .u64 (r : Int), .int .u64 (b : Int)] w fun e w' => e = .returned (.int .u64 (rst r b : Nat)) ∧ w = w' := by
  have hx : ∀ x : Nat, x < 4294967296 → bits .xor .u64 (x : Int) 517762881 = ((x ^^^ 517762881 : Nat) : Int) := fun x h => u64_xor_nat x 517762881 (by omega) (by omega)
  have w1 : IntKind.u64.wrap (2 * (r : Int)) = 2 * (r : Int) := by rw [IntKind.wrap_u64]; omega
  have w2 : IntKind.u64.wrap ((b : Int) * 4294967296) = (b : Int) * 4294967296 := by rw [IntKind.wrap_u64]; omega
  have w3 : IntKind.u64.wrap (2 * (r : Int) + (b : Int) * 4294967296) = 2 * (r : Int) + (b : Int) * 4294967296 := by rw [IntKind.wrap_u64]; omega
  by_cases h31 : r < 2147483648
  · rcases (show b = 0 ∨ b = 1 by omega) with rfl | rfl
    · have he : ((rst r 0 : Nat) : Int) = 2 * (r : Int) + ((0 : Nat) : Int) * 4294967296 := by rw [rst, if_neg (by omega)]; omega
      rw [he]
      exact rest_lo _ _ _ _ _ w w1 w2 w3 (by omega)
    · have he : ((rst r 1 : Nat) : Int) = bits .xor .u64 (2 * r : Nat) 517762881 := by
        rw [rst, if_pos (by omega), Nat.mod_eq_of_lt (by omega), ← hx _ (by omega)]
      rw [he]
      exact rest_mid _ _ _ _ _ _ _ w w1 w2 w3 (by omega) (by omega) (by rw [IntKind.wrap_u64]; omega) rfl
  · rcases (show b = 0 ∨ b = 1 by omega) with rfl | rfl
    · have he : ((rst r 0 : Nat) : Int) = bits .xor .u64 ((2 * r - 4294967296 : Nat) : Int) 517762881 := by
        rw [rst, if_pos (by omega), show 2 * r % 4294967296 = 2 * r - 4294967296 by omega, ← hx _ (by omega)]
      rw [he]
      exact rest_mid _ _ _ _ _ _ _ w w1 w2 w3 (by omega) (by omega) (by rw [IntKind.wrap_u64]; omega) rfl
    · have he : ((rst r 1 : Nat) : Int) = 2 * (r : Int) - 4294967296 := by rw [rst, if_neg (by omega)]; omega
      rw [he]
      exact rest_hi _ _ _ _ _ _ w w1 w2 w3 (by omega) (by rw [IntKind.wrap_u64]; omega) (by omega)

def rx (c : Nat) (l : List UInt8) : Nat := rev 32 (creg c l)
def OnRel (c0 : Nat) (xs : List UInt8) (w : World) (s6 s5 : Value) (w' : World) : Prop :=
  ∃ i : Nat, i ≤ xs.length ∧ s6 = .int .i64 i ∧ s5 = .int .u64 (rx c0 (xs.take i) : Nat) ∧ w' = w
def BitRel (C : Nat) (w : World) (s8 s5 s7 : Value) (w' : World) : Prop :=
  ∃ j c x : Nat, j ≤ 8 ∧ s8 = .int .i64 j ∧ s5 = .int .u64 (rev 32 c : Nat) ∧ s7 = .int .u64 (x : Int) ∧ c < 4294967296 ∧ x < 256 ∧ bfold (8 - j) c x = C ∧ w' = w
theorem bfold_8 (c : Nat) (x : UInt8) : bfold 8 c x.toNat = creg c [x] := by rw [bfold_cstep _ _ x.toNat_lt]; rfl

theorem creg_nil (c : Nat) : creg c [] = c := rfl
theorem bfold_zero (c x : Nat) : bfold (8 - 8) c x = c := rfl
attribute [local irreducible] rev zst bfold creg
set_option maxHeartbeats 1000000 in
set_option maxRecDepth 100000 in
theorem ron_any (sum : Nat) (hs : sum < 4294967296) (b : Value) (xs : List UInt8) (w : World) (hb : HB w b xs) (hl : xs.length ≤ 1000000) :
    Calls Try.prog 71 #[.int .u32 (sum : Int), b] w fun e w' => e = .returned (.int .u32 (crcOn sum xs : Nat)) ∧ w = w' := by
  have Hb := Lib.hid hb
  obtain ⟨A, c, rfl, hlc⟩ := hb.shape
  have w1 : IntKind.u64.wrap (sum : Int) = (sum : Int) := by rw [IntKind.wrap_u64]; omega
  have w2 : IntKind.u64.wrap (4294967295 - (sum : Int)) = ((4294967295 - sum : Nat) : Int) := by rw [IntKind.wrap_u64]; omega
  have hc0 : 4294967295 - sum < 4294967296 := by omega
  have hcr := creg_lt hc0 xs
  have w3 : IntKind.u64.wrap (4294967295 - (creg (4294967295 - sum) xs : Int)) = ((crcOn sum xs : Nat) : Int) := by rw [IntKind.wrap_u64, crcOn]; omega
  have w4 : IntKind.u32.wrap ((crcOn sum xs : Nat) : Int) = ((crcOn sum xs : Nat) : Int) := by rw [IntKind.wrap_u32]; have := crcOn_lt sum xs; omega
  have hcz := creg_lt hc0
  have hrr := rev_rev 32 _ hcr
  have hr0 : rev 32 (4294967295 - sum) = rx (4294967295 - sum) (xs.take 0) := by rw [rx, List.take_zero, creg_nil]
  have hrl := rev_lt 32 (creg (4294967295 - sum) xs)
  generalize 4294967295 - sum = c0 at *
  generalize crcOn sum xs = R at *
  have HCR := Lib.hid hcr; have HC0 := Lib.hid hc0; have HCZ := Lib.hid hcz; have HRR := Lib.hid hrr; have HR0 := Lib.hid hr0; have HRL := Lib.hid hrl
  clear hb hc0 hcr hcz hrr hr0 hrl hs
  go_enter Try.func71, Try.ntmps71
  go_wp2_with (go_at_call 72; refine (about_any _ HC0.out _).mono ?_; rw [HR0.out]; rintro e w' ⟨rfl, rfl⟩)
  go_loopw [6, 5] (fun s6 s5 w' => OnRel c0 xs w s6 s5 w') (fun s6 _ _ => xs.length - (intOf s6).toNat)
  case atStart => exact ⟨0, by omega, rfl, rfl, rfl⟩
  case round =>
    obtain ⟨i, hi, rfl, rfl, rfl⟩ := hrel
    by_cases hlt : i < xs.length
    · obtain ⟨a0, rfl, hcell⟩ := Hb.out.at_ (i := i) hlt hlt
      have ht : creg c0 (xs.take (i + 1)) = creg (creg c0 (xs.take i)) [xs[i]] := by rw [List.take_succ_eq_append_getElem hlt, creg_append]
      have hci := HCZ.out (xs.take i)
      have hcj := HCZ.out (xs.take (i + 1))
      rw [← bfold_8] at ht
      have hx8 := xs[i].toNat_lt
      rw [show rx c0 (List.take i xs) = rev 32 (creg c0 (xs.take i)) from rfl]
      generalize xs[i].toNat = x at *
      have HT := Lib.hid ht; have HCJ := Lib.hid hcj
      have w5 : IntKind.u64.wrap (x : Int) = (x : Int) := by rw [IntKind.wrap_u64]; omega
      generalize creg c0 (xs.take i) = ci at *
      have HCI := Lib.hid hci; have HX8 := Lib.hid hx8
      clear ht hcj hci hx8
      go_wp2_with fail
      go_loopw [8, 5, 7] (fun s8 s5 s7 w' => BitRel (bfold 8 ci x) wr s8 s5 s7 w') (fun s8 _ _ _ => 8 - (intOf s8).toNat)
      case atStart => exact ⟨0, ci, x, by omega, rfl, rfl, rfl, HCI.out, HX8.out, rfl, rfl⟩
      case round =>
        obtain ⟨j, c, x', hj, rfl, rfl, rfl, hc, hx, hbf, rfl⟩ := hrel
        have HBF := Lib.hid hbf; have HC := Lib.hid hc; have HX := Lib.hid hx
        clear hbf hc hx
        by_cases hjl : j < 8
        · have hrr : rst (rev 32 c) (x' % 2) = rev 32 (zst (c ^^^ (x' % 2))) := rst_rev c (x' % 2) HC.out (by omega)
          have HRR2 := Lib.hid hrr; clear hrr
          have w6 : IntKind.u64.wrap ((x' : Int) / 2) = (x' : Int) / 2 := by rw [IntKind.wrap_u64]; have := HX.out; omega
          go_wp2_with (go_at_call 73; rw [show (x' : Int) % 2 = ((x' % 2 : Nat) : Int) from by omega]; refine (rest_any _ _ (rev_lt 32 _) (by omega) _).mono ?_; rw [HRR2.out]; rintro e w' ⟨rfl, rfl⟩)
          go_roundw
          case rel =>
            refine ⟨j + 1, zst (c ^^^ (x' % 2)), x' / 2, by omega, by go_num, rfl, by go_num, zst_lt (Nat.xor_lt_two_pow (n := 32) HC.out (by omega)), by have := HX.out; omega, ?_, rfl⟩
            rw [← HBF.out, show 8 - j = (8 - (j + 1)) + 1 by omega, bfold]
          case measure => simp [intOf]; omega
        · obtain rfl : j = 8 := by omega
          go_wp2_with fail
          go_roundw
          case rel =>
            refine ⟨i + 1, by omega, by go_num, ?_, rfl⟩
            rw [rx, HT.out, ← HBF.out, bfold_zero]
          case measure => simp [intOf]; omega
    · obtain rfl : i = xs.length := by omega
      have hxx : rx c0 (List.take xs.length xs) = rev 32 (creg c0 xs) := by rw [rx, List.take_length]
      rw [hxx]
      go_wp2_with (go_at_call 72; refine (about_any _ HRL.out _).mono ?_; rw [HRR.out]; rintro e w' ⟨rfl, rfl⟩)
      go_ret
      exact ⟨rfl, rfl⟩
end
section
open Go.RowKit Go.Proofs

/-- A slice of slices of bytes. -/
def HParts (w : World) (v : Value) (ls : List (List UInt8)) : Prop :=
  ∃ A c, v = .slice A ls.length c ∧ ls.length ≤ c ∧ (ls ≠ [] → ∃ (a : Addr) (vs : List Value), A = some a ∧ vs.length = ls.length ∧ (∀ (i : Nat) v, vs[i]? = some v → w.cell? (a.add i) = some v) ∧ ∀ (i : Nat) v l, vs[i]? = some v → ls[i]? = some l → HB w v l)
theorem HParts.at_ {w : World} {A : Option Addr} {n c : Nat} {ls : List (List UInt8)} (h : HParts w (.slice A n c) ls) {i : Nat} (hi : i < ls.length) : ∃ a v, A = some a ∧ w.cell? (a.add i) = some v ∧ HB w v ls[i] := by
  obtain ⟨A', c', e, _, h1⟩ := h
  injection e with e1 e2 e3
  subst e1 e2 e3
  obtain ⟨a, vs, rfl, hl, hc, hb⟩ := h1 (by intro e; subst e; simp at hi)
  have hv : vs[i]? = some vs[i] := List.getElem?_eq_getElem (by omega)
  exact ⟨a, vs[i], rfl, hc i _ hv, hb i _ _ hv (List.getElem?_eq_getElem hi)⟩
/-- A slice that has been built in place. -/
theorem HParts.built {w : World} {vs : List Value} {ls : List (List UInt8)} (h : Held w vs ls) (t : TypeId) (fr : Nat × Nat) : HParts (w.alloc (.cells vs.toArray t fr)) (.slice (some ⟨w.heap.size, 0, none⟩) ls.length ls.length) ls :=
  ⟨_, _, rfl, Nat.le_refl _, fun _ => ⟨_, vs, rfl, h.1, fun i v hv => World.news_of_block (cs := vs.toArray) (t := t) (fr := fr) (heap_alloc_new w _) i _ (by simpa using hv), fun i v l hv hm => (h.2 i v l hv hm).below ((Below.refl _ _).alloc (Nat.le_refl _) _)⟩⟩
theorem HParts.one {w : World} {u : Value} {ys : List UInt8} (h : HB w u ys) (t : TypeId) : HParts (w.alloc (.cells #[u] t)) (.slice (some ⟨w.heap.size, 0, none⟩) 1 1) [ys] :=
  HParts.built (vs := [u]) (ls := [ys]) ⟨rfl, fun i v l hv hm => by cases i <;> simp at hv hm; subst hv hm; exact h⟩ t (0, 0)
theorem HParts.three {w : World} {u v x : Value} {a b c : List UInt8} (hu : HB w u a) (hv : HB w v b) (hx : HB w x c) (t : TypeId) : HParts (w.alloc (.cells #[u, v, x] t)) (.slice (some ⟨w.heap.size, 0, none⟩) 3 3) [a, b, c] :=
  HParts.built (vs := [u, v, x]) (ls := [a, b, c]) ⟨rfl, fun i v l hv' hm => by
    rcases i with _ | _ | _ | i <;> simp at hv' hm
    · subst hv' hm; exact hu
    · subst hv' hm; exact hv
    · subst hv' hm; exact hx⟩ t (0, 0)
theorem HParts.nil (w : World) (A : Option Addr) (c : Nat) : HParts w (.slice A 0 c) [] := ⟨A, c, rfl, Nat.zero_le _, fun h => absurd rfl h⟩
theorem HParts.drew {w : World} {v : Value} {ls : List (List UInt8)} (h : HParts w v ls) : HParts w.drew v ls := h
theorem HParts.below {w w' : World} {v : Value} {ls : List (List UInt8)} (h : HParts w v ls) (hb : Below w.heap.size w w') : HParts w' v ls := by
  obtain ⟨A, c, e, h0, h1⟩ := h
  refine ⟨A, c, e, h0, fun hn => ?_⟩
  obtain ⟨a, vs, e1, hl, hc, hv⟩ := h1 hn
  exact ⟨a, vs, e1, hl, fun i v hi => (World.cell?_of_block (hb.block _ (World.block_lt_of_cell? w _ (hc i v hi)))).trans (hc i v hi), fun i v l h2 h3 => (hv i v l h2 h3).below hb⟩

def SumRel (ls : List (List UInt8)) (w : World) (s8 s3 : Value) (w' : World) : Prop :=
  ∃ i : Nat, i ≤ ls.length ∧ s8 = .int .i64 i ∧ s3 = .int .u32 (crcOn 0 (ls.take i).flatten : Nat) ∧ Below w.heap.size w w'
theorem flat_take (ls : List (List UInt8)) (i : Nat) (hi : i < ls.length) : (ls.take (i + 1)).flatten = (ls.take i).flatten ++ ls[i] := by
  rw [List.take_succ_eq_append_getElem hi, List.flatten_append]; simp
theorem flat_le (ls : List (List UInt8)) (i : Nat) (hi : i < ls.length) : ls[i].length ≤ ls.flatten.length := by
  have h := flat_take ls i hi
  have h2 : ls.flatten = (ls.take (i + 1)).flatten ++ (ls.drop (i + 1)).flatten := by rw [← List.flatten_append, List.take_append_drop]
  rw [h2, h]; simp; omega
set_option maxHeartbeats 1000000 in
set_option maxRecDepth 100000 in
theorem sum_any (v : Value) (ls : List (List UInt8)) (w : World) (h : HParts w v ls) (hl : ls.flatten.length ≤ 1000000) (hn : ls.length ≤ 1000000) :
    Calls Try.prog 51 #[v] w fun e w' => e = .returned (.int .u32 (crcOn 0 ls.flatten : Nat)) ∧ Below w.heap.size w w' := by
  obtain ⟨A, c, rfl, hlc, h1⟩ := id h
  have H := Lib.hid h
  clear h h1
  go_enter Try.func51, Try.ntmps51
  go_wp2_with fail
  go_loopw [8, 3] (fun s8 s3 w' => SumRel ls w s8 s3 w') (fun s8 _ _ => ls.length - (intOf s8).toNat)
  case atStart => exact ⟨0, by omega, rfl, by rw [List.take_zero, List.flatten_nil, crcOn_nil 0 (by omega)]; rfl, Below.refl _ _⟩
  case round =>
    obtain ⟨i, hi, rfl, rfl, hb⟩ := hrel
    have HB0 := Lib.hid hb; clear hb
    by_cases hlt : i < ls.length
    · obtain ⟨a, u, rfl, hcell, hu⟩ := (H.out.below HB0.out).at_ hlt
      have hle := flat_le ls i hlt
      have hft := flat_take ls i hlt
      have hcs := crcOn_append 0 (by omega) (ls.take i).flatten ls[i]
      rw [← hft] at hcs
      have HU := Lib.hid hu; have HCS := Lib.hid hcs; have HLE := Lib.hid hle
      obtain ⟨A', c', rfl, _⟩ := hu.shape
      have hclt := crcOn_lt 0 (ls.take i).flatten
      generalize crcOn 0 (ls.take i).flatten = q at *
      have HQ := Lib.hid hclt
      clear hu hcs hft hle hclt
      go_wp2_with (go_at_call 60; refine (on_any q HQ.out _ _ _ HU.out (by have := HLE.out; omega)).mono ?_; rintro e w' ⟨rfl, hb⟩)
      have HB1 := Lib.hid (HB0.out.trans (hb.mono HB0.out.size)); clear hb
      go_wp2_with fail
      go_roundw
      case rel => exact ⟨i + 1, by omega, by go_num, by rw [HCS.out], HB1.out⟩
      case measure => simp [intOf]; omega
    · obtain rfl : i = ls.length := by omega
      go_wp2_with fail
      go_ret
      exact ⟨by rw [List.take_length]; rfl, HB0.out⟩
theorem sum_one (v : Value) (xs : List UInt8) (w : World) (h : HParts w v [xs]) (hl : xs.length ≤ 1000000) :
    Calls Try.prog 51 #[v] w fun e w' => e = .returned (.int .u32 (crcOn 0 xs : Nat)) ∧ Below w.heap.size w w' := by
  have := sum_any v [xs] w h (by simpa using hl) (by simp)
  simpa using this
end
section
open Go.RowKit Go.Proofs
set_option maxHeartbeats 400000 in
set_option maxRecDepth 100000 in
theorem rsum_any (b : Value) (xs : List UInt8) (w : World) (hb : HB w b xs) (hl : xs.length ≤ 1000000) :
    Calls Try.prog 68 #[b] w fun e w' => e = .returned (.int .u32 (crcOn 0 xs : Nat)) ∧ w = w' := by
  have Hb := Lib.hid hb
  obtain ⟨A, c, rfl, hlc⟩ := hb.shape
  clear hb
  go_enter Try.func68, Try.ntmps68
  go_wp2_with (go_at_call 71; refine (ron_any 0 (by omega) _ xs _ Hb.out hl).mono ?_; rintro e w' ⟨rfl, rfl⟩)
  go_ret
  exact ⟨rfl, rfl⟩

/-- The sum of one slice, as the caller builds it. -/
theorem sum_new (v : Value) (xs : List UInt8) (w : World) (h : HB w v xs) (hl : xs.length ≤ 1000000) :
    Calls Try.prog 51 #[.slice (some ⟨w.heap.size, 0, none⟩) 1 1] (w.alloc (.cells #[v] 28)) fun e w' => e = .returned (.int .u32 (crcOn 0 xs : Nat)) ∧ Below w.heap.size w w' :=
  (sum_one _ xs _ (HParts.one h 28) hl).mono fun e w' h' => ⟨h'.1, ((Below.refl _ _).alloc (Nat.le_refl _) _).trans (h'.2.mono (by simp))⟩

end
section
open Go.RowKit Go.Proofs
theorem fixed4 (n : Nat) (h : n < 4294967296) : fixedB 4 n = le 4 n := by
  have h1 : fixedE 4 n = 0 := by
    unfold fixedE
    rw [if_neg (by decide), if_neg]
    simp [goesB]; omega
  rw [fixedB, if_pos h1]; rfl
theorem fixedE4 (n : Nat) (h : n < 4294967296) : fixedE 4 n = 0 := by
  unfold fixedE
  rw [if_neg (by decide), if_neg]
  simp [goesB]; omega
/-- Bytes with their sum behind them. -/
def markB (xs : List UInt8) : List UInt8 := xs ++ le 4 (crcOn 0 xs)
set_option maxHeartbeats 1000000 in
set_option maxRecDepth 100000 in
theorem mark_any (b : Value) (xs : List UInt8) (w : World) (hb : HB w b xs) (hl : xs.length ≤ 1000000) :
    Calls Try.prog 38 #[b] w fun e w' => ∃ v', e = .returned v' ∧ w'.ownsRow w.heap.size 5 1 v' (markB xs).length (bs (markB xs)) ∧ Below w.heap.size w w' := by
  have Hb := Lib.hid hb
  obtain ⟨A, c, rfl, hlc⟩ := hb.shape
  clear hb
  have P0 := PenIn.new w
  have b0 : Below w.heap.size w (w.alloc (.cells #[.slice none 0 0] 68)) := (Below.refl _ _).alloc (Nat.le_refl _) _
  obtain ⟨w0, hw0⟩ : ∃ w0, w0 = w.alloc (.cells #[.slice none 0 0] 68) := ⟨_, rfl⟩
  have hsz : w0.heap.size = w.heap.size + 1 := by rw [hw0]; simp
  rw [← hw0] at P0 b0
  have Hb0 := Lib.hid (Hb.out.below b0)
  have HB0 := Lib.hid P0; clear P0 b0
  have hcr := crcOn_lt 0 xs
  have HCR := Lib.hid hcr; clear hcr
  have hf4 := fixed4 _ HCR.out
  have hE4 := fixedE4 _ HCR.out
  have HF4 := Lib.hid hf4; have HE4 := Lib.hid hE4
  have wc : IntKind.u64.wrap ((crcOn 0 xs : Nat) : Int) = ((crcOn 0 xs : Nat) : Int) := by rw [IntKind.wrap_u64]; have := HCR.out; omega
  have hmk : markB xs = xs ++ le 4 (crcOn 0 xs) := rfl
  generalize hq : crcOn 0 xs = q at *
  have HCQ := Lib.hid hq; clear hq
  have HMK := Lib.hid hmk; clear hf4 hE4 hmk
  go_enter Try.func38, Try.ntmps38
  go_wp2_with fail
  rw [← hw0]
  clear hw0
  have hal : Below w0.heap.size w0 (w0.alloc (.cells #[.slice A xs.length c] 28)) := (Below.refl _ _).alloc (Nat.le_refl _) _
  have hpo := Parts.one Hb0.out 28
  rw [hsz] at hpo
  refine (raw_any _ _ _ [xs] [] _ (HB0.out.pen.below hal) hpo (by simp; omega) (by simp)).mono ?_
  rintro e w1 ⟨rfl, v1, g1⟩
  simp only [List.nil_append, List.flatten_cons, List.flatten_nil, List.append_nil] at g1
  have H1 := Lib.hid ((HB0.out.chg hal HB0.out.below.size).go g1 (Nat.le_trans HB0.out.below.size hal.size))
  have Hb1 := Lib.hid (Hb.out.below H1.out.below)
  clear g1 hal hpo
  go_wp2_with fail
  refine (sum_new _ xs _ Hb1.out hl).mono ?_
  rw [HCQ.out]
  rintro e w2 ⟨rfl, hb2⟩
  have H2 := Lib.hid (H1.out.chg hb2 H1.out.below.size)
  clear hb2
  go_wp2_with fail
  refine (fixedI _ _ _ _ _ _ H2.out.pen ⟨by omega, by have := HCR.out; omega⟩ (by omega)).mono ?_
  rw [Int.toNat_natCast, HE4.out, HF4.out, ← HMK.out]
  rintro e w3 ⟨rfl, v3, g3⟩
  have H3 := Lib.hid (H2.out.go g3 H2.out.below.size)
  clear g3
  go_wp2_with fail
  have hml : (markB xs).length = xs.length + 4 := by rw [HMK.out, List.length_append, le_length]
  refine (pall_any _ _ _ _ H3.out.pen (by omega)).mono ?_
  rintro e w4 ⟨v4, rfl, hown, hb4⟩
  have hown' := own_base hown (b := w.heap.size) (fun k hk => Nat.le_trans H3.out.below.size (hown.lt k hk).1)
  have HB4 := Lib.hid (H3.out.below.trans (hb4.mono H3.out.below.size))
  clear hown hb4
  go_wp2_with fail
  go_ret
  exact ⟨_, rfl, hown', HB4.out⟩
end
section
open Go.RowKit Go.Proofs
/-- What is read where the last four bytes are the sum of the others. -/
def bareR (xs : List UInt8) : Option (List UInt8) :=
  if xs.length < 4 then none else if leNum (xs.drop (xs.length - 4)) = crcOn 0 (xs.take (xs.length - 4)) then some (xs.take (xs.length - 4)) else none
theorem leNum_32 (l : List UInt8) (h : l.length = 4) : leNum l < 4294967296 := by
  have h1 := leNum_lt l
  rw [h] at h1
  have h3 : (256 : Nat) ^ 4 = 4294967296 := by decide
  omega
set_option maxHeartbeats 1000000 in
set_option maxRecDepth 100000 in
theorem bare_short (b : Value) (xs : List UInt8) (w : World) (hb : HB w b xs) (hl : xs.length ≤ 1000000) (hs : xs.length < 4) :
    Calls Try.prog 43 #[b] w fun e w' => e = .returned (.tuple #[.slice none 0 0, .int .i64 20]) ∧ Below w.heap.size w w' := by
  have Hb := Lib.hid hb
  obtain ⟨A, c, rfl, hlc⟩ := hb.shape
  clear hb
  have hE : efixE 4 xs.length = 10 := by unfold efixE; rw [if_neg (by decide), if_pos (by omega)]
  have HE := Lib.hid hE; clear hE
  go_enter Try.func43, Try.ntmps43
  go_wp2_with fail
  refine (look_any _ xs w Hb.out (by omega)).mono ?_
  rintro e w1 ⟨g, u, rfl, hg, he, hu, hb1⟩
  have HE1 := Lib.hid he; have HB1 := Lib.hid hb1; have HG := Lib.hid hg; clear he hu hb1 hg
  go_wp2_with fail
  rw [show max (0 : Int) ((xs.length : Int) - 4) = ((0 : Nat) : Int) from by omega]
  refine (eraw_ok g 0 u xs w1 HE1.out (by omega) (by omega)).mono ?_
  rintro e w2 ⟨v', u', rfl, hown, go2⟩
  have HB2 := Lib.hid (HB1.out.trans (go2.chg.below (B := w.heap.size) (by intro k hk; simp at hk; have := HG.out; omega) HB1.out.size))
  obtain ⟨A2, c2, rfl⟩ := own_slice hown
  have he2 := go2.eye
  rw [List.drop_zero] at he2
  have HE2 := Lib.hid he2
  clear hown go2 he2
  go_wp2_with fail
  refine (efixed_bad g 4 u' xs w2 HE2.out (by rw [HE.out]; decide)).mono ?_
  rw [HE.out]
  rintro e w3 ⟨rfl, rfl⟩
  go_wp2_with fail
  go_ret2
  exact ⟨rfl, HB2.out⟩
set_option maxHeartbeats 1000000 in
set_option maxRecDepth 100000 in
theorem bare_ok (b : Value) (xs : List UInt8) (n : Nat) (w : World) (hb : HB w b xs) (hl : xs.length ≤ 1000000) (hs : xs.length = n + 4) (heq : leNum (xs.drop n) = crcOn 0 (xs.take n)) :
    Calls Try.prog 43 #[b] w fun e w' => ∃ v', e = .returned (.tuple #[v', .int .i64 0]) ∧ w'.ownsRow w.heap.size 5 1 v' n (bs (xs.take n)) ∧ Below w.heap.size w w' := by
  have Hb := Lib.hid hb
  obtain ⟨A, c, rfl, hlc⟩ := hb.shape
  clear hb
  have HEQ := Lib.hid heq
  clear heq
  have hd4 : (xs.drop n).length = 4 := by simp; omega
  have htk : (xs.drop n).take (Int.toNat 4) = xs.drop n := List.take_of_length_le (by rw [hd4]; decide)
  have hle := leNum_32 _ hd4
  have hle64 : leNum (xs.drop n) < 18446744073709551616 := by omega
  have w4 : IntKind.u32.wrap ((leNum (xs.drop n) : Nat) : Int) = ((leNum (xs.drop n) : Nat) : Int) := by rw [IntKind.wrap_u32]; omega
  have HTK := Lib.hid htk
  have HS := Lib.hid hs
  clear hs
  have HD4 := Lib.hid hd4
  go_enter Try.func43, Try.ntmps43
  go_wp2_with fail
  refine (look_any _ xs w Hb.out (by omega)).mono ?_
  rintro e w1 ⟨g, u, rfl, hg, he, hu, hb1⟩
  have HE1 := Lib.hid he; have HB1 := Lib.hid hb1; have HG := Lib.hid hg; clear he hu hb1 hg htk hd4 hle hle64
  go_wp2_with fail
  rw [show max (0 : Int) ((xs.length : Int) - 4) = (n : Int) from by have := HS.out; omega]
  refine (eraw_ok g n u xs w1 HE1.out (by have := HS.out; omega) (by omega)).mono ?_
  rintro e w2 ⟨v', u', rfl, hown, go2⟩
  have HB2 := Lib.hid (HB1.out.trans (go2.chg.below (B := w.heap.size) (by intro k hk; simp at hk; have := HG.out; omega) HB1.out.size))
  have hx2 : HB w2 v' (xs.take n) := HB.of_own (base := w1.heap.size) (e := 5) (by have h : (xs.take n).length = n := (by have := HS.out; simp; omega); rw [h]; exact hown)
  have hown' := own_base hown (b := w.heap.size) (fun k hk => Nat.le_trans HB1.out.size (hown.lt k hk).1)
  have HOW := Lib.hid hown'
  obtain ⟨A2, c2, rfl⟩ := own_slice hown
  have hvl : ∀ k, (Value.slice A2 n c2).ownBlock = some k → k < w2.heap.size := fun k hk => (hown.lt k hk).2
  have hne : (Value.slice A2 n c2).ownBlock ≠ some g := by
    intro hk
    have h1 := (hown.lt g hk).1
    have h2 := blk_lt HE1.out.blk
    omega
  have HVL := Lib.hid hvl; have HNE := Lib.hid hne
  have HE2 := Lib.hid go2.eye; have HX2 := Lib.hid hx2
  clear hown go2 hown' hx2 hvl hne
  go_wp2_with fail
  refine (efixed_ok g 4 u' (xs.drop n) w2 HE2.out (by decide) (by rw [HD4.out]; decide)).mono ?_
  rw [HTK.out]
  rintro e w3 ⟨u3, rfl, go3⟩
  have HB3 := Lib.hid (HB2.out.trans (go3.chg.below (B := w.heap.size) (by intro k hk; simp at hk; have := HG.out; omega) HB2.out.size))
  have hx3 := HX2.out.chg go3.chg (by intro k hk; simp; intro e; subst e; exact HNE.out hk)
  have ho3 := own_chg HOW.out go3.chg (by intro k hk; simp; intro e; subst e; exact HNE.out hk)
  have HX3 := Lib.hid hx3; have HO3 := Lib.hid ho3
  clear go3 hx3 ho3
  go_wp2_with fail
  refine (sum_new _ (xs.take n) w3 HX3.out (by simp; omega)).mono ?_
  rintro e w4 ⟨rfl, hb4⟩
  have HB4 := Lib.hid (HB3.out.trans (hb4.mono HB3.out.size))
  have HO4 := Lib.hid (own_chg HO3.out (Chg.of_below hb4) (by simp))
  clear hb4
  have heq := HEQ.out
  rw [heq]
  clear heq
  generalize crcOn 0 (xs.take n) = q' at *
  go_wp2_with fail
  go_ret2
  exact ⟨_, rfl, HO4.out, HB4.out⟩
set_option maxHeartbeats 1000000 in
set_option maxRecDepth 100000 in
theorem bare_no (b : Value) (xs : List UInt8) (n : Nat) (w : World) (hb : HB w b xs) (hl : xs.length ≤ 1000000) (hs : xs.length = n + 4) (heq : leNum (xs.drop n) ≠ crcOn 0 (xs.take n)) :
    Calls Try.prog 43 #[b] w fun e w' => e = .returned (.tuple #[.slice none 0 0, .int .i64 20]) ∧ Below w.heap.size w w' := by
  have Hb := Lib.hid hb
  obtain ⟨A, c, rfl, hlc⟩ := hb.shape
  clear hb
  have HEQ := Lib.hid heq
  clear heq
  have hd4 : (xs.drop n).length = 4 := by simp; omega
  have htk : (xs.drop n).take (Int.toNat 4) = xs.drop n := List.take_of_length_le (by rw [hd4]; decide)
  have hle := leNum_32 _ hd4
  have hle64 : leNum (xs.drop n) < 18446744073709551616 := by omega
  have w4 : IntKind.u32.wrap ((leNum (xs.drop n) : Nat) : Int) = ((leNum (xs.drop n) : Nat) : Int) := by rw [IntKind.wrap_u32]; omega
  have HTK := Lib.hid htk
  have HS := Lib.hid hs
  clear hs
  have HD4 := Lib.hid hd4
  go_enter Try.func43, Try.ntmps43
  go_wp2_with fail
  refine (look_any _ xs w Hb.out (by omega)).mono ?_
  rintro e w1 ⟨g, u, rfl, hg, he, hu, hb1⟩
  have HE1 := Lib.hid he; have HB1 := Lib.hid hb1; have HG := Lib.hid hg; clear he hu hb1 hg htk hd4 hle hle64
  go_wp2_with fail
  rw [show max (0 : Int) ((xs.length : Int) - 4) = (n : Int) from by have := HS.out; omega]
  refine (eraw_ok g n u xs w1 HE1.out (by have := HS.out; omega) (by omega)).mono ?_
  rintro e w2 ⟨v', u', rfl, hown, go2⟩
  have HB2 := Lib.hid (HB1.out.trans (go2.chg.below (B := w.heap.size) (by intro k hk; simp at hk; have := HG.out; omega) HB1.out.size))
  have hx2 : HB w2 v' (xs.take n) := HB.of_own (base := w1.heap.size) (e := 5) (by have h : (xs.take n).length = n := (by have := HS.out; simp; omega); rw [h]; exact hown)
  have hown' := own_base hown (b := w.heap.size) (fun k hk => Nat.le_trans HB1.out.size (hown.lt k hk).1)
  have HOW := Lib.hid hown'
  obtain ⟨A2, c2, rfl⟩ := own_slice hown
  have hvl : ∀ k, (Value.slice A2 n c2).ownBlock = some k → k < w2.heap.size := fun k hk => (hown.lt k hk).2
  have hne : (Value.slice A2 n c2).ownBlock ≠ some g := by
    intro hk
    have h1 := (hown.lt g hk).1
    have h2 := blk_lt HE1.out.blk
    omega
  have HVL := Lib.hid hvl; have HNE := Lib.hid hne
  have HE2 := Lib.hid go2.eye; have HX2 := Lib.hid hx2
  clear hown go2 hown' hx2 hvl hne
  go_wp2_with fail
  refine (efixed_ok g 4 u' (xs.drop n) w2 HE2.out (by decide) (by rw [HD4.out]; decide)).mono ?_
  rw [HTK.out]
  rintro e w3 ⟨u3, rfl, go3⟩
  have HB3 := Lib.hid (HB2.out.trans (go3.chg.below (B := w.heap.size) (by intro k hk; simp at hk; have := HG.out; omega) HB2.out.size))
  have hx3 := HX2.out.chg go3.chg (by intro k hk; simp; intro e; subst e; exact HNE.out hk)
  have ho3 := own_chg HOW.out go3.chg (by intro k hk; simp; intro e; subst e; exact HNE.out hk)
  have HX3 := Lib.hid hx3; have HO3 := Lib.hid ho3
  clear go3 hx3 ho3
  go_wp2_with fail
  refine (sum_new _ (xs.take n) w3 HX3.out (by simp; omega)).mono ?_
  rintro e w4 ⟨rfl, hb4⟩
  have HB4 := Lib.hid (HB3.out.trans (hb4.mono HB3.out.size))
  have HO4 := Lib.hid (own_chg HO3.out (Chg.of_below hb4) (by simp))
  clear hb4
  have heq := HEQ.out
  generalize leNum (xs.drop n) = q at *
  generalize crcOn 0 (xs.take n) = q' at *
  have hne : ((q : Int) == (q' : Int)) = false := by simp; omega
  clear heq
  go_wp2_with fail
  go_ret2
  exact ⟨rfl, HB4.out⟩
end
section
open Go.RowKit Go.Proofs
set_option maxHeartbeats 1000000 in
set_option maxRecDepth 100000 in
theorem leNum_le (k n : Nat) (h : n < 256 ^ k) : leNum (le k n) = n := by
  induction k generalizing n with
  | zero => simp at h; subst h; rfl
  | succ k ih =>
    rw [Nat.pow_succ] at h
    rw [le, leNum, ih (n / 256) (by omega)]
    simp
    omega
theorem leNum_le4 (n : Nat) (h : n < 4294967296) : leNum (le 4 n) = n := by
  refine leNum_le 4 n ?_
  have : (256 : Nat) ^ 4 = 4294967296 := by decide
  omega
set_option maxHeartbeats 1000000 in
set_option maxRecDepth 100000 in
theorem four_any (n : Nat) (hn : n < 4294967296) (w : World) :
    Calls Try.prog 67 #[.int .u32 (n : Int)] w fun e w' => ∃ v', e = .returned v' ∧ w'.ownsRow w.heap.size 5 1 v' 4 (bs (le 4 n)) ∧ Below w.heap.size w w' := by
  have wc : IntKind.u64.wrap (n : Int) = (n : Int) := by rw [IntKind.wrap_u64]; omega
  have hE := fixedE4 n hn
  have hB := fixed4 n hn
  have HN := Lib.hid hn
  have HE := Lib.hid hE; have HBB := Lib.hid hB
  clear hE hB hn
  go_enter Try.func67, Try.ntmps67
  go_wp2_with fail
  refine (rfixed_any 4 n w (by have := HN.out; omega)).mono ?_
  rw [HE.out, HBB.out, le_length]
  rintro e w1 ⟨v1, rfl, hown, hb⟩
  obtain ⟨A, c, rfl⟩ := own_slice hown
  have HO := Lib.hid hown; have HB1 := Lib.hid hb
  clear hown hb
  go_wp2_with fail
  go_ret
  exact ⟨_, rfl, HO.out, HB1.out⟩

set_option maxHeartbeats 1000000 in
set_option maxRecDepth 100000 in
theorem rmark_any (b : Value) (xs : List UInt8) (w : World) (hb : HB w b xs) (hl : xs.length ≤ 1000000) :
    Calls Try.prog 62 #[b] w fun e w' => ∃ v', e = .returned v' ∧ w'.ownsRow w.heap.size 5 1 v' (markB xs).length (bs (markB xs)) ∧ Below w.heap.size w w' := by
  have Hb := Lib.hid hb
  obtain ⟨A, c, rfl, hlc⟩ := hb.shape
  clear hb
  have HCR := Lib.hid (crcOn_lt 0 xs)
  have hmk : markB xs = xs ++ le 4 (crcOn 0 xs) := rfl
  generalize hq : crcOn 0 xs = q at *
  have HCQ := Lib.hid hq; have HMK := Lib.hid hmk; clear hq hmk
  go_enter Try.func62, Try.ntmps62
  go_wp2_with fail
  refine (twin_any _ xs w Hb.out (by omega)).mono ?_
  rintro e w1 ⟨v1, rfl, hown, hb1⟩
  have HO1 := Lib.hid hown; have HB1 := Lib.hid hb1; have Hb1 := Lib.hid (Hb.out.below hb1)
  obtain ⟨A1, c1, rfl⟩ := own_slice hown
  clear hown hb1
  go_wp2_with fail
  refine (rsum_any _ xs w1 Hb1.out hl).mono ?_
  rw [HCQ.out]
  rintro e w' ⟨rfl, rfl⟩
  go_wp2_with fail
  refine (four_any q HCR.out w1).mono ?_
  rintro e w2 ⟨v2, rfl, hown2, hb2⟩
  have ho1 : w2.ownsRow w.heap.size 5 1 (.slice A1 xs.length c1) xs.length (bs xs) := own_chg HO1.out (Chg.of_below hb2) (by simp)
  have hb4 : HB w2 v2 (le 4 q) := HB.of_own (base := w1.heap.size) (e := 5) (by rw [le_length]; exact hown2)
  have HB2 := Lib.hid (HB1.out.trans (hb2.mono HB1.out.size))
  obtain ⟨A2, c2, rfl⟩ := own_slice hown2
  have HO2 := Lib.hid ho1; have HF2 := Lib.hid hb4
  clear hown2 hb2 ho1 hb4
  go_wp2_with (at_builtin; go_loud (refine wpl_pushes _ rfl (.tmp 4) (.tmp 7) 28 rfl w.heap.size 5 Try.underlying28 u8_info (.slice A1 xs.length c1) xs (le 4 q) _ rfl rfl ?c1 ?c2 ?c3 ?c4 ?_))
  case c1 => exact HO2.out
  case c2 => exact HF2.out
  case c3 => rw [le_length]; omega
  case c4 => exact HB2.out.size
  intro v' w' hown hg hnx
  have hown3 : w'.ownsRow w.heap.size 5 1 v' (markB xs).length (bs (markB xs)) := by rw [HMK.out, List.length_append]; exact hown
  have hbl : Below w.heap.size w w' := HB2.out.grown hg HB2.out.size (fun k hk => (HO2.out.lt k hk).1)
  have HO3 := Lib.hid hown3; have HB3 := Lib.hid hbl
  clear hown hown3 hbl hg hnx
  go_wp2_with fail
  go_ret
  exact ⟨_, rfl, HO3.out, HB3.out⟩

end
end Go.Proofs.Ytakeggdpnfibpaa
