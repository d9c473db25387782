/- Contracts and words that the laws stand on (RecL). -/
import Derived.Test.YtakeggdpnfibpaaCrcA
import Derived.Test.YtakeggdpnfibpaaRecK
set_option linter.unusedVariables false
set_option linter.unusedSimpArgs false
namespace Go.Proofs.Ytakeggdpnfibpaa
section
theorem notN (n : Nat) (h : n < 4294967296) : 4294967295 - n = 4294967295 ^^^ n := by
  apply Nat.eq_of_testBit_eq
  intro i
  have h1 := Nat.testBit_two_pow_sub_one 32 i
  have h2 := Nat.testBit_two_pow_sub_succ (n := 32) (x := n) h i
  rw [show 4294967295 - n = 2 ^ 32 - (n + 1) by omega, h2, Nat.testBit_xor, show 4294967295 = 2 ^ 32 - 1 by rfl, h1]
  by_cases hi : i < 32
  · simp [hi]
  · simp [hi]; exact Nat.testBit_lt_two_pow (Nat.lt_of_lt_of_le h (Nat.pow_le_pow_right (n := 2) (i := 32) (by omega) (by omega)))
theorem crcOn_zero (l : List UInt8) : crcOn 0 l = 4294967295 ^^^ creg 4294967295 l := by
  have := creg_lt (c := 4294967295) (by omega) l
  rw [crcOn, Nat.sub_zero, notN _ this]
theorem cstep_xor (c d h k : Nat) (hh : h < 16) (hk : k < 16) : cstep (c ^^^ d) (h ^^^ k) = cstep c h ^^^ cstep d k := by
  have hx : h ^^^ k < 16 := Nat.xor_lt_two_pow (n := 4) hh hk
  rw [cstep_z4 _ _ hx, cstep_z4 _ _ hh, cstep_z4 _ _ hk, ← z4_xor]
  congr 1
  rw [Nat.xor_assoc, Nat.xor_assoc]; congr 1
  rw [← Nat.xor_assoc, Nat.xor_comm d h, Nat.xor_assoc]
theorem creg_cons (c : Nat) (x : UInt8) (r : List UInt8) : creg c (x :: r) = creg (cstep (cstep c (x.toNat % 16)) (x.toNat / 16)) r := rfl
theorem creg_xor (a b : List UInt8) : ∀ (c d : Nat), a.length = b.length → creg (c ^^^ d) (List.zipWith (· ^^^ ·) a b) = creg c a ^^^ creg d b := by
  induction a generalizing b with
  | nil => intro c d h; cases b with
    | nil => rfl
    | cons y r => simp at h
  | cons x a ih =>
    intro c d h
    cases b with
    | nil => simp at h
    | cons y b =>
      have hx := x.toNat_lt
      have hy := y.toNat_lt
      have e1 : (x ^^^ y).toNat % 16 = (x.toNat % 16) ^^^ (y.toNat % 16) := by
        rw [UInt8.toNat_xor, show (16 : Nat) = 2 ^ 4 from rfl, Nat.xor_mod_two_pow]
      have e2 : (x ^^^ y).toNat / 16 = (x.toNat / 16) ^^^ (y.toNat / 16) := by
        rw [UInt8.toNat_xor, show (16 : Nat) = 2 ^ 4 from rfl, ← Nat.shiftRight_eq_div_pow, ← Nat.shiftRight_eq_div_pow, ← Nat.shiftRight_eq_div_pow, Nat.shiftRight_xor_distrib]
      rw [List.zipWith_cons_cons, creg_cons, creg_cons, creg_cons, e1, e2, cstep_xor _ _ _ _ (by omega) (by omega), cstep_xor _ _ _ _ (by omega) (by omega)]
      exact ih b _ _ (by simpa using h)
/-- Byte by byte, the three's xor. -/
def x3 (xs ys zs : List UInt8) (m : Nat) : List UInt8 := (List.range m).map fun i => xs.getD i 0 ^^^ ys.getD i 0 ^^^ zs.getD i 0
theorem x3_length (xs ys zs : List UInt8) (m : Nat) : (x3 xs ys zs m).length = m := by simp [x3]
theorem x3_succ (xs ys zs : List UInt8) (m : Nat) (hx : m < xs.length) (hy : m < ys.length) (hz : m < zs.length) : x3 xs ys zs (m + 1) = x3 xs ys zs m ++ [xs[m] ^^^ ys[m] ^^^ zs[m]] := by
  simp [x3, List.range_succ, List.getD, List.getElem?_eq_getElem hx, List.getElem?_eq_getElem hy, List.getElem?_eq_getElem hz]
theorem x3_zip (xs ys zs : List UInt8) (m : Nat) (hx : m ≤ xs.length) (hy : m ≤ ys.length) (hz : m ≤ zs.length) : x3 xs ys zs m = List.zipWith (· ^^^ ·) (List.zipWith (· ^^^ ·) (xs.take m) (ys.take m)) (zs.take m) := by
  apply List.ext_getElem
  · simp [x3]; omega
  · intro i h1 h2
    rw [x3_length] at h1
    simp [x3, List.getD, List.getElem?_eq_getElem (show i < xs.length by omega), List.getElem?_eq_getElem (show i < ys.length by omega), List.getElem?_eq_getElem (show i < zs.length by omega)]
theorem crc_x3 (xs ys zs : List UInt8) (m : Nat) (hx : m ≤ xs.length) (hy : m ≤ ys.length) (hz : m ≤ zs.length) :
    crcOn 0 (x3 xs ys zs m) = crcOn 0 (xs.take m) ^^^ crcOn 0 (ys.take m) ^^^ crcOn 0 (zs.take m) := by
  have key := creg_xor (List.zipWith (· ^^^ ·) (xs.take m) (ys.take m)) (zs.take m) (4294967295 ^^^ 4294967295) 4294967295 (by simp; omega)
  rw [creg_xor (xs.take m) (ys.take m) 4294967295 4294967295 (by simp; omega), ← x3_zip xs ys zs m hx hy hz] at key
  rw [Nat.xor_self, Nat.zero_xor] at key
  simp only [crcOn_zero]
  rw [key]
  generalize creg 4294967295 (xs.take m) = a
  generalize creg 4294967295 (ys.take m) = b
  generalize creg 4294967295 (zs.take m) = c
  apply Nat.eq_of_testBit_eq
  intro i
  simp only [Nat.testBit_xor]
  cases (4294967295 : Nat).testBit i <;> cases a.testBit i <;> cases b.testBit i <;> cases c.testBit i <;> rfl
end
section
open Go.RowKit Go.Proofs
/-! Plain: what bits turned within 32 do to marked bytes. -/
theorem zn_add (j k c : Nat) : zn (j + k) c = zn j (zn k c) := by
  induction j with
  | zero => rw [Nat.zero_add]; rfl
  | succ j ih => rw [Nat.succ_add]; show zst (zn (j + k) c) = zst (zn j (zn k c)); rw [ih]
theorem zn_xor (k a b : Nat) : zn k (a ^^^ b) = zn k a ^^^ zn k b := by
  induction k with
  | zero => rfl
  | succ k ih => show zst _ = zst _ ^^^ zst _; rw [ih, zst_xor]
theorem zn_shift (k c : Nat) : zn k (2 ^ k * c) = c := by
  induction k generalizing c with
  | zero => simp [zn]
  | succ k ih =>
    rw [zn, ← zn_comm, Nat.pow_succ, Nat.mul_comm (2 ^ k) 2, Nat.mul_assoc, zst_two]
    exact ih c
theorem cstep2 (c x : Nat) (hx : x < 256) : cstep (cstep c (x % 16)) (x / 16) = zn 8 (c ^^^ x) := by
  rw [← bfold_cstep c x hx, bfold_zn 8 c x (by omega)]
theorem xor_add (x n : Nat) (hx : x < 256) : x + 256 * n = x ^^^ (256 * n) := by
  have h := Nat.two_pow_add_eq_or_of_lt (i := 8) (b := x) (by omega) n
  rw [Nat.add_comm, show (256 : Nat) * n = 2 ^ 8 * n from rfl, h]
  apply Nat.eq_of_testBit_eq
  intro i
  simp only [Nat.testBit_xor, Nat.testBit_or, Nat.testBit_two_pow_mul]
  by_cases hi : 8 ≤ i
  · have : x.testBit i = false := Nat.testBit_lt_two_pow (Nat.lt_of_lt_of_le (by omega : x < 2 ^ 8) (Nat.pow_le_pow_right (by omega) hi))
    simp [this]
  · simp [hi]
theorem creg_num (l : List UInt8) : ∀ c, creg c l = zn (8 * l.length) (c ^^^ leNum l) := by
  induction l with
  | nil => intro c; simp [creg, halves, leNum, zn]
  | cons x r ih =>
    intro c
    have hx := x.toNat_lt
    rw [creg_cons, cstep2 c x.toNat hx, ih, leNum, List.length_cons, show 8 * (r.length + 1) = 8 * r.length + 8 by omega, zn_add]
    congr 1
    rw [xor_add _ _ hx, ← Nat.xor_assoc, zn_xor 8 (c ^^^ x.toNat) (256 * leNum r), show (256 : Nat) = 2 ^ 8 from rfl, zn_shift]
theorem zst_zero {c : Nat} (hc : c < 4294967296) (h : zst c = 0) : c = 0 := by
  unfold zst at h
  split at h
  · rename_i ho
    exfalso
    have e : c / 2 = 2197175160 := by
      have := congrArg (· ^^^ 2197175160) h
      simpa [Nat.xor_assoc] using this
    omega
  · simp at h; omega
theorem zn_lt32 {c : Nat} (k : Nat) (h : c < 4294967296) : zn k c < 4294967296 := by
  induction k with
  | zero => exact h
  | succ k ih => exact zst_lt ih
theorem zn_zero {c : Nat} (k : Nat) (hc : c < 4294967296) (h : zn k c = 0) : c = 0 := by
  induction k with
  | zero => exact h
  | succ k ih => exact ih (zst_zero (zn_lt32 k hc) h)
theorem zn_of_zero (k : Nat) : zn k 0 = 0 := by
  induction k with
  | zero => rfl
  | succ k ih => show zst (zn k 0) = 0; rw [ih]; rfl
theorem xor_eq_zero {a b : Nat} (h : a ^^^ b = 0) : a = b := by
  have := congrArg (· ^^^ b) h
  simpa [Nat.xor_assoc] using this
theorem leNum_append (a b : List UInt8) : leNum (a ++ b) = leNum a + 256 ^ a.length * leNum b := by
  induction a with
  | nil => simp [leNum]
  | cons x r ih => rw [List.cons_append, leNum, leNum, ih, List.length_cons, Nat.pow_succ, Nat.mul_add, ← Nat.add_assoc, ← Nat.mul_assoc, Nat.mul_comm 256 (256 ^ _)]
/-- Marked, told by the register. -/
theorem marked_iff (l : List UInt8) (n : Nat) (hl : l.length = n + 4) : leNum (l.drop n) = crcOn 0 (l.take n) ↔ creg 4294967295 l = zn 32 4294967295 := by
  have ht : (l.take n).length = n := by simp; omega
  have hd : (l.drop n).length = 4 := by simp; omega
  have hv : leNum (l.drop n) < 4294967296 := by have := leNum_lt (l.drop n); rw [hd] at this; exact this
  have e := creg_append 4294967295 (l.take n) (l.drop n)
  rw [List.take_append_drop] at e
  rw [e, creg_num (l.drop n), hd, crcOn_zero]
  have hc := creg_lt (c := 4294967295) (by omega) (l.take n)
  generalize creg 4294967295 (l.take n) = c at *
  generalize leNum (l.drop n) = v at *
  constructor
  · rintro rfl
    rw [Nat.xor_comm 4294967295 c, ← Nat.xor_assoc, Nat.xor_self, Nat.zero_xor]
  · intro h
    have h2 : zn 32 ((c ^^^ v) ^^^ 4294967295) = 0 := by rw [zn_xor, h, Nat.xor_self]
    have h3 := zn_zero 32 (Nat.xor_lt_two_pow (n := 32) (Nat.xor_lt_two_pow (n := 32) hc hv) (by decide)) h2
    have h4 := xor_eq_zero h3
    rw [← h4, Nat.xor_comm c v, Nat.xor_assoc, Nat.xor_self, Nat.xor_zero]
/-- Of marked bytes in which bits within 32 are turned: marked again just if none is. -/
theorem runs_iff (l l' : List UInt8) (n f t : Nat) (hl : l.length = n + 4) (hl' : l'.length = n + 4) (hm : leNum (l.drop n) = crcOn 0 (l.take n)) (hf : f + 32 ≤ 8 * l.length) (ht : t < 4294967296) (hx : leNum l' = leNum l ^^^ (2 ^ f * t)) :
    leNum (l'.drop n) = crcOn 0 (l'.take n) ↔ t = 0 := by
  rw [marked_iff l' n hl']
  rw [marked_iff l n hl] at hm
  rw [creg_num] at hm ⊢
  rw [hl', hx, ← Nat.xor_assoc, zn_xor, ← hl, hm]
  have e : zn (8 * l.length) (2 ^ f * t) = zn (8 * l.length - f) t := by
    rw [show 8 * l.length = (8 * l.length - f) + f by omega, zn_add, zn_shift]
    congr 1; omega
  rw [e]
  constructor
  · intro h
    have h2 : zn (8 * l.length - f) t = 0 := by
      have := congrArg (zn 32 4294967295 ^^^ ·) h
      simpa [← Nat.xor_assoc] using this
    exact zn_zero _ ht h2
  · rintro rfl
    rw [zn_of_zero, Nat.xor_zero]
end
section
open Go Go.RowKit Go.Proofs
attribute [local irreducible] Calls
/-! Records in whose bytes at most four that follow one another are turned, plain. -/
theorem shl_xor' (f a b : Nat) : 2 ^ f * (a ^^^ b) = 2 ^ f * a ^^^ 2 ^ f * b := by
  have := Nat.shiftLeft_xor_distrib (a := a) (b := b) (i := f)
  simpa only [Nat.shiftLeft_eq, Nat.mul_comm _ (2 ^ f)] using this
theorem leNum_app_xor (b c : List UInt8) : leNum (b ++ c) = leNum b ^^^ (2 ^ (8 * b.length) * leNum c) := by
  induction b with
  | nil => simp [leNum]
  | cons x b ih =>
    have hx := x.toNat_lt
    rw [List.cons_append, leNum, leNum, ih, xor_add _ _ hx, xor_add _ _ hx, show (256 : Nat) = 2 ^ 8 from rfl, shl_xor' 8, Nat.xor_assoc, List.length_cons]
    congr 2
    rw [show 8 * (b.length + 1) = 8 + 8 * b.length by omega, Nat.pow_add, Nat.mul_assoc]
theorem leNum_app_turn (a r r' : List UInt8) : leNum (a ++ r') = leNum (a ++ r) ^^^ (2 ^ (8 * a.length) * (leNum r ^^^ leNum r')) := by
  rw [leNum_app_xor, leNum_app_xor, Nat.xor_assoc, ← shl_xor', ← Nat.xor_assoc, Nat.xor_self, Nat.zero_xor]
theorem leNum_inj {b b' : List UInt8} (hl : b.length = b'.length) (h : leNum b = leNum b') : b = b' := by
  rw [← le_leNum b, ← le_leNum b', hl, h]
/-- Two lists of one length, alike outside of four places. -/
def Near (j : Nat) (l l' : List UInt8) : Prop := l.length = l'.length ∧ ∀ i, i < j ∨ j + 4 ≤ i → l'[i]? = l[i]?
theorem near_split {j : Nat} {l l' : List UInt8} (h : Near j l l') (hj : j + 4 ≤ l.length) : ∃ a b b' c, l = a ++ (b ++ c) ∧ l' = a ++ (b' ++ c) ∧ a.length = j ∧ b.length = 4 ∧ b'.length = 4 := by
  obtain ⟨h1, h2⟩ := h
  refine ⟨l.take j, (l.drop j).take 4, (l'.drop j).take 4, l.drop (j + 4), ?_, ?_, ?_, ?_, ?_⟩
  · rw [← List.drop_drop, List.take_append_drop, List.take_append_drop]
  · have e1 : l.take j = l'.take j := List.ext_getElem? fun i => by
      rw [List.getElem?_take, List.getElem?_take]
      split
      · rename_i hi; exact (h2 i (.inl hi)).symm
      · rfl
    have e2 : l.drop (j + 4) = l'.drop (j + 4) := List.ext_getElem? fun i => by
      rw [List.getElem?_drop, List.getElem?_drop]
      exact (h2 _ (.inr (by omega))).symm
    rw [e1, e2, ← List.drop_drop, List.take_append_drop, List.take_append_drop]
  · rw [List.length_take]; omega
  · rw [List.length_take, List.length_drop]; omega
  · rw [List.length_take, List.length_drop]; omega
theorem bare_near {p l' : List UInt8} {j : Nat} (h : Near j (markB p) l') (hne : l' ≠ markB p) : bareR l' = none := by
  have hlen := markB_length p
  obtain ⟨h1, h2⟩ := h
  have h' : Near (min j p.length) (markB p) l' := ⟨h1, fun i hi => by
    by_cases hj : j ≤ p.length
    · exact h2 i (by rw [Nat.min_eq_left hj] at hi; exact hi)
    · rw [Nat.min_eq_right (by omega)] at hi
      rcases hi with hi | hi
      · exact h2 i (.inl (by omega))
      · rw [List.getElem?_eq_none (by omega), List.getElem?_eq_none (by omega)]⟩
  have hfp : min j p.length ≤ p.length := Nat.min_le_right _ _
  generalize min j p.length = f at h' hfp
  have hf : f + 4 ≤ (markB p).length ∨ (markB p).length < f + 4 := by omega
  rcases hf with hf | hf
  · obtain ⟨a, b, b', c, e1, e2, ha, hb, hb'⟩ := near_split h' hf
    have ht : leNum b ^^^ leNum b' < 4294967296 := by
      have k1 := leNum_32 b hb
      have k2 := leNum_32 b' hb'
      exact Nat.xor_lt_two_pow (n := 32) k1 k2
    have hx : leNum l' = leNum (markB p) ^^^ (2 ^ (8 * f) * (leNum b ^^^ leNum b')) := by
      rw [e2, e1, leNum_app_turn a (b ++ c) (b' ++ c), ha]
      congr 2
      rw [leNum_app_xor b c, leNum_app_xor b' c, hb, hb', Nat.xor_assoc, ← Nat.xor_assoc (2 ^ (8 * 4) * leNum c), Nat.xor_comm (2 ^ (8 * 4) * leNum c) (leNum b'), Nat.xor_assoc, Nat.xor_self, Nat.xor_zero]
    have hm : leNum ((markB p).drop p.length) = crcOn 0 ((markB p).take p.length) := by
      have e3 : (markB p).drop p.length = le 4 (crcOn 0 p) := by simp [markB]
      have e4 : (markB p).take p.length = p := by simp [markB]
      rw [e3, e4]; exact leNum_le4 _ (crcOn_lt 0 p)
    have hr := runs_iff (markB p) l' p.length (8 * f) (leNum b ^^^ leNum b') hlen (by rw [← h1]; exact hlen) hm (by omega) ht hx
    have hne0 : leNum b ^^^ leNum b' ≠ 0 := fun h0 => by
      have h3 := xor_eq_zero h0
      have h4 := leNum_inj (by rw [hb, hb']) h3
      exact hne (by rw [e2, e1, h4])
    unfold bareR
    rw [if_neg (by omega), if_neg]
    rw [show l'.length - 4 = p.length by omega]
    exact fun h => hne0 (hr.1 h)
  · omega
theorem ne_at {l l' : List UInt8} {i : Nat} (h : l'[i]? ≠ l[i]?) : l' ≠ l := fun e => h (by rw [e])
theorem decA_burst {k : UInt8} {p post r' : List UInt8} {j d : Nat} (hp : p.length ≤ 200000) (h : Near j (recB k p ++ post) r') (hd : r'[d]? ≠ (recB k p ++ post)[d]?) (hdl : d < p.length + 13) : decA r' = none := by
  have h1 : (markB (k :: le 4 p.length)).length = 9 := by rw [markB_length]; simp [le_length]
  have e1 : (recB k p ++ post).take 9 = markB (k :: le 4 p.length) := by
    unfold recB
    rw [List.append_assoc, ← h1, List.take_left']
    rfl
  have e2 : (recB k p ++ post).drop 9 = markB p ++ post := by
    unfold recB
    rw [List.append_assoc, ← h1, List.drop_left']
    rfl
  have e3 : ((k :: le 4 p.length).drop 1).take 4 = le 4 p.length := by
    simp only [List.drop_succ_cons, List.drop_zero]
    exact List.take_of_length_le (by simp [le_length])
  have e4 : leNum (le 4 p.length) = p.length := leNum_le4 _ (by omega)
  obtain ⟨hl, ha⟩ := h
  by_cases hh : r'.take 9 = markB (k :: le 4 p.length)
  · have hd9 : 9 ≤ d := by
      by_cases h9 : 9 ≤ d
      · exact h9
      · exfalso
        have k1 : (r'.take 9)[d]? = r'[d]? := List.getElem?_take_of_lt (by omega)
        have k2 : ((recB k p ++ post).take 9)[d]? = (recB k p ++ post)[d]? := List.getElem?_take_of_lt (by omega)
        exact hd (by rw [← k1, ← k2, hh, e1])
    have hb : bareR ((r'.drop 9).take (p.length + 4)) = none := by
      have e5 : ((recB k p ++ post).drop 9).take (p.length + 4) = markB p := by rw [e2, show p.length + 4 = (markB p).length by rw [markB_length], List.take_left' rfl]
      have hn : Near (j - 9) (markB p) ((r'.drop 9).take (p.length + 4)) := by
        rw [← e5]
        refine ⟨by rw [List.length_take, List.length_take, List.length_drop, List.length_drop, hl], fun i hi => ?_⟩
        rw [List.getElem?_take, List.getElem?_take]
        split
        · rw [List.getElem?_drop, List.getElem?_drop]
          exact ha _ (by omega)
        · rfl
      refine bare_near hn (ne_at (i := d - 9) ?_)
      rw [← e5, List.getElem?_take_of_lt (by omega), List.getElem?_take_of_lt (by omega), List.getElem?_drop, List.getElem?_drop, show 9 + (d - 9) = d by omega]
      exact hd
    have hlen : r'.length = p.length + 13 + post.length := by rw [← hl, List.length_append, recB_length]
    unfold decA
    rw [hh, bareR_mark]
    simp only []
    rw [e3, e4, if_neg (by omega), hb]
  · have hn : Near j (markB (k :: le 4 p.length)) (r'.take 9) := by
      rw [← e1]
      refine ⟨by rw [List.length_take, List.length_take, hl], fun i hi => ?_⟩
      rw [List.getElem?_take, List.getElem?_take]
      split
      · exact ha _ hi
      · rfl
    have hb := bare_near hn hh
    unfold decA
    rw [hb]
/-- What is read of bytes of records in which one is turned, at 'first' the first time. -/
theorem burst_parts {l : List (Int × List UInt8)} {S' : List UInt8} {j first i : Nat} (hok : okL l = true) (hn : Near j (encL l) S') (hd : S'[first]? ≠ (encL l)[first]?) (hsame : ∀ q, q < first → S'[q]? = (encL l)[q]?) (hs : Stop l first i) :
    ∃ post, S' = [] ++ (encL (l.take i) ++ post) ∧ decR S' ((([] : List UInt8).length + (encL (l.take i)).length : Nat) : Int) = none := by
  obtain ⟨h1, h2, h3⟩ := hs
  obtain ⟨hl, ha⟩ := hn
  have hfl : first < (encL l).length := by
    by_cases hf : first < (encL l).length
    · exact hf
    · exfalso; exact hd (by rw [List.getElem?_eq_none (by omega), List.getElem?_eq_none (by omega)])
  have e0 : encL l = encL (l.take i) ++ encL (l.drop i) := by rw [← encL_app, List.take_append_drop]
  generalize hN : (encL (l.take i)).length = N at *
  have e1 : S'.take N = encL (l.take i) := by
    apply List.ext_getElem?
    intro q
    rw [List.getElem?_take]
    split
    · rename_i hq
      rw [hsame q (by omega), e0, List.getElem?_append_left (by omega)]
    · rw [List.getElem?_eq_none (by omega)]
  refine ⟨S'.drop N, by rw [List.nil_append, ← e1, List.take_append_drop], ?_⟩
  have hi : i < l.length := by
    by_cases hi : i < l.length
    · exact hi
    · exfalso
      have : l.drop i = [] := List.drop_eq_nil_of_le (by omega)
      rw [this] at e0
      have := congrArg List.length e0
      simp [encL] at this
      simp [encL] at hN hfl
      omega
  have hx : l[i]? = some l[i] := List.getElem?_eq_getElem hi
  have h4 := h3 _ hx
  obtain ⟨k, hk, hp⟩ := okL_get hok hx
  unfold decR
  by_cases h13 : (S'.length : Int) - ((([] : List UInt8).length + N : Nat) : Int) < 13
  · rw [if_pos (.inr (.inr h13))]
  · have hNl : N ≤ S'.length := by omega
    rw [if_neg (by simp at h13 ⊢; omega)]
    have e2 : ((([] : List UInt8).length + N : Nat) : Int).toNat = N := by simp
    rw [e2]
    have hN2 : Near (j - N) (encL (l.drop i)) (S'.drop N) := by
      have e3 : encL (l.drop i) = (encL l).drop N := by rw [e0, ← hN, List.drop_left' rfl]
      rw [e3]
      refine ⟨by rw [List.length_drop, List.length_drop, hl], fun q hq => ?_⟩
      rw [List.getElem?_drop, List.getElem?_drop]
      by_cases hjN : N ≤ j
      · exact ha _ (by omega)
      · rcases hq with hq | hq
        · omega
        · exact ha _ (.inr (by omega))
    have hd2 : (S'.drop N)[first - N]? ≠ (encL (l.drop i))[first - N]? := by
      have e3 : encL (l.drop i) = (encL l).drop N := by rw [e0, ← hN, List.drop_left' rfl]
      rw [e3, List.getElem?_drop, List.getElem?_drop, show N + (first - N) = first by omega]
      exact hd
    rw [drop_get hi, encL_cons] at hN2 hd2
    exact decA_burst hp hN2 hd2 (by omega)
end
end Go.Proofs.Ytakeggdpnfibpaa
