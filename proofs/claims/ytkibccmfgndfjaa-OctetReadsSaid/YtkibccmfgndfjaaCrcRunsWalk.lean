/- Contracts and words that the laws stand on (CrcRunsWalk). -/
import Derived.Test.YtkibccmfgndfjaaCrcPlain
import Derived.Test.YtkibccmfgndfjaaCrcMark
import Derived.Test.YtkibccmfgndfjaaCrcLin
import Derived.Test.YtkibccmfgndfjaaCrcRow
import Derived.Test.YtkibccmfgndfjaaCrcMarksWalk
set_option linter.unusedVariables false
set_option linter.unusedSimpArgs false
namespace Go.Proofs.Ytkibccmfgndfjaa
section
open Go.RowKit Go.Proofs
/-! Plain: what bits turned within 32 do to marked bytes. -/
theorem zn_add (j k c : Nat) : zn (j + k) c = zn j (zn k c) := by
  induction j with
  | zero => rw [Nat.zero_add]; rfl
  | succ j ih => rw [Nat.succ_add]; show zst (zn (j + k) c) = zst (zn j (zn k c)); rw [ih]
theorem zn_xor (k a b : Nat) : zn k (a ^^^ b) = zn k a ^^^ zn k b := by
  induction k with
  | zero => rfl
  | succ k ih => show zst _ = zst _ ^^^ zst _; rw [ih, zst_xor]
theorem zn_shift (k c : Nat) : zn k (2 ^ k * c) = c := by
  induction k generalizing c with
  | zero => simp [zn]
  | succ k ih =>
    rw [zn, ← zn_comm, Nat.pow_succ, Nat.mul_comm (2 ^ k) 2, Nat.mul_assoc, zst_two]
    exact ih c
theorem cstep2 (c x : Nat) (hx : x < 256) : cstep (cstep c (x % 16)) (x / 16) = zn 8 (c ^^^ x) := by
  rw [← bfold_cstep c x hx, bfold_zn 8 c x (by omega)]
theorem xor_add (x n : Nat) (hx : x < 256) : x + 256 * n = x ^^^ (256 * n) := by
  have h := Nat.two_pow_add_eq_or_of_lt (i := 8) (b := x) (by omega) n
  rw [Nat.add_comm, show (256 : Nat) * n = 2 ^ 8 * n from rfl, h]
  apply Nat.eq_of_testBit_eq
  intro i
  simp only [Nat.testBit_xor, Nat.testBit_or, Nat.testBit_two_pow_mul]
  by_cases hi : 8 ≤ i
  · have : x.testBit i = false := Nat.testBit_lt_two_pow (Nat.lt_of_lt_of_le (by omega : x < 2 ^ 8) (Nat.pow_le_pow_right (by omega) hi))
    simp [this]
  · simp [hi]
theorem creg_num (l : List UInt8) : ∀ c, creg c l = zn (8 * l.length) (c ^^^ leNum l) := by
  induction l with
  | nil => intro c; simp [creg, halves, leNum, zn]
  | cons x r ih =>
    intro c
    have hx := x.toNat_lt
    rw [creg_cons, cstep2 c x.toNat hx, ih, leNum, List.length_cons, show 8 * (r.length + 1) = 8 * r.length + 8 by omega, zn_add]
    congr 1
    rw [xor_add _ _ hx, ← Nat.xor_assoc, zn_xor 8 (c ^^^ x.toNat) (256 * leNum r), show (256 : Nat) = 2 ^ 8 from rfl, zn_shift]
theorem zst_zero {c : Nat} (hc : c < 4294967296) (h : zst c = 0) : c = 0 := by
  unfold zst at h
  split at h
  · rename_i ho
    exfalso
    have e : c / 2 = 2197175160 := by
      have := congrArg (· ^^^ 2197175160) h
      simpa [Nat.xor_assoc] using this
    omega
  · simp at h; omega
theorem zn_lt32 {c : Nat} (k : Nat) (h : c < 4294967296) : zn k c < 4294967296 := by
  induction k with
  | zero => exact h
  | succ k ih => exact zst_lt ih
theorem zn_zero {c : Nat} (k : Nat) (hc : c < 4294967296) (h : zn k c = 0) : c = 0 := by
  induction k with
  | zero => exact h
  | succ k ih => exact ih (zst_zero (zn_lt32 k hc) h)
theorem zn_of_zero (k : Nat) : zn k 0 = 0 := by
  induction k with
  | zero => rfl
  | succ k ih => show zst (zn k 0) = 0; rw [ih]; rfl
theorem xor_eq_zero {a b : Nat} (h : a ^^^ b = 0) : a = b := by
  have := congrArg (· ^^^ b) h
  simpa [Nat.xor_assoc] using this
theorem leNum_append (a b : List UInt8) : leNum (a ++ b) = leNum a + 256 ^ a.length * leNum b := by
  induction a with
  | nil => simp [leNum]
  | cons x r ih => rw [List.cons_append, leNum, leNum, ih, List.length_cons, Nat.pow_succ, Nat.mul_add, ← Nat.add_assoc, ← Nat.mul_assoc, Nat.mul_comm 256 (256 ^ _)]
/-- Marked, told by the register. -/
theorem marked_iff (l : List UInt8) (n : Nat) (hl : l.length = n + 4) : leNum (l.drop n) = crcOn 0 (l.take n) ↔ creg 4294967295 l = zn 32 4294967295 := by
  have ht : (l.take n).length = n := by simp; omega
  have hd : (l.drop n).length = 4 := by simp; omega
  have hv : leNum (l.drop n) < 4294967296 := by have := leNum_lt (l.drop n); rw [hd] at this; exact this
  have e := creg_append 4294967295 (l.take n) (l.drop n)
  rw [List.take_append_drop] at e
  rw [e, creg_num (l.drop n), hd, crcOn_zero]
  have hc := creg_lt (c := 4294967295) (by omega) (l.take n)
  generalize creg 4294967295 (l.take n) = c at *
  generalize leNum (l.drop n) = v at *
  constructor
  · rintro rfl
    rw [Nat.xor_comm 4294967295 c, ← Nat.xor_assoc, Nat.xor_self, Nat.zero_xor]
  · intro h
    have h2 : zn 32 ((c ^^^ v) ^^^ 4294967295) = 0 := by rw [zn_xor, h, Nat.xor_self]
    have h3 := zn_zero 32 (Nat.xor_lt_two_pow (n := 32) (Nat.xor_lt_two_pow (n := 32) hc hv) (by decide)) h2
    have h4 := xor_eq_zero h3
    rw [← h4, Nat.xor_comm c v, Nat.xor_assoc, Nat.xor_self, Nat.xor_zero]
/-- Of marked bytes in which bits within 32 are turned: marked again just if none is. -/
theorem runs_iff (l l' : List UInt8) (n f t : Nat) (hl : l.length = n + 4) (hl' : l'.length = n + 4) (hm : leNum (l.drop n) = crcOn 0 (l.take n)) (hf : f + 32 ≤ 8 * l.length) (ht : t < 4294967296) (hx : leNum l' = leNum l ^^^ (2 ^ f * t)) :
    leNum (l'.drop n) = crcOn 0 (l'.take n) ↔ t = 0 := by
  rw [marked_iff l' n hl']
  rw [marked_iff l n hl] at hm
  rw [creg_num] at hm ⊢
  rw [hl', hx, ← Nat.xor_assoc, zn_xor, ← hl, hm]
  have e : zn (8 * l.length) (2 ^ f * t) = zn (8 * l.length - f) t := by
    rw [show 8 * l.length = (8 * l.length - f) + f by omega, zn_add, zn_shift]
    congr 1; omega
  rw [e]
  constructor
  · intro h
    have h2 : zn (8 * l.length - f) t = 0 := by
      have := congrArg (zn 32 4294967295 ^^^ ·) h
      simpa [← Nat.xor_assoc] using this
    exact zn_zero _ ht h2
  · rintro rfl
    rw [zn_of_zero, Nat.xor_zero]
end
section
open Go.RowKit Go.Proofs
/-! Bits turned in place. -/
theorem shl_xor (f a b : Nat) : 2 ^ f * (a ^^^ b) = 2 ^ f * a ^^^ 2 ^ f * b := by
  have := Nat.shiftLeft_xor_distrib (a := a) (b := b) (i := f)
  simpa only [Nat.shiftLeft_eq, Nat.mul_comm _ (2 ^ f)] using this
theorem leNum_set (l : List UInt8) : ∀ (j : Nat) (hj : j < l.length) (b : UInt8), leNum (l.set j (l[j] ^^^ b)) = leNum l ^^^ (2 ^ (8 * j) * b.toNat) := by
  induction l with
  | nil => intro j hj; simp at hj
  | cons x r ih =>
    intro j hj b
    cases j with
    | zero =>
      have hx := x.toNat_lt
      have hb := b.toNat_lt
      simp only [List.getElem_cons_zero, List.set_cons_zero, leNum, UInt8.toNat_xor]
      rw [xor_add _ _ (Nat.xor_lt_two_pow (n := 8) hx hb), xor_add _ _ hx]
      simp [Nat.xor_assoc, Nat.xor_comm b.toNat]
    | succ j =>
      have hx := x.toNat_lt
      simp only [List.getElem_cons_succ, List.set_cons_succ, leNum]
      rw [ih j (by simpa using hj) b, xor_add _ _ hx, xor_add _ _ hx, show (256 : Nat) = 2 ^ 8 from rfl, shl_xor 8, Nat.xor_assoc]
      congr 2
      rw [show 8 * (j + 1) = 8 + 8 * j by omega, Nat.pow_add, Nat.mul_assoc]
/-- The bits of t below i, and one more. -/
theorem low_succ (t i : Nat) (h : t / 2 ^ i % 2 = 1) : t % 2 ^ (i + 1) = t % 2 ^ i ^^^ 2 ^ i := by
  have e : t % 2 ^ (i + 1) = 2 ^ i * 1 + t % 2 ^ i := by rw [Nat.pow_succ, Nat.mod_mul, h]; omega
  rw [e, Nat.two_pow_add_eq_or_of_lt (Nat.mod_lt _ (Nat.two_pow_pos i))]
  apply Nat.eq_of_testBit_eq
  intro k
  simp only [Nat.testBit_xor, Nat.testBit_or, Nat.testBit_mod_two_pow, Nat.mul_one, Nat.testBit_two_pow]
  by_cases hk : i = k
  · subst hk; simp
  · simp [hk]
theorem low_same (t i : Nat) (h : t / 2 ^ i % 2 = 0) : t % 2 ^ (i + 1) = t % 2 ^ i := by
  rw [Nat.pow_succ, Nat.mod_mul, h]; omega
theorem turn_succ (l : List UInt8) (N f t i p : Nat) (hp : p = f + i) (hl : p / 8 < l.length) (hN : leNum l = N ^^^ (2 ^ f * (t % 2 ^ i))) (hb : t / 2 ^ i % 2 = 1) :
    leNum (l.set (p / 8) (l[p / 8] ^^^ UInt8.ofNat (2 ^ (p % 8)))) = N ^^^ (2 ^ f * (t % 2 ^ (i + 1))) := by
  rw [leNum_set, hN, low_succ t i hb, shl_xor, Nat.xor_assoc]
  congr 2
  have h8 : 2 ^ (p % 8) < 256 := by
    have : 2 ^ (p % 8) ≤ 2 ^ 7 := Nat.pow_le_pow_right (by omega) (by omega)
    omega
  rw [UInt8.toNat_ofNat_of_lt' (by simpa using h8), ← Nat.pow_add, ← Nat.pow_add]
  congr 1
  omega
theorem own_set {w : World} {base g n cap : Nat} {xs : List UInt8} (h : w.ownsRow base 5 1 (.slice (some ⟨g, 0, none⟩) n cap) n (bs xs)) (j : Nat) (hj : j < n) (y : UInt8) :
    (w.setCell ⟨g, j, none⟩ (.int .u8 (y.toNat : Int))).ownsRow base 5 1 (.slice (some ⟨g, 0, none⟩) n cap) n (bs (xs.set j y)) ∧ base ≤ g ∧ w.frozen? ⟨g, j, none⟩ = false := by
  obtain ⟨h1, h2⟩ := h
  rcases h2 with ⟨e, hn⟩ | ⟨g', cap', cur, e, hb, hg, hnc, hm, hz, ht⟩
  · omega
  · injection e with e1 e2 e3
    injection e1 with e1
    injection e1 with e1
    subst e1 e3
    refine ⟨⟨by simp [bs] at h1 ⊢; exact h1, .inr ⟨g, cap, cur.setIfInBounds j (.int .u8 (y.toNat : Int)), rfl, hb, heap_setCell_same w g j cur 5 _ hg, hnc, hm, by simpa using hz, ?_⟩⟩, hb, frozen_of_row w g j cur 5 hg⟩
    simp only [Nat.mul_one] at ht ⊢
    rw [Array.toList_setIfInBounds, List.take_set, ht]
    simp [bs, List.map_set]
end
section
open Go.RowKit Go.Proofs
theorem alt {a w : World} (h : Below a.heap.size a w) (o : Obj) : Below a.heap.size a (w.alloc o) := h.alloc h.size o
theorem thn {a w w' : World} (h : Below a.heap.size a w) (k : Below w.heap.size w w') : Below a.heap.size a w' := h.trans (k.mono h.size)
theorem tmod_nat' (N L : Nat) (h : 0 < L) : (N : Int).tmod (L : Int) = ((N % L : Nat) : Int) := by
  rw [Int.tmod_eq_emod_of_nonneg (by omega)]
  rfl
attribute [local irreducible] Calls leNum
set_option maxHeartbeats 4000000 in
set_option maxRecDepth 100000 in
theorem crcRuns_walk (b : Value) (xs : List UInt8) (N t : Nat) (w : World) (hb : HB w b xs) (hN : N < 65536) (ht : t < 4294967296) :
    Calls Try.prog 11 #[b, .int .u16 (N : Int), .int .u32 (t : Int)] w fun e w' => e = .returned (.bool true) ∧ Below w.heap.size w w' := by
  have Hb := Lib.hid hb
  obtain ⟨A, c, rfl, hlc⟩ := hb.shape
  clear hb
  have HX := Lib.hid (Below.refl w.heap.size w)
  by_cases hl : xs.length ≤ 3000
  · have hxb : decide ((3000 : Int) < (xs.length : Int)) = false := by simp; omega
    go_enter Try.func11, Try.ntmps11
    go_wp2_with (go_at_call 22; refine (alive2_any _).mono ?_; rintro e w1 ⟨rfl, hb⟩; replace HX := Lib.hid (thn HX.out hb); replace Hb := Lib.hid (Hb.out.below hb); clear hb)
    have h1z := HX.out.size
    refine (mark_any _ xs w1 Hb.out (by omega)).mono ?_
    obtain ⟨mk, hmk⟩ : ∃ m, m = markB xs := ⟨_, rfl⟩
    have hm1 : mk.length = xs.length + 4 := by rw [hmk]; simp [markB, le_length]
    have hm3 : mk.take xs.length = xs := by rw [hmk, markB, List.take_left]
    have hm2 : leNum (mk.drop xs.length) = crcOn 0 (mk.take xs.length) := by
      rw [hm3, hmk, markB, List.drop_left]
      exact leNum_le4 _ (crcOn_lt 0 xs)
    rw [← hmk, hm1]
    clear hmk
    rintro e w2 ⟨v2, rfl, hown, hb⟩
    have H2 := Lib.hid (show HB w2 v2 mk from HB.of_own (by rw [hm1]; exact hown))
    have HO := Lib.hid hown
    replace HX := Lib.hid (thn HX.out hb)
    replace Hb := Lib.hid (Hb.out.below hb)
    have HB12 := Lib.hid hb
    obtain ⟨A2, c2, rfl⟩ := own_slice hown
    clear hb hown
    go_wp2_with fail
    refine (bare_ok _ mk xs.length w2 H2.out (by omega) hm1 hm2).mono ?_
    rw [hm3]
    rintro e w3 ⟨v3, rfl, hown, hb⟩
    have H3 := Lib.hid (show HB w3 v3 xs from HB.of_own hown)
    obtain ⟨A3, c3, rfl⟩ := own_slice hown
    replace HX := Lib.hid (thn HX.out hb)
    replace Hb := Lib.hid (Hb.out.below hb)
    replace HO := Lib.hid (own_chg HO.out (Chg.of_below hb) (by simp))
    clear hb hown H2
    have s1 := H3.out.string (P := Try.prog) 29 9 5 Try.underlying29 Try.underlying5 Try.underlying9
    have s2 := Hb.out.string (P := Try.prog) 29 9 5 Try.underlying29 Try.underlying5 Try.underlying9
    obtain ⟨f, hf, hfl⟩ : ∃ f : Nat, (N : Int) % (8 * ((xs.length : Int) + 4) - 31) = (f : Int) ∧ f + 32 ≤ 8 * (xs.length + 4) := ⟨N % (8 * (xs.length + 4) - 31), by rw [show (8 * ((xs.length : Int) + 4) - 31) = ((8 * (xs.length + 4) - 31 : Nat) : Int) by omega]; rfl, by have := Nat.mod_lt N (show 0 < 8 * (xs.length + 4) - 31 by omega); omega⟩
    obtain ⟨g, rfl⟩ : ∃ g, A2 = some ⟨g, 0, none⟩ := by
      rcases HO.out.2 with ⟨e, hn⟩ | ⟨g, cap, cur, e, _⟩
      · omega
      · injection e with e1; exact ⟨g, e1⟩
    go_wp2_with fail
    go_loopw [12] (fun s12 w' => ∃ (i : Nat) (l : List UInt8), i ≤ 32 ∧ s12 = .int .i64 i ∧ l.length = xs.length + 4 ∧ leNum l = leNum mk ^^^ (2 ^ f * (t % 2 ^ i)) ∧ w'.ownsRow w1.heap.size 5 1 (.slice (some ⟨g, 0, none⟩) (xs.length + 4) c2) (xs.length + 4) (bs l) ∧ Below w.heap.size w w') (fun s12 _ => 32 - (intOf s12).toNat)
    case atStart => exact ⟨0, mk, by omega, rfl, hm1, by rw [Nat.pow_zero, Nat.mod_one, Nat.mul_zero, Nat.xor_zero], HO.out, HX.out⟩
    case round =>
      clear HX HO s1 s2
      obtain ⟨i, l, hi, rfl, hll, hnum, hown, hbk⟩ := hrel
      have HO := Lib.hid hown; have HX := Lib.hid hbk; have HNUM := Lib.hid hnum
      clear hown hbk hnum
      by_cases hlt : i < 32
      · have ki0 : (0 : Int) ≤ (i : Int) := by omega
        have ki1 : (i : Int) < 32 := by omega
        have hdv : ((t : Int) / 2 ^ i) = ((t / 2 ^ i : Nat) : Int) := by rw [Int.natCast_ediv, Int.natCast_pow]; rfl
        have hlt2 : t / 2 ^ i < 4294967296 := Nat.lt_of_le_of_lt (Nat.div_le_self _ _) ht
        have hand : bits BinOp.and IntKind.u32 ((t : Int) / 2 ^ i) 1 = ((t / 2 ^ i % 2 : Nat) : Int) := by
          rw [hdv]
          have := u32_and_nat (t / 2 ^ i) 1 hlt2 (by decide)
          rw [Nat.and_one_is_mod] at this
          exact this
        have hpl : (f + i) / 8 < l.length := by omega
        obtain ⟨p, hp⟩ : ∃ p, p = f + i := ⟨_, rfl⟩
        by_cases hbit : t / 2 ^ i % 2 = 1
        · rw [hbit] at hand
          have hsucc := turn_succ l (leNum mk) f t i (f + i) rfl hpl HNUM.out hbit
          have hcell : wr.cell? ⟨g, (f + i) / 8, none⟩ = some (.int .u8 ((l[(f + i) / 8]).toNat : Int)) := by
            obtain ⟨a, ea, hca⟩ := (HB.of_own (xs := l) (by rw [hll]; exact HO.out)).at_ (i := (f + i) / 8) hpl hpl
            injection ea with ea
            subst ea
            have : (Addr.add ⟨g, 0, none⟩ ((f + i) / 8) : Addr) = ⟨g, (f + i) / 8, none⟩ := by unfold Addr.add; split <;> simp_all
            rwa [this] at hca
          obtain ⟨y, hy⟩ : ∃ y, y = l[(f + i) / 8] ^^^ UInt8.ofNat (2 ^ ((f + i) % 8)) := ⟨_, rfl⟩
          obtain ⟨hset, hge, hfz⟩ := own_set HO.out ((f + i) / 8) (by omega) y
          rw [← hy] at hsucc
          have hxor : bits BinOp.xor IntKind.u8 ((l[(f + i) / 8]).toNat : Int) ((2 : Int) ^ ((f + i) % 8) % 256) = (y.toNat : Int) := by
            have hk : (f + i) % 8 < 8 := by omega
            rw [hy]
            generalize l[(f + i) / 8] = x
            generalize (f + i) % 8 = k at *
            have h2 : ((2 : Int) ^ k % 256) = ((2 ^ k : Nat) : Int) ∧ 2 ^ k < 256 := by
              obtain rfl | rfl | rfl | rfl | rfl | rfl | rfl | rfl : k = 0 ∨ k = 1 ∨ k = 2 ∨ k = 3 ∨ k = 4 ∨ k = 5 ∨ k = 6 ∨ k = 7 := by omega
              all_goals decide
            rw [h2.1, u8_xor_nat _ _ x.toNat_lt h2.2, UInt8.toNat_xor, UInt8.toNat_ofNat_of_lt' (by simpa using h2.2)]
          have HXOR := Lib.hid hxor
          clear hxor
          have HS := Lib.hid hsucc; have HSET := Lib.hid hset
          clear hsucc hset hdv
          go_wp2_with fail
          go_roundw
          case rel => rw [HXOR.out]; exact ⟨i + 1, l.set ((f + i) / 8) y, by omega, by go_num, by simpa using hll, HS.out, HSET.out, HX.out.setCell (by show w.heap.size ≤ g; omega) _⟩
          case measure => simp [intOf]; omega
        · have hb0 : t / 2 ^ i % 2 = 0 := by omega
          rw [hb0] at hand
          have HLS := Lib.hid (low_same t i hb0)
          clear hb0 hbit hdv
          go_wp2_with fail
          go_roundw
          case rel => exact ⟨i + 1, l, by omega, by go_num, hll, by rw [HLS.out]; exact HNUM.out, HO.out, HX.out⟩
          case measure => simp [intOf]; omega
      · obtain rfl : i = 32 := by omega
        have hnum := HNUM.out
        rw [Nat.mod_eq_of_lt (show t < 2 ^ 32 from ht)] at hnum
        have hiff := runs_iff mk l xs.length f t hm1 hll hm2 (by omega) ht hnum
        have HB := Lib.hid (show HB wr (.slice (some ⟨g, 0, none⟩) (xs.length + 4) c2) l from HB.of_own (by rw [hll]; exact HO.out))
        clear hnum HNUM hm2 hm3
        by_cases h0 : t = 0
        · subst h0
          have hok := hiff.2 rfl
          clear hiff
          go_wp2_with fail
          refine (bare_ok _ l xs.length wr HB.out (by omega) hll hok).mono ?_
          rintro e w4 ⟨v4, rfl, hown, hb⟩
          obtain ⟨A4, c4, rfl⟩ := own_slice hown
          replace HX := Lib.hid (thn HX.out hb)
          clear hb hown hok
          go_wp2_with fail
          go_ret
          exact ⟨rfl, HX.out⟩
        · have hno : ¬ leNum (l.drop xs.length) = crcOn 0 (l.take xs.length) := fun h => h0 (hiff.1 h)
          clear hiff
          have ht0 : ¬ (t : Int) = 0 := by omega
          go_wp2_with fail
          refine (bare_no _ l xs.length wr HB.out (by omega) hll hno).mono ?_
          rintro e w4 ⟨rfl, hb⟩
          replace HX := Lib.hid (thn HX.out hb)
          clear hb hno
          go_wp2_with fail
          go_ret
          exact ⟨ret_bool (by simp; omega), HX.out⟩
  · have hxb : decide ((3000 : Int) < (xs.length : Int)) = true := by simp; omega
    go_enter Try.func11, Try.ntmps11
    go_wp2_with (go_at_call 22; refine (alive2_any _).mono ?_; rintro e w1 ⟨rfl, hb⟩)
    go_ret
    exact ⟨rfl, hb⟩
end
end Go.Proofs.Ytkibccmfgndfjaa
