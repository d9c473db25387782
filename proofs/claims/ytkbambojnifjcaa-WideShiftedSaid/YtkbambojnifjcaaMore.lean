/- Contracts and words that the laws stand on (More). -/
import Derived.ChangeKeysEq
import Derived.Laws.CopyOwn
import Derived.Test.YtkbambojnifjcaaWords
set_option linter.unusedVariables false
set_option linter.unusedSimpArgs false
namespace Go.Proofs.Ytkbambojnifjcaa
section
open Go Go.RowKit Go.Proofs
theorem info22 : ∃ i, Try.prog.info? 22 = some i := Option.isSome_iff_exists.1 (by kernel_rfl)
theorem cells22 : Try.prog.cellsOf 22 = 1 := by kernel_rfl
theorem plain22 : Try.prog.plainKey 22 = true := by kernel_rfl
theorem wk_inj (n m : Nat) (hn : n < M4) (hm : m < M4) (h0 : wk n 0 = wk m 0) (h1 : wk n 1 = wk m 1) (h2 : wk n 2 = wk m 2) (h3 : wk n 3 = wk m 3) : n = m := by
  simp only [wk, pw, M4] at *
  omega
/-- Numbers are alike just if their words are. -/
theorem eq24 (n m : Nat) (hn : n < M4) (hm : m < M4) (w : World) : (Op.equalIn 10000 24 (.agg (wc n)) (.agg (wc m))).run Try.prog w = .ok (decide (n = m)) w := by
  obtain ⟨i, hi⟩ := info22
  show (Op.equalIn (9999 + 1) 24 (.agg (wc n)) (.agg (wc m))).run Try.prog w = _
  rw [run_equalIn_array w 9999 _ _ Try.underlying24 hi, cells22]
  have p := fun (n k : Nat) (hk : k < 4) (w : World) => run_part_plain (P := Try.prog) w plain22 (wc_get n k hk)
  have q : ∀ (a b : Int) (w : World), (Op.equalIn 9999 22 (.int .u64 a) (.int .u64 b)).run Try.prog w = .ok (a == b) w := fun a b w => run_equalIn_int (P := Try.prog) w 9998 22 .u64 .u64 a b Try.underlying22
  have q0 := q (wk n 0) (wk m 0); have q1 := q (wk n 1) (wk m 1); have q2 := q (wk n 2) (wk m 2); have q3 := q (wk n 3) (wk m 3)
  have p0 := fun n => p n 0 (by decide); have p1 := fun n => p n 1 (by decide); have p2 := fun n => p n 2 (by decide); have p3 := fun n => p n 3 (by decide)
  have hiff : decide (n = m) = (((wk n 0 : Int) == (wk m 0 : Int)) && (((wk n 1 : Int) == (wk m 1 : Int)) && (((wk n 2 : Int) == (wk m 2 : Int)) && ((wk n 3 : Int) == (wk m 3 : Int))))) := by
    by_cases h : n = m
    · subst h; simp
    · rw [decide_eq_false h]
      symm
      by_cases h0 : wk n 0 = wk m 0
      · by_cases h1 : wk n 1 = wk m 1
        · by_cases h2 : wk n 2 = wk m 2
          · have h3 : wk n 3 ≠ wk m 3 := fun e => h (wk_inj n m hn hm h0 h1 h2 e)
            have : ¬ (wk n 3 : Int) = (wk m 3 : Int) := by omega
            simp [h0, h1, h2, this]
          · have : ¬ (wk n 2 : Int) = (wk m 2 : Int) := by omega
            simp [this]
        · have : ¬ (wk n 1 : Int) = (wk m 1 : Int) := by omega
          simp [this]
      · have : ¬ (wk n 0 : Int) = (wk m 0 : Int) := by omega
        simp [this]
  rw [hiff]
  clear hiff p q hn hm
  generalize ((wk n 0 : Int) == (wk m 0 : Int)) = b0 at *
  generalize ((wk n 1 : Int) == (wk m 1 : Int)) = b1 at *
  generalize ((wk n 2 : Int) == (wk m 2 : Int)) = b2 at *
  generalize ((wk n 3 : Int) == (wk m 3 : Int)) = b3 at *
  simp only [List.range_succ, List.range_zero, List.nil_append, List.cons_append, Op.eqItems, Sem.run_bind, Nat.zero_mul, Nat.one_mul, Nat.mul_one, p0, p1, p2, p3, Result.andThen_ok, q0, q1, q2, q3]
  cases b0 <;> cases b1 <;> cases b2 <;> cases b3 <;> simp [p1, p2, p3, q1, q2, q3]
theorem run_eq24 (n m : Nat) (hn : n < M4) (hm : m < M4) (w : World) : (binOp .eql 24 (.agg (wc n)) (.agg (wc m))).run Try.prog w = .ok (.bool (decide (n = m))) w := by
  rw [run_eql_struct, eq24 n m hn hm]
  rfl
theorem guard24 : Try.prog.eqGuardType Try.prog.depth 24 = false := by kernel_rfl
end
section
open Go Go.RowKit Go.Proofs
theorem wc_put (p k d : Nat) (hk : k < 4) (hd : d < 18446744073709551616) : (wc p).setIfInBounds k (.int .u64 (d : Nat)) = wc (p - wk p k * pw k + d * pw k) := by
  obtain rfl | rfl | rfl | rfl : k = 0 ∨ k = 1 ∨ k = 2 ∨ k = 3 := by omega
  all_goals
    simp only [pw, wk]
    apply Array.ext
    · simp [wc]
    · intro i h1 h2
      have hi : i = 0 ∨ i = 1 ∨ i = 2 ∨ i = 3 := by simp [wc] at h2; omega
      rcases hi with rfl | rfl | rfl | rfl <;> simp [wc] <;> omega
/-- n with its k lowest words turned. -/
def nt (n k : Nat) : Nat := n / pw k * pw k + (pw k - 1 - n % pw k)
theorem nt_step (n k : Nat) (hk : k < 4) : wk (nt n k) k = wk n k ∧ nt n k - wk (nt n k) k * pw k + (18446744073709551615 - wk n k) * pw k = nt n (k + 1) := by
  obtain rfl | rfl | rfl | rfl : k = 0 ∨ k = 1 ∨ k = 2 ∨ k = 3 := by omega
  all_goals
    simp only [pw, wk, nt]
    refine ⟨by omega, by omega⟩
theorem heap2 (w : World) (o p : Obj) : ((w.alloc o).alloc p).heap[w.heap.size]? = some o ∧ ((w.alloc o).alloc p).heap[w.heap.size + 1]? = some p := ⟨heap_alloc2_old w o p, heap_alloc2_new w o p⟩
theorem notM (n : Nat) (h : n < 18446744073709551616) : 18446744073709551615 ^^^ n = 18446744073709551615 - n := by
  apply Nat.eq_of_testBit_eq
  intro i
  have h1 := Nat.testBit_two_pow_sub_one 64 i
  have h2 := Nat.testBit_two_pow_sub_succ (n := 64) (x := n) h i
  rw [show 18446744073709551615 - n = 2 ^ 64 - (n + 1) by omega, h2, Nat.testBit_xor, show 18446744073709551615 = 2 ^ 64 - 1 by rfl, h1]
  by_cases hi : i < 64
  · simp [hi]
  · simp [hi]; exact Nat.testBit_lt_two_pow (Nat.lt_of_lt_of_le h (Nat.pow_le_pow_right (n := 2) (i := 64) (by omega) (by omega)))
theorem not64 (x : Nat) (hx : x < 18446744073709551616) : bits BinOp.xor IntKind.u64 (if IntKind.u64.signed = true then -1 else IntKind.u64.max) (x : Int) = ((18446744073709551615 - x : Nat) : Int) := by
  have := u64_xor_nat 18446744073709551615 x (by decide) hx
  rw [notM x hx] at this
  exact this
attribute [local irreducible] wc pw
set_option maxHeartbeats 1000000 in
set_option maxRecDepth 100000 in
theorem not14 (n : Nat) (hn : n < M4) (w : World) :
    Calls Try.prog 14 #[.agg (wc n)] w fun e w' => e = .returned (.agg (wc (M4 - 1 - n))) ∧ Below w.heap.size w w' := by
  obtain ⟨W2, hW2⟩ : ∃ W2, W2 = (w.alloc (.cells (wc n) 24)).alloc (.cells (wc 0) 24) := ⟨_, rfl⟩
  have ha := heap2 w (.cells (wc n) 24) (.cells (wc 0) 24)
  have hb2 : Below w.heap.size w ((w.alloc (.cells (wc n) 24)).alloc (.cells (wc 0) 24)) := ((Below.refl _ _).alloc (Nat.le_refl _) _).alloc (by simp) _
  rw [← hW2] at ha hb2
  have HA := Lib.hid ha.1; have HB_ := Lib.hid ha.2; have HB2 := Lib.hid hb2
  clear ha hb2
  rw [wc_zero] at hW2
  go_enter Try.func14, Try.ntmps14
  go_wp2_with fail
  rw [← hW2]
  clear hW2
  go_loopw [4] (fun s4 w' => ∃ k : Nat, k ≤ 4 ∧ s4 = .int .i64 k ∧ Below w.heap.size w w' ∧ w'.heap[w.heap.size]? = some (.cells (wc (nt n k)) 24) ∧ w'.heap[w.heap.size + 1]? = some (.cells (wc 0) 24)) (fun s4 _ => 4 - (intOf s4).toNat)
  case atStart =>
    refine ⟨0, by omega, rfl, HB2.out, ?_, HB_.out⟩
    rw [HA.out]; simp only [nt, pw]; simp [Nat.mod_one]
  case round =>
    obtain ⟨k, hk, rfl, hbk, hA, hB⟩ := hrel
    have HBk := Lib.hid hbk; have HA1 := Lib.hid hA; have HB1 := Lib.hid hB
    clear hbk hA hB
    by_cases hlt : k < 4
    · obtain ⟨hs1, hs2⟩ := nt_step n k hlt
      have hg := wc_get (nt n k) k hlt
      have hx := wk_lt n k
      have hset := wc_put (nt n k) k (18446744073709551615 - wk n k) hlt (by omega)
      rw [hs2] at hset
      rw [hs1] at hg
      have hnx := not64 _ hx
      have ki0 : (0 : Int) ≤ (k : Int) := by omega
      have ki1 : (k : Int) < 4 := by omega
      generalize wk n k = x at *
      obtain ⟨y, hy⟩ : ∃ y, y = 18446744073709551615 - x := ⟨_, rfl⟩
      rw [← hy] at hset hnx
      have HS := Lib.hid hset
      have hf : wr.frozen? ⟨w.heap.size, k, none⟩ = false := frozen_of_row wr _ k _ 24 HA1.out
      have hcl : wr.cell? ⟨w.heap.size, k, none⟩ = some (.int .u64 (x : Int)) := (cell_of_row wr _ k _ _ _ HA1.out).trans hg
      have HSA := Lib.hid (show (wr.setCell ⟨w.heap.size, k, none⟩ (.int .u64 (y : Int))).heap[w.heap.size]? = some (.cells (wc (nt n (k + 1))) 24) from by rw [← HS.out]; exact heap_setCell_same wr _ _ _ _ _ HA1.out)
      have HSB := Lib.hid (show (wr.setCell ⟨w.heap.size, k, none⟩ (.int .u64 (y : Int))).heap[w.heap.size + 1]? = some (.cells (wc 0) 24) from (heap_setCell_other wr _ _ _ (by simp)).trans HB1.out)
      have HBW := Lib.hid (HBk.out.setCell (p := ⟨w.heap.size, k, none⟩) (by simp) (.int .u64 (y : Int)))
      clear hset hs1 hs2 hg hy
      go_wp2_with fail
      go_roundw
      case rel => exact ⟨k + 1, by omega, by go_num, HBW.out, HSA.out, HSB.out⟩
      case measure => simp [intOf]; omega
    · obtain rfl : k = 4 := by omega
      have hA4 : wr.heap[w.heap.size]? = some (.cells (wc (M4 - 1 - n)) 24) := by
        rw [HA1.out]; congr 3; simp only [nt, pw, M4] at *; omega
      have HA4 := Lib.hid hA4
      clear hA4
      go_wp2_with (first | refine wpList_load_row (by rfl) 24 _ (by rfl) _ (by rfl) 24 _ (0, 0) _ HA4.out Try.underlying24 rfl (by rw [wc_size]; exact size24) ?_ | refine wpList_store_row (by rfl) 24 _ _ (by rfl) _ _ (by rfl) (by rfl) 24 _ HA4.out (by rw [wc_size]; exact size24) (by rw [wc_size, wc_size]) (wc_one _) ?_ | refine wpList_load_row (by rfl) 24 _ (by rfl) _ (by rfl) 24 _ (0, 0) _ HB1.out Try.underlying24 rfl (by rw [wc_size]; exact size24) ?_ | refine wpList_store_row (by rfl) 24 _ _ (by rfl) _ _ (by rfl) (by rfl) 24 _ HB1.out (by rw [wc_size]; exact size24) (by rw [wc_size, wc_size]) (wc_one _) ?_)
      refine bodyPost_ret (ret_c (p := 2) rfl _ (w.heap.size + 1) _ 24 (0, 0) (by rfl) (setRow_heap _ _ _ _ _ _ HB1.out) (wc_size _)) rfl ⟨rfl, below_setRow HBk.out (by omega) _⟩
set_option maxHeartbeats 1000000 in
set_option maxRecDepth 100000 in
theorem mul64 (x y : Nat) (hx : x < 18446744073709551616) (hy : y < 18446744073709551616) (w : World) :
    Calls Try.prog 28 #[.int .u64 x, .int .u64 y] w fun e w' => e = .returned (.tuple #[.int .u64 ((x * y / 18446744073709551616 : Nat) : Int), .int .u64 ((x * y % 18446744073709551616 : Nat) : Int)]) ∧ w' = w := by
  obtain ⟨bd, bt, bw, hhi⟩ := Lib.mul64_hi x y hx hy
  have ba := Lib.half_mul_le (a := x / 4294967296) (b := y / 4294967296) (by omega) (by omega)
  have bb := Lib.half_mul_le (a := x / 4294967296) (b := y % 4294967296) (by omega) (by omega)
  have bc := Lib.half_mul_le (a := x % 4294967296) (b := y / 4294967296) (by omega) (by omega)
  have ba' : x / 4294967296 * (y / 4294967296) < 18446744073709551616 := by omega
  have bb' : x / 4294967296 * (y % 4294967296) < 18446744073709551616 := by omega
  have bc' : x % 4294967296 * (y / 4294967296) < 18446744073709551616 := by omega
  have bh1 : x / 4294967296 * (y / 4294967296) + (x / 4294967296 * (y % 4294967296) + x % 4294967296 * (y % 4294967296) / 4294967296) / 4294967296 < 18446744073709551616 := by omega
  have bh : x / 4294967296 * (y / 4294967296) + (x / 4294967296 * (y % 4294967296) + x % 4294967296 * (y % 4294967296) / 4294967296) / 4294967296 + ((x / 4294967296 * (y % 4294967296) + x % 4294967296 * (y % 4294967296) / 4294967296) % 4294967296 + x % 4294967296 * (y / 4294967296)) / 4294967296 < 18446744073709551616 := by omega
  go_enter Try.func28, Try.ntmps28
  go_wp2
  simp only [Mul64.maskN x hx, Mul64.maskN y hy, Mul64.divN, Mul64.mulN, Mul64.addN, Mul64.wrapN _ bd, Mul64.wrapN _ bb', Mul64.wrapN _ bt, Mul64.maskN _ bt, Mul64.wrapN _ bc', Mul64.wrapN _ bw, Mul64.wrapN _ ba', Mul64.wrapN _ bh1, Mul64.wrapN _ bh, Mul64.wrapM (x * y)]
  rw [hhi]
  go_ret2
  exact ⟨rfl, rfl⟩
end
end Go.Proofs.Ytkbambojnifjcaa
