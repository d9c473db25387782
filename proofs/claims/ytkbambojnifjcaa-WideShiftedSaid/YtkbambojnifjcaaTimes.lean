/- Contracts and words that the laws stand on (Times). -/
import Derived.Test.YtkbambojnifjcaaWords
import Derived.Test.YtkbambojnifjcaaMore
set_option linter.unusedVariables false
set_option linter.unusedSimpArgs false
namespace Go.Proofs.Ytkbambojnifjcaa
section
open Go
/-! Eight words, and the product word by word. -/
def we (p : Nat) : Array Value := #[.int .u64 (p % 18446744073709551616 : Nat), .int .u64 (p / 18446744073709551616 ^ 1 % 18446744073709551616 : Nat), .int .u64 (p / 18446744073709551616 ^ 2 % 18446744073709551616 : Nat), .int .u64 (p / 18446744073709551616 ^ 3 % 18446744073709551616 : Nat), .int .u64 (p / 18446744073709551616 ^ 4 % 18446744073709551616 : Nat), .int .u64 (p / 18446744073709551616 ^ 5 % 18446744073709551616 : Nat), .int .u64 (p / 18446744073709551616 ^ 6 % 18446744073709551616 : Nat), .int .u64 (p / 18446744073709551616 ^ 7 % 18446744073709551616 : Nat)]
def ek (p k : Nat) : Nat := p / 18446744073709551616 ^ k % 18446744073709551616
theorem ek_lt (n k : Nat) : ek n k < 18446744073709551616 := Nat.mod_lt _ (by decide)
theorem we_size (n : Nat) : (we n).size = 8 := rfl
theorem we_zero : we 0 = #[.int .u64 0, .int .u64 0, .int .u64 0, .int .u64 0, .int .u64 0, .int .u64 0, .int .u64 0, .int .u64 0] := by simp [we]
theorem we_get (p k : Nat) (hk : k < 8) : (we p)[k]? = some (.int .u64 (ek p k : Nat)) := by
  obtain rfl | rfl | rfl | rfl | rfl | rfl | rfl | rfl : k = 0 ∨ k = 1 ∨ k = 2 ∨ k = 3 ∨ k = 4 ∨ k = 5 ∨ k = 6 ∨ k = 7 := by omega
  all_goals simp [we, ek]
theorem we_set (p k d : Nat) (hk : k < 8) (hd : d < 18446744073709551616) : (we p).setIfInBounds k (.int .u64 (d : Nat)) = we (p - ek p k * 18446744073709551616 ^ k + d * 18446744073709551616 ^ k) := by
  obtain rfl | rfl | rfl | rfl | rfl | rfl | rfl | rfl : k = 0 ∨ k = 1 ∨ k = 2 ∨ k = 3 ∨ k = 4 ∨ k = 5 ∨ k = 6 ∨ k = 7 := by omega
  all_goals
    simp only [ek, Nat.reducePow]
    apply Array.ext
    · simp [we]
    · intro i h1 h2
      have hi : i = 0 ∨ i = 1 ∨ i = 2 ∨ i = 3 ∨ i = 4 ∨ i = 5 ∨ i = 6 ∨ i = 7 := by simp [we] at h2; omega
      rcases hi with rfl | rfl | rfl | rfl | rfl | rfl | rfl | rfl <;> simp [we] <;> omega
theorem wk_ek (n k : Nat) (hk : k < 4) : wk n k = ek n k := by
  obtain rfl | rfl | rfl | rfl : k = 0 ∨ k = 1 ∨ k = 2 ∨ k = 3 := by omega
  all_goals simp [wk, ek, pw]
/-- The word that the code computes. -/
theorem mul_word (t o c : Nat) (ht : t ≤ 18446744073709551615 * 18446744073709551615) (ho : o < 18446744073709551616) (hc : c < 18446744073709551616) :
    let b1 := (t % 18446744073709551616 + o) % 18446744073709551616
    let c1 := (t % 18446744073709551616 + o) / 18446744073709551616
    let t1 := t / 18446744073709551616 + c1
    let b2 := (b1 + c) % 18446744073709551616
    let c2 := (b1 + c) / 18446744073709551616
    c1 ≤ 1 ∧ c2 ≤ 1 ∧ t1 < 18446744073709551616 ∧ t1 + c2 < 18446744073709551616 ∧ b2 + (t1 + c2) * 18446744073709551616 = o + t + c := by
  intro b1 c1 t1 b2 c2
  simp only [b1, c1, t1, b2, c2]
  omega
/-- One step of the product: A is what stands, c what is carried. -/
theorem mul_gen (M : Nat) (hMp : 0 < M) (A c O x m i k t b cc : Nat) (hk : k < 4) (ht : t = x * (m / M ^ k % M)) (hA : A + c * M ^ (i + k) = O + x * (m % M ^ k) * M ^ i) (hl : A < M ^ (i + 4))
    (hb : b < M) (h : b + cc * M = A / M ^ (i + k) % M + t + c) :
    (A - A / M ^ (i + k) % M * M ^ (i + k) + b * M ^ (i + k)) + cc * M ^ (i + (k + 1)) = O + x * (m % M ^ (k + 1)) * M ^ i ∧
    A - A / M ^ (i + k) % M * M ^ (i + k) + b * M ^ (i + k) < M ^ (i + 4) := by
  have hP : 0 < M ^ (i + k) := Nat.pow_pos hMp
  have e1 : M ^ (i + (k + 1)) = M ^ (i + k) * M := by rw [← Nat.add_assoc, Nat.pow_succ]
  have e2 : M ^ (i + 4) = M ^ (3 - k) * (M ^ (i + k) * M) := by rw [← e1, ← Nat.pow_add]; congr 1; omega
  have e3 : m % M ^ (k + 1) = m % M ^ k + m / M ^ k % M * M ^ k := by rw [Nat.pow_succ, Nat.mod_mul, Nat.mul_comm (M ^ k)]
  have e4 : x * (m / M ^ k % M * M ^ k) * M ^ i = t * M ^ (i + k) := by rw [ht, Nat.pow_add, ← Nat.mul_assoc, Nat.mul_assoc, Nat.mul_comm (M ^ k)]
  rw [e1, e3, Nat.mul_add, Nat.add_mul, e4, ← Nat.add_assoc, ← hA]
  rw [e2] at hl ⊢
  clear e1 e2 e3 e4 hA ht
  generalize M ^ (i + k) = P at *
  generalize M ^ (3 - k) = R at *
  have e5 := Nat.div_add_mod A P
  have e6 := Nat.div_add_mod (A / P) M
  have e7 : A / P < R * M := by
    rw [Nat.div_lt_iff_lt_mul hP, Nat.mul_assoc, Nat.mul_comm M P]
    exact hl
  have e8 : A / P / M < R := by
    rw [Nat.div_lt_iff_lt_mul hMp]; exact e7
  have e9 := Nat.mod_lt A hP
  clear e7
  generalize A / P / M = hi at *
  generalize A / P % M = o at *
  generalize A % P = lo at *
  rw [← e6] at e5
  have g1 : P * (M * hi + o) = hi * (P * M) + o * P := by rw [Nat.mul_add, Nat.mul_comm P o, ← Nat.mul_assoc, Nat.mul_comm]
  rw [g1] at e5
  have g2 : b * P + cc * (P * M) = o * P + t * P + c * P := by
    rw [Nat.mul_comm P M, ← Nat.mul_assoc, ← Nat.add_mul, h, Nat.add_mul, Nat.add_mul]
  have g3 : b * P + lo < P * M := by
    have : b * P + P ≤ M * P := by rw [← Nat.succ_mul]; exact Nat.mul_le_mul_right _ hb
    rw [Nat.mul_comm P M]; omega
  have g4 : hi * (P * M) + P * M ≤ R * (P * M) := by rw [← Nat.succ_mul]; exact Nat.mul_le_mul_right _ e8
  clear g1 e6 e8 h hb
  generalize hi * (P * M) = u1 at *
  generalize R * (P * M) = u2 at *
  generalize cc * (P * M) = u3 at *
  generalize b * P = u4 at *
  generalize o * P = u5 at *
  generalize t * P = u6 at *
  generalize c * P = u7 at *
  generalize P * M = u8 at *
  constructor <;> omega
theorem mul_step (A c O x m i k t b cc : Nat) (hk : k < 4) (ht : t = x * ek m k) (hA : A + c * 18446744073709551616 ^ (i + k) = O + x * (m % 18446744073709551616 ^ k) * 18446744073709551616 ^ i) (hl : A < 18446744073709551616 ^ (i + 4))
    (hb : b < 18446744073709551616) (h : b + cc * 18446744073709551616 = ek A (i + k) + t + c) :
    (A - ek A (i + k) * 18446744073709551616 ^ (i + k) + b * 18446744073709551616 ^ (i + k)) + cc * 18446744073709551616 ^ (i + (k + 1)) = O + x * (m % 18446744073709551616 ^ (k + 1)) * 18446744073709551616 ^ i ∧
    A - ek A (i + k) * 18446744073709551616 ^ (i + k) + b * 18446744073709551616 ^ (i + k) < 18446744073709551616 ^ (i + 4) :=
  mul_gen 18446744073709551616 (by decide) A c O x m i k t b cc hk ht hA hl hb h
/-- A whole row is added. -/
theorem mul_row (A c n m i : Nat) (hm : m < 18446744073709551616 ^ 4) (hA : A + c * 18446744073709551616 ^ (i + 4) = n % 18446744073709551616 ^ i * m + ek n i * (m % 18446744073709551616 ^ 4) * 18446744073709551616 ^ i) (hl : A < 18446744073709551616 ^ (i + 4)) :
    A - ek A (i + 4) * 18446744073709551616 ^ (i + 4) + c * 18446744073709551616 ^ (i + 4) = n % 18446744073709551616 ^ (i + 1) * m := by
  have h0 : ek A (i + 4) = 0 := by unfold ek; rw [Nat.div_eq_of_lt hl]
  rw [h0, Nat.zero_mul, Nat.sub_zero, hA, Nat.mod_eq_of_lt hm]
  unfold ek
  rw [Nat.pow_succ, Nat.mod_mul, Nat.add_mul, Nat.mul_comm (18446744073709551616 ^ i) (n / 18446744073709551616 ^ i % 18446744073709551616), Nat.mul_assoc _ m, Nat.mul_comm m, Nat.mul_assoc]
end
section
open Go Go.RowKit Go.Proofs
def cmpW (n m : Nat) : Int := if n = m then 0 else if n < m then -1 else 1
attribute [local irreducible] wc pw we
set_option maxHeartbeats 1000000 in
set_option maxRecDepth 100000 in
theorem compare15 (n m : Nat) (hn : n < M4) (hm : m < M4) (w : World) :
    Calls Try.prog 15 #[.agg (wc n), .agg (wc m)] w fun e w' => e = .returned (.int .i64 (cmpW n m)) ∧ Below w.heap.size w w' := by
  obtain ⟨W2, hW2⟩ : ∃ W2, W2 = (w.alloc (.cells (wc n) 24)).alloc (.cells (wc m) 24) := ⟨_, rfl⟩
  have ha := heap2 w (.cells (wc n) 24) (.cells (wc m) 24)
  have hb2 : Below w.heap.size w ((w.alloc (.cells (wc n) 24)).alloc (.cells (wc m) 24)) := ((Below.refl _ _).alloc (Nat.le_refl _) _).alloc (by simp) _
  have hsz : W2.heap.size = w.heap.size + 2 := by rw [hW2]; simp
  rw [← hW2] at ha hb2
  have HA := Lib.hid ha.1; have HB_ := Lib.hid ha.2; have HB2 := Lib.hid hb2
  clear ha hb2
  have heq := run_eq24 n m hn hm
  have hg := guard24
  have ho1 := heap_alloc2_old w (.cells (wc n) 24) (.cells (wc m) 24)
  have ho2 := heap_alloc2_new w (.cells (wc n) 24) (.cells (wc m) 24)
  have HO1 := Lib.hid ho1; have HO2 := Lib.hid ho2
  clear ho1 ho2
  by_cases h1 : n = m
  · rw [decide_eq_true h1] at heq
    have hR : cmpW n m = 0 := by rw [cmpW, if_pos h1]
    rw [hR]
    clear h1 hR
    go_enter Try.func15, Try.ntmps15
    go_wp2_with (first | refine wpList_load_row (by rfl) 24 _ (by rfl) _ (by rfl) 24 _ (0, 0) _ HO1.out Try.underlying24 rfl (by rw [wc_size]; exact size24) ?_ | refine wpList_store_row (by rfl) 24 _ _ (by rfl) _ _ (by rfl) (by rfl) 24 _ HO1.out (by rw [wc_size]; exact size24) (by rw [wc_size, wc_size]) (wc_one _) ?_ | refine wpList_load_row (by rfl) 24 _ (by rfl) _ (by rfl) 24 _ (0, 0) _ HO2.out Try.underlying24 rfl (by rw [wc_size]; exact size24) ?_ | refine wpList_store_row (by rfl) 24 _ _ (by rfl) _ _ (by rfl) (by rfl) 24 _ HO2.out (by rw [wc_size]; exact size24) (by rw [wc_size, wc_size]) (wc_one _) ?_)
    go_ret
    exact ⟨rfl, ((Below.refl _ _).alloc (Nat.le_refl _) _).alloc (by simp) _⟩
  · rw [decide_eq_false h1] at heq
    have hsub := sub13 n m hn hm W2
    have hR : cmpW n m = if n < m then -1 else 1 := by rw [cmpW, if_neg h1]
    have HSUB := Lib.hid hsub
    clear hsub h1
    by_cases hlt : n < m
    · rw [if_pos hlt] at hR
      rw [hR]
      rw [decide_eq_true hlt] at HSUB
      clear hR hlt
      go_enter Try.func15, Try.ntmps15
      go_wp2_with (first | (first | refine wpList_load_row (by rfl) 24 _ (by rfl) _ (by rfl) 24 _ (0, 0) _ HO1.out Try.underlying24 rfl (by rw [wc_size]; exact size24) ?_ | refine wpList_store_row (by rfl) 24 _ _ (by rfl) _ _ (by rfl) (by rfl) 24 _ HO1.out (by rw [wc_size]; exact size24) (by rw [wc_size, wc_size]) (wc_one _) ?_ | refine wpList_load_row (by rfl) 24 _ (by rfl) _ (by rfl) 24 _ (0, 0) _ HO2.out Try.underlying24 rfl (by rw [wc_size]; exact size24) ?_ | refine wpList_store_row (by rfl) 24 _ _ (by rfl) _ _ (by rfl) (by rfl) 24 _ HO2.out (by rw [wc_size]; exact size24) (by rw [wc_size, wc_size]) (wc_one _) ?_) | (go_at_call 13; rw [← hW2]; refine HSUB.out.mono ?_; rintro e w1 ⟨rfl, hb1⟩; have HB3 := Lib.hid hb1; clear hb1 hW2) | refine wpList_store_row (by rfl) 24 _ _ (by rfl) _ _ (by rfl) (by rfl) 24 _ (heap_alloc_new _ _) (by rw [wc_size]; exact size24) (by rw [wc_size]; rfl) (wc_one _) ?_)
      go_ret
      exact ⟨rfl, below_setRow ((HB2.out.trans (HB3.out.mono HB2.out.size)).alloc (by have := (HB2.out.trans (HB3.out.mono HB2.out.size)).size; exact this) _) (by have := (HB2.out.trans (HB3.out.mono HB2.out.size)).size; exact this) _⟩
    · rw [if_neg hlt] at hR
      rw [hR]
      rw [decide_eq_false hlt] at HSUB
      clear hR hlt
      go_enter Try.func15, Try.ntmps15
      go_wp2_with (first | (first | refine wpList_load_row (by rfl) 24 _ (by rfl) _ (by rfl) 24 _ (0, 0) _ HO1.out Try.underlying24 rfl (by rw [wc_size]; exact size24) ?_ | refine wpList_store_row (by rfl) 24 _ _ (by rfl) _ _ (by rfl) (by rfl) 24 _ HO1.out (by rw [wc_size]; exact size24) (by rw [wc_size, wc_size]) (wc_one _) ?_ | refine wpList_load_row (by rfl) 24 _ (by rfl) _ (by rfl) 24 _ (0, 0) _ HO2.out Try.underlying24 rfl (by rw [wc_size]; exact size24) ?_ | refine wpList_store_row (by rfl) 24 _ _ (by rfl) _ _ (by rfl) (by rfl) 24 _ HO2.out (by rw [wc_size]; exact size24) (by rw [wc_size, wc_size]) (wc_one _) ?_) | (go_at_call 13; rw [← hW2]; refine HSUB.out.mono ?_; rintro e w1 ⟨rfl, hb1⟩; have HB3 := Lib.hid hb1; clear hb1 hW2) | refine wpList_store_row (by rfl) 24 _ _ (by rfl) _ _ (by rfl) (by rfl) 24 _ (heap_alloc_new _ _) (by rw [wc_size]; exact size24) (by rw [wc_size]; rfl) (wc_one _) ?_)
      go_ret
      exact ⟨rfl, below_setRow ((HB2.out.trans (HB3.out.mono HB2.out.size)).alloc (by have := (HB2.out.trans (HB3.out.mono HB2.out.size)).size; exact this) _) (by have := (HB2.out.trans (HB3.out.mono HB2.out.size)).size; exact this) _⟩
end
section
open Go Go.RowKit Go.Proofs
theorem heap5 (w : World) (a b c d e : Obj) : let W := ((((w.alloc a).alloc b).alloc c).alloc d).alloc e
    Below w.heap.size w W ∧ W.heap[w.heap.size]? = some a ∧ W.heap[w.heap.size + 1]? = some b ∧ W.heap[w.heap.size + 2]? = some c ∧ W.heap[w.heap.size + 3]? = some d ∧ W.heap[w.heap.size + 4]? = some e := by
  have hz : ∀ (w : World) (o : Obj), (w.alloc o).heap.size = w.heap.size + 1 := fun w o => by simp
  have h1 := Below.heap_alloc
  refine ⟨((((((Below.refl _ _).alloc (Nat.le_refl _) _).alloc (by simp) _).alloc (by simp; omega) _).alloc (by simp; omega) _).alloc (by simp; omega) _), ?_, ?_, ?_, ?_, ?_⟩
  · rw [h1 _ _ _ (by simp only [hz]; omega), h1 _ _ _ (by simp only [hz]; omega), h1 _ _ _ (by simp only [hz]; omega), h1 _ _ _ (by simp only [hz]; omega)]; exact heap_alloc_new w a
  · rw [h1 _ _ _ (by simp only [hz]; omega), h1 _ _ _ (by simp only [hz]; omega), h1 _ _ _ (by simp only [hz]; omega)]; exact heap_alloc2_new w a b
  · rw [h1 _ _ _ (by simp only [hz]; omega), h1 _ _ _ (by simp only [hz]; omega)]; have := heap_alloc2_new (w.alloc a) b c; simp only [hz] at this; exact this
  · rw [h1 _ _ _ (by simp only [hz]; omega)]; have := heap_alloc2_new ((w.alloc a).alloc b) c d; simp only [hz] at this; exact this
  · have := heap_alloc2_new (((w.alloc a).alloc b).alloc c) d e; simp only [hz] at this; exact this
theorem we_low (N j : Nat) (hj : j < 4) : (wc (N % M4))[j]? = (we N)[0 + j]? := by
  rw [wc_get _ _ hj, we_get _ _ (by omega)]
  congr 2
  obtain rfl | rfl | rfl | rfl : j = 0 ∨ j = 1 ∨ j = 2 ∨ j = 3 := by omega
  all_goals simp only [wk, ek, pw, M4, Nat.zero_add, Nat.reducePow]; omega
theorem we_high (N j : Nat) (hj : j < 4) : (wc (N / M4))[j]? = (we N)[4 + j]? := by
  rw [wc_get _ _ hj, we_get _ _ (by omega)]
  congr 2
  obtain rfl | rfl | rfl | rfl : j = 0 ∨ j = 1 ∨ j = 2 ∨ j = 3 := by omega
  all_goals simp only [wk, ek, pw, M4, Nat.reduceAdd, Nat.reducePow]; omega
theorem size22 : (Try.prog.info? 22).map (·.size) = some 1 := by kernel_rfl
theorem copy4 (w : World) (g h o N T cap : Nat) (t : TypeId) (hg : w.heap[g]? = some (.cells (wc 0) 24)) (hh : w.heap[h]? = some (.cells (we N) t)) (hT : ∀ j, j < 4 → (wc T)[j]? = (we N)[o + j]?) :
    (Builtin.copy_ #[50, 50] 3 #[.slice (some ⟨g, 0, none⟩) 4 4, .slice (some ⟨h, o, none⟩) 4 cap]).run Try.prog w = .ok (.int .i64 4) (w.setRow g (wc T)) := by
  have := run_copy_row (P := Try.prog) w 50 50 3 22 g 0 4 4 ⟨h, o, none⟩ 4 cap (wc 0) 24 (wc T).toList Try.underlying50 size22 hg rfl (fun j v hv => by
    have hj : j < 4 := by have := (List.getElem?_eq_some_iff.1 hv).1; simpa [wc_size] using this
    have e : (Addr.add ⟨h, o, none⟩ j : Addr) = ⟨h, o + j, none⟩ := by unfold Addr.add; split <;> simp_all
    rw [e, cell_of_row w h (o + j) _ _ _ hh, ← hT j hj]
    simpa using hv) (by simp [wc_size]) (fun v hv => by
    have := wc_one T
    exact (Array.all_eq_true_iff_forall_mem.1 this) v (by simpa using hv))
  rw [this]
  congr 2
theorem add64z (x y : Nat) (w : World) :
    (callFunc 29 #[.int .u64 x, .int .u64 y, .int .u64 0]).run Try.prog w =
      .ok (.value (.tuple #[.int .u64 (((x + y) % 18446744073709551616 : Nat) : Int), .int .u64 (((x + y) / 18446744073709551616 : Nat) : Int)])) w := add64 x y 0 (by omega) w
attribute [local irreducible] wc pw we
set_option maxHeartbeats 2000000 in
set_option maxRecDepth 100000 in
theorem mul10 (n m : Nat) (hn : n < M4) (hm : m < M4) (w : World) :
    Calls Try.prog 10 #[.agg (wc n), .agg (wc m)] w fun e w' => e = .returned (.tuple #[.agg (wc (n * m % M4)), .agg (wc (n * m / M4))]) ∧ Below w.heap.size w w' := by
  obtain ⟨W5, hW5⟩ : ∃ W5, W5 = ((((w.alloc (.cells (wc n) 24)).alloc (.cells (wc m) 24)).alloc (.cells (wc 0) 24)).alloc (.cells (wc 0) 24)).alloc (.cells (we 0) 46) := ⟨_, rfl⟩
  have ha := heap5 w (.cells (wc n) 24) (.cells (wc m) 24) (.cells (wc 0) 24) (.cells (wc 0) 24) (.cells (we 0) 46)
  simp only at ha
  rw [← hW5] at ha
  have HA := Lib.hid ha
  clear ha
  rw [wc_zero, we_zero] at hW5
  have hm4 : m < 18446744073709551616 ^ 4 := by simp only [Nat.reducePow]; exact hm
  have HM4 := Lib.hid hm4
  clear hm4
  go_enter Try.func10, Try.ntmps10
  go_wp2_with fail
  rw [← hW5]
  clear hW5
  go_loopw [13] (fun s13 w' => ∃ i : Nat, i ≤ 4 ∧ s13 = .int .i64 i ∧ Below w.heap.size w w' ∧ w'.heap[w.heap.size]? = some (.cells (wc n) 24) ∧ w'.heap[w.heap.size + 1]? = some (.cells (wc m) 24) ∧ w'.heap[w.heap.size + 2]? = some (.cells (wc 0) 24) ∧ w'.heap[w.heap.size + 3]? = some (.cells (wc 0) 24) ∧ w'.heap[w.heap.size + 4]? = some (.cells (we (n % 18446744073709551616 ^ i * m)) 46)) (fun s13 _ => 4 - (intOf s13).toNat)
  case atStart =>
    refine ⟨0, by omega, rfl, HA.out.1, HA.out.2.1, HA.out.2.2.1, HA.out.2.2.2.1, HA.out.2.2.2.2.1, ?_⟩
    rw [HA.out.2.2.2.2.2]; simp [Nat.mod_one]
  case round =>
    obtain ⟨i, hi, rfl, hbk, hA, hB, hC, hD, hE⟩ := hrel
    by_cases hlt : i < 4
    · have hxg := wc_get n i hlt
      rw [wk_ek n i hlt] at hxg
      have hxl := ek_lt n i
      obtain ⟨x, hx⟩ : ∃ x, x = ek n i := ⟨_, rfl⟩
      rw [← hx] at hxg hxl
      have HX := Lib.hid hx; have HXG := Lib.hid hxg
      have MM := Lib.hid (And.intro hbk (And.intro hA (And.intro hB (And.intro hC (And.intro hD hE)))))
      clear hx hxg hbk hA hB hC hD hE HA
      have kj0 : (0 : Int) ≤ (i : Int) := by omega
      have kj1 : (i : Int) < 4 := by omega
      go_wp2_with fail
      go_loopw [16, 8] (fun s16 s8 w' => ∃ k c A : Nat, k ≤ 4 ∧ s16 = .int .i64 k ∧ s8 = .int .u64 c ∧ c < 18446744073709551616 ∧ A < 18446744073709551616 ^ (i + 4) ∧ A + c * 18446744073709551616 ^ (i + k) = n % 18446744073709551616 ^ i * m + x * (m % 18446744073709551616 ^ k) * 18446744073709551616 ^ i ∧ Below w.heap.size w w' ∧ w'.heap[w.heap.size]? = some (.cells (wc n) 24) ∧ w'.heap[w.heap.size + 1]? = some (.cells (wc m) 24) ∧ w'.heap[w.heap.size + 2]? = some (.cells (wc 0) 24) ∧ w'.heap[w.heap.size + 3]? = some (.cells (wc 0) 24) ∧ w'.heap[w.heap.size + 4]? = some (.cells (we (A)) 46)) (fun s16 _ _ => 4 - (intOf s16).toNat)
      case atStart =>
        refine ⟨0, 0, n % 18446744073709551616 ^ i * m, by omega, rfl, rfl, by omega, ?_, by simp [Nat.mod_one], MM.out⟩
        have h1 : n % 18446744073709551616 ^ i < 18446744073709551616 ^ i := Nat.mod_lt _ (Nat.pow_pos (by decide))
        have h2 := HM4.out
        rw [Nat.pow_add]
        exact Nat.mul_lt_mul_of_le_of_lt (Nat.le_of_lt h1) h2 (Nat.pow_pos (by decide))
      case round =>
        obtain ⟨k, c, A, hk, rfl, rfl, hc, hAl, hinv, hbk, hA, hB, hC, hD, hE⟩ := hrel
        have HBk := Lib.hid hbk; have HA1 := Lib.hid hA; have HB1 := Lib.hid hB; have HC1 := Lib.hid hC; have HD1 := Lib.hid hD; have HE1 := Lib.hid hE
        clear hbk hA hB hC hD hE MM
        by_cases hlk : k < 4
        · have hyg := wc_get m k hlk
          rw [wk_ek m k hlk] at hyg
          have hyl := ek_lt m k
          obtain ⟨y, hy⟩ : ∃ y, y = ek m k := ⟨_, rfl⟩
          rw [← hy] at hyg hyl
          have htt : x * y ≤ 18446744073709551615 * 18446744073709551615 := Nat.mul_le_mul (by omega) (by omega)
          have hol := ek_lt A (i + k)
          have hog := we_get A (i + k) (by omega)
          obtain ⟨hw1, hw2, hw3, hw4, hw5⟩ := mul_word (x * y) (ek A (i + k)) c htt hol hc
          have hm64 := mul64 x y hxl hyl
          obtain ⟨tp, htp⟩ : ∃ q, q = x * y / 18446744073709551616 := ⟨_, rfl⟩
          obtain ⟨bt, hbt⟩ : ∃ q, q = x * y % 18446744073709551616 := ⟨_, rfl⟩
          have hstep := fun b cc => mul_step A c (n % 18446744073709551616 ^ i * m) x m i k (x * y) b cc hlk (by rw [hy]) hinv hAl
          have hset := fun d hd => we_set A (i + k) d (by omega) hd
          rw [← htp] at hm64 hw3 hw4 hw5
          rw [← hbt] at hm64 hw1 hw2 hw3 hw4 hw5
          clear htp hbt htt
          have had1 := add64z bt (ek A (i + k))
          obtain ⟨o, ho⟩ : ∃ o, o = ek A (i + k) := ⟨_, rfl⟩
          rw [← ho] at hog hw1 hw2 hw3 hw4 hw5 had1 hstep hset
          obtain ⟨b1, hb1⟩ : ∃ q, q = (bt + o) % 18446744073709551616 := ⟨_, rfl⟩
          obtain ⟨c1, hc1⟩ : ∃ q, q = (bt + o) / 18446744073709551616 := ⟨_, rfl⟩
          rw [← hb1] at hw2 hw4 hw5 had1
          rw [← hc1] at hw1 hw3 hw4 hw5 had1
          have had2 := add64z b1 c
          obtain ⟨b2, hb2⟩ : ∃ q, q = (b1 + c) % 18446744073709551616 := ⟨_, rfl⟩
          obtain ⟨c2, hc2⟩ : ∃ q, q = (b1 + c) / 18446744073709551616 := ⟨_, rfl⟩
          have hb2l : b2 < 18446744073709551616 := by rw [hb2]; exact Nat.mod_lt _ (by decide)
          rw [← hb2] at hw5 had2
          rw [← hc2] at hw2 hw4 hw5 had2
          obtain ⟨hs1, hs2⟩ := hstep b2 (tp + c1 + c2) hb2l hw5
          have hset2 := hset b2 hb2l
          obtain ⟨A', hA'⟩ : ∃ q, q = A - o * 18446744073709551616 ^ (i + k) + b2 * 18446744073709551616 ^ (i + k) := ⟨_, rfl⟩
          rw [← hA'] at hs1 hs2 hset2
          have HS1 := Lib.hid hs1; have HS2 := Lib.hid hs2; have HSET := Lib.hid hset2
          have HM64 := Lib.hid hm64; have HAD1 := Lib.hid had1; have HAD2 := Lib.hid had2
          have wr1 : IntKind.u64.wrap ((tp : Int) + (c1 : Int)) = ((tp + c1 : Nat) : Int) := by rw [IntKind.wrap_u64]; omega
          have wr2 : IntKind.u64.wrap (((tp + c1 : Nat) : Int) + (c2 : Int)) = ((tp + c1 + c2 : Nat) : Int) := by rw [IntKind.wrap_u64]; omega
          obtain ⟨t1, ht1⟩ : ∃ q, q = tp + c1 := ⟨_, rfl⟩
          rw [← ht1] at wr1 wr2 hw4
          have HCC := Lib.hid hw4
          obtain ⟨cc, hcc⟩ : ∃ q, q = t1 + c2 := ⟨_, rfl⟩
          rw [← hcc] at wr2 HCC
          rw [← ht1, ← hcc] at HS1
          have ki0 : (0 : Int) ≤ (k : Int) := by omega
          have ki1 : (k : Int) < 4 := by omega
          have wik : IntKind.i64.wrap ((i : Int) + (k : Int)) = ((i + k : Nat) : Int) := by rw [IntKind.wrap_i64]; omega
          obtain ⟨q, hq⟩ : ∃ q, q = i + k := ⟨_, rfl⟩
          rw [← hq] at wik hog
          have kq0 : (0 : Int) ≤ (q : Int) := by omega
          have kq1 : (q : Int) < 8 := by omega
          have HQ := Lib.hid hq; have HYG := Lib.hid hyg; have HOG := Lib.hid hog
          clear hs1 hs2 hset2 hstep hset hw1 hw2 hw3 hw4 hw5 hm64 had1 had2 hc1 hc2 hb1 hb2 hA' ht1 hcc hinv hAl hyg hy ho hog hol hq
          go_wp2_with fail
          refine wp_region_pi [(0, true), (1, true), (2, true), (3, true), (4, true), (5, true), (6, false), (7, true), (8, true), (9, true), (10, true), (11, true)] (by kernel_rfl) (by kernel_rfl) rfl (by kernel_rfl) (fun _ _ _ _ _ h => h) (fun w' => w'.heap[w.heap.size]? = some (.cells (wc n) 24) ∧ w'.heap[w.heap.size + 1]? = some (.cells (wc m) 24)) ⟨HA1.out, HB1.out⟩ ?_
          intro OPS hops
          iterate 6
            first | (refine wpPi_yield _ (by rw [hops.out]; simp only [List.getElem?_toArray, List.getElem?_cons_succ, List.getElem?_cons_zero]; rfl) (by first | rfl | (rw [hops.out]; rfl)) (fun w' hS => by have q1 : w'.cell? ⟨w.heap.size, i, none⟩ = some (.int .u64 (x : Int)) := (cell_of_row w' _ i _ _ _ hS.1).trans HXG.out; have q2 : w'.cell? ⟨w.heap.size + 1, k, none⟩ = some (.int .u64 (y : Int)) := (cell_of_row w' _ k _ _ _ hS.2).trans HYG.out; go_simp; rfl) ?_; simp only [Act.put, List.setIfInBounds_toArray, List.set_cons_succ, List.set_cons_zero]) | (refine wpPi_skip (by rw [hops.out]; simp only [List.getElem?_toArray, List.getElem?_cons_succ, List.getElem?_cons_zero]; rfl) (by first | rfl | (rw [hops.out]; rfl)) ?_; simp only [Act.put, List.setIfInBounds_toArray, List.set_cons_succ, List.set_cons_zero])
          refine wpPi_act (by rw [hops.out]; simp only [List.getElem?_toArray, List.getElem?_cons_succ, List.getElem?_cons_zero]; rfl) (by first | rfl | (rw [hops.out]; rfl)) ?_
          go_simp
          refine (HM64.out _).mono ?_
          rintro e w1 ⟨rfl, rfl⟩
          try (refine ⟨⟨HA1.out, HB1.out⟩, ?_⟩)
          iterate 5
            first | (refine wpPi_yield _ (by rw [hops.out]; simp only [List.getElem?_toArray, List.getElem?_cons_succ, List.getElem?_cons_zero]; rfl) (by first | rfl | (rw [hops.out]; rfl)) (fun w' hS => by have q1 : w'.cell? ⟨w.heap.size, i, none⟩ = some (.int .u64 (x : Int)) := (cell_of_row w' _ i _ _ _ hS.1).trans HXG.out; have q2 : w'.cell? ⟨w.heap.size + 1, k, none⟩ = some (.int .u64 (y : Int)) := (cell_of_row w' _ k _ _ _ hS.2).trans HYG.out; go_simp; rfl) ?_; simp only [Act.put, List.setIfInBounds_toArray, List.set_cons_succ, List.set_cons_zero]) | (refine wpPi_skip (by rw [hops.out]; simp only [List.getElem?_toArray, List.getElem?_cons_succ, List.getElem?_cons_zero]; rfl) (by first | rfl | (rw [hops.out]; rfl)) ?_; simp only [Act.put, List.setIfInBounds_toArray, List.set_cons_succ, List.set_cons_zero])
          simp only [wpPi]
          have had1 := HAD1.out
          have had2 := HAD2.out
          have hcl : wr.cell? ⟨w.heap.size + 1 + 1 + 1 + 1, q, none⟩ = some (.int .u64 (o : Int)) := (cell_of_row wr _ q _ _ _ HE1.out).trans HOG.out
          have hf : wr.frozen? ⟨w.heap.size + 1 + 1 + 1 + 1, q, none⟩ = false := frozen_of_row wr _ q _ 46 HE1.out
          have HSA := Lib.hid (show Below w.heap.size w (wr.setCell ⟨w.heap.size + 1 + 1 + 1 + 1, q, none⟩ (.int .u64 (b2 : Int))) ∧ (wr.setCell ⟨w.heap.size + 1 + 1 + 1 + 1, q, none⟩ (.int .u64 (b2 : Int))).heap[w.heap.size]? = some (.cells (wc n) 24) ∧ (wr.setCell ⟨w.heap.size + 1 + 1 + 1 + 1, q, none⟩ (.int .u64 (b2 : Int))).heap[w.heap.size + 1]? = some (.cells (wc m) 24) ∧ (wr.setCell ⟨w.heap.size + 1 + 1 + 1 + 1, q, none⟩ (.int .u64 (b2 : Int))).heap[w.heap.size + 2]? = some (.cells (wc 0) 24) ∧ (wr.setCell ⟨w.heap.size + 1 + 1 + 1 + 1, q, none⟩ (.int .u64 (b2 : Int))).heap[w.heap.size + 3]? = some (.cells (wc 0) 24) ∧ (wr.setCell ⟨w.heap.size + 1 + 1 + 1 + 1, q, none⟩ (.int .u64 (b2 : Int))).heap[w.heap.size + 4]? = some (.cells (we A') 46) from
            ⟨HBk.out.setCell (by simp; omega) _, (heap_setCell_other wr _ _ _ (by first | omega | (simp; omega) | simp)).trans HA1.out, (heap_setCell_other wr _ _ _ (by first | omega | (simp; omega) | simp)).trans HB1.out, (heap_setCell_other wr _ _ _ (by first | omega | (simp; omega) | simp)).trans HC1.out, (heap_setCell_other wr _ _ _ (by simp)).trans HD1.out, by rw [← HSET.out, ← HQ.out]; exact heap_setCell_same wr _ _ _ _ _ HE1.out⟩)
          go_wp2_with fail
          go_roundw
          case rel => exact ⟨k + 1, cc, A', by omega, by go_num, rfl, HCC.out, HS2.out, HS1.out, HSA.out.1.drew, HSA.out.2⟩
          case measure => simp [intOf]; omega
        · obtain rfl : k = 4 := by omega
          have hlast := mul_row A c n m i HM4.out (by rw [← HX.out]; exact hinv) hAl
          have hset := we_set A (i + 4) c (by omega) hc
          rw [hlast] at hset
          have hog := we_get A (i + 4) (by omega)
          obtain ⟨o, ho⟩ : ∃ o, o = ek A (i + 4) := ⟨_, rfl⟩
          rw [← ho] at hog
          have wik : IntKind.i64.wrap ((i : Int) + 4) = ((i + 4 : Nat) : Int) := by rw [IntKind.wrap_i64]; omega
          obtain ⟨q, hq⟩ : ∃ q, q = i + 4 := ⟨_, rfl⟩
          rw [← hq] at wik hog hset
          have kq0 : (0 : Int) ≤ (q : Int) := by omega
          have kq1 : (q : Int) < 8 := by omega
          have HSET := Lib.hid hset
          have hcl : wr.cell? ⟨w.heap.size + 1 + 1 + 1 + 1, q, none⟩ = some (.int .u64 (o : Int)) := (cell_of_row wr _ q _ _ _ HE1.out).trans hog
          have hf : wr.frozen? ⟨w.heap.size + 1 + 1 + 1 + 1, q, none⟩ = false := frozen_of_row wr _ q _ 46 HE1.out
          have HSA := Lib.hid (show Below w.heap.size w (wr.setCell ⟨w.heap.size + 1 + 1 + 1 + 1, q, none⟩ (.int .u64 (c : Int))) ∧ (wr.setCell ⟨w.heap.size + 1 + 1 + 1 + 1, q, none⟩ (.int .u64 (c : Int))).heap[w.heap.size]? = some (.cells (wc n) 24) ∧ (wr.setCell ⟨w.heap.size + 1 + 1 + 1 + 1, q, none⟩ (.int .u64 (c : Int))).heap[w.heap.size + 1]? = some (.cells (wc m) 24) ∧ (wr.setCell ⟨w.heap.size + 1 + 1 + 1 + 1, q, none⟩ (.int .u64 (c : Int))).heap[w.heap.size + 2]? = some (.cells (wc 0) 24) ∧ (wr.setCell ⟨w.heap.size + 1 + 1 + 1 + 1, q, none⟩ (.int .u64 (c : Int))).heap[w.heap.size + 3]? = some (.cells (wc 0) 24) ∧ (wr.setCell ⟨w.heap.size + 1 + 1 + 1 + 1, q, none⟩ (.int .u64 (c : Int))).heap[w.heap.size + 4]? = some (.cells (we (n % 18446744073709551616 ^ (i + 1) * m)) 46) from
            ⟨HBk.out.setCell (by simp; omega) _, (heap_setCell_other wr _ _ _ (by first | omega | (simp; omega) | simp)).trans HA1.out, (heap_setCell_other wr _ _ _ (by first | omega | (simp; omega) | simp)).trans HB1.out, (heap_setCell_other wr _ _ _ (by first | omega | (simp; omega) | simp)).trans HC1.out, (heap_setCell_other wr _ _ _ (by simp)).trans HD1.out, by rw [← HSET.out]; exact heap_setCell_same wr _ _ _ _ _ HE1.out⟩)
          clear hlast hset hog ho hq hinv hAl
          go_wp2_with fail
          go_roundw
          case rel => exact ⟨i + 1, by omega, by go_num, HSA.out⟩
          case measure => simp [intOf]; omega
    · obtain rfl : i = 4 := by omega
      have hE4 : wr.heap[w.heap.size + 4]? = some (.cells (we (n * m)) 46) := by
        rw [hE, Nat.mod_eq_of_lt (by simp only [Nat.reducePow]; exact hn)]
      have HE4 := Lib.hid hE4
      have MM := Lib.hid (And.intro hbk (And.intro hC hD))
      clear hbk hA hB hC hD hE hE4 HA
      go_wp2_with fail
      refine wp_region_pi [(0, true), (1, true), (2, false)] (by kernel_rfl) (by kernel_rfl) rfl (by kernel_rfl) (fun _ _ _ _ _ h => h) (fun w' => Below w.heap.size w w') MM.out.1.drew ?_
      intro OPS hops
      iterate 2
        first | (refine wpPi_yield _ (by rw [hops.out]; simp only [List.getElem?_toArray, List.getElem?_cons_succ, List.getElem?_cons_zero]; rfl) (by first | rfl | (rw [hops.out]; rfl)) (fun w' hS => by go_simp; rfl) ?_; simp only [Act.put, List.setIfInBounds_toArray, List.set_cons_succ, List.set_cons_zero]) | (refine wpPi_skip (by rw [hops.out]; simp only [List.getElem?_toArray, List.getElem?_cons_succ, List.getElem?_cons_zero]; rfl) (by first | rfl | (rw [hops.out]; rfl)) ?_; simp only [Act.put, List.setIfInBounds_toArray, List.set_cons_succ, List.set_cons_zero])
      refine wpPi_act (by rw [hops.out]; simp only [List.getElem?_toArray, List.getElem?_cons_succ, List.getElem?_cons_zero]; rfl) (by first | rfl | (rw [hops.out]; rfl)) ?_
      unfold Oper.wp
      have hcp := copy4 wr.drew (w.heap.size + 1 + 1) (w.heap.size + 1 + 1 + 1 + 1) 0 (n * m) (n * m % M4) 8 46 MM.out.2.1 HE4.out (fun j hj => we_low _ j hj)
      go_simp
      clear hcp
      try (refine ⟨(below_setRow MM.out.1.drew (by omega) _), ?_⟩)
      simp only [wpPi]
      go_wp2_with fail
      obtain ⟨V1, hV1⟩ : ∃ V1, V1 = wr.drew.setRow (w.heap.size + 1 + 1) (wc (n * m % M4)) := ⟨_, rfl⟩
      rw [← hV1]
      have v1 : V1.heap[w.heap.size + 1 + 1]? = some (.cells (wc (n * m % M4)) 24) := by rw [hV1]; exact setRow_heap _ _ _ _ _ _ MM.out.2.1
      have v2 : V1.heap[w.heap.size + 1 + 1 + 1]? = some (.cells (wc 0) 24) := by rw [hV1]; exact (setRow_other _ _ _ _ (by omega)).trans MM.out.2.2
      have v3 : V1.heap[w.heap.size + 1 + 1 + 1 + 1]? = some (.cells (we (n * m)) 46) := by rw [hV1]; exact (setRow_other _ _ _ _ (by omega)).trans HE4.out
      have vb : Below w.heap.size w V1 := by rw [hV1]; exact below_setRow MM.out.1.drew (by omega) _
      have VV := Lib.hid (And.intro vb (And.intro v1 (And.intro v2 v3)))
      clear hV1 v1 v2 v3 vb MM HE4
      refine wp_region_pi [(0, true), (1, true), (2, false)] (by kernel_rfl) (by kernel_rfl) rfl (by kernel_rfl) (fun _ _ _ _ _ h => h) (fun w' => Below w.heap.size w w') VV.out.1.drew ?_
      intro OPS hops
      iterate 2
        first | (refine wpPi_yield _ (by rw [hops.out]; simp only [List.getElem?_toArray, List.getElem?_cons_succ, List.getElem?_cons_zero]; rfl) (by first | rfl | (rw [hops.out]; rfl)) (fun w' hS => by go_simp; rfl) ?_; simp only [Act.put, List.setIfInBounds_toArray, List.set_cons_succ, List.set_cons_zero]) | (refine wpPi_skip (by rw [hops.out]; simp only [List.getElem?_toArray, List.getElem?_cons_succ, List.getElem?_cons_zero]; rfl) (by first | rfl | (rw [hops.out]; rfl)) ?_; simp only [Act.put, List.setIfInBounds_toArray, List.set_cons_succ, List.set_cons_zero])
      refine wpPi_act (by rw [hops.out]; simp only [List.getElem?_toArray, List.getElem?_cons_succ, List.getElem?_cons_zero]; rfl) (by first | rfl | (rw [hops.out]; rfl)) ?_
      unfold Oper.wp
      have hcp := copy4 V1.drew (w.heap.size + 1 + 1 + 1) (w.heap.size + 1 + 1 + 1 + 1) 4 (n * m) (n * m / M4) 4 46 VV.out.2.2.1 VV.out.2.2.2 (fun j hj => we_high _ j hj)
      go_simp
      clear hcp
      try (refine ⟨(below_setRow VV.out.1.drew (by omega) _), ?_⟩)
      simp only [wpPi]
      have v1 : (V1.drew.setRow (w.heap.size + 1 + 1 + 1) (wc (n * m / M4))).heap[w.heap.size + 1 + 1]? = some (.cells (wc (n * m % M4)) 24) := (setRow_other _ _ _ _ (by omega)).trans VV.out.2.1
      have v2 : (V1.drew.setRow (w.heap.size + 1 + 1 + 1) (wc (n * m / M4))).heap[w.heap.size + 1 + 1 + 1]? = some (.cells (wc (n * m / M4)) 24) := setRow_heap _ _ _ _ _ _ VV.out.2.2.1
      have vb : Below w.heap.size w (V1.drew.setRow (w.heap.size + 1 + 1 + 1) (wc (n * m / M4))) := below_setRow VV.out.1.drew (by omega) _
      have V1_ := Lib.hid v1; have V2_ := Lib.hid v2; have VB := Lib.hid vb
      clear v1 v2 vb VV
      go_wp2_with (first | (first | refine wpList_load_row (by rfl) 24 _ (by rfl) _ (by rfl) 24 _ (0, 0) _ V1_.out Try.underlying24 rfl (by rw [wc_size]; exact size24) ?_ | refine wpList_store_row (by rfl) 24 _ _ (by rfl) _ _ (by rfl) (by rfl) 24 _ V1_.out (by rw [wc_size]; exact size24) (by simp only [wc_size]) (wc_one _) ?_ | refine wpList_load_row (by rfl) 24 _ (by rfl) _ (by rfl) 24 _ (0, 0) _ V2_.out Try.underlying24 rfl (by rw [wc_size]; exact size24) ?_ | refine wpList_store_row (by rfl) 24 _ _ (by rfl) _ _ (by rfl) (by rfl) 24 _ V2_.out (by rw [wc_size]; exact size24) (by simp only [wc_size]) (wc_one _) ?_ | refine wpList_load_row (by rfl) 24 _ (by rfl) _ (by rfl) 24 _ (0, 0) _ ((setRow_other _ _ _ _ (by omega)).trans V2_.out) Try.underlying24 rfl (by rw [wc_size]; exact size24) ?_ | refine wpList_store_row (by rfl) 24 _ _ (by rfl) _ _ (by rfl) (by rfl) 24 _ ((setRow_other _ _ _ _ (by omega)).trans V2_.out) (by rw [wc_size]; exact size24) (by simp only [wc_size]) (wc_one _) ?_) | fail)
      rw [setRow_self _ _ _ _ _ V1_.out, setRow_self _ _ _ _ _ V2_.out]
      exact bodyPost_ret (ret_cc (p := 4) (q := 5) rfl _ (w.heap.size + 1 + 1) (w.heap.size + 1 + 1 + 1) _ _ 24 24 (0, 0) (0, 0) (by rfl) (by rfl) V1_.out (wc_size _) V2_.out (wc_size _)) rfl ⟨rfl, VB.out⟩
end
end Go.Proofs.Ytkbambojnifjcaa
