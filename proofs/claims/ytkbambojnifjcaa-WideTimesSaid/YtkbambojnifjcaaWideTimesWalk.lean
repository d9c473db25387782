/- Contracts and words that the laws stand on (WideTimesWalk). -/
import Derived.Test.YtkbambojnifjcaaLaw
set_option linter.unusedVariables false
set_option linter.unusedSimpArgs false
namespace Go.Proofs.Ytkbambojnifjcaa
section
open Go Go.RowKit Go.Proofs
/-- A word is set. -/
theorem Inv.setc {w W : World} {l : List (Nat × Nat)} {b n : Nat} (h : Inv w W ((b, n) :: l)) (k d : Nat) (hk : k < 4) (hd : d < 18446744073709551616) : Inv w (W.setCell ⟨b, k, none⟩ (.int .u64 (d : Int))) ((b, n - wk n k * pw k + d * pw k) :: l) := by
  rw [setCell_eq_setRow W b k (wc n) 24 (0, 0) _ (h.get (List.mem_cons_self ..)), wc_put n k d hk hd]
  exact h.set _
theorem Inv.setz {w W : World} {l : List (Nat × Nat)} {b n : Nat} (h : Inv w W ((b, n) :: l)) (k : Nat) (hk : k < 4) : Inv w (W.setCell ⟨b, k, none⟩ (.int .u64 0)) ((b, n - wk n k * pw k + 0 * pw k) :: l) := h.setc k 0 hk (by decide)
theorem Inv.rot {w W : World} {l : List (Nat × Nat)} {p q r : Nat × Nat} (h : Inv w W (p :: q :: r :: l)) : Inv w W (q :: r :: p :: l) :=
  ⟨h.1, fun x hx => h.2.1 x (by simp at hx ⊢; rcases hx with rfl | rfl | rfl | hx <;> simp [*]), by
    have := h.2.2
    simp only [List.map_cons, List.nodup_cons, List.mem_cons, not_or] at this ⊢
    exact ⟨⟨this.2.1.1, fun e => this.1.1 e.symm, this.2.1.2⟩, ⟨fun e => this.1.2.1 e.symm, this.2.2.1⟩, this.1.2.2, this.2.2.2⟩⟩
/-- n without its words from 2 on, up to i. -/
def lz (n i : Nat) : Nat := if i = 2 then n else if i = 3 then n - wk n 2 * pw 2 else n % 340282366920938463463374607431768211456
theorem lz2 (n : Nat) : lz n 2 = n := by unfold lz; rw [if_pos rfl]
theorem lz3 (n : Nat) : lz n 3 = n - n / 340282366920938463463374607431768211456 % 18446744073709551616 * 340282366920938463463374607431768211456 := by
  unfold lz; rw [if_neg (by decide), if_pos rfl]; simp only [wk, pw]
theorem lz4 (n : Nat) : lz n 4 = n % 340282366920938463463374607431768211456 := by unfold lz; rw [if_neg (by decide), if_neg (by decide)]
theorem lz_last (n : Nat) (hn : n < 115792089237316195423570985008687907853269984665640564039457584007913129639936) : (n - n / 340282366920938463463374607431768211456 % 18446744073709551616 * 340282366920938463463374607431768211456) - (n - n / 340282366920938463463374607431768211456 % 18446744073709551616 * 340282366920938463463374607431768211456) / 6277101735386680763835789423207666416102355444464034512896 % 18446744073709551616 * 6277101735386680763835789423207666416102355444464034512896 + 0 * 6277101735386680763835789423207666416102355444464034512896 = n % 340282366920938463463374607431768211456 := by
  omega
theorem lz_step (n i : Nat) (hn : n < M4) (h2 : 2 ≤ i) (h4 : i < 4) : lz n i - wk (lz n i) i * pw i + 0 * pw i = lz n (i + 1) := by
  obtain rfl | rfl : i = 2 ∨ i = 3 := by omega
  · rw [lz2, lz3, Nat.zero_mul, Nat.add_zero]; simp only [wk, pw]
  · rw [lz3, lz4]; simp only [wk, pw]; exact lz_last n hn
theorem Inv.cells {w W : World} {l : List (Nat × Nat)} {b n : Nat} (h : Inv w W l) (hm : (b, n) ∈ l) (k : Nat) (hk : k < 4) : W.cell? ⟨b, k, none⟩ = some (.int .u64 (wk n k : Nat)) ∧ W.frozen? ⟨b, k, none⟩ = false :=
  ⟨(cell_of_row W _ k _ _ _ (h.get hm)).trans (wc_get n k hk), frozen_of_row W _ k _ 24 (h.get hm)⟩
end
section
open Go Go.RowKit Go.Proofs
theorem half_lt (n : Nat) (h : n < 340282366920938463463374607431768211456) : n - wk n 1 * pw 1 + wk n 1 / 2 * pw 1 < 170141183460469231731687303715884105728 := by
  simp only [wk, pw]
  omega
theorem times_facts (a b c : Nat) (ha : a < 340282366920938463463374607431768211456) (hb : b < 170141183460469231731687303715884105728) (hc : c < 170141183460469231731687303715884105728) :
    (∀ w, Calls Try.prog 10 #[.agg (wc a), .agg (wc b)] w fun e w' => e = .returned (.tuple #[.agg (wc (a * b)), .agg (wc 0)]) ∧ Below w.heap.size w w') ∧
    (∀ w, Calls Try.prog 10 #[.agg (wc b), .agg (wc a)] w fun e w' => e = .returned (.tuple #[.agg (wc (a * b)), .agg (wc 0)]) ∧ Below w.heap.size w w') ∧
    (∀ w, Calls Try.prog 11 #[.agg (wc b), .agg (wc c)] w fun e w' => e = .returned (.tuple #[.agg (wc (b + c)), .bool false]) ∧ Below w.heap.size w w') ∧
    (∀ w, Calls Try.prog 10 #[.agg (wc a), .agg (wc (b + c))] w fun e w' => e = .returned (.tuple #[.agg (wc (a * (b + c))), .agg (wc 0)]) ∧ Below w.heap.size w w') ∧
    (∀ w, Calls Try.prog 10 #[.agg (wc a), .agg (wc c)] w fun e w' => e = .returned (.tuple #[.agg (wc (a * c)), .agg (wc 0)]) ∧ Below w.heap.size w w') ∧
    (∀ w, Calls Try.prog 11 #[.agg (wc (a * b)), .agg (wc (a * c))] w fun e w' => e = .returned (.tuple #[.agg (wc (a * (b + c))), .bool false]) ∧ Below w.heap.size w w') ∧
    (∀ w, Calls Try.prog 12 #[.int .u64 1] w fun e w' => e = .returned (.agg (wc 1)) ∧ Below w.heap.size w w') ∧
    (∀ w, Calls Try.prog 10 #[.agg (wc a), .agg (wc 1)] w fun e w' => e = .returned (.tuple #[.agg (wc a), .agg (wc 0)]) ∧ Below w.heap.size w w') ∧
    (∀ w, Calls Try.prog 10 #[.agg (wc a), .agg #[.int .u64 0, .int .u64 0, .int .u64 0, .int .u64 0]] w fun e w' => e = .returned (.tuple #[.agg (wc 0), .agg (wc 0)]) ∧ Below w.heap.size w w') := by
  have e1 : a * b ≤ 340282366920938463463374607431768211456 * 170141183460469231731687303715884105728 := Nat.mul_le_mul (by omega) (by omega)
  have e2 : a * c ≤ 340282366920938463463374607431768211456 * 170141183460469231731687303715884105728 := Nat.mul_le_mul (by omega) (by omega)
  have e3 : a * (b + c) = a * b + a * c := Nat.mul_add a b c
  have e4 : a * b + a * c < M4 := by
    have e5 : a * b ≤ (340282366920938463463374607431768211456 - 1) * 170141183460469231731687303715884105728 := Nat.mul_le_mul (by omega) (by omega)
    have e6 : a * c ≤ (340282366920938463463374607431768211456 - 1) * 170141183460469231731687303715884105728 := Nat.mul_le_mul (by omega) (by omega)
    simp only [M4] at *
    omega
  have m1 : a * b < M4 := by omega
  have m2 : a * c < M4 := by omega
  have ha4 : a < M4 := by simp only [M4]; omega
  have hb4 : b < M4 := by simp only [M4]; omega
  have hc4 : c < M4 := by simp only [M4]; omega
  have hs4 : b + c < M4 := by simp only [M4]; omega
  refine ⟨fun w => ?_, fun w => ?_, fun w => ?_, fun w => ?_, fun w => ?_, fun w => ?_, fun w => ?_, fun w => ?_, fun w => ?_⟩
  · have := mul10 a b ha4 hb4 w; rwa [Nat.mod_eq_of_lt m1, Nat.div_eq_of_lt m1] at this
  · have := mul10 b a hb4 ha4 w; rwa [Nat.mul_comm b a, Nat.mod_eq_of_lt m1, Nat.div_eq_of_lt m1] at this
  · have := add11 b c hb4 hc4 w; rwa [Nat.mod_eq_of_lt hs4, decide_eq_false (Nat.not_le.2 hs4)] at this
  · have := mul10 a (b + c) ha4 hs4 w; rwa [Nat.mod_eq_of_lt (by rw [e3]; exact e4), Nat.div_eq_of_lt (by rw [e3]; exact e4)] at this
  · have := mul10 a c ha4 hc4 w; rwa [Nat.mod_eq_of_lt m2, Nat.div_eq_of_lt m2] at this
  · have := add11 (a * b) (a * c) m1 m2 w; rwa [Nat.mod_eq_of_lt e4, decide_eq_false (Nat.not_le.2 e4), ← e3] at this
  · exact of12 1 (by decide) w
  · have := mul10 a 1 ha4 (by decide) w; rwa [Nat.mul_one, Nat.mod_eq_of_lt ha4, Nat.div_eq_of_lt ha4] at this
  · have := mul10 a 0 ha4 (by decide) w; rwa [Nat.mul_zero, Nat.zero_mod, Nat.zero_div, wc_zero] at this
attribute [local irreducible] wc pw we Calls
set_option maxHeartbeats 8000000 in
set_option maxRecDepth 100000 in
theorem wideTimes_walk (a0 b0 c0 : Nat) (ha : a0 < M4) (hb : b0 < M4) (hc : c0 < M4) (w : World) :
    Calls Try.prog 3 #[.agg (wc a0), .agg (wc b0), .agg (wc c0)] w fun e w' => e = .returned (.bool true) ∧ Below w.heap.size w w' := by
  have C0 := Lib.hid (fun w => alive9 w)
  have hI := (((Inv.start w).alloc a0).alloc b0).alloc c0
  obtain ⟨W3, hW3⟩ : ∃ W3, W3 = ((w.alloc (.cells (wc a0) 24)).alloc (.cells (wc b0) 24)).alloc (.cells (wc c0) 24) := ⟨_, rfl⟩
  rw [← hW3] at hI
  simp only [World.size_alloc] at hI
  have HI := Lib.hid hI
  clear hI
  go_enter Try.func3, Try.ntmps3
  go_wp2_with (first | (go_at_call 9; rw [← hW3]; clear hW3; refine (C0.out _).mono ?_; rintro e w1 ⟨rfl, hb⟩; replace HI := Lib.hid (Inv.call HI.out hb); clear hb))
  go_loopw [8] (fun s8 w' => ∃ i : Nat, 2 ≤ i ∧ i ≤ 4 ∧ s8 = .int .i64 i ∧ Inv w w' [(w.heap.size + 1 + 1, lz c0 i), (w.heap.size + 1, lz b0 i), (w.heap.size, lz a0 i)]) (fun s8 _ => 4 - (intOf s8).toNat)
  case atStart => exact ⟨2, by omega, by omega, rfl, by rw [lz2, lz2, lz2]; exact HI.out⟩
  case round =>
    clear HI
    obtain ⟨i, h2, hi, rfl, hI⟩ := hrel
    have HI := Lib.hid hI
    clear hI
    by_cases hlt : i < 4
    · have ki0 : (0 : Int) ≤ (i : Int) := by omega
      have ki1 : (i : Int) < 4 := by omega
      have J1 := HI.out.rot.rot.setz i hlt
      rw [lz_step a0 i ha h2 hlt] at J1
      have J2 := J1.rot.rot.setz i hlt
      rw [lz_step b0 i hb h2 hlt] at J2
      have J3 := J2.rot.rot.setz i hlt
      rw [lz_step c0 i hc h2 hlt] at J3
      obtain ⟨q1, f1⟩ := HI.out.cells (b := w.heap.size) (n := lz a0 i) (by simp) i hlt
      obtain ⟨q2, f2⟩ := J1.cells (b := w.heap.size + 1) (n := lz b0 i) (by simp) i hlt
      obtain ⟨q3, f3⟩ := J2.cells (b := w.heap.size + 1 + 1) (n := lz c0 i) (by simp) i hlt
      obtain ⟨p2, e2⟩ := HI.out.cells (b := w.heap.size + 1) (n := lz b0 i) (by simp) i hlt
      obtain ⟨p3, e3⟩ := HI.out.cells (b := w.heap.size + 1 + 1) (n := lz c0 i) (by simp) i hlt
      have HJ3 := Lib.hid J3
      clear J1 J2 J3
      go_wp2_with fail
      go_roundw
      case rel => exact ⟨i + 1, by omega, by omega, by go_num, HJ3.out⟩
      case measure => simp [intOf]; omega
    · obtain rfl : i = 4 := by omega
      have hI := HI.out
      rw [lz4, lz4, lz4] at hI
      clear HI
      obtain ⟨a, haq⟩ : ∃ x, x = a0 % 340282366920938463463374607431768211456 := ⟨_, rfl⟩
      obtain ⟨b1, hbq⟩ : ∃ x, x = b0 % 340282366920938463463374607431768211456 := ⟨_, rfl⟩
      obtain ⟨c1, hcq⟩ : ∃ x, x = c0 % 340282366920938463463374607431768211456 := ⟨_, rfl⟩
      rw [← haq, ← hbq, ← hcq] at hI
      have hal : a < 340282366920938463463374607431768211456 := by omega
      have hbl : b1 < 340282366920938463463374607431768211456 := by omega
      have hcl : c1 < 340282366920938463463374607431768211456 := by omega
      clear haq hbq hcq
      obtain ⟨q1, f1⟩ := hI.cells (b := w.heap.size + 1 + 1) (n := c1) (by simp) 1 (by decide)
      obtain ⟨q2, f2⟩ := hI.cells (b := w.heap.size + 1) (n := b1) (by simp) 1 (by decide)
      have J1 := (hI.setc 1 (wk c1 1 / 2) (by decide) (by have := wk_lt c1 1; omega)).rot.rot.rot.rot
      have J2 := J1.setc 1 (wk b1 1 / 2) (by decide) (by have := wk_lt b1 1; omega)
      rw [show ((wk c1 1 / 2 : Nat) : Int) = (wk c1 1 : Int) / 2 by omega, show ((wk b1 1 / 2 : Nat) : Int) = (wk b1 1 : Int) / 2 by omega] at J2
      have hcb := half_lt c1 hcl
      have hbb := half_lt b1 hbl
      generalize c1 - wk c1 1 * pw 1 + wk c1 1 / 2 * pw 1 = c at *
      generalize b1 - wk b1 1 * pw 1 + wk b1 1 / 2 * pw 1 = b at *
      have HI := Lib.hid J2
      clear hI J1 J2
      obtain ⟨k1, k2, k3, k4, k5, k6, k7, k8, k9⟩ := times_facts a b c hal hbb hcb
      have K1 := Lib.hid k1; have K2 := Lib.hid k2; have K3 := Lib.hid k3; have K4 := Lib.hid k4; have K5 := Lib.hid k5; have K6 := Lib.hid k6; have K7 := Lib.hid k7; have K8 := Lib.hid k8; have K9 := Lib.hid k9
      clear k1 k2 k3 k4 k5 k6 k7 k8 k9
      obtain ⟨x, hx⟩ : ∃ x, x = a * b := ⟨_, rfl⟩
      obtain ⟨s, hs⟩ : ∃ x, x = b + c := ⟨_, rfl⟩
      obtain ⟨z, hz⟩ : ∃ x, x = a * c := ⟨_, rfl⟩
      obtain ⟨p, hp⟩ : ∃ x, x = a * s := ⟨_, rfl⟩
      rw [← hx] at K1 K2 K6
      rw [← hz] at K5 K6
      rw [← hs] at K3 K4 K6
      rw [← hp] at K4 K6
      clear hx hs hz hp
      go_wp2_with (first | refine load_inv HI.out (by rfl) (by rfl) (by rfl) (by repeat (first | exact List.mem_cons_self .. | apply List.mem_cons_of_mem)) ?_ | (refine at_store 9 (by rfl) ?_; refine newB (r := x) (q := 0) HI.out (by rfl) (by rfl) (by rfl) (by rfl) (by rfl) (by rfl) (by rfl) (by rfl) (by rfl) (by rfl) ?_; intro V hV; clear HI; have HI := Lib.hid hV; clear hV; obtain ⟨b9, hbq⟩ : ∃ b, b = w1.heap.size := ⟨_, rfl⟩; rw [← hbq] at HI ⊢; clear hbq) | (refine at_store 11 (by rfl) ?_; refine newB (r := x) (q := 0) HI.out (by rfl) (by rfl) (by rfl) (by rfl) (by rfl) (by rfl) (by rfl) (by rfl) (by rfl) (by rfl) ?_; intro V hV; clear HI; have HI := Lib.hid hV; clear hV; obtain ⟨b11, hbq⟩ : ∃ b, b = w1.heap.size := ⟨_, rfl⟩; rw [← hbq] at HI ⊢; clear hbq) | (refine at_store 13 (by rfl) ?_; refine newA (r := s) HI.out (by rfl) (by rfl) (by rfl) (by rfl) ?_; intro V hV; clear HI; have HI := Lib.hid hV; clear hV; obtain ⟨b13, hbq⟩ : ∃ b, b = w1.heap.size := ⟨_, rfl⟩; rw [← hbq] at HI ⊢; clear hbq) | (refine at_store 15 (by rfl) ?_; refine newB (r := p) (q := 0) HI.out (by rfl) (by rfl) (by rfl) (by rfl) (by rfl) (by rfl) (by rfl) (by rfl) (by rfl) (by rfl) ?_; intro V hV; clear HI; have HI := Lib.hid hV; clear hV; obtain ⟨b15, hbq⟩ : ∃ b, b = w1.heap.size := ⟨_, rfl⟩; rw [← hbq] at HI ⊢; clear hbq) | (refine at_store 17 (by rfl) ?_; refine newB (r := z) (q := 0) HI.out (by rfl) (by rfl) (by rfl) (by rfl) (by rfl) (by rfl) (by rfl) (by rfl) (by rfl) (by rfl) ?_; intro V hV; clear HI; have HI := Lib.hid hV; clear hV; obtain ⟨b17, hbq⟩ : ∃ b, b = w1.heap.size := ⟨_, rfl⟩; rw [← hbq] at HI ⊢; clear hbq) | (refine at_store 19 (by rfl) ?_; refine newA (r := p) HI.out (by rfl) (by rfl) (by rfl) (by rfl) ?_; intro V hV; clear HI; have HI := Lib.hid hV; clear hV; obtain ⟨b19, hbq⟩ : ∃ b, b = w1.heap.size := ⟨_, rfl⟩; rw [← hbq] at HI ⊢; clear hbq) | (go_at_call 10; (first | refine (K1.out _).mono ?_ | refine (K2.out _).mono ?_ | refine (K4.out _).mono ?_ | refine (K5.out _).mono ?_); rintro e w1 ⟨rfl, hb⟩; replace HI := Lib.hid (Inv.call HI.out hb); clear hb) | (go_at_call 11; (first | refine (K3.out _).mono ?_ | refine (K6.out _).mono ?_); rintro e w1 ⟨rfl, hb⟩; replace HI := Lib.hid (Inv.call HI.out hb); clear hb))
      apply region_join2 (S := fun (bn bm : Nat) V => Inv w V ((bm, 0) :: (bn, a) :: [(b19, p), (b17, z), (b17 + 1, 0), (b15, p), (b15 + 1, 0), (b13, s), (b11, x), (b11 + 1, 0), (b9, x), (b9 + 1, 0), (w.heap.size + 1, b), (w.heap.size, a), (w.heap.size + 1 + 1, c)]))
      case hreg =>
        have HJ := Lib.hid HI.out.drew
        refine wp_region_tr (.yield 0 (.act 1 (.act 2 (.yield 3 (.yield 4 (.yield 5 (.act 6 (.act 7 (.act 8 (.act 9 .done .none) .none) .none) (.act 7 (.act 6 (.act 8 (.act 9 .done .none) .none) .none) .none))))) (.act 6 (.act 2 (.yield 3 (.yield 4 (.yield 5 (.act 7 (.act 8 (.act 9 .done .none) .none) .none)))) (.act 7 (.act 2 (.yield 3 (.yield 4 (.yield 5 (.act 8 (.act 9 .done .none) .none)))) .none) .none)) (.act 7 (.act 2 (.yield 3 (.yield 4 (.yield 5 (.act 6 (.act 8 (.act 9 .done .none) .none) .none)))) (.act 6 (.act 2 (.yield 3 (.yield 4 (.yield 5 (.act 8 (.act 9 .done .none) .none)))) .none) .none)) .none))) (.act 6 (.act 1 (.act 2 (.yield 3 (.yield 4 (.yield 5 (.act 7 (.act 8 (.act 9 .done .none) .none) .none)))) (.act 7 (.act 2 (.yield 3 (.yield 4 (.yield 5 (.act 8 (.act 9 .done .none) .none)))) .none) .none)) (.act 7 (.act 1 (.act 2 (.yield 3 (.yield 4 (.yield 5 (.act 8 (.act 9 .done .none) .none)))) .none) .none) .none)) (.act 7 (.act 1 (.act 2 (.yield 3 (.yield 4 (.yield 5 (.act 6 (.act 8 (.act 9 .done .none) .none) .none)))) (.act 6 (.act 2 (.yield 3 (.yield 4 (.yield 5 (.act 8 (.act 9 .done .none) .none)))) .none) .none)) (.act 6 (.act 1 (.act 2 (.yield 3 (.yield 4 (.yield 5 (.act 8 (.act 9 .done .none) .none)))) .none) .none) .none)) .none)))) (by kernel_rfl) (by kernel_rfl) (by kernel_rfl) (fun _ _ _ _ _ h => absurd h.1 (by simp)) (fun w' => Inv w w' [(b19, p), (b17, z), (b17 + 1, 0), (b15, p), (b15 + 1, 0), (b13, s), (b11, x), (b11 + 1, 0), (b9, x), (b9 + 1, 0), (w.heap.size + 1, b), (w.heap.size, a), (w.heap.size + 1 + 1, c)]) HI.out.drew ?_
        intro OPS hops
        refine wpT_yield _ (by rw [hops.out]; simp only [List.getElem?_toArray, List.getElem?_cons_succ, List.getElem?_cons_zero]; rfl) (by first | rfl | (rw [hops.out]; rfl)) (fun w' hS => by first | exact load_run hS (by rfl) (by rfl) (by repeat (first | exact List.mem_cons_self .. | apply List.mem_cons_of_mem)) | (go_simp; rfl)) ?_
        simp only [Act.put, List.setIfInBounds_toArray, List.set_cons_succ, List.set_cons_zero]
        refine wpT_act (by rw [hops.out]; simp only [List.getElem?_toArray, List.getElem?_cons_succ, List.getElem?_cons_zero]; rfl) (by first | rfl | (rw [hops.out]; rfl)) ?_ ?_
        · go_simp
          refine (K7.out _).mono ?_
          rintro e w1 ⟨rfl, hb⟩
          have HJ := Lib.hid (Inv.call HJ.out hb)
          clear hb
          refine ⟨(by first | exact HJ.out | exact HJ.out.tail | exact HJ.out.tail.tail), ?_⟩
          refine wpT_act (by rw [hops.out]; simp only [List.getElem?_toArray, List.getElem?_cons_succ, List.getElem?_cons_zero]; rfl) (by first | rfl | (rw [hops.out]; rfl)) ?_ ?_
          · go_simp
            refine (K8.out _).mono ?_
            rintro e w1 ⟨rfl, hb⟩
            have HJ := Lib.hid (Inv.call HJ.out hb)
            clear hb
            refine ⟨(by first | exact HJ.out | exact HJ.out.tail | exact HJ.out.tail.tail), ?_⟩
            refine wpT_yield _ (by rw [hops.out]; simp only [List.getElem?_toArray, List.getElem?_cons_succ, List.getElem?_cons_zero]; rfl) (by first | rfl | (rw [hops.out]; rfl)) (fun w' hS => by first | exact load_run hS (by rfl) (by rfl) (by repeat (first | exact List.mem_cons_self .. | apply List.mem_cons_of_mem)) | (go_simp; rfl)) ?_
            simp only [Act.put, List.setIfInBounds_toArray, List.set_cons_succ, List.set_cons_zero]
            refine wpT_yield _ (by rw [hops.out]; simp only [List.getElem?_toArray, List.getElem?_cons_succ, List.getElem?_cons_zero]; rfl) (by first | rfl | (rw [hops.out]; rfl)) (fun w' hS => by first | exact load_run hS (by rfl) (by rfl) (by repeat (first | exact List.mem_cons_self .. | apply List.mem_cons_of_mem)) | (go_simp; rfl)) ?_
            simp only [Act.put, List.setIfInBounds_toArray, List.set_cons_succ, List.set_cons_zero]
            refine wpT_yield _ (by rw [hops.out]; simp only [List.getElem?_toArray, List.getElem?_cons_succ, List.getElem?_cons_zero]; rfl) (by first | rfl | (rw [hops.out]; rfl)) (fun w' hS => by first | exact load_run hS (by rfl) (by rfl) (by repeat (first | exact List.mem_cons_self .. | apply List.mem_cons_of_mem)) | (go_simp; rfl)) ?_
            simp only [Act.put, List.setIfInBounds_toArray, List.set_cons_succ, List.set_cons_zero]
            refine wpT_act (by rw [hops.out]; simp only [List.getElem?_toArray, List.getElem?_cons_succ, List.getElem?_cons_zero]; rfl) (by first | rfl | (rw [hops.out]; rfl)) ?_ ?_
            · go_simp
              obtain ⟨bn, hbq, hJ⟩ := HJ.out.alloc0
              try simp only [heap_drew, World.size_alloc] at hbq
              rw [← hbq]
              clear hbq
              have HJ := Lib.hid hJ
              clear hJ
              refine ⟨(by first | exact HJ.out | exact HJ.out.tail | exact HJ.out.tail.tail), ?_⟩
              refine wpT_act (by rw [hops.out]; simp only [List.getElem?_toArray, List.getElem?_cons_succ, List.getElem?_cons_zero]; rfl) (by first | rfl | (rw [hops.out]; rfl)) ?_ trivial
              go_simp
              obtain ⟨bm, hbq, hJ⟩ := HJ.out.alloc0
              try simp only [heap_drew, World.size_alloc] at hbq
              rw [← hbq]
              clear hbq
              have HJ := Lib.hid hJ
              clear hJ
              refine ⟨(by first | exact HJ.out | exact HJ.out.tail | exact HJ.out.tail.tail), ?_⟩
              refine wpT_act (by rw [hops.out]; simp only [List.getElem?_toArray, List.getElem?_cons_succ, List.getElem?_cons_zero]; rfl) (by first | rfl | (rw [hops.out]; rfl)) ?_ trivial
              have HJ := Lib.hid (show Inv w _ ((bn, 0) :: (bm, 0) :: [(b19, p), (b17, z), (b17 + 1, 0), (b15, p), (b15 + 1, 0), (b13, s), (b11, x), (b11 + 1, 0), (b9, x), (b9 + 1, 0), (w.heap.size + 1, b), (w.heap.size, a), (w.heap.size + 1 + 1, c)]) from by first | exact HJ.out | exact HJ.out.swap)
              refine wp_store_row 24 _ _ (by rfl) bn (wc a) (by rfl) (by rfl) 24 _ (HJ.out.get (List.mem_cons_self ..)) (by rw [wc_size]; exact size24) (by simp only [wc_size]) (wc_one _) ?_
              have HJ := Lib.hid (HJ.out.set a)
              refine ⟨(by first | exact HJ.out | exact HJ.out.tail | exact HJ.out.tail.tail), ?_⟩
              refine wpT_act (by rw [hops.out]; simp only [List.getElem?_toArray, List.getElem?_cons_succ, List.getElem?_cons_zero]; rfl) (by first | rfl | (rw [hops.out]; rfl)) ?_ trivial
              have HJ := Lib.hid HJ.out.swap
              refine wp_store_row 24 _ _ (by rfl) bm (wc 0) (by rfl) (by rfl) 24 _ (HJ.out.get (List.mem_cons_self ..)) (by rw [wc_size]; exact size24) (by simp only [wc_size]) (wc_one _) ?_
              have HJ := Lib.hid (HJ.out.set 0)
              refine ⟨(by first | exact HJ.out | exact HJ.out.tail | exact HJ.out.tail.tail), ?_⟩
              exact ⟨rfl, bn, bm, rfl, HJ.out⟩
            refine wpT_act (by rw [hops.out]; simp only [List.getElem?_toArray, List.getElem?_cons_succ, List.getElem?_cons_zero]; rfl) (by first | rfl | (rw [hops.out]; rfl)) ?_ ?_
            · go_simp
              obtain ⟨bm, hbq, hJ⟩ := HJ.out.alloc0
              try simp only [heap_drew, World.size_alloc] at hbq
              rw [← hbq]
              clear hbq
              have HJ := Lib.hid hJ
              clear hJ
              refine ⟨(by first | exact HJ.out | exact HJ.out.tail | exact HJ.out.tail.tail), ?_⟩
              refine wpT_act (by rw [hops.out]; simp only [List.getElem?_toArray, List.getElem?_cons_succ, List.getElem?_cons_zero]; rfl) (by first | rfl | (rw [hops.out]; rfl)) ?_ trivial
              go_simp
              obtain ⟨bn, hbq, hJ⟩ := HJ.out.alloc0
              try simp only [heap_drew, World.size_alloc] at hbq
              rw [← hbq]
              clear hbq
              have HJ := Lib.hid hJ
              clear hJ
              refine ⟨(by first | exact HJ.out | exact HJ.out.tail | exact HJ.out.tail.tail), ?_⟩
              refine wpT_act (by rw [hops.out]; simp only [List.getElem?_toArray, List.getElem?_cons_succ, List.getElem?_cons_zero]; rfl) (by first | rfl | (rw [hops.out]; rfl)) ?_ trivial
              have HJ := Lib.hid (show Inv w _ ((bn, 0) :: (bm, 0) :: [(b19, p), (b17, z), (b17 + 1, 0), (b15, p), (b15 + 1, 0), (b13, s), (b11, x), (b11 + 1, 0), (b9, x), (b9 + 1, 0), (w.heap.size + 1, b), (w.heap.size, a), (w.heap.size + 1 + 1, c)]) from by first | exact HJ.out | exact HJ.out.swap)
              refine wp_store_row 24 _ _ (by rfl) bn (wc a) (by rfl) (by rfl) 24 _ (HJ.out.get (List.mem_cons_self ..)) (by rw [wc_size]; exact size24) (by simp only [wc_size]) (wc_one _) ?_
              have HJ := Lib.hid (HJ.out.set a)
              refine ⟨(by first | exact HJ.out | exact HJ.out.tail | exact HJ.out.tail.tail), ?_⟩
              refine wpT_act (by rw [hops.out]; simp only [List.getElem?_toArray, List.getElem?_cons_succ, List.getElem?_cons_zero]; rfl) (by first | rfl | (rw [hops.out]; rfl)) ?_ trivial
              have HJ := Lib.hid HJ.out.swap
              refine wp_store_row 24 _ _ (by rfl) bm (wc 0) (by rfl) (by rfl) 24 _ (HJ.out.get (List.mem_cons_self ..)) (by rw [wc_size]; exact size24) (by simp only [wc_size]) (wc_one _) ?_
              have HJ := Lib.hid (HJ.out.set 0)
              refine ⟨(by first | exact HJ.out | exact HJ.out.tail | exact HJ.out.tail.tail), ?_⟩
              exact ⟨rfl, bn, bm, rfl, HJ.out⟩
            exact trivial
          refine wpT_act (by rw [hops.out]; simp only [List.getElem?_toArray, List.getElem?_cons_succ, List.getElem?_cons_zero]; rfl) (by first | rfl | (rw [hops.out]; rfl)) ?_ ?_
          · go_simp
            obtain ⟨bn, hbq, hJ⟩ := HJ.out.alloc0
            try simp only [heap_drew, World.size_alloc] at hbq
            rw [← hbq]
            clear hbq
            have HJ := Lib.hid hJ
            clear hJ
            refine ⟨(by first | exact HJ.out | exact HJ.out.tail | exact HJ.out.tail.tail), ?_⟩
            refine wpT_act (by rw [hops.out]; simp only [List.getElem?_toArray, List.getElem?_cons_succ, List.getElem?_cons_zero]; rfl) (by first | rfl | (rw [hops.out]; rfl)) ?_ ?_
            · go_simp
              refine (K8.out _).mono ?_
              rintro e w1 ⟨rfl, hb⟩
              have HJ := Lib.hid (Inv.call HJ.out hb)
              clear hb
              refine ⟨(by first | exact HJ.out | exact HJ.out.tail | exact HJ.out.tail.tail), ?_⟩
              refine wpT_yield _ (by rw [hops.out]; simp only [List.getElem?_toArray, List.getElem?_cons_succ, List.getElem?_cons_zero]; rfl) (by first | rfl | (rw [hops.out]; rfl)) (fun w' hS => by first | exact load_run hS (by rfl) (by rfl) (by repeat (first | exact List.mem_cons_self .. | apply List.mem_cons_of_mem)) | (go_simp; rfl)) ?_
              simp only [Act.put, List.setIfInBounds_toArray, List.set_cons_succ, List.set_cons_zero]
              refine wpT_yield _ (by rw [hops.out]; simp only [List.getElem?_toArray, List.getElem?_cons_succ, List.getElem?_cons_zero]; rfl) (by first | rfl | (rw [hops.out]; rfl)) (fun w' hS => by first | exact load_run hS (by rfl) (by rfl) (by repeat (first | exact List.mem_cons_self .. | apply List.mem_cons_of_mem)) | (go_simp; rfl)) ?_
              simp only [Act.put, List.setIfInBounds_toArray, List.set_cons_succ, List.set_cons_zero]
              refine wpT_yield _ (by rw [hops.out]; simp only [List.getElem?_toArray, List.getElem?_cons_succ, List.getElem?_cons_zero]; rfl) (by first | rfl | (rw [hops.out]; rfl)) (fun w' hS => by first | exact load_run hS (by rfl) (by rfl) (by repeat (first | exact List.mem_cons_self .. | apply List.mem_cons_of_mem)) | (go_simp; rfl)) ?_
              simp only [Act.put, List.setIfInBounds_toArray, List.set_cons_succ, List.set_cons_zero]
              refine wpT_act (by rw [hops.out]; simp only [List.getElem?_toArray, List.getElem?_cons_succ, List.getElem?_cons_zero]; rfl) (by first | rfl | (rw [hops.out]; rfl)) ?_ trivial
              go_simp
              obtain ⟨bm, hbq, hJ⟩ := HJ.out.alloc0
              try simp only [heap_drew, World.size_alloc] at hbq
              rw [← hbq]
              clear hbq
              have HJ := Lib.hid hJ
              clear hJ
              refine ⟨(by first | exact HJ.out | exact HJ.out.tail | exact HJ.out.tail.tail), ?_⟩
              refine wpT_act (by rw [hops.out]; simp only [List.getElem?_toArray, List.getElem?_cons_succ, List.getElem?_cons_zero]; rfl) (by first | rfl | (rw [hops.out]; rfl)) ?_ trivial
              have HJ := Lib.hid (show Inv w _ ((bn, 0) :: (bm, 0) :: [(b19, p), (b17, z), (b17 + 1, 0), (b15, p), (b15 + 1, 0), (b13, s), (b11, x), (b11 + 1, 0), (b9, x), (b9 + 1, 0), (w.heap.size + 1, b), (w.heap.size, a), (w.heap.size + 1 + 1, c)]) from by first | exact HJ.out | exact HJ.out.swap)
              refine wp_store_row 24 _ _ (by rfl) bn (wc a) (by rfl) (by rfl) 24 _ (HJ.out.get (List.mem_cons_self ..)) (by rw [wc_size]; exact size24) (by simp only [wc_size]) (wc_one _) ?_
              have HJ := Lib.hid (HJ.out.set a)
              refine ⟨(by first | exact HJ.out | exact HJ.out.tail | exact HJ.out.tail.tail), ?_⟩
              refine wpT_act (by rw [hops.out]; simp only [List.getElem?_toArray, List.getElem?_cons_succ, List.getElem?_cons_zero]; rfl) (by first | rfl | (rw [hops.out]; rfl)) ?_ trivial
              have HJ := Lib.hid HJ.out.swap
              refine wp_store_row 24 _ _ (by rfl) bm (wc 0) (by rfl) (by rfl) 24 _ (HJ.out.get (List.mem_cons_self ..)) (by rw [wc_size]; exact size24) (by simp only [wc_size]) (wc_one _) ?_
              have HJ := Lib.hid (HJ.out.set 0)
              refine ⟨(by first | exact HJ.out | exact HJ.out.tail | exact HJ.out.tail.tail), ?_⟩
              exact ⟨rfl, bn, bm, rfl, HJ.out⟩
            refine wpT_act (by rw [hops.out]; simp only [List.getElem?_toArray, List.getElem?_cons_succ, List.getElem?_cons_zero]; rfl) (by first | rfl | (rw [hops.out]; rfl)) ?_ ?_
            · go_simp
              obtain ⟨bm, hbq, hJ⟩ := HJ.out.alloc0
              try simp only [heap_drew, World.size_alloc] at hbq
              rw [← hbq]
              clear hbq
              have HJ := Lib.hid hJ
              clear hJ
              refine ⟨(by first | exact HJ.out | exact HJ.out.tail | exact HJ.out.tail.tail), ?_⟩
              refine wpT_act (by rw [hops.out]; simp only [List.getElem?_toArray, List.getElem?_cons_succ, List.getElem?_cons_zero]; rfl) (by first | rfl | (rw [hops.out]; rfl)) ?_ trivial
              go_simp
              refine (K8.out _).mono ?_
              rintro e w1 ⟨rfl, hb⟩
              have HJ := Lib.hid (Inv.call HJ.out hb)
              clear hb
              refine ⟨(by first | exact HJ.out | exact HJ.out.tail | exact HJ.out.tail.tail), ?_⟩
              refine wpT_yield _ (by rw [hops.out]; simp only [List.getElem?_toArray, List.getElem?_cons_succ, List.getElem?_cons_zero]; rfl) (by first | rfl | (rw [hops.out]; rfl)) (fun w' hS => by first | exact load_run hS (by rfl) (by rfl) (by repeat (first | exact List.mem_cons_self .. | apply List.mem_cons_of_mem)) | (go_simp; rfl)) ?_
              simp only [Act.put, List.setIfInBounds_toArray, List.set_cons_succ, List.set_cons_zero]
              refine wpT_yield _ (by rw [hops.out]; simp only [List.getElem?_toArray, List.getElem?_cons_succ, List.getElem?_cons_zero]; rfl) (by first | rfl | (rw [hops.out]; rfl)) (fun w' hS => by first | exact load_run hS (by rfl) (by rfl) (by repeat (first | exact List.mem_cons_self .. | apply List.mem_cons_of_mem)) | (go_simp; rfl)) ?_
              simp only [Act.put, List.setIfInBounds_toArray, List.set_cons_succ, List.set_cons_zero]
              refine wpT_yield _ (by rw [hops.out]; simp only [List.getElem?_toArray, List.getElem?_cons_succ, List.getElem?_cons_zero]; rfl) (by first | rfl | (rw [hops.out]; rfl)) (fun w' hS => by first | exact load_run hS (by rfl) (by rfl) (by repeat (first | exact List.mem_cons_self .. | apply List.mem_cons_of_mem)) | (go_simp; rfl)) ?_
              simp only [Act.put, List.setIfInBounds_toArray, List.set_cons_succ, List.set_cons_zero]
              refine wpT_act (by rw [hops.out]; simp only [List.getElem?_toArray, List.getElem?_cons_succ, List.getElem?_cons_zero]; rfl) (by first | rfl | (rw [hops.out]; rfl)) ?_ trivial
              have HJ := Lib.hid (show Inv w _ ((bn, 0) :: (bm, 0) :: [(b19, p), (b17, z), (b17 + 1, 0), (b15, p), (b15 + 1, 0), (b13, s), (b11, x), (b11 + 1, 0), (b9, x), (b9 + 1, 0), (w.heap.size + 1, b), (w.heap.size, a), (w.heap.size + 1 + 1, c)]) from by first | exact HJ.out | exact HJ.out.swap)
              refine wp_store_row 24 _ _ (by rfl) bn (wc a) (by rfl) (by rfl) 24 _ (HJ.out.get (List.mem_cons_self ..)) (by rw [wc_size]; exact size24) (by simp only [wc_size]) (wc_one _) ?_
              have HJ := Lib.hid (HJ.out.set a)
              refine ⟨(by first | exact HJ.out | exact HJ.out.tail | exact HJ.out.tail.tail), ?_⟩
              refine wpT_act (by rw [hops.out]; simp only [List.getElem?_toArray, List.getElem?_cons_succ, List.getElem?_cons_zero]; rfl) (by first | rfl | (rw [hops.out]; rfl)) ?_ trivial
              have HJ := Lib.hid HJ.out.swap
              refine wp_store_row 24 _ _ (by rfl) bm (wc 0) (by rfl) (by rfl) 24 _ (HJ.out.get (List.mem_cons_self ..)) (by rw [wc_size]; exact size24) (by simp only [wc_size]) (wc_one _) ?_
              have HJ := Lib.hid (HJ.out.set 0)
              refine ⟨(by first | exact HJ.out | exact HJ.out.tail | exact HJ.out.tail.tail), ?_⟩
              exact ⟨rfl, bn, bm, rfl, HJ.out⟩
            exact trivial
          refine wpT_act (by rw [hops.out]; simp only [List.getElem?_toArray, List.getElem?_cons_succ, List.getElem?_cons_zero]; rfl) (by first | rfl | (rw [hops.out]; rfl)) ?_ ?_
          · go_simp
            obtain ⟨bm, hbq, hJ⟩ := HJ.out.alloc0
            try simp only [heap_drew, World.size_alloc] at hbq
            rw [← hbq]
            clear hbq
            have HJ := Lib.hid hJ
            clear hJ
            refine ⟨(by first | exact HJ.out | exact HJ.out.tail | exact HJ.out.tail.tail), ?_⟩
            refine wpT_act (by rw [hops.out]; simp only [List.getElem?_toArray, List.getElem?_cons_succ, List.getElem?_cons_zero]; rfl) (by first | rfl | (rw [hops.out]; rfl)) ?_ ?_
            · go_simp
              refine (K8.out _).mono ?_
              rintro e w1 ⟨rfl, hb⟩
              have HJ := Lib.hid (Inv.call HJ.out hb)
              clear hb
              refine ⟨(by first | exact HJ.out | exact HJ.out.tail | exact HJ.out.tail.tail), ?_⟩
              refine wpT_yield _ (by rw [hops.out]; simp only [List.getElem?_toArray, List.getElem?_cons_succ, List.getElem?_cons_zero]; rfl) (by first | rfl | (rw [hops.out]; rfl)) (fun w' hS => by first | exact load_run hS (by rfl) (by rfl) (by repeat (first | exact List.mem_cons_self .. | apply List.mem_cons_of_mem)) | (go_simp; rfl)) ?_
              simp only [Act.put, List.setIfInBounds_toArray, List.set_cons_succ, List.set_cons_zero]
              refine wpT_yield _ (by rw [hops.out]; simp only [List.getElem?_toArray, List.getElem?_cons_succ, List.getElem?_cons_zero]; rfl) (by first | rfl | (rw [hops.out]; rfl)) (fun w' hS => by first | exact load_run hS (by rfl) (by rfl) (by repeat (first | exact List.mem_cons_self .. | apply List.mem_cons_of_mem)) | (go_simp; rfl)) ?_
              simp only [Act.put, List.setIfInBounds_toArray, List.set_cons_succ, List.set_cons_zero]
              refine wpT_yield _ (by rw [hops.out]; simp only [List.getElem?_toArray, List.getElem?_cons_succ, List.getElem?_cons_zero]; rfl) (by first | rfl | (rw [hops.out]; rfl)) (fun w' hS => by first | exact load_run hS (by rfl) (by rfl) (by repeat (first | exact List.mem_cons_self .. | apply List.mem_cons_of_mem)) | (go_simp; rfl)) ?_
              simp only [Act.put, List.setIfInBounds_toArray, List.set_cons_succ, List.set_cons_zero]
              refine wpT_act (by rw [hops.out]; simp only [List.getElem?_toArray, List.getElem?_cons_succ, List.getElem?_cons_zero]; rfl) (by first | rfl | (rw [hops.out]; rfl)) ?_ trivial
              go_simp
              obtain ⟨bn, hbq, hJ⟩ := HJ.out.alloc0
              try simp only [heap_drew, World.size_alloc] at hbq
              rw [← hbq]
              clear hbq
              have HJ := Lib.hid hJ
              clear hJ
              refine ⟨(by first | exact HJ.out | exact HJ.out.tail | exact HJ.out.tail.tail), ?_⟩
              refine wpT_act (by rw [hops.out]; simp only [List.getElem?_toArray, List.getElem?_cons_succ, List.getElem?_cons_zero]; rfl) (by first | rfl | (rw [hops.out]; rfl)) ?_ trivial
              have HJ := Lib.hid (show Inv w _ ((bn, 0) :: (bm, 0) :: [(b19, p), (b17, z), (b17 + 1, 0), (b15, p), (b15 + 1, 0), (b13, s), (b11, x), (b11 + 1, 0), (b9, x), (b9 + 1, 0), (w.heap.size + 1, b), (w.heap.size, a), (w.heap.size + 1 + 1, c)]) from by first | exact HJ.out | exact HJ.out.swap)
              refine wp_store_row 24 _ _ (by rfl) bn (wc a) (by rfl) (by rfl) 24 _ (HJ.out.get (List.mem_cons_self ..)) (by rw [wc_size]; exact size24) (by simp only [wc_size]) (wc_one _) ?_
              have HJ := Lib.hid (HJ.out.set a)
              refine ⟨(by first | exact HJ.out | exact HJ.out.tail | exact HJ.out.tail.tail), ?_⟩
              refine wpT_act (by rw [hops.out]; simp only [List.getElem?_toArray, List.getElem?_cons_succ, List.getElem?_cons_zero]; rfl) (by first | rfl | (rw [hops.out]; rfl)) ?_ trivial
              have HJ := Lib.hid HJ.out.swap
              refine wp_store_row 24 _ _ (by rfl) bm (wc 0) (by rfl) (by rfl) 24 _ (HJ.out.get (List.mem_cons_self ..)) (by rw [wc_size]; exact size24) (by simp only [wc_size]) (wc_one _) ?_
              have HJ := Lib.hid (HJ.out.set 0)
              refine ⟨(by first | exact HJ.out | exact HJ.out.tail | exact HJ.out.tail.tail), ?_⟩
              exact ⟨rfl, bn, bm, rfl, HJ.out⟩
            refine wpT_act (by rw [hops.out]; simp only [List.getElem?_toArray, List.getElem?_cons_succ, List.getElem?_cons_zero]; rfl) (by first | rfl | (rw [hops.out]; rfl)) ?_ ?_
            · go_simp
              obtain ⟨bn, hbq, hJ⟩ := HJ.out.alloc0
              try simp only [heap_drew, World.size_alloc] at hbq
              rw [← hbq]
              clear hbq
              have HJ := Lib.hid hJ
              clear hJ
              refine ⟨(by first | exact HJ.out | exact HJ.out.tail | exact HJ.out.tail.tail), ?_⟩
              refine wpT_act (by rw [hops.out]; simp only [List.getElem?_toArray, List.getElem?_cons_succ, List.getElem?_cons_zero]; rfl) (by first | rfl | (rw [hops.out]; rfl)) ?_ trivial
              go_simp
              refine (K8.out _).mono ?_
              rintro e w1 ⟨rfl, hb⟩
              have HJ := Lib.hid (Inv.call HJ.out hb)
              clear hb
              refine ⟨(by first | exact HJ.out | exact HJ.out.tail | exact HJ.out.tail.tail), ?_⟩
              refine wpT_yield _ (by rw [hops.out]; simp only [List.getElem?_toArray, List.getElem?_cons_succ, List.getElem?_cons_zero]; rfl) (by first | rfl | (rw [hops.out]; rfl)) (fun w' hS => by first | exact load_run hS (by rfl) (by rfl) (by repeat (first | exact List.mem_cons_self .. | apply List.mem_cons_of_mem)) | (go_simp; rfl)) ?_
              simp only [Act.put, List.setIfInBounds_toArray, List.set_cons_succ, List.set_cons_zero]
              refine wpT_yield _ (by rw [hops.out]; simp only [List.getElem?_toArray, List.getElem?_cons_succ, List.getElem?_cons_zero]; rfl) (by first | rfl | (rw [hops.out]; rfl)) (fun w' hS => by first | exact load_run hS (by rfl) (by rfl) (by repeat (first | exact List.mem_cons_self .. | apply List.mem_cons_of_mem)) | (go_simp; rfl)) ?_
              simp only [Act.put, List.setIfInBounds_toArray, List.set_cons_succ, List.set_cons_zero]
              refine wpT_yield _ (by rw [hops.out]; simp only [List.getElem?_toArray, List.getElem?_cons_succ, List.getElem?_cons_zero]; rfl) (by first | rfl | (rw [hops.out]; rfl)) (fun w' hS => by first | exact load_run hS (by rfl) (by rfl) (by repeat (first | exact List.mem_cons_self .. | apply List.mem_cons_of_mem)) | (go_simp; rfl)) ?_
              simp only [Act.put, List.setIfInBounds_toArray, List.set_cons_succ, List.set_cons_zero]
              refine wpT_act (by rw [hops.out]; simp only [List.getElem?_toArray, List.getElem?_cons_succ, List.getElem?_cons_zero]; rfl) (by first | rfl | (rw [hops.out]; rfl)) ?_ trivial
              have HJ := Lib.hid (show Inv w _ ((bn, 0) :: (bm, 0) :: [(b19, p), (b17, z), (b17 + 1, 0), (b15, p), (b15 + 1, 0), (b13, s), (b11, x), (b11 + 1, 0), (b9, x), (b9 + 1, 0), (w.heap.size + 1, b), (w.heap.size, a), (w.heap.size + 1 + 1, c)]) from by first | exact HJ.out | exact HJ.out.swap)
              refine wp_store_row 24 _ _ (by rfl) bn (wc a) (by rfl) (by rfl) 24 _ (HJ.out.get (List.mem_cons_self ..)) (by rw [wc_size]; exact size24) (by simp only [wc_size]) (wc_one _) ?_
              have HJ := Lib.hid (HJ.out.set a)
              refine ⟨(by first | exact HJ.out | exact HJ.out.tail | exact HJ.out.tail.tail), ?_⟩
              refine wpT_act (by rw [hops.out]; simp only [List.getElem?_toArray, List.getElem?_cons_succ, List.getElem?_cons_zero]; rfl) (by first | rfl | (rw [hops.out]; rfl)) ?_ trivial
              have HJ := Lib.hid HJ.out.swap
              refine wp_store_row 24 _ _ (by rfl) bm (wc 0) (by rfl) (by rfl) 24 _ (HJ.out.get (List.mem_cons_self ..)) (by rw [wc_size]; exact size24) (by simp only [wc_size]) (wc_one _) ?_
              have HJ := Lib.hid (HJ.out.set 0)
              refine ⟨(by first | exact HJ.out | exact HJ.out.tail | exact HJ.out.tail.tail), ?_⟩
              exact ⟨rfl, bn, bm, rfl, HJ.out⟩
            exact trivial
          exact trivial
        refine wpT_act (by rw [hops.out]; simp only [List.getElem?_toArray, List.getElem?_cons_succ, List.getElem?_cons_zero]; rfl) (by first | rfl | (rw [hops.out]; rfl)) ?_ ?_
        · go_simp
          obtain ⟨bn, hbq, hJ⟩ := HJ.out.alloc0
          try simp only [heap_drew, World.size_alloc] at hbq
          rw [← hbq]
          clear hbq
          have HJ := Lib.hid hJ
          clear hJ
          refine ⟨(by first | exact HJ.out | exact HJ.out.tail | exact HJ.out.tail.tail), ?_⟩
          refine wpT_act (by rw [hops.out]; simp only [List.getElem?_toArray, List.getElem?_cons_succ, List.getElem?_cons_zero]; rfl) (by first | rfl | (rw [hops.out]; rfl)) ?_ ?_
          · go_simp
            refine (K7.out _).mono ?_
            rintro e w1 ⟨rfl, hb⟩
            have HJ := Lib.hid (Inv.call HJ.out hb)
            clear hb
            refine ⟨(by first | exact HJ.out | exact HJ.out.tail | exact HJ.out.tail.tail), ?_⟩
            refine wpT_act (by rw [hops.out]; simp only [List.getElem?_toArray, List.getElem?_cons_succ, List.getElem?_cons_zero]; rfl) (by first | rfl | (rw [hops.out]; rfl)) ?_ ?_
            · go_simp
              refine (K8.out _).mono ?_
              rintro e w1 ⟨rfl, hb⟩
              have HJ := Lib.hid (Inv.call HJ.out hb)
              clear hb
              refine ⟨(by first | exact HJ.out | exact HJ.out.tail | exact HJ.out.tail.tail), ?_⟩
              refine wpT_yield _ (by rw [hops.out]; simp only [List.getElem?_toArray, List.getElem?_cons_succ, List.getElem?_cons_zero]; rfl) (by first | rfl | (rw [hops.out]; rfl)) (fun w' hS => by first | exact load_run hS (by rfl) (by rfl) (by repeat (first | exact List.mem_cons_self .. | apply List.mem_cons_of_mem)) | (go_simp; rfl)) ?_
              simp only [Act.put, List.setIfInBounds_toArray, List.set_cons_succ, List.set_cons_zero]
              refine wpT_yield _ (by rw [hops.out]; simp only [List.getElem?_toArray, List.getElem?_cons_succ, List.getElem?_cons_zero]; rfl) (by first | rfl | (rw [hops.out]; rfl)) (fun w' hS => by first | exact load_run hS (by rfl) (by rfl) (by repeat (first | exact List.mem_cons_self .. | apply List.mem_cons_of_mem)) | (go_simp; rfl)) ?_
              simp only [Act.put, List.setIfInBounds_toArray, List.set_cons_succ, List.set_cons_zero]
              refine wpT_yield _ (by rw [hops.out]; simp only [List.getElem?_toArray, List.getElem?_cons_succ, List.getElem?_cons_zero]; rfl) (by first | rfl | (rw [hops.out]; rfl)) (fun w' hS => by first | exact load_run hS (by rfl) (by rfl) (by repeat (first | exact List.mem_cons_self .. | apply List.mem_cons_of_mem)) | (go_simp; rfl)) ?_
              simp only [Act.put, List.setIfInBounds_toArray, List.set_cons_succ, List.set_cons_zero]
              refine wpT_act (by rw [hops.out]; simp only [List.getElem?_toArray, List.getElem?_cons_succ, List.getElem?_cons_zero]; rfl) (by first | rfl | (rw [hops.out]; rfl)) ?_ trivial
              go_simp
              obtain ⟨bm, hbq, hJ⟩ := HJ.out.alloc0
              try simp only [heap_drew, World.size_alloc] at hbq
              rw [← hbq]
              clear hbq
              have HJ := Lib.hid hJ
              clear hJ
              refine ⟨(by first | exact HJ.out | exact HJ.out.tail | exact HJ.out.tail.tail), ?_⟩
              refine wpT_act (by rw [hops.out]; simp only [List.getElem?_toArray, List.getElem?_cons_succ, List.getElem?_cons_zero]; rfl) (by first | rfl | (rw [hops.out]; rfl)) ?_ trivial
              have HJ := Lib.hid (show Inv w _ ((bn, 0) :: (bm, 0) :: [(b19, p), (b17, z), (b17 + 1, 0), (b15, p), (b15 + 1, 0), (b13, s), (b11, x), (b11 + 1, 0), (b9, x), (b9 + 1, 0), (w.heap.size + 1, b), (w.heap.size, a), (w.heap.size + 1 + 1, c)]) from by first | exact HJ.out | exact HJ.out.swap)
              refine wp_store_row 24 _ _ (by rfl) bn (wc a) (by rfl) (by rfl) 24 _ (HJ.out.get (List.mem_cons_self ..)) (by rw [wc_size]; exact size24) (by simp only [wc_size]) (wc_one _) ?_
              have HJ := Lib.hid (HJ.out.set a)
              refine ⟨(by first | exact HJ.out | exact HJ.out.tail | exact HJ.out.tail.tail), ?_⟩
              refine wpT_act (by rw [hops.out]; simp only [List.getElem?_toArray, List.getElem?_cons_succ, List.getElem?_cons_zero]; rfl) (by first | rfl | (rw [hops.out]; rfl)) ?_ trivial
              have HJ := Lib.hid HJ.out.swap
              refine wp_store_row 24 _ _ (by rfl) bm (wc 0) (by rfl) (by rfl) 24 _ (HJ.out.get (List.mem_cons_self ..)) (by rw [wc_size]; exact size24) (by simp only [wc_size]) (wc_one _) ?_
              have HJ := Lib.hid (HJ.out.set 0)
              refine ⟨(by first | exact HJ.out | exact HJ.out.tail | exact HJ.out.tail.tail), ?_⟩
              exact ⟨rfl, bn, bm, rfl, HJ.out⟩
            refine wpT_act (by rw [hops.out]; simp only [List.getElem?_toArray, List.getElem?_cons_succ, List.getElem?_cons_zero]; rfl) (by first | rfl | (rw [hops.out]; rfl)) ?_ ?_
            · go_simp
              obtain ⟨bm, hbq, hJ⟩ := HJ.out.alloc0
              try simp only [heap_drew, World.size_alloc] at hbq
              rw [← hbq]
              clear hbq
              have HJ := Lib.hid hJ
              clear hJ
              refine ⟨(by first | exact HJ.out | exact HJ.out.tail | exact HJ.out.tail.tail), ?_⟩
              refine wpT_act (by rw [hops.out]; simp only [List.getElem?_toArray, List.getElem?_cons_succ, List.getElem?_cons_zero]; rfl) (by first | rfl | (rw [hops.out]; rfl)) ?_ trivial
              go_simp
              refine (K8.out _).mono ?_
              rintro e w1 ⟨rfl, hb⟩
              have HJ := Lib.hid (Inv.call HJ.out hb)
              clear hb
              refine ⟨(by first | exact HJ.out | exact HJ.out.tail | exact HJ.out.tail.tail), ?_⟩
              refine wpT_yield _ (by rw [hops.out]; simp only [List.getElem?_toArray, List.getElem?_cons_succ, List.getElem?_cons_zero]; rfl) (by first | rfl | (rw [hops.out]; rfl)) (fun w' hS => by first | exact load_run hS (by rfl) (by rfl) (by repeat (first | exact List.mem_cons_self .. | apply List.mem_cons_of_mem)) | (go_simp; rfl)) ?_
              simp only [Act.put, List.setIfInBounds_toArray, List.set_cons_succ, List.set_cons_zero]
              refine wpT_yield _ (by rw [hops.out]; simp only [List.getElem?_toArray, List.getElem?_cons_succ, List.getElem?_cons_zero]; rfl) (by first | rfl | (rw [hops.out]; rfl)) (fun w' hS => by first | exact load_run hS (by rfl) (by rfl) (by repeat (first | exact List.mem_cons_self .. | apply List.mem_cons_of_mem)) | (go_simp; rfl)) ?_
              simp only [Act.put, List.setIfInBounds_toArray, List.set_cons_succ, List.set_cons_zero]
              refine wpT_yield _ (by rw [hops.out]; simp only [List.getElem?_toArray, List.getElem?_cons_succ, List.getElem?_cons_zero]; rfl) (by first | rfl | (rw [hops.out]; rfl)) (fun w' hS => by first | exact load_run hS (by rfl) (by rfl) (by repeat (first | exact List.mem_cons_self .. | apply List.mem_cons_of_mem)) | (go_simp; rfl)) ?_
              simp only [Act.put, List.setIfInBounds_toArray, List.set_cons_succ, List.set_cons_zero]
              refine wpT_act (by rw [hops.out]; simp only [List.getElem?_toArray, List.getElem?_cons_succ, List.getElem?_cons_zero]; rfl) (by first | rfl | (rw [hops.out]; rfl)) ?_ trivial
              have HJ := Lib.hid (show Inv w _ ((bn, 0) :: (bm, 0) :: [(b19, p), (b17, z), (b17 + 1, 0), (b15, p), (b15 + 1, 0), (b13, s), (b11, x), (b11 + 1, 0), (b9, x), (b9 + 1, 0), (w.heap.size + 1, b), (w.heap.size, a), (w.heap.size + 1 + 1, c)]) from by first | exact HJ.out | exact HJ.out.swap)
              refine wp_store_row 24 _ _ (by rfl) bn (wc a) (by rfl) (by rfl) 24 _ (HJ.out.get (List.mem_cons_self ..)) (by rw [wc_size]; exact size24) (by simp only [wc_size]) (wc_one _) ?_
              have HJ := Lib.hid (HJ.out.set a)
              refine ⟨(by first | exact HJ.out | exact HJ.out.tail | exact HJ.out.tail.tail), ?_⟩
              refine wpT_act (by rw [hops.out]; simp only [List.getElem?_toArray, List.getElem?_cons_succ, List.getElem?_cons_zero]; rfl) (by first | rfl | (rw [hops.out]; rfl)) ?_ trivial
              have HJ := Lib.hid HJ.out.swap
              refine wp_store_row 24 _ _ (by rfl) bm (wc 0) (by rfl) (by rfl) 24 _ (HJ.out.get (List.mem_cons_self ..)) (by rw [wc_size]; exact size24) (by simp only [wc_size]) (wc_one _) ?_
              have HJ := Lib.hid (HJ.out.set 0)
              refine ⟨(by first | exact HJ.out | exact HJ.out.tail | exact HJ.out.tail.tail), ?_⟩
              exact ⟨rfl, bn, bm, rfl, HJ.out⟩
            exact trivial
          refine wpT_act (by rw [hops.out]; simp only [List.getElem?_toArray, List.getElem?_cons_succ, List.getElem?_cons_zero]; rfl) (by first | rfl | (rw [hops.out]; rfl)) ?_ ?_
          · go_simp
            obtain ⟨bm, hbq, hJ⟩ := HJ.out.alloc0
            try simp only [heap_drew, World.size_alloc] at hbq
            rw [← hbq]
            clear hbq
            have HJ := Lib.hid hJ
            clear hJ
            refine ⟨(by first | exact HJ.out | exact HJ.out.tail | exact HJ.out.tail.tail), ?_⟩
            refine wpT_act (by rw [hops.out]; simp only [List.getElem?_toArray, List.getElem?_cons_succ, List.getElem?_cons_zero]; rfl) (by first | rfl | (rw [hops.out]; rfl)) ?_ trivial
            go_simp
            refine (K7.out _).mono ?_
            rintro e w1 ⟨rfl, hb⟩
            have HJ := Lib.hid (Inv.call HJ.out hb)
            clear hb
            refine ⟨(by first | exact HJ.out | exact HJ.out.tail | exact HJ.out.tail.tail), ?_⟩
            refine wpT_act (by rw [hops.out]; simp only [List.getElem?_toArray, List.getElem?_cons_succ, List.getElem?_cons_zero]; rfl) (by first | rfl | (rw [hops.out]; rfl)) ?_ trivial
            go_simp
            refine (K8.out _).mono ?_
            rintro e w1 ⟨rfl, hb⟩
            have HJ := Lib.hid (Inv.call HJ.out hb)
            clear hb
            refine ⟨(by first | exact HJ.out | exact HJ.out.tail | exact HJ.out.tail.tail), ?_⟩
            refine wpT_yield _ (by rw [hops.out]; simp only [List.getElem?_toArray, List.getElem?_cons_succ, List.getElem?_cons_zero]; rfl) (by first | rfl | (rw [hops.out]; rfl)) (fun w' hS => by first | exact load_run hS (by rfl) (by rfl) (by repeat (first | exact List.mem_cons_self .. | apply List.mem_cons_of_mem)) | (go_simp; rfl)) ?_
            simp only [Act.put, List.setIfInBounds_toArray, List.set_cons_succ, List.set_cons_zero]
            refine wpT_yield _ (by rw [hops.out]; simp only [List.getElem?_toArray, List.getElem?_cons_succ, List.getElem?_cons_zero]; rfl) (by first | rfl | (rw [hops.out]; rfl)) (fun w' hS => by first | exact load_run hS (by rfl) (by rfl) (by repeat (first | exact List.mem_cons_self .. | apply List.mem_cons_of_mem)) | (go_simp; rfl)) ?_
            simp only [Act.put, List.setIfInBounds_toArray, List.set_cons_succ, List.set_cons_zero]
            refine wpT_yield _ (by rw [hops.out]; simp only [List.getElem?_toArray, List.getElem?_cons_succ, List.getElem?_cons_zero]; rfl) (by first | rfl | (rw [hops.out]; rfl)) (fun w' hS => by first | exact load_run hS (by rfl) (by rfl) (by repeat (first | exact List.mem_cons_self .. | apply List.mem_cons_of_mem)) | (go_simp; rfl)) ?_
            simp only [Act.put, List.setIfInBounds_toArray, List.set_cons_succ, List.set_cons_zero]
            refine wpT_act (by rw [hops.out]; simp only [List.getElem?_toArray, List.getElem?_cons_succ, List.getElem?_cons_zero]; rfl) (by first | rfl | (rw [hops.out]; rfl)) ?_ trivial
            have HJ := Lib.hid (show Inv w _ ((bn, 0) :: (bm, 0) :: [(b19, p), (b17, z), (b17 + 1, 0), (b15, p), (b15 + 1, 0), (b13, s), (b11, x), (b11 + 1, 0), (b9, x), (b9 + 1, 0), (w.heap.size + 1, b), (w.heap.size, a), (w.heap.size + 1 + 1, c)]) from by first | exact HJ.out | exact HJ.out.swap)
            refine wp_store_row 24 _ _ (by rfl) bn (wc a) (by rfl) (by rfl) 24 _ (HJ.out.get (List.mem_cons_self ..)) (by rw [wc_size]; exact size24) (by simp only [wc_size]) (wc_one _) ?_
            have HJ := Lib.hid (HJ.out.set a)
            refine ⟨(by first | exact HJ.out | exact HJ.out.tail | exact HJ.out.tail.tail), ?_⟩
            refine wpT_act (by rw [hops.out]; simp only [List.getElem?_toArray, List.getElem?_cons_succ, List.getElem?_cons_zero]; rfl) (by first | rfl | (rw [hops.out]; rfl)) ?_ trivial
            have HJ := Lib.hid HJ.out.swap
            refine wp_store_row 24 _ _ (by rfl) bm (wc 0) (by rfl) (by rfl) 24 _ (HJ.out.get (List.mem_cons_self ..)) (by rw [wc_size]; exact size24) (by simp only [wc_size]) (wc_one _) ?_
            have HJ := Lib.hid (HJ.out.set 0)
            refine ⟨(by first | exact HJ.out | exact HJ.out.tail | exact HJ.out.tail.tail), ?_⟩
            exact ⟨rfl, bn, bm, rfl, HJ.out⟩
          exact trivial
        refine wpT_act (by rw [hops.out]; simp only [List.getElem?_toArray, List.getElem?_cons_succ, List.getElem?_cons_zero]; rfl) (by first | rfl | (rw [hops.out]; rfl)) ?_ ?_
        · go_simp
          obtain ⟨bm, hbq, hJ⟩ := HJ.out.alloc0
          try simp only [heap_drew, World.size_alloc] at hbq
          rw [← hbq]
          clear hbq
          have HJ := Lib.hid hJ
          clear hJ
          refine ⟨(by first | exact HJ.out | exact HJ.out.tail | exact HJ.out.tail.tail), ?_⟩
          refine wpT_act (by rw [hops.out]; simp only [List.getElem?_toArray, List.getElem?_cons_succ, List.getElem?_cons_zero]; rfl) (by first | rfl | (rw [hops.out]; rfl)) ?_ ?_
          · go_simp
            refine (K7.out _).mono ?_
            rintro e w1 ⟨rfl, hb⟩
            have HJ := Lib.hid (Inv.call HJ.out hb)
            clear hb
            refine ⟨(by first | exact HJ.out | exact HJ.out.tail | exact HJ.out.tail.tail), ?_⟩
            refine wpT_act (by rw [hops.out]; simp only [List.getElem?_toArray, List.getElem?_cons_succ, List.getElem?_cons_zero]; rfl) (by first | rfl | (rw [hops.out]; rfl)) ?_ ?_
            · go_simp
              refine (K8.out _).mono ?_
              rintro e w1 ⟨rfl, hb⟩
              have HJ := Lib.hid (Inv.call HJ.out hb)
              clear hb
              refine ⟨(by first | exact HJ.out | exact HJ.out.tail | exact HJ.out.tail.tail), ?_⟩
              refine wpT_yield _ (by rw [hops.out]; simp only [List.getElem?_toArray, List.getElem?_cons_succ, List.getElem?_cons_zero]; rfl) (by first | rfl | (rw [hops.out]; rfl)) (fun w' hS => by first | exact load_run hS (by rfl) (by rfl) (by repeat (first | exact List.mem_cons_self .. | apply List.mem_cons_of_mem)) | (go_simp; rfl)) ?_
              simp only [Act.put, List.setIfInBounds_toArray, List.set_cons_succ, List.set_cons_zero]
              refine wpT_yield _ (by rw [hops.out]; simp only [List.getElem?_toArray, List.getElem?_cons_succ, List.getElem?_cons_zero]; rfl) (by first | rfl | (rw [hops.out]; rfl)) (fun w' hS => by first | exact load_run hS (by rfl) (by rfl) (by repeat (first | exact List.mem_cons_self .. | apply List.mem_cons_of_mem)) | (go_simp; rfl)) ?_
              simp only [Act.put, List.setIfInBounds_toArray, List.set_cons_succ, List.set_cons_zero]
              refine wpT_yield _ (by rw [hops.out]; simp only [List.getElem?_toArray, List.getElem?_cons_succ, List.getElem?_cons_zero]; rfl) (by first | rfl | (rw [hops.out]; rfl)) (fun w' hS => by first | exact load_run hS (by rfl) (by rfl) (by repeat (first | exact List.mem_cons_self .. | apply List.mem_cons_of_mem)) | (go_simp; rfl)) ?_
              simp only [Act.put, List.setIfInBounds_toArray, List.set_cons_succ, List.set_cons_zero]
              refine wpT_act (by rw [hops.out]; simp only [List.getElem?_toArray, List.getElem?_cons_succ, List.getElem?_cons_zero]; rfl) (by first | rfl | (rw [hops.out]; rfl)) ?_ trivial
              go_simp
              obtain ⟨bn, hbq, hJ⟩ := HJ.out.alloc0
              try simp only [heap_drew, World.size_alloc] at hbq
              rw [← hbq]
              clear hbq
              have HJ := Lib.hid hJ
              clear hJ
              refine ⟨(by first | exact HJ.out | exact HJ.out.tail | exact HJ.out.tail.tail), ?_⟩
              refine wpT_act (by rw [hops.out]; simp only [List.getElem?_toArray, List.getElem?_cons_succ, List.getElem?_cons_zero]; rfl) (by first | rfl | (rw [hops.out]; rfl)) ?_ trivial
              have HJ := Lib.hid (show Inv w _ ((bn, 0) :: (bm, 0) :: [(b19, p), (b17, z), (b17 + 1, 0), (b15, p), (b15 + 1, 0), (b13, s), (b11, x), (b11 + 1, 0), (b9, x), (b9 + 1, 0), (w.heap.size + 1, b), (w.heap.size, a), (w.heap.size + 1 + 1, c)]) from by first | exact HJ.out | exact HJ.out.swap)
              refine wp_store_row 24 _ _ (by rfl) bn (wc a) (by rfl) (by rfl) 24 _ (HJ.out.get (List.mem_cons_self ..)) (by rw [wc_size]; exact size24) (by simp only [wc_size]) (wc_one _) ?_
              have HJ := Lib.hid (HJ.out.set a)
              refine ⟨(by first | exact HJ.out | exact HJ.out.tail | exact HJ.out.tail.tail), ?_⟩
              refine wpT_act (by rw [hops.out]; simp only [List.getElem?_toArray, List.getElem?_cons_succ, List.getElem?_cons_zero]; rfl) (by first | rfl | (rw [hops.out]; rfl)) ?_ trivial
              have HJ := Lib.hid HJ.out.swap
              refine wp_store_row 24 _ _ (by rfl) bm (wc 0) (by rfl) (by rfl) 24 _ (HJ.out.get (List.mem_cons_self ..)) (by rw [wc_size]; exact size24) (by simp only [wc_size]) (wc_one _) ?_
              have HJ := Lib.hid (HJ.out.set 0)
              refine ⟨(by first | exact HJ.out | exact HJ.out.tail | exact HJ.out.tail.tail), ?_⟩
              exact ⟨rfl, bn, bm, rfl, HJ.out⟩
            refine wpT_act (by rw [hops.out]; simp only [List.getElem?_toArray, List.getElem?_cons_succ, List.getElem?_cons_zero]; rfl) (by first | rfl | (rw [hops.out]; rfl)) ?_ ?_
            · go_simp
              obtain ⟨bn, hbq, hJ⟩ := HJ.out.alloc0
              try simp only [heap_drew, World.size_alloc] at hbq
              rw [← hbq]
              clear hbq
              have HJ := Lib.hid hJ
              clear hJ
              refine ⟨(by first | exact HJ.out | exact HJ.out.tail | exact HJ.out.tail.tail), ?_⟩
              refine wpT_act (by rw [hops.out]; simp only [List.getElem?_toArray, List.getElem?_cons_succ, List.getElem?_cons_zero]; rfl) (by first | rfl | (rw [hops.out]; rfl)) ?_ trivial
              go_simp
              refine (K8.out _).mono ?_
              rintro e w1 ⟨rfl, hb⟩
              have HJ := Lib.hid (Inv.call HJ.out hb)
              clear hb
              refine ⟨(by first | exact HJ.out | exact HJ.out.tail | exact HJ.out.tail.tail), ?_⟩
              refine wpT_yield _ (by rw [hops.out]; simp only [List.getElem?_toArray, List.getElem?_cons_succ, List.getElem?_cons_zero]; rfl) (by first | rfl | (rw [hops.out]; rfl)) (fun w' hS => by first | exact load_run hS (by rfl) (by rfl) (by repeat (first | exact List.mem_cons_self .. | apply List.mem_cons_of_mem)) | (go_simp; rfl)) ?_
              simp only [Act.put, List.setIfInBounds_toArray, List.set_cons_succ, List.set_cons_zero]
              refine wpT_yield _ (by rw [hops.out]; simp only [List.getElem?_toArray, List.getElem?_cons_succ, List.getElem?_cons_zero]; rfl) (by first | rfl | (rw [hops.out]; rfl)) (fun w' hS => by first | exact load_run hS (by rfl) (by rfl) (by repeat (first | exact List.mem_cons_self .. | apply List.mem_cons_of_mem)) | (go_simp; rfl)) ?_
              simp only [Act.put, List.setIfInBounds_toArray, List.set_cons_succ, List.set_cons_zero]
              refine wpT_yield _ (by rw [hops.out]; simp only [List.getElem?_toArray, List.getElem?_cons_succ, List.getElem?_cons_zero]; rfl) (by first | rfl | (rw [hops.out]; rfl)) (fun w' hS => by first | exact load_run hS (by rfl) (by rfl) (by repeat (first | exact List.mem_cons_self .. | apply List.mem_cons_of_mem)) | (go_simp; rfl)) ?_
              simp only [Act.put, List.setIfInBounds_toArray, List.set_cons_succ, List.set_cons_zero]
              refine wpT_act (by rw [hops.out]; simp only [List.getElem?_toArray, List.getElem?_cons_succ, List.getElem?_cons_zero]; rfl) (by first | rfl | (rw [hops.out]; rfl)) ?_ trivial
              have HJ := Lib.hid (show Inv w _ ((bn, 0) :: (bm, 0) :: [(b19, p), (b17, z), (b17 + 1, 0), (b15, p), (b15 + 1, 0), (b13, s), (b11, x), (b11 + 1, 0), (b9, x), (b9 + 1, 0), (w.heap.size + 1, b), (w.heap.size, a), (w.heap.size + 1 + 1, c)]) from by first | exact HJ.out | exact HJ.out.swap)
              refine wp_store_row 24 _ _ (by rfl) bn (wc a) (by rfl) (by rfl) 24 _ (HJ.out.get (List.mem_cons_self ..)) (by rw [wc_size]; exact size24) (by simp only [wc_size]) (wc_one _) ?_
              have HJ := Lib.hid (HJ.out.set a)
              refine ⟨(by first | exact HJ.out | exact HJ.out.tail | exact HJ.out.tail.tail), ?_⟩
              refine wpT_act (by rw [hops.out]; simp only [List.getElem?_toArray, List.getElem?_cons_succ, List.getElem?_cons_zero]; rfl) (by first | rfl | (rw [hops.out]; rfl)) ?_ trivial
              have HJ := Lib.hid HJ.out.swap
              refine wp_store_row 24 _ _ (by rfl) bm (wc 0) (by rfl) (by rfl) 24 _ (HJ.out.get (List.mem_cons_self ..)) (by rw [wc_size]; exact size24) (by simp only [wc_size]) (wc_one _) ?_
              have HJ := Lib.hid (HJ.out.set 0)
              refine ⟨(by first | exact HJ.out | exact HJ.out.tail | exact HJ.out.tail.tail), ?_⟩
              exact ⟨rfl, bn, bm, rfl, HJ.out⟩
            exact trivial
          refine wpT_act (by rw [hops.out]; simp only [List.getElem?_toArray, List.getElem?_cons_succ, List.getElem?_cons_zero]; rfl) (by first | rfl | (rw [hops.out]; rfl)) ?_ ?_
          · go_simp
            obtain ⟨bn, hbq, hJ⟩ := HJ.out.alloc0
            try simp only [heap_drew, World.size_alloc] at hbq
            rw [← hbq]
            clear hbq
            have HJ := Lib.hid hJ
            clear hJ
            refine ⟨(by first | exact HJ.out | exact HJ.out.tail | exact HJ.out.tail.tail), ?_⟩
            refine wpT_act (by rw [hops.out]; simp only [List.getElem?_toArray, List.getElem?_cons_succ, List.getElem?_cons_zero]; rfl) (by first | rfl | (rw [hops.out]; rfl)) ?_ trivial
            go_simp
            refine (K7.out _).mono ?_
            rintro e w1 ⟨rfl, hb⟩
            have HJ := Lib.hid (Inv.call HJ.out hb)
            clear hb
            refine ⟨(by first | exact HJ.out | exact HJ.out.tail | exact HJ.out.tail.tail), ?_⟩
            refine wpT_act (by rw [hops.out]; simp only [List.getElem?_toArray, List.getElem?_cons_succ, List.getElem?_cons_zero]; rfl) (by first | rfl | (rw [hops.out]; rfl)) ?_ trivial
            go_simp
            refine (K8.out _).mono ?_
            rintro e w1 ⟨rfl, hb⟩
            have HJ := Lib.hid (Inv.call HJ.out hb)
            clear hb
            refine ⟨(by first | exact HJ.out | exact HJ.out.tail | exact HJ.out.tail.tail), ?_⟩
            refine wpT_yield _ (by rw [hops.out]; simp only [List.getElem?_toArray, List.getElem?_cons_succ, List.getElem?_cons_zero]; rfl) (by first | rfl | (rw [hops.out]; rfl)) (fun w' hS => by first | exact load_run hS (by rfl) (by rfl) (by repeat (first | exact List.mem_cons_self .. | apply List.mem_cons_of_mem)) | (go_simp; rfl)) ?_
            simp only [Act.put, List.setIfInBounds_toArray, List.set_cons_succ, List.set_cons_zero]
            refine wpT_yield _ (by rw [hops.out]; simp only [List.getElem?_toArray, List.getElem?_cons_succ, List.getElem?_cons_zero]; rfl) (by first | rfl | (rw [hops.out]; rfl)) (fun w' hS => by first | exact load_run hS (by rfl) (by rfl) (by repeat (first | exact List.mem_cons_self .. | apply List.mem_cons_of_mem)) | (go_simp; rfl)) ?_
            simp only [Act.put, List.setIfInBounds_toArray, List.set_cons_succ, List.set_cons_zero]
            refine wpT_yield _ (by rw [hops.out]; simp only [List.getElem?_toArray, List.getElem?_cons_succ, List.getElem?_cons_zero]; rfl) (by first | rfl | (rw [hops.out]; rfl)) (fun w' hS => by first | exact load_run hS (by rfl) (by rfl) (by repeat (first | exact List.mem_cons_self .. | apply List.mem_cons_of_mem)) | (go_simp; rfl)) ?_
            simp only [Act.put, List.setIfInBounds_toArray, List.set_cons_succ, List.set_cons_zero]
            refine wpT_act (by rw [hops.out]; simp only [List.getElem?_toArray, List.getElem?_cons_succ, List.getElem?_cons_zero]; rfl) (by first | rfl | (rw [hops.out]; rfl)) ?_ trivial
            have HJ := Lib.hid (show Inv w _ ((bn, 0) :: (bm, 0) :: [(b19, p), (b17, z), (b17 + 1, 0), (b15, p), (b15 + 1, 0), (b13, s), (b11, x), (b11 + 1, 0), (b9, x), (b9 + 1, 0), (w.heap.size + 1, b), (w.heap.size, a), (w.heap.size + 1 + 1, c)]) from by first | exact HJ.out | exact HJ.out.swap)
            refine wp_store_row 24 _ _ (by rfl) bn (wc a) (by rfl) (by rfl) 24 _ (HJ.out.get (List.mem_cons_self ..)) (by rw [wc_size]; exact size24) (by simp only [wc_size]) (wc_one _) ?_
            have HJ := Lib.hid (HJ.out.set a)
            refine ⟨(by first | exact HJ.out | exact HJ.out.tail | exact HJ.out.tail.tail), ?_⟩
            refine wpT_act (by rw [hops.out]; simp only [List.getElem?_toArray, List.getElem?_cons_succ, List.getElem?_cons_zero]; rfl) (by first | rfl | (rw [hops.out]; rfl)) ?_ trivial
            have HJ := Lib.hid HJ.out.swap
            refine wp_store_row 24 _ _ (by rfl) bm (wc 0) (by rfl) (by rfl) 24 _ (HJ.out.get (List.mem_cons_self ..)) (by rw [wc_size]; exact size24) (by simp only [wc_size]) (wc_one _) ?_
            have HJ := Lib.hid (HJ.out.set 0)
            refine ⟨(by first | exact HJ.out | exact HJ.out.tail | exact HJ.out.tail.tail), ?_⟩
            exact ⟨rfl, bn, bm, rfl, HJ.out⟩
          exact trivial
        exact trivial
      case hK =>
        intro b21 b22 V hV
        have HI := Lib.hid hV
        clear hV
        have hg := guard24; have he := eq_self
        go_wp2_with (first | refine load_inv HI.out (by rfl) (by rfl) (by rfl) (by repeat (first | exact List.mem_cons_self .. | apply List.mem_cons_of_mem)) ?_ | (refine at_store 23 (by rfl) ?_; refine newB (r := 0) (q := 0) HI.out (by rfl) (by rfl) (by rfl) (by rfl) (by rfl) (by rfl) (by rfl) (by rfl) (by rfl) (by rfl) ?_; intro V hV; clear HI; have HI := Lib.hid hV; clear hV; obtain ⟨b23, hbq⟩ : ∃ b, b = w1.heap.size := ⟨_, rfl⟩; rw [← hbq] at HI ⊢; clear hbq) | (refine at_store 25 (by rfl) ?_; obtain ⟨b25, hbq⟩ : ∃ b, b = V.heap.size := ⟨_, rfl⟩; refine newA (r := 0) HI.out (by rfl) (by rfl) (by rfl) (by rw [wc_zero]; rfl) ?_; intro V2 hV; clear HI; have HI := Lib.hid hV; clear hV; rw [← hbq] at HI ⊢; clear hbq) | (go_at_call 10; (first | refine (K9.out _).mono ?_); rintro e w1 ⟨rfl, hb⟩; replace HI := Lib.hid (Inv.call HI.out hb); clear hb))
        go_ret
        exact ⟨rfl, HI.out.1⟩
end
end Go.Proofs.Ytkbambojnifjcaa
