/- Contracts and words that the laws stand on (Words). -/
import Derived.Shelf.Spec.BitsCarry
import Derived.Shelf.Bits.Mul64
import Derived.Laws.CopyRow
import Derived.Test.YtkbambojnifjcaaBase
set_option linter.unusedVariables false
set_option linter.unusedSimpArgs false
namespace Go.Proofs.Ytkbambojnifjcaa
section
open Go
/-! Numbers of 256 bits as four words. -/
/-- The power of 2^64. -/
def pw : Nat → Nat
  | 0 => 1
  | 1 => 18446744073709551616
  | 2 => 340282366920938463463374607431768211456
  | 3 => 6277101735386680763835789423207666416102355444464034512896
  | _ => 115792089237316195423570985008687907853269984665640564039457584007913129639936
def wc (n : Nat) : Array Value := #[.int .u64 (n % 18446744073709551616 : Nat), .int .u64 (n / 18446744073709551616 % 18446744073709551616 : Nat), .int .u64 (n / 340282366920938463463374607431768211456 % 18446744073709551616 : Nat), .int .u64 (n / 6277101735386680763835789423207666416102355444464034512896 % 18446744073709551616 : Nat)]
theorem wc_size (n : Nat) : (wc n).size = 4 := rfl
theorem wc_zero : wc 0 = #[.int .u64 0, .int .u64 0, .int .u64 0, .int .u64 0] := rfl
theorem wc_one (n : Nat) : (wc n).all (·.oneCell') = true := by simp [wc, Value.oneCell']
/-- Word k of n. -/
def wk (n k : Nat) : Nat := n / pw k % 18446744073709551616
theorem wk_lt (n k : Nat) : wk n k < 18446744073709551616 := Nat.mod_lt _ (by decide)
theorem wc_get (n k : Nat) (hk : k < 4) : (wc n)[k]? = some (.int .u64 (wk n k : Nat)) := by
  obtain rfl | rfl | rfl | rfl : k = 0 ∨ k = 1 ∨ k = 2 ∨ k = 3 := by omega
  all_goals simp [wc, wk, pw]
theorem wc_set (p k d : Nat) (hk : k < 4) (hp : p < pw k) (hd : d < 18446744073709551616) : (wc p).setIfInBounds k (.int .u64 (d : Nat)) = wc (p + d * pw k) := by
  obtain rfl | rfl | rfl | rfl : k = 0 ∨ k = 1 ∨ k = 2 ∨ k = 3 := by omega
  all_goals
    simp only [pw] at hp ⊢
    apply Array.ext
    · simp [wc]
    · intro i h1 h2
      have hi : i = 0 ∨ i = 1 ∨ i = 2 ∨ i = 3 := by simp [wc] at h2; omega
      rcases hi with rfl | rfl | rfl | rfl <;> simp [wc] <;> omega
theorem pw_pos (k : Nat) : 0 < pw k := by unfold pw; split <;> decide
/-- One word of a sum. -/
theorem add_step (n m k : Nat) (hk : k < 4) :
    let s := n % pw k + m % pw k
    let z := wk n k + wk m k + s / pw k
    let s' := n % pw (k + 1) + m % pw (k + 1)
    s / pw k ≤ 1 ∧ s % pw k < pw k ∧ s % pw k + z % 18446744073709551616 * pw k = s' % pw (k + 1) ∧ z / 18446744073709551616 = s' / pw (k + 1) := by
  obtain rfl | rfl | rfl | rfl : k = 0 ∨ k = 1 ∨ k = 2 ∨ k = 3 := by omega
  all_goals
    simp only [pw, wk]
    refine ⟨by omega, by omega, by omega, by omega⟩
/-- One word of a difference. -/
theorem sub_step (n m k : Nat) (hk : k < 4) :
    let b := if n % pw k < m % pw k then 1 else 0
    let p := (n % pw k + pw k - m % pw k) % pw k
    let b' := if n % pw (k + 1) < m % pw (k + 1) then 1 else 0
    let p' := (n % pw (k + 1) + pw (k + 1) - m % pw (k + 1)) % pw (k + 1)
    b ≤ 1 ∧ p < pw k ∧ p + (wk n k + 18446744073709551616 - wk m k - b) % 18446744073709551616 * pw k = p' ∧ (if wk n k < wk m k + b then 1 else 0) = b' := by
  obtain rfl | rfl | rfl | rfl : k = 0 ∨ k = 1 ∨ k = 2 ∨ k = 3 := by omega
  all_goals
    simp only [pw, wk]
    refine ⟨by split <;> omega, by omega, by split <;> omega, by split <;> split <;> split <;> omega⟩
end
section
open Go Go.RowKit Go.Proofs
theorem size24 : (Try.prog.info? 24).map (·.size) = some 4 := by kernel_rfl
theorem add64 (x y c : Nat) (hc : c ≤ 1) (w : World) :
    (callFunc 29 #[.int .u64 x, .int .u64 y, .int .u64 c]).run Try.prog w =
      .ok (.value (.tuple #[.int .u64 (((x + y + c) % 18446744073709551616 : Nat) : Int), .int .u64 (((x + y + c) / 18446744073709551616 : Nat) : Int)])) w := by
  rw [run_callFunc_extern Try.func29 (by kernel_rfl) (by kernel_rfl) (by kernel_rfl) (e := add64Entry) (by kernel_rfl), run_add64 x y c (by omega) (by omega) (by omega) (by omega)]
  simp only [Result.andThen]
  congr 5 <;> omega
theorem sub64 (x y b : Nat) (hb : b ≤ 1) (w : World) :
    (callFunc 30 #[.int .u64 x, .int .u64 y, .int .u64 b]).run Try.prog w =
      .ok (.value (.tuple #[.int .u64 (((x + 18446744073709551616 - y - b) % 18446744073709551616 : Nat) : Int), .int .u64 ((if x < y + b then 1 else 0 : Nat) : Int)])) w := by
  rw [run_callFunc_extern Try.func30 (by kernel_rfl) (by kernel_rfl) (by kernel_rfl) (e := sub64Entry) (by kernel_rfl), run_sub64 x y b hb]
  rfl
/-! What a function hands back out of its cells. -/
section
variable {w : World}
theorem load24 (g : Nat) (cs : Array Value) (t : TypeId) (fr : Nat × Nat) (hg : w.heap[g]? = some (.cells cs t fr)) (hz : cs.size = 4) : (loadVar 24 ⟨g, 0, none⟩).run Try.prog w = .ok (.agg cs) w :=
  run_loadVar_row w g t 24 cs fr _ hg Try.underlying24 rfl (by rw [hz]; exact size24)
theorem ret_c {fn : Func} {p : Tmp} (h : fn.results = #[.cell p 24]) (tmps : Array Value) (g : Nat) (cs : Array Value) (t : TypeId) (fr : Nat × Nat) (hp : tmps.getD p undef = .pointer (some ⟨g, 0, none⟩)) (hg : w.heap[g]? = some (.cells cs t fr)) (hz : cs.size = 4) :
    (results fn tmps).run Try.prog w = .ok (.agg cs) w := by
  have hp' : tmps[p]?.getD undef = .pointer (some ⟨g, 0, none⟩) := by simpa using hp
  simp [results, h, hp', asAddr, load24 g cs t fr hg hz]
theorem ret_ct {fn : Func} {p u : Tmp} (h : fn.results = #[.cell p 24, .tmp u]) (tmps : Array Value) (g : Nat) (cs : Array Value) (t : TypeId) (fr : Nat × Nat) (v : Value) (hp : tmps.getD p undef = .pointer (some ⟨g, 0, none⟩)) (hv : tmps.getD u undef = v) (hg : w.heap[g]? = some (.cells cs t fr)) (hz : cs.size = 4) :
    (results fn tmps).run Try.prog w = .ok (.tuple #[.agg cs, v]) w := by
  have hp' : tmps[p]?.getD undef = .pointer (some ⟨g, 0, none⟩) := by simpa using hp
  have hv' : tmps[u]?.getD undef = v := by simpa using hv
  simp [results, h, hp', hv', asAddr, load24 g cs t fr hg hz]
theorem ret_cc {fn : Func} {p q : Tmp} (h : fn.results = #[.cell p 24, .cell q 24]) (tmps : Array Value) (g k : Nat) (cs ds : Array Value) (t t' : TypeId) (fr fr' : Nat × Nat) (hp : tmps.getD p undef = .pointer (some ⟨g, 0, none⟩)) (hq : tmps.getD q undef = .pointer (some ⟨k, 0, none⟩)) (hg : w.heap[g]? = some (.cells cs t fr)) (hz : cs.size = 4) (hk : w.heap[k]? = some (.cells ds t' fr')) (hz' : ds.size = 4) :
    (results fn tmps).run Try.prog w = .ok (.tuple #[.agg cs, .agg ds]) w := by
  have hp' : tmps[p]?.getD undef = .pointer (some ⟨g, 0, none⟩) := by simpa using hp
  have hq' : tmps[q]?.getD undef = .pointer (some ⟨k, 0, none⟩) := by simpa using hq
  simp [results, h, hp', hq', asAddr, load24 g cs t fr hg hz, load24 k ds t' fr' hk hz']
theorem ret_cct {fn : Func} {p q u : Tmp} (h : fn.results = #[.cell p 24, .cell q 24, .tmp u]) (tmps : Array Value) (g k : Nat) (cs ds : Array Value) (t t' : TypeId) (fr fr' : Nat × Nat) (v : Value) (hp : tmps.getD p undef = .pointer (some ⟨g, 0, none⟩)) (hq : tmps.getD q undef = .pointer (some ⟨k, 0, none⟩)) (hv : tmps.getD u undef = v) (hg : w.heap[g]? = some (.cells cs t fr)) (hz : cs.size = 4) (hk : w.heap[k]? = some (.cells ds t' fr')) (hz' : ds.size = 4) :
    (results fn tmps).run Try.prog w = .ok (.tuple #[.agg cs, .agg ds, v]) w := by
  have hp' : tmps[p]?.getD undef = .pointer (some ⟨g, 0, none⟩) := by simpa using hp
  have hq' : tmps[q]?.getD undef = .pointer (some ⟨k, 0, none⟩) := by simpa using hq
  have hv' : tmps[u]?.getD undef = v := by simpa using hv
  simp [results, h, hp', hq', hv', asAddr, load24 g cs t fr hg hz, load24 k ds t' fr' hk hz']
end
set_option maxHeartbeats 1000000 in
theorem of12 (n : Nat) (hn : n < 18446744073709551616) (w : World) :
    Calls Try.prog 12 #[.int .u64 (n : Int)] w fun e w' => e = .returned (.agg (wc n)) ∧ Below w.heap.size w w' := by
  have e : wc n = #[.int .u64 (n : Int), .int .u64 0, .int .u64 0, .int .u64 0] := by
    unfold wc; rw [Nat.mod_eq_of_lt hn, Nat.div_eq_of_lt hn, Nat.div_eq_of_lt (by omega), Nat.div_eq_of_lt (by omega)]; rfl
  rw [e]
  go_enter Try.func12, Try.ntmps12
  go_wp2_with fail
  exact bodyPost_ret (ret_c (p := 2) rfl _ w.heap.size _ 24 (0, 0) (by rfl) (heap_alloc_new w _) rfl) rfl ⟨rfl, (Below.refl _ _).alloc (Nat.le_refl _) _⟩
set_option maxHeartbeats 1000000 in
theorem most27 (w : World) :
    Calls Try.prog 27 #[] w fun e w' => e = .returned (.agg (wc 115792089237316195423570985008687907853269984665640564039457584007913129639935)) ∧ Below w.heap.size w w' := by
  rw [show wc 115792089237316195423570985008687907853269984665640564039457584007913129639935 = #[.int .u64 18446744073709551615, .int .u64 18446744073709551615, .int .u64 18446744073709551615, .int .u64 18446744073709551615] from by kernel_rfl]
  go_enter Try.func27, Try.ntmps27
  go_wp2_with fail
  exact bodyPost_ret (ret_c (p := 0) rfl _ w.heap.size _ 24 (0, 0) (by rfl) (heap_alloc_new w _) rfl) rfl ⟨rfl, (Below.refl _ _).alloc (Nat.le_refl _) _⟩
end
section
open Go Go.RowKit Go.Proofs
abbrev M4 : Nat := 115792089237316195423570985008687907853269984665640564039457584007913129639936
theorem alloc3 (w : World) (o p q : Obj) : (((w.alloc o).alloc p).alloc q).heap[w.heap.size]? = some o ∧ (((w.alloc o).alloc p).alloc q).heap[w.heap.size + 1]? = some p ∧ (((w.alloc o).alloc p).alloc q).heap[w.heap.size + 2]? = some q := by
  refine ⟨?_, ?_, ?_⟩
  · show (((w.heap.push o).push p).push q)[w.heap.size]? = some o
    rw [Array.getElem?_push, if_neg (by simp; omega), Array.getElem?_push, if_neg (by simp), Array.getElem?_push, if_pos rfl]
  · show (((w.heap.push o).push p).push q)[w.heap.size + 1]? = some p
    rw [Array.getElem?_push, if_neg (by simp), Array.getElem?_push, if_pos (by simp)]
  · show (((w.heap.push o).push p).push q)[w.heap.size + 2]? = some q
    rw [Array.getElem?_push, if_pos (by simp)]
theorem alloc3_below (w : World) (o p q : Obj) : Below w.heap.size w (((w.alloc o).alloc p).alloc q) := (((Below.refl _ _).alloc (Nat.le_refl _) _).alloc (by simp) _).alloc (by simp; omega) _
attribute [local irreducible] wc pw

set_option maxHeartbeats 1000000 in
set_option maxRecDepth 100000 in
theorem add11 (n m : Nat) (hn : n < M4) (hm : m < M4) (w : World) :
    Calls Try.prog 11 #[.agg (wc n), .agg (wc m)] w fun e w' => e = .returned (.tuple #[.agg (wc ((n + m) % M4)), .bool (decide (M4 ≤ n + m))]) ∧ Below w.heap.size w w' := by
  obtain ⟨W3, hW3⟩ : ∃ W3, W3 = ((w.alloc (.cells (wc n) 24)).alloc (.cells (wc m) 24)).alloc (.cells (wc 0) 24) := ⟨_, rfl⟩
  have ha3 := alloc3 w (.cells (wc n) 24) (.cells (wc m) 24) (.cells (wc 0) 24)
  have hb3 := alloc3_below w (.cells (wc n) 24) (.cells (wc m) 24) (.cells (wc 0) 24)
  rw [← hW3] at ha3 hb3
  obtain ⟨hA, hB, hC⟩ := ha3
  have HA := Lib.hid hA; have HB_ := Lib.hid hB; have HC := Lib.hid hC; have HB3 := Lib.hid hb3
  clear hA hB hC hb3
  rw [wc_zero] at hW3
  go_enter Try.func11, Try.ntmps11
  go_wp2_with fail
  rw [← hW3]
  clear hW3
  go_loopw [8, 6] (fun s8 s6 w' => ∃ k : Nat, k ≤ 4 ∧ s8 = .int .i64 k ∧ s6 = .int .u64 (((n % pw k + m % pw k) / pw k : Nat) : Int) ∧ Below w.heap.size w w' ∧ w'.heap[w.heap.size]? = some (.cells (wc n) 24) ∧ w'.heap[w.heap.size + 1]? = some (.cells (wc m) 24) ∧ w'.heap[w.heap.size + 2]? = some (.cells (wc ((n % pw k + m % pw k) % pw k)) 24)) (fun s8 _ _ => 4 - (intOf s8).toNat)
  case atStart =>
    refine ⟨0, by omega, rfl, ?_, HB3.out, HA.out, HB_.out, ?_⟩
    · simp only [pw]; simp [Nat.mod_one]
    · rw [HC.out]; simp only [pw]; simp [Nat.mod_one]
  case round =>
    obtain ⟨k, hk, rfl, rfl, hbk, hA, hB, hC⟩ := hrel
    have HBk := Lib.hid hbk; have HA1 := Lib.hid hA; have HB1 := Lib.hid hB; have HC1 := Lib.hid hC
    clear hbk hA hB hC
    by_cases hlt : k < 4
    · have hst := add_step n m k hlt
      simp only at hst
      obtain ⟨hc1, hp, hs2, hs3⟩ := hst
      have hgx := wc_get n k hlt
      have hgy := wc_get m k hlt
      have hset := wc_set ((n % pw k + m % pw k) % pw k) k _ hlt hp (Nat.mod_lt (wk n k + wk m k + (n % pw k + m % pw k) / pw k) (show 0 < 18446744073709551616 by decide))
      rw [hs2] at hset
      have ki0 : (0 : Int) ≤ (k : Int) := by omega
      have ki1 : (k : Int) < 4 := by omega
      have hcall := add64 (wk n k) (wk m k) _ hc1
      rw [hs3] at hcall
      generalize wk n k = x at *
      generalize wk m k = y at *
      generalize ((n % (pw k) + m % (pw k)) % (pw k)) = p at *
      generalize (n % pw k + m % pw k) / pw k = c at *
      obtain ⟨d, hd⟩ : ∃ d, d = (x + y + c) % 18446744073709551616 := ⟨_, rfl⟩
      rw [← hd] at hset hcall
      obtain ⟨c', hc'⟩ : ∃ c', c' = ((n % pw (k + 1) + m % pw (k + 1)) / pw (k + 1)) := ⟨_, rfl⟩
      rw [← hc'] at hcall
      have HCALL := Lib.hid hcall; have HC' := Lib.hid hc'
      have HS := Lib.hid hset; have HGX := Lib.hid hgx; have HGY := Lib.hid hgy
      clear hset hgx hgy hs2 hs3 hp hd hcall hc'
      have hf : wr.frozen? ⟨w.heap.size + 1 + 1, k, none⟩ = false := frozen_of_row wr _ k _ 24 HC1.out
      have hcl : ∃ v, wr.cell? ⟨w.heap.size + 1 + 1, k, none⟩ = some v := ⟨_, (cell_of_row wr _ k _ _ _ HC1.out).trans (wc_get p k hlt)⟩
      obtain ⟨v0, hcl⟩ := hcl
      have HSA := Lib.hid (show (wr.setCell ⟨w.heap.size + 1 + 1, k, none⟩ (.int .u64 (d : Int))).heap[w.heap.size]? = some (.cells (wc n) 24) from (heap_setCell_other wr _ _ _ (by simp; omega)).trans HA1.out)
      have HSB := Lib.hid (show (wr.setCell ⟨w.heap.size + 1 + 1, k, none⟩ (.int .u64 (d : Int))).heap[w.heap.size + 1]? = some (.cells (wc m) 24) from (heap_setCell_other wr _ _ _ (by simp)).trans HB1.out)
      have HSC := Lib.hid (show (wr.setCell ⟨w.heap.size + 1 + 1, k, none⟩ (.int .u64 (d : Int))).heap[w.heap.size + 2]? = some (.cells (wc ((n % pw (k + 1) + m % pw (k + 1)) % pw (k + 1))) 24) from by rw [← HS.out]; exact heap_setCell_same wr _ _ _ _ _ HC1.out)
      have HBW := Lib.hid (HBk.out.setCell (p := ⟨w.heap.size + 1 + 1, k, none⟩) (by simp; omega) (.int .u64 (d : Int)))
      go_wp2_with fail
      refine wp_region_pi [(0, true), (1, true), (2, true), (3, true), (4, true), (5, true), (6, true), (7, true), (8, false), (9, true), (10, true), (11, true), (12, true), (13, false), (14, true)] (by kernel_rfl) (by kernel_rfl) rfl (by kernel_rfl) (fun _ _ _ _ _ h => h) (fun w' => w'.heap[w.heap.size]? = some (.cells (wc n) 24) ∧ w'.heap[w.heap.size + 1]? = some (.cells (wc m) 24)) ⟨HA1.out, HB1.out⟩ ?_
      intro OPS hops
      iterate 8
        first | (refine wpPi_yield _ (by rw [hops.out]; simp only [List.getElem?_toArray, List.getElem?_cons_succ, List.getElem?_cons_zero]; rfl) (by first | rfl | (rw [hops.out]; rfl)) (fun w' hS => by have q1 : w'.cell? ⟨w.heap.size, k, none⟩ = some (.int .u64 (x : Int)) := (cell_of_row w' _ k _ _ _ hS.1).trans HGX.out; have q2 : w'.cell? ⟨w.heap.size + 1, k, none⟩ = some (.int .u64 (y : Int)) := (cell_of_row w' _ k _ _ _ hS.2).trans HGY.out; go_simp; rfl) ?_; simp only [Act.put, List.setIfInBounds_toArray, List.set_cons_succ, List.set_cons_zero]) | (refine wpPi_skip (by rw [hops.out]; simp only [List.getElem?_toArray, List.getElem?_cons_succ, List.getElem?_cons_zero]; rfl) (by first | rfl | (rw [hops.out]; rfl)) ?_; simp only [Act.put, List.setIfInBounds_toArray, List.set_cons_succ, List.set_cons_zero])
      refine wpPi_act (by rw [hops.out]; simp only [List.getElem?_toArray, List.getElem?_cons_succ, List.getElem?_cons_zero]; rfl) (by first | rfl | (rw [hops.out]; rfl)) ?_
      have hcall := HCALL.out
      unfold Oper.wp
      go_simp
      clear hcall
      try (refine ⟨(by first | exact ⟨HA1.out, HB1.out⟩ | exact ⟨HSA.out, HSB.out⟩), ?_⟩)
      iterate 4
        first | (refine wpPi_yield _ (by rw [hops.out]; simp only [List.getElem?_toArray, List.getElem?_cons_succ, List.getElem?_cons_zero]; rfl) (by first | rfl | (rw [hops.out]; rfl)) (fun w' hS => by have q1 : w'.cell? ⟨w.heap.size, k, none⟩ = some (.int .u64 (x : Int)) := (cell_of_row w' _ k _ _ _ hS.1).trans HGX.out; have q2 : w'.cell? ⟨w.heap.size + 1, k, none⟩ = some (.int .u64 (y : Int)) := (cell_of_row w' _ k _ _ _ hS.2).trans HGY.out; go_simp; rfl) ?_; simp only [Act.put, List.setIfInBounds_toArray, List.set_cons_succ, List.set_cons_zero]) | (refine wpPi_skip (by rw [hops.out]; simp only [List.getElem?_toArray, List.getElem?_cons_succ, List.getElem?_cons_zero]; rfl) (by first | rfl | (rw [hops.out]; rfl)) ?_; simp only [Act.put, List.setIfInBounds_toArray, List.set_cons_succ, List.set_cons_zero])
      refine wpPi_act (by rw [hops.out]; simp only [List.getElem?_toArray, List.getElem?_cons_succ, List.getElem?_cons_zero]; rfl) (by first | rfl | (rw [hops.out]; rfl)) ?_
      go_simp
      try (refine ⟨(by first | exact ⟨HA1.out, HB1.out⟩ | exact ⟨HSA.out, HSB.out⟩), ?_⟩)
      iterate 1
        first | (refine wpPi_yield _ (by rw [hops.out]; simp only [List.getElem?_toArray, List.getElem?_cons_succ, List.getElem?_cons_zero]; rfl) (by first | rfl | (rw [hops.out]; rfl)) (fun w' hS => by have q1 : w'.cell? ⟨w.heap.size, k, none⟩ = some (.int .u64 (x : Int)) := (cell_of_row w' _ k _ _ _ hS.1).trans HGX.out; have q2 : w'.cell? ⟨w.heap.size + 1, k, none⟩ = some (.int .u64 (y : Int)) := (cell_of_row w' _ k _ _ _ hS.2).trans HGY.out; go_simp; rfl) ?_; simp only [Act.put, List.setIfInBounds_toArray, List.set_cons_succ, List.set_cons_zero]) | (refine wpPi_skip (by rw [hops.out]; simp only [List.getElem?_toArray, List.getElem?_cons_succ, List.getElem?_cons_zero]; rfl) (by first | rfl | (rw [hops.out]; rfl)) ?_; simp only [Act.put, List.setIfInBounds_toArray, List.set_cons_succ, List.set_cons_zero])
      simp only [wpPi]

      go_wp2_with fail
      go_roundw
      case rel => exact ⟨k + 1, by omega, by go_num, by rw [HC'.out], HBW.out.drew, HSA.out, HSB.out, HSC.out⟩
      case measure => simp [intOf]; omega
    · obtain rfl : k = 4 := by omega
      have hC4 : wr.heap[w.heap.size + 1 + 1]? = some (.cells (wc ((n + m) % M4)) 24) := by
        rw [HC1.out]; congr 3; simp only [pw, M4] at *; omega
      have HC4 := Lib.hid hC4
      have hcv : decide (0 < (n % pw 4 + m % pw 4) / pw 4) = decide (M4 ≤ n + m) := by simp only [pw, M4] at *; simp; omega
      generalize (n % pw 4 + m % pw 4) / pw 4 = c at *
      clear hC4
      go_wp2_with (first | refine wpList_load_row (by rfl) 24 _ (by rfl) _ (by rfl) 24 _ (0, 0) _ HC4.out Try.underlying24 rfl (by rw [wc_size]; exact size24) ?_ | refine wpList_store_row (by rfl) 24 _ _ (by rfl) _ _ (by rfl) (by rfl) 24 _ HC4.out (by rw [wc_size]; exact size24) rfl (wc_one _) ?_)
      rw [setRow_self wr _ _ _ _ HC4.out]
      exact bodyPost_ret (ret_ct (p := 4) (u := 5) rfl _ (w.heap.size + 1 + 1) _ 24 (0, 0) _ (by rfl) (by rw [← hcv]; rfl) HC4.out (wc_size _)) rfl ⟨rfl, HBk.out⟩

set_option maxHeartbeats 1000000 in
set_option maxRecDepth 100000 in
theorem sub13 (n m : Nat) (hn : n < M4) (hm : m < M4) (w : World) :
    Calls Try.prog 13 #[.agg (wc n), .agg (wc m)] w fun e w' => e = .returned (.tuple #[.agg (wc ((n + M4 - m) % M4)), .bool (decide (n < m))]) ∧ Below w.heap.size w w' := by
  obtain ⟨W3, hW3⟩ : ∃ W3, W3 = ((w.alloc (.cells (wc n) 24)).alloc (.cells (wc m) 24)).alloc (.cells (wc 0) 24) := ⟨_, rfl⟩
  have ha3 := alloc3 w (.cells (wc n) 24) (.cells (wc m) 24) (.cells (wc 0) 24)
  have hb3 := alloc3_below w (.cells (wc n) 24) (.cells (wc m) 24) (.cells (wc 0) 24)
  rw [← hW3] at ha3 hb3
  obtain ⟨hA, hB, hC⟩ := ha3
  have HA := Lib.hid hA; have HB_ := Lib.hid hB; have HC := Lib.hid hC; have HB3 := Lib.hid hb3
  clear hA hB hC hb3
  rw [wc_zero] at hW3
  go_enter Try.func13, Try.ntmps13
  go_wp2_with fail
  rw [← hW3]
  clear hW3
  go_loopw [8, 6] (fun s8 s6 w' => ∃ k : Nat, k ≤ 4 ∧ s8 = .int .i64 k ∧ s6 = .int .u64 (((if n % pw k < m % pw k then 1 else 0) : Nat) : Int) ∧ Below w.heap.size w w' ∧ w'.heap[w.heap.size]? = some (.cells (wc n) 24) ∧ w'.heap[w.heap.size + 1]? = some (.cells (wc m) 24) ∧ w'.heap[w.heap.size + 2]? = some (.cells (wc ((n % pw k + pw k - m % pw k) % pw k)) 24)) (fun s8 _ _ => 4 - (intOf s8).toNat)
  case atStart =>
    refine ⟨0, by omega, rfl, ?_, HB3.out, HA.out, HB_.out, ?_⟩
    · simp only [pw]; simp [Nat.mod_one]
    · rw [HC.out]; simp only [pw]; simp [Nat.mod_one]
  case round =>
    obtain ⟨k, hk, rfl, rfl, hbk, hA, hB, hC⟩ := hrel
    have HBk := Lib.hid hbk; have HA1 := Lib.hid hA; have HB1 := Lib.hid hB; have HC1 := Lib.hid hC
    clear hbk hA hB hC
    by_cases hlt : k < 4
    · have hst := sub_step n m k hlt
      simp only at hst
      obtain ⟨hc1, hp, hs2, hs3⟩ := hst
      have hgx := wc_get n k hlt
      have hgy := wc_get m k hlt
      have hset := wc_set ((n % pw k + pw k - m % pw k) % pw k) k _ hlt hp (Nat.mod_lt (wk n k + 18446744073709551616 - wk m k - (if n % pw k < m % pw k then 1 else 0)) (show 0 < 18446744073709551616 by decide))
      rw [hs2] at hset
      have ki0 : (0 : Int) ≤ (k : Int) := by omega
      have ki1 : (k : Int) < 4 := by omega
      have hcall := sub64 (wk n k) (wk m k) _ hc1
      rw [hs3] at hcall
      generalize wk n k = x at *
      generalize wk m k = y at *
      generalize ((n % (pw k) + (pw k) - m % (pw k)) % (pw k)) = p at *
      generalize (if n % pw k < m % pw k then 1 else 0) = c at *
      obtain ⟨d, hd⟩ : ∃ d, d = (x + 18446744073709551616 - y - c) % 18446744073709551616 := ⟨_, rfl⟩
      rw [← hd] at hset hcall
      obtain ⟨c', hc'⟩ : ∃ c', c' = ((if n % pw (k + 1) < m % pw (k + 1) then 1 else 0)) := ⟨_, rfl⟩
      rw [← hc'] at hcall
      have HCALL := Lib.hid hcall; have HC' := Lib.hid hc'
      have HS := Lib.hid hset; have HGX := Lib.hid hgx; have HGY := Lib.hid hgy
      clear hset hgx hgy hs2 hs3 hp hd hcall hc'
      have hf : wr.frozen? ⟨w.heap.size + 1 + 1, k, none⟩ = false := frozen_of_row wr _ k _ 24 HC1.out
      have hcl : ∃ v, wr.cell? ⟨w.heap.size + 1 + 1, k, none⟩ = some v := ⟨_, (cell_of_row wr _ k _ _ _ HC1.out).trans (wc_get p k hlt)⟩
      obtain ⟨v0, hcl⟩ := hcl
      have HSA := Lib.hid (show (wr.setCell ⟨w.heap.size + 1 + 1, k, none⟩ (.int .u64 (d : Int))).heap[w.heap.size]? = some (.cells (wc n) 24) from (heap_setCell_other wr _ _ _ (by simp; omega)).trans HA1.out)
      have HSB := Lib.hid (show (wr.setCell ⟨w.heap.size + 1 + 1, k, none⟩ (.int .u64 (d : Int))).heap[w.heap.size + 1]? = some (.cells (wc m) 24) from (heap_setCell_other wr _ _ _ (by simp)).trans HB1.out)
      have HSC := Lib.hid (show (wr.setCell ⟨w.heap.size + 1 + 1, k, none⟩ (.int .u64 (d : Int))).heap[w.heap.size + 2]? = some (.cells (wc ((n % pw (k + 1) + pw (k + 1) - m % pw (k + 1)) % pw (k + 1))) 24) from by rw [← HS.out]; exact heap_setCell_same wr _ _ _ _ _ HC1.out)
      have HBW := Lib.hid (HBk.out.setCell (p := ⟨w.heap.size + 1 + 1, k, none⟩) (by simp; omega) (.int .u64 (d : Int)))
      go_wp2_with fail
      refine wp_region_pi [(0, true), (1, true), (2, true), (3, true), (4, true), (5, true), (6, true), (7, true), (8, false), (9, true), (10, true), (11, true), (12, true), (13, false), (14, true)] (by kernel_rfl) (by kernel_rfl) rfl (by kernel_rfl) (fun _ _ _ _ _ h => h) (fun w' => w'.heap[w.heap.size]? = some (.cells (wc n) 24) ∧ w'.heap[w.heap.size + 1]? = some (.cells (wc m) 24)) ⟨HA1.out, HB1.out⟩ ?_
      intro OPS hops
      iterate 8
        first | (refine wpPi_yield _ (by rw [hops.out]; simp only [List.getElem?_toArray, List.getElem?_cons_succ, List.getElem?_cons_zero]; rfl) (by first | rfl | (rw [hops.out]; rfl)) (fun w' hS => by have q1 : w'.cell? ⟨w.heap.size, k, none⟩ = some (.int .u64 (x : Int)) := (cell_of_row w' _ k _ _ _ hS.1).trans HGX.out; have q2 : w'.cell? ⟨w.heap.size + 1, k, none⟩ = some (.int .u64 (y : Int)) := (cell_of_row w' _ k _ _ _ hS.2).trans HGY.out; go_simp; rfl) ?_; simp only [Act.put, List.setIfInBounds_toArray, List.set_cons_succ, List.set_cons_zero]) | (refine wpPi_skip (by rw [hops.out]; simp only [List.getElem?_toArray, List.getElem?_cons_succ, List.getElem?_cons_zero]; rfl) (by first | rfl | (rw [hops.out]; rfl)) ?_; simp only [Act.put, List.setIfInBounds_toArray, List.set_cons_succ, List.set_cons_zero])
      refine wpPi_act (by rw [hops.out]; simp only [List.getElem?_toArray, List.getElem?_cons_succ, List.getElem?_cons_zero]; rfl) (by first | rfl | (rw [hops.out]; rfl)) ?_
      have hcall := HCALL.out
      unfold Oper.wp
      go_simp
      clear hcall
      try (refine ⟨(by first | exact ⟨HA1.out, HB1.out⟩ | exact ⟨HSA.out, HSB.out⟩), ?_⟩)
      iterate 4
        first | (refine wpPi_yield _ (by rw [hops.out]; simp only [List.getElem?_toArray, List.getElem?_cons_succ, List.getElem?_cons_zero]; rfl) (by first | rfl | (rw [hops.out]; rfl)) (fun w' hS => by have q1 : w'.cell? ⟨w.heap.size, k, none⟩ = some (.int .u64 (x : Int)) := (cell_of_row w' _ k _ _ _ hS.1).trans HGX.out; have q2 : w'.cell? ⟨w.heap.size + 1, k, none⟩ = some (.int .u64 (y : Int)) := (cell_of_row w' _ k _ _ _ hS.2).trans HGY.out; go_simp; rfl) ?_; simp only [Act.put, List.setIfInBounds_toArray, List.set_cons_succ, List.set_cons_zero]) | (refine wpPi_skip (by rw [hops.out]; simp only [List.getElem?_toArray, List.getElem?_cons_succ, List.getElem?_cons_zero]; rfl) (by first | rfl | (rw [hops.out]; rfl)) ?_; simp only [Act.put, List.setIfInBounds_toArray, List.set_cons_succ, List.set_cons_zero])
      refine wpPi_act (by rw [hops.out]; simp only [List.getElem?_toArray, List.getElem?_cons_succ, List.getElem?_cons_zero]; rfl) (by first | rfl | (rw [hops.out]; rfl)) ?_
      go_simp
      try (refine ⟨(by first | exact ⟨HA1.out, HB1.out⟩ | exact ⟨HSA.out, HSB.out⟩), ?_⟩)
      iterate 1
        first | (refine wpPi_yield _ (by rw [hops.out]; simp only [List.getElem?_toArray, List.getElem?_cons_succ, List.getElem?_cons_zero]; rfl) (by first | rfl | (rw [hops.out]; rfl)) (fun w' hS => by have q1 : w'.cell? ⟨w.heap.size, k, none⟩ = some (.int .u64 (x : Int)) := (cell_of_row w' _ k _ _ _ hS.1).trans HGX.out; have q2 : w'.cell? ⟨w.heap.size + 1, k, none⟩ = some (.int .u64 (y : Int)) := (cell_of_row w' _ k _ _ _ hS.2).trans HGY.out; go_simp; rfl) ?_; simp only [Act.put, List.setIfInBounds_toArray, List.set_cons_succ, List.set_cons_zero]) | (refine wpPi_skip (by rw [hops.out]; simp only [List.getElem?_toArray, List.getElem?_cons_succ, List.getElem?_cons_zero]; rfl) (by first | rfl | (rw [hops.out]; rfl)) ?_; simp only [Act.put, List.setIfInBounds_toArray, List.set_cons_succ, List.set_cons_zero])
      simp only [wpPi]

      go_wp2_with fail
      go_roundw
      case rel => exact ⟨k + 1, by omega, by go_num, by rw [HC'.out], HBW.out.drew, HSA.out, HSB.out, HSC.out⟩
      case measure => simp [intOf]; omega
    · obtain rfl : k = 4 := by omega
      have hC4 : wr.heap[w.heap.size + 1 + 1]? = some (.cells (wc ((n + M4 - m) % M4)) 24) := by
        rw [HC1.out]; congr 3; simp only [pw, M4] at *; omega
      have HC4 := Lib.hid hC4
      have hcv : decide (0 < (if n % pw 4 < m % pw 4 then 1 else 0)) = decide (n < m) := by simp only [pw, M4] at *; rw [Nat.mod_eq_of_lt hn, Nat.mod_eq_of_lt hm]; split <;> simp [*]
      generalize (if n % pw 4 < m % pw 4 then 1 else 0) = c at *
      clear hC4
      go_wp2_with (first | refine wpList_load_row (by rfl) 24 _ (by rfl) _ (by rfl) 24 _ (0, 0) _ HC4.out Try.underlying24 rfl (by rw [wc_size]; exact size24) ?_ | refine wpList_store_row (by rfl) 24 _ _ (by rfl) _ _ (by rfl) (by rfl) 24 _ HC4.out (by rw [wc_size]; exact size24) rfl (wc_one _) ?_)
      rw [setRow_self wr _ _ _ _ HC4.out]
      exact bodyPost_ret (ret_ct (p := 4) (u := 5) rfl _ (w.heap.size + 1 + 1) _ 24 (0, 0) _ (by rfl) (by rw [← hcv]; rfl) HC4.out (wc_size _)) rfl ⟨rfl, HBk.out⟩
end
end Go.Proofs.Ytkbambojnifjcaa
