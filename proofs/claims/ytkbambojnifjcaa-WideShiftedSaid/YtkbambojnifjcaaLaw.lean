/- Contracts and words that the laws stand on (Law). -/
import Derived.Test.YtkbambojnifjcaaTimes
import Derived.Test.YtkbambojnifjcaaBase
set_option linter.unusedVariables false
set_option linter.unusedSimpArgs false
namespace Go.Proofs.Ytkbambojnifjcaa
section
open Go Go.RowKit Go.Proofs
/-! Words for the laws: the walk stops at a load, and goes on in a world of which only some facts are known. -/
theorem stop_load {P : Program} {ops : Array Oper} {rest : List Oper} {o : Oper} {a : Act} {w : World} {Q : Exit → Act → World → Prop} {x : Operand} (_ho : o.op = .load 24 x) (h : Hid (wpList P ops Q (o :: rest) a w)) : wpList P ops Q (o :: rest) a w := h.out
theorem stop_gen {P : Program} {ops : Array Oper} {l : List Oper} {a : Act} {w : World} {Q : Exit → Act → World → Prop} (S : World → Prop) (hs : S w) (k : ∀ W, S W → wpList P ops Q l a W) : Hid (wpList P ops Q l a w) := Lib.hid (k w hs)
theorem keep_below {W w1 : World} (hb : Below W.heap.size W w1) {k : Nat} {o : Obj} (h : W.heap[k]? = some o) : w1.heap[k]? = some o :=
  (hb.block k (Array.getElem?_eq_some_iff.1 h).1).trans h
theorem keep_alloc {w : World} {p o : Obj} {k : Nat} (h : w.heap[k]? = some o) : (w.alloc p).heap[k]? = some o :=
  (Below.heap_alloc _ _ _ (Array.getElem?_eq_some_iff.1 h).1).trans h
/-- What is known of the world: what was there is as it was; the blocks of l hold the numbers of l, and are apart. -/
def Inv (w W : World) (l : List (Nat × Nat)) : Prop := Below w.heap.size w W ∧ (∀ p ∈ l, W.heap[p.1]? = some (.cells (wc p.2) 24) ∧ w.heap.size ≤ p.1) ∧ (l.map (·.1)).Nodup
section
variable {w W w1 : World} {l : List (Nat × Nat)}
theorem Inv.get (h : Inv w W l) {g n : Nat} (hm : (g, n) ∈ l) : W.heap[g]? = some (.cells (wc n) 24) := (h.2.1 _ hm).1
theorem Inv.lt (h : Inv w W l) {g n : Nat} (hm : (g, n) ∈ l) : g < W.heap.size := (Array.getElem?_eq_some_iff.1 (h.get hm)).1
theorem Inv.start (w : World) : Inv w w [] := ⟨Below.refl _ _, (fun _ h => absurd h (List.not_mem_nil)), List.nodup_nil⟩
theorem Inv.call (h : Inv w W l) (hb : Below W.heap.size W w1) : Inv w w1 l :=
  ⟨h.1.trans (hb.mono h.1.size), fun p hp => ⟨keep_below hb (h.2.1 p hp).1, (h.2.1 p hp).2⟩, h.2.2⟩
theorem Inv.drew (h : Inv w W l) : Inv w W.drew l := ⟨h.1.drew, h.2.1, h.2.2⟩
theorem Inv.alloc (h : Inv w W l) (r : Nat) : Inv w (W.alloc (.cells (wc r) 24)) ((W.heap.size, r) :: l) := by
  refine ⟨h.1.alloc h.1.size _, fun p hp => ?_, ?_⟩
  · rcases List.mem_cons.1 hp with rfl | hp
    · exact ⟨heap_alloc_new _ _, h.1.size⟩
    · exact ⟨keep_alloc (h.2.1 p hp).1, (h.2.1 p hp).2⟩
  · rw [List.map_cons, List.nodup_cons]
    refine ⟨fun hm => ?_, h.2.2⟩
    obtain ⟨p, hp, e⟩ := List.mem_map.1 hm
    have := h.lt (g := p.1) (n := p.2) hp
    omega
theorem Inv.set {b n : Nat} (h : Inv w W ((b, n) :: l)) (r : Nat) : Inv w (W.setRow b (wc r)) ((b, r) :: l) := by
  have hn := h.2.2
  rw [List.map_cons, List.nodup_cons] at hn
  have hb := h.2.1 (b, n) (List.mem_cons_self ..)
  refine ⟨below_setRow h.1 hb.2 _, fun p hp => ?_, ?_⟩
  · rcases List.mem_cons.1 hp with rfl | hp
    · exact ⟨setRow_heap _ _ _ _ _ _ hb.1, hb.2⟩
    · refine ⟨(setRow_other _ _ _ _ (fun e => ?_)).trans (h.2.1 p (List.mem_cons_of_mem _ hp)).1, (h.2.1 p (List.mem_cons_of_mem _ hp)).2⟩
      exact hn.1 (List.mem_map.2 ⟨p, hp, e⟩)
  · rw [List.map_cons, List.nodup_cons]; exact hn
theorem Inv.swap {p q : Nat × Nat} (h : Inv w W (p :: q :: l)) : Inv w W (q :: p :: l) :=
  ⟨h.1, fun x hx => h.2.1 x (by simp at hx ⊢; rcases hx with rfl | rfl | hx <;> simp [*]), by
    have := h.2.2
    simp only [List.map_cons, List.nodup_cons, List.mem_cons, not_or] at this ⊢
    exact ⟨⟨fun e => this.1.1 e.symm, this.2.1⟩, this.1.2, this.2.2⟩⟩
theorem Inv.tail {p : Nat × Nat} (h : Inv w W (p :: l)) : Inv w W l := ⟨h.1, fun q hq => h.2.1 q (List.mem_cons_of_mem _ hq), (List.nodup_cons.1 h.2.2).2⟩
theorem Inv.alloc0 (h : Inv w W l) : ∃ b, b = W.heap.size ∧ Inv w (W.alloc (.cells #[.int .u64 0, .int .u64 0, .int .u64 0, .int .u64 0] 24)) ((b, 0) :: l) := by
  have := h.alloc 0
  rw [wc_zero] at this
  exact ⟨_, rfl, this⟩
variable {P : Program} {ops : Array Oper} {rest : List Oper} {o : Oper} {a : Act} {Q : Exit → Act → World → Prop}
theorem wpList_wanted (hw : Region.wanted o (yielded ops a.tmps) = true) (h : o.wp P a w (wpList P ops Q rest) Q) : wpList P ops Q (o :: rest) a w := by
  unfold wpList
  rw [if_pos hw]
  exact .inl h
theorem at_store {y : Operand} (d : Nat) (_ho : o.op = .store 24 (.tmp d) y) (h : wpList P ops Q (o :: rest) a w) : wpList P ops Q (o :: rest) a w := h
theorem load_inv {x : Operand} {g n : Nat} (hI : Inv w W l) (hw : Region.wanted o (yielded ops a.tmps) = true) (ho : o.op = .load 24 x) (hx : a.eval x = .pointer (some ⟨g, 0, none⟩)) (hm : (g, n) ∈ l)
    (h : wpList Try.prog ops Q rest (a.put o.dst (.agg (wc n))) W) : wpList Try.prog ops Q (o :: rest) a W :=
  wpList_wanted hw (wp_load_row 24 x ho g hx 24 (wc n) (0, 0) _ (hI.get hm) Try.underlying24 rfl (by rw [wc_size]; exact size24) h)
theorem exec_load {P : Program} {o : Oper} {ev : Operand → Value} {w : World} (ty : TypeId) (x : Operand) (ho : o.op = .load ty x) (g : Nat) (hx : ev x = .pointer (some ⟨g, 0, none⟩)) (t : TypeId) (cs : Array Value) (fr : Nat × Nat) (d : TypeDesc) (hg : w.heap[g]? = some (.cells cs t fr))
    (hu : P.underlying ty = some d) (hd : (match d with | .struct _ | .array _ _ => true | _ => false) = true) (hi : (P.info? ty).map (·.size) = some cs.size) : (execOp ev o).run P w = .ok (.value (.agg cs)) w := by
  unfold execOp
  simp only [ho, hx, Instr.loadAt, Instr.sureAddr, Sem.run_bind, Sem.run_pure, Result.andThen_ok, run_loadVar_row w g t ty cs fr d hg hu hd hi]
theorem load_run {x : Operand} {g n : Nat} (hI : Inv w W l) (ho : o.op = .load 24 x) (hx : a.eval x = .pointer (some ⟨g, 0, none⟩)) (hm : (g, n) ∈ l) : (execOp a.eval o).run Try.prog W = .ok (.value (.agg (wc n))) W :=
  exec_load 24 x ho g hx 24 (wc n) (0, 0) _ (hI.get hm) Try.underlying24 rfl (by rw [wc_size]; exact size24)
theorem put_none (ho : o.dst = none) (v : Value) : a.put o.dst v = a := by rw [ho]; rfl
/-- A cell for a number is made (it was just made: the world shows it), and filled. -/
theorem newA {x y : Operand} {r : Nat} (hI : Inv w w1 l) (hw : Region.wanted o (yielded ops a.tmps) = true) (ho : o.op = .store 24 x y) (hx : a.eval x = .pointer (some ⟨w1.heap.size, 0, none⟩)) (hy : a.eval y = .agg (wc r))
    (h : ∀ V, Inv w V ((w1.heap.size, r) :: l) → wpList Try.prog ops Q rest (a.put o.dst undef) V) : wpList Try.prog ops Q (o :: rest) a (w1.alloc (.cells #[.int .u64 0, .int .u64 0, .int .u64 0, .int .u64 0] 24)) := by
  have h1 := hI.alloc 0
  rw [wc_zero] at h1
  exact wpList_wanted hw (wp_store_row 24 x y ho w1.heap.size (wc r) hx hy 24 _ (heap_alloc_new _ _) (by rw [wc_size]; exact size24) (by rw [wc_size]; rfl) (wc_one r) (h _ (h1.set r)))
theorem newB {o2 : Oper} {x y x2 y2 : Operand} {r q : Nat} (hI : Inv w w1 l) (hw : Region.wanted o (yielded ops a.tmps) = true) (ho : o.op = .store 24 x y) (hx : a.eval x = .pointer (some ⟨w1.heap.size, 0, none⟩)) (hy : a.eval y = .agg (wc r)) (hd : o.dst = none)
    (hw2 : Region.wanted o2 (yielded ops a.tmps) = true) (ho2 : o2.op = .store 24 x2 y2) (hx2 : a.eval x2 = .pointer (some ⟨w1.heap.size + 1, 0, none⟩)) (hy2 : a.eval y2 = .agg (wc q)) (hd2 : o2.dst = none)
    (h : ∀ V, Inv w V ((w1.heap.size, r) :: (w1.heap.size + 1, q) :: l) → wpList Try.prog ops Q rest a V) : wpList Try.prog ops Q (o :: o2 :: rest) a ((w1.alloc (.cells #[.int .u64 0, .int .u64 0, .int .u64 0, .int .u64 0] 24)).alloc (.cells #[.int .u64 0, .int .u64 0, .int .u64 0, .int .u64 0] 24)) := by
  have h1 := (hI.alloc 0).alloc 0
  rw [wc_zero] at h1
  have hz : (w1.alloc (.cells #[.int .u64 0, .int .u64 0, .int .u64 0, .int .u64 0] 24)).heap.size = w1.heap.size + 1 := by simp
  rw [hz] at h1
  have h2 := h1.swap.set r
  have h3 := h2.swap.set q
  refine wpList_wanted hw (wp_store_row 24 x y ho w1.heap.size (wc r) hx hy 24 _ (h1.swap.get (g := w1.heap.size) (n := 0) (List.mem_cons_self ..)) (by rw [wc_size]; exact size24) (by simp only [wc_size]) (wc_one r) ?_)
  rw [put_none hd]
  refine wpList_wanted hw2 (wp_store_row 24 x2 y2 ho2 (w1.heap.size + 1) (wc q) hx2 hy2 24 _ (h2.swap.get (g := w1.heap.size + 1) (n := 0) (List.mem_cons_self ..)) (by rw [wc_size]; exact size24) (by simp only [wc_size]) (wc_one q) ?_)
  rw [put_none hd2]
  exact h _ h3.swap
end
theorem wc_mod (n : Nat) : wc n = wc (n % M4) := by
  have h0 : n % 18446744073709551616 = n % M4 % 18446744073709551616 := by simp only [M4]; omega
  have h1 : n / 18446744073709551616 % 18446744073709551616 = n % M4 / 18446744073709551616 % 18446744073709551616 := by simp only [M4]; omega
  have h2 : n / 340282366920938463463374607431768211456 % 18446744073709551616 = n % M4 / 340282366920938463463374607431768211456 % 18446744073709551616 := by simp only [M4]; omega
  have h3 : n / 6277101735386680763835789423207666416102355444464034512896 % 18446744073709551616 = n % M4 / 6277101735386680763835789423207666416102355444464034512896 % 18446744073709551616 := by simp only [M4]; omega
  unfold wc
  rw [h0, h1, h2, h3]
theorem eq_self (n : Nat) (w : World) : (binOp .eql 24 (.agg (wc n)) (.agg (wc n))).run Try.prog w = .ok (.bool true) w := by
  rw [wc_mod n, run_eq24 _ _ (Nat.mod_lt _ (by decide)) (Nat.mod_lt _ (by decide))]
  simp
theorem eq_zero (w : World) : (binOp .eql 24 (.agg (wc 0)) (.agg #[.int .u64 0, .int .u64 0, .int .u64 0, .int .u64 0])).run Try.prog w = .ok (.bool true) w := eq_self 0 w
end
section
open Go Go.RowKit Go.Proofs
abbrev MX : Nat := 115792089237316195423570985008687907853269984665640564039457584007913129639935
attribute [local irreducible] wc pw we
set_option maxHeartbeats 2000000 in
set_option maxRecDepth 100000 in
theorem alive9 (w : World) : Calls Try.prog 9 #[] w fun e w' => e = .returned (.bool true) ∧ Below w.heap.size w w' := by
  have c27 := fun w => most27 w
  have c120 := fun w => of12 0 (by decide) w
  have c121 := fun w => of12 1 (by decide) w
  have c11 := fun w => add11 MX 1 (by decide) (by decide) w
  have c13 := fun w => sub13 0 1 (by decide) (by decide) w
  have c10 := fun w => mul10 340282366920938463463374607431768211456 340282366920938463463374607431768211456 (by decide) (by decide) w
  rw [show (MX + 1) % M4 = 0 from by decide, show decide (M4 ≤ MX + 1) = true from by decide] at c11
  rw [show (0 + M4 - 1) % M4 = MX from by decide, show decide (0 < 1) = true from by decide] at c13
  rw [show 340282366920938463463374607431768211456 * 340282366920938463463374607431768211456 % M4 = 0 from by decide, show 340282366920938463463374607431768211456 * 340282366920938463463374607431768211456 / M4 = 1 from by decide, show wc 340282366920938463463374607431768211456 = #[.int .u64 0, .int .u64 0, .int .u64 1, .int .u64 0] from by kernel_rfl] at c10
  have C27 := Lib.hid c27; have C120 := Lib.hid c120; have C121 := Lib.hid c121; have C11 := Lib.hid c11; have C13 := Lib.hid c13; have C10 := Lib.hid c10
  clear c27 c120 c121 c11 c13 c10
  have HI := Lib.hid (Inv.start w)
  go_enter Try.func9, Try.ntmps9
  go_wp2_with (first | (refine at_store 1 (by rfl) ?_; refine newA (r := 0) HI.out (by rfl) (by rfl) (by rfl) (by rfl) ?_; intro V hV; clear HI; have HI := Lib.hid hV; clear hV; obtain ⟨b1, hbq⟩ : ∃ b, b = w1.heap.size := ⟨_, rfl⟩; rw [← hbq] at HI ⊢; clear hbq) | (refine at_store 3 (by rfl) ?_; refine newA (r := MX) HI.out (by rfl) (by rfl) (by rfl) (by rfl) ?_; intro V hV; clear HI; have HI := Lib.hid hV; clear hV; obtain ⟨b2, hbq⟩ : ∃ b, b = w1.heap.size := ⟨_, rfl⟩; rw [← hbq] at HI ⊢; clear hbq) | (refine at_store 5 (by rfl) ?_; refine newB (r := 0) (q := 1) HI.out (by rfl) (by rfl) (by rfl) (by rfl) (by rfl) (by rfl) (by rfl) (by rfl) (by rfl) (by rfl) ?_; intro V hV; clear HI; have HI := Lib.hid hV; clear hV; obtain ⟨b3, hbq⟩ : ∃ b, b = w1.heap.size := ⟨_, rfl⟩; rw [← hbq] at HI ⊢; clear hbq) | (go_at_call 27; (first | refine (C27.out _).mono ?_); rintro e w1 ⟨rfl, hb⟩; replace HI := Lib.hid (Inv.call HI.out hb); clear hb) | (go_at_call 12; (first | refine (C121.out _).mono ?_ | refine (C120.out _).mono ?_); rintro e w1 ⟨rfl, hb⟩; replace HI := Lib.hid (Inv.call HI.out hb); clear hb) | (go_at_call 11; (first | refine (C11.out _).mono ?_); rintro e w1 ⟨rfl, hb⟩; replace HI := Lib.hid (Inv.call HI.out hb); clear hb) | (go_at_call 13; (first | refine (C13.out _).mono ?_); rintro e w1 ⟨rfl, hb⟩; replace HI := Lib.hid (Inv.call HI.out hb); clear hb) | (go_at_call 10; (first | refine (C10.out _).mono ?_); rintro e w1 ⟨rfl, hb⟩; replace HI := Lib.hid (Inv.call HI.out hb); clear hb))
  have hg := guard24; have he := eq_self; have hz := eq_zero
  refine wp_region_pi [(0, true), (1, true), (2, true), (3, true), (4, true), (5, true), (6, true), (7, true), (8, false), (9, true), (10, true), (11, true), (12, true), (13, true), (14, true), (15, true), (16, true), (17, true), (18, true), (19, true), (20, true), (21, false), (22, true), (23, true), (24, true)] (by kernel_rfl) (by kernel_rfl) rfl (by kernel_rfl) (fun _ _ _ _ _ h => h) (fun w' => Inv w w' [(b3, 0), (b3 + 1, 1), (b2, MX), (b1, 0)]) HI.out.drew ?_
  intro OPS hops
  iterate 8
    first | (refine wpPi_yield _ (by rw [hops.out]; simp only [List.getElem?_toArray, List.getElem?_cons_succ, List.getElem?_cons_zero]; rfl) (by first | rfl | (rw [hops.out]; rfl)) (fun w' hS => by first | exact load_run hS (by rfl) (by rfl) (by repeat (first | exact List.mem_cons_self .. | apply List.mem_cons_of_mem)) | (go_simp; rfl)) ?_; simp only [Act.put, List.setIfInBounds_toArray, List.set_cons_succ, List.set_cons_zero]) | (refine wpPi_skip (by rw [hops.out]; simp only [List.getElem?_toArray, List.getElem?_cons_succ, List.getElem?_cons_zero]; rfl) (by first | rfl | (rw [hops.out]; rfl)) ?_; simp only [Act.put, List.setIfInBounds_toArray, List.set_cons_succ, List.set_cons_zero])
  refine wpPi_act (by rw [hops.out]; simp only [List.getElem?_toArray, List.getElem?_cons_succ, List.getElem?_cons_zero]; rfl) (by first | rfl | (rw [hops.out]; rfl)) ?_
  go_simp
  refine (C27.out _).mono ?_
  rintro e w1 ⟨rfl, hb⟩
  have HI2 := Lib.hid (Inv.call HI.out.drew hb)
  clear hb
  try (refine ⟨(by first | exact HI2.out | exact HI3.out), ?_⟩)
  iterate 12
    first | (refine wpPi_yield _ (by rw [hops.out]; simp only [List.getElem?_toArray, List.getElem?_cons_succ, List.getElem?_cons_zero]; rfl) (by first | rfl | (rw [hops.out]; rfl)) (fun w' hS => by first | exact load_run hS (by rfl) (by rfl) (by repeat (first | exact List.mem_cons_self .. | apply List.mem_cons_of_mem)) | (go_simp; rfl)) ?_; simp only [Act.put, List.setIfInBounds_toArray, List.set_cons_succ, List.set_cons_zero]) | (refine wpPi_skip (by rw [hops.out]; simp only [List.getElem?_toArray, List.getElem?_cons_succ, List.getElem?_cons_zero]; rfl) (by first | rfl | (rw [hops.out]; rfl)) ?_; simp only [Act.put, List.setIfInBounds_toArray, List.set_cons_succ, List.set_cons_zero])
  refine wpPi_act (by rw [hops.out]; simp only [List.getElem?_toArray, List.getElem?_cons_succ, List.getElem?_cons_zero]; rfl) (by first | rfl | (rw [hops.out]; rfl)) ?_
  go_simp
  refine (C121.out _).mono ?_
  rintro e w1 ⟨rfl, hb⟩
  have HI3 := Lib.hid (Inv.call HI2.out hb)
  clear hb
  try (refine ⟨(by first | exact HI2.out | exact HI3.out), ?_⟩)
  iterate 3
    first | (refine wpPi_yield _ (by rw [hops.out]; simp only [List.getElem?_toArray, List.getElem?_cons_succ, List.getElem?_cons_zero]; rfl) (by first | rfl | (rw [hops.out]; rfl)) (fun w' hS => by first | exact load_run hS (by rfl) (by rfl) (by repeat (first | exact List.mem_cons_self .. | apply List.mem_cons_of_mem)) | (go_simp; rfl)) ?_; simp only [Act.put, List.setIfInBounds_toArray, List.set_cons_succ, List.set_cons_zero]) | (refine wpPi_skip (by rw [hops.out]; simp only [List.getElem?_toArray, List.getElem?_cons_succ, List.getElem?_cons_zero]; rfl) (by first | rfl | (rw [hops.out]; rfl)) ?_; simp only [Act.put, List.setIfInBounds_toArray, List.set_cons_succ, List.set_cons_zero])
  simp only [wpPi]
  go_wp2_with fail
  go_ret
  exact ⟨rfl, HI3.out.1⟩
end
end Go.Proofs.Ytkbambojnifjcaa
