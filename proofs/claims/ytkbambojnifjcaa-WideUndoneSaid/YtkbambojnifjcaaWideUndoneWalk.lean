/- Contracts and words that the laws stand on (WideUndoneWalk). -/
import Derived.Test.YtkbambojnifjcaaLaw
set_option linter.unusedVariables false
set_option linter.unusedSimpArgs false
namespace Go.Proofs.Ytkbambojnifjcaa
section
open Go Go.RowKit Go.Proofs
attribute [local irreducible] wc pw we Calls
set_option maxHeartbeats 4000000 in
set_option maxRecDepth 100000 in
theorem wideUndone_walk (a b c : Nat) (ha : a < M4) (hb : b < M4) (hc : c < M4) (w : World) :
    Calls Try.prog 4 #[.agg (wc a), .agg (wc b), .agg (wc c)] w fun e w' => e = .returned (.bool true) ∧ Below w.heap.size w w' := by
  have c1 := fun w => add11 a b ha hb w
  have c2 := fun w => add11 b a hb ha w
  have c3 := fun w => sub13 ((a + b) % M4) b (Nat.mod_lt _ (by decide)) hb w
  have c4 := fun w => add11 ((a + b) % M4) c (Nat.mod_lt _ (by decide)) hc w
  have c5 := fun w => add11 b c hb hc w
  have c6 := fun w => add11 a ((b + c) % M4) ha (Nat.mod_lt _ (by decide)) w
  have c7 := fun w => sub13 a b ha hb w
  have c8 := fun w => not14 b hb w
  have c9 := fun w => add11 a (M4 - 1 - b) ha (by simp only [M4] at *; omega) w
  have c10 := fun w => add11 ((a + (M4 - 1 - b)) % M4) 1 (Nat.mod_lt _ (by decide)) (by decide) w
  have c11 := fun w => compare15 ((a + b) % M4) a (Nat.mod_lt _ (by decide)) ha w
  have c12 := fun w => compare15 a b ha hb w
  have c13 := fun w => of12 1 (by decide) w
  rw [Nat.add_comm b a] at c2
  rw [show ((a + b) % M4 + M4 - b) % M4 = a by simp only [M4] at *; omega, show decide ((a + b) % M4 < b) = decide (M4 ≤ a + b) by simp only [M4] at *; rw [decide_eq_decide]; omega] at c3
  rw [show (a + (b + c) % M4) % M4 = ((a + b) % M4 + c) % M4 by simp only [M4]; omega] at c6
  rw [show ((a + (M4 - 1 - b)) % M4 + 1) % M4 = (a + M4 - b) % M4 by simp only [M4] at *; omega] at c10
  obtain ⟨g1, hg1⟩ : ∃ g, g = cmpW ((a + b) % M4) a := ⟨_, rfl⟩
  obtain ⟨g2, hg2⟩ : ∃ g, g = cmpW a b := ⟨_, rfl⟩
  have hd1 : decide (g1 < 0) = decide (M4 ≤ a + b) := by
    rw [hg1, cmpW, decide_eq_decide]
    simp only [M4] at *
    split
    · constructor <;> intro h <;> omega
    · split <;> constructor <;> intro h <;> omega
  have hd2 : decide (g2 < 0) = decide (a < b) := by
    rw [hg2, cmpW, decide_eq_decide]
    split
    · constructor <;> intro h <;> omega
    · split <;> constructor <;> intro h <;> omega
  rw [← hg1] at c11
  rw [← hg2] at c12
  clear hg1 hg2
  obtain ⟨nb, hnb⟩ : ∃ x, x = M4 - 1 - b := ⟨_, rfl⟩
  rw [← hnb] at c8 c9 c10
  obtain ⟨y, hy⟩ : ∃ x, x = (a + nb) % M4 := ⟨_, rfl⟩
  rw [← hy] at c9 c10
  obtain ⟨p, hp⟩ : ∃ x, x = ((a + b) % M4 + c) % M4 := ⟨_, rfl⟩
  rw [← hp] at c4 c6
  obtain ⟨s, hs⟩ : ∃ x, x = (a + b) % M4 := ⟨_, rfl⟩
  rw [← hs] at c1 c2 c3 c4 c11
  obtain ⟨q, hq⟩ : ∃ x, x = (b + c) % M4 := ⟨_, rfl⟩
  rw [← hq] at c5 c6
  obtain ⟨x, hx⟩ : ∃ x, x = (a + M4 - b) % M4 := ⟨_, rfl⟩
  rw [← hx] at c7 c10
  obtain ⟨ov, hov⟩ : ∃ x, x = decide (M4 ≤ a + b) := ⟨_, rfl⟩
  rw [← hov] at c1 c2 c3 hd1
  obtain ⟨ls, hls⟩ : ∃ x, x = decide (a < b) := ⟨_, rfl⟩
  rw [← hls] at c7 hd2
  generalize decide (M4 ≤ s + c) = o4 at *
  generalize decide (M4 ≤ b + c) = o5 at *
  generalize decide (M4 ≤ a + q) = o6 at *
  generalize decide (M4 ≤ a + nb) = o9 at *
  generalize decide (M4 ≤ y + 1) = o10 at *
  have C0 := Lib.hid (fun w => alive9 w)
  have C1 := Lib.hid c1; have C2 := Lib.hid c2; have C3 := Lib.hid c3; have C4 := Lib.hid c4; have C5 := Lib.hid c5; have C6 := Lib.hid c6; have C7 := Lib.hid c7; have C8 := Lib.hid c8; have C9 := Lib.hid c9; have C10 := Lib.hid c10; have C11 := Lib.hid c11; have C12 := Lib.hid c12; have C13 := Lib.hid c13
  clear c1 c2 c3 c4 c5 c6 c7 c8 c9 c10 c11 c12 c13 hnb hy hp hs hq hx hov hls
  have hI := (((Inv.start w).alloc a).alloc b).alloc c
  obtain ⟨W3, hW3⟩ : ∃ W3, W3 = ((w.alloc (.cells (wc a) 24)).alloc (.cells (wc b) 24)).alloc (.cells (wc c) 24) := ⟨_, rfl⟩
  rw [← hW3] at hI
  simp only [World.size_alloc] at hI
  have HI := Lib.hid hI
  clear hI
  go_enter Try.func4, Try.ntmps4
  go_wp2_with (first | (go_at_call 9; rw [← hW3]; clear hW3; refine (C0.out _).mono ?_; rintro e w1 ⟨rfl, hb⟩; replace HI := Lib.hid (Inv.call HI.out hb); clear hb) | refine load_inv HI.out (by rfl) (by rfl) (by rfl) (by repeat (first | exact List.mem_cons_self .. | apply List.mem_cons_of_mem)) ?_ | (refine at_store 8 (by rfl) ?_; refine newA (r := s) HI.out (by rfl) (by rfl) (by rfl) (by rfl) ?_; intro V hV; clear HI; have HI := Lib.hid hV; clear hV; obtain ⟨b8, hbq⟩ : ∃ b, b = w1.heap.size := ⟨_, rfl⟩; rw [← hbq] at HI ⊢; clear hbq) | (refine at_store 10 (by rfl) ?_; refine newA (r := s) HI.out (by rfl) (by rfl) (by rfl) (by rfl) ?_; intro V hV; clear HI; have HI := Lib.hid hV; clear hV; obtain ⟨b10, hbq⟩ : ∃ b, b = w1.heap.size := ⟨_, rfl⟩; rw [← hbq] at HI ⊢; clear hbq) | (refine at_store 12 (by rfl) ?_; refine newA (r := a) HI.out (by rfl) (by rfl) (by rfl) (by rfl) ?_; intro V hV; clear HI; have HI := Lib.hid hV; clear hV; obtain ⟨b12, hbq⟩ : ∃ b, b = w1.heap.size := ⟨_, rfl⟩; rw [← hbq] at HI ⊢; clear hbq) | (refine at_store 14 (by rfl) ?_; refine newA (r := p) HI.out (by rfl) (by rfl) (by rfl) (by rfl) ?_; intro V hV; clear HI; have HI := Lib.hid hV; clear hV; obtain ⟨b14, hbq⟩ : ∃ b, b = w1.heap.size := ⟨_, rfl⟩; rw [← hbq] at HI ⊢; clear hbq) | (refine at_store 16 (by rfl) ?_; refine newA (r := q) HI.out (by rfl) (by rfl) (by rfl) (by rfl) ?_; intro V hV; clear HI; have HI := Lib.hid hV; clear hV; obtain ⟨b16, hbq⟩ : ∃ b, b = w1.heap.size := ⟨_, rfl⟩; rw [← hbq] at HI ⊢; clear hbq) | (refine at_store 18 (by rfl) ?_; refine newA (r := p) HI.out (by rfl) (by rfl) (by rfl) (by rfl) ?_; intro V hV; clear HI; have HI := Lib.hid hV; clear hV; obtain ⟨b18, hbq⟩ : ∃ b, b = w1.heap.size := ⟨_, rfl⟩; rw [← hbq] at HI ⊢; clear hbq) | (refine at_store 20 (by rfl) ?_; refine newA (r := x) HI.out (by rfl) (by rfl) (by rfl) (by rfl) ?_; intro V hV; clear HI; have HI := Lib.hid hV; clear hV; obtain ⟨b20, hbq⟩ : ∃ b, b = w1.heap.size := ⟨_, rfl⟩; rw [← hbq] at HI ⊢; clear hbq) | (go_at_call 11; (first | refine (C1.out _).mono ?_ | refine (C2.out _).mono ?_ | refine (C4.out _).mono ?_ | refine (C5.out _).mono ?_ | refine (C6.out _).mono ?_); rintro e w1 ⟨rfl, hb⟩; replace HI := Lib.hid (Inv.call HI.out hb); clear hb) | (go_at_call 13; (first | refine (C3.out _).mono ?_ | refine (C7.out _).mono ?_); rintro e w1 ⟨rfl, hb⟩; replace HI := Lib.hid (Inv.call HI.out hb); clear hb))
  apply region_join (S := fun (bn : Nat) V => Inv w V ((bn, y) :: [(b20, x), (b18, p), (b16, q), (b14, p), (b12, a), (b10, s), (b8, s), (w.heap.size + 1 + 1, c), (w.heap.size + 1, b), (w.heap.size, a)]))
  case hreg =>
    have HJ := Lib.hid HI.out.drew
    refine wp_region_tr (.yield 0 (.yield 1 (.act 2 (.act 3 (.yield 4 (.yield 5 (.yield 6 (.act 7 (.act 8 (.yield 9 .done) .none) .none)))) (.act 7 (.act 3 (.yield 4 (.yield 5 (.yield 6 (.act 8 (.yield 9 .done) .none)))) .none) .none)) (.act 7 (.act 2 (.act 3 (.yield 4 (.yield 5 (.yield 6 (.act 8 (.yield 9 .done) .none)))) .none) .none) .none)))) (by kernel_rfl) (by kernel_rfl) (by kernel_rfl) (fun _ _ _ _ _ h => absurd h.1 (by simp)) (fun w' => Inv w w' [(b20, x), (b18, p), (b16, q), (b14, p), (b12, a), (b10, s), (b8, s), (w.heap.size + 1 + 1, c), (w.heap.size + 1, b), (w.heap.size, a)]) HI.out.drew ?_
    intro OPS hops
    refine wpT_yield _ (by rw [hops.out]; simp only [List.getElem?_toArray, List.getElem?_cons_succ, List.getElem?_cons_zero]; rfl) (by first | rfl | (rw [hops.out]; rfl)) (fun w' hS => by first | exact load_run hS (by rfl) (by rfl) (by repeat (first | exact List.mem_cons_self .. | apply List.mem_cons_of_mem)) | (go_simp; rfl)) ?_
    simp only [Act.put, List.setIfInBounds_toArray, List.set_cons_succ, List.set_cons_zero]
    refine wpT_yield _ (by rw [hops.out]; simp only [List.getElem?_toArray, List.getElem?_cons_succ, List.getElem?_cons_zero]; rfl) (by first | rfl | (rw [hops.out]; rfl)) (fun w' hS => by first | exact load_run hS (by rfl) (by rfl) (by repeat (first | exact List.mem_cons_self .. | apply List.mem_cons_of_mem)) | (go_simp; rfl)) ?_
    simp only [Act.put, List.setIfInBounds_toArray, List.set_cons_succ, List.set_cons_zero]
    refine wpT_act (by rw [hops.out]; simp only [List.getElem?_toArray, List.getElem?_cons_succ, List.getElem?_cons_zero]; rfl) (by first | rfl | (rw [hops.out]; rfl)) ?_ ?_
    · go_simp
      refine (C8.out _).mono ?_
      rintro e w1 ⟨rfl, hb⟩
      have HJ := Lib.hid (Inv.call HJ.out hb)
      clear hb
      refine ⟨(by first | exact HJ.out | exact HJ.out.tail), ?_⟩
      refine wpT_act (by rw [hops.out]; simp only [List.getElem?_toArray, List.getElem?_cons_succ, List.getElem?_cons_zero]; rfl) (by first | rfl | (rw [hops.out]; rfl)) ?_ ?_
      · go_simp
        refine (C9.out _).mono ?_
        rintro e w1 ⟨rfl, hb⟩
        have HJ := Lib.hid (Inv.call HJ.out hb)
        clear hb
        refine ⟨(by first | exact HJ.out | exact HJ.out.tail), ?_⟩
        refine wpT_yield _ (by rw [hops.out]; simp only [List.getElem?_toArray, List.getElem?_cons_succ, List.getElem?_cons_zero]; rfl) (by first | rfl | (rw [hops.out]; rfl)) (fun w' hS => by first | exact load_run hS (by rfl) (by rfl) (by repeat (first | exact List.mem_cons_self .. | apply List.mem_cons_of_mem)) | (go_simp; rfl)) ?_
        simp only [Act.put, List.setIfInBounds_toArray, List.set_cons_succ, List.set_cons_zero]
        refine wpT_yield _ (by rw [hops.out]; simp only [List.getElem?_toArray, List.getElem?_cons_succ, List.getElem?_cons_zero]; rfl) (by first | rfl | (rw [hops.out]; rfl)) (fun w' hS => by first | exact load_run hS (by rfl) (by rfl) (by repeat (first | exact List.mem_cons_self .. | apply List.mem_cons_of_mem)) | (go_simp; rfl)) ?_
        simp only [Act.put, List.setIfInBounds_toArray, List.set_cons_succ, List.set_cons_zero]
        refine wpT_yield _ (by rw [hops.out]; simp only [List.getElem?_toArray, List.getElem?_cons_succ, List.getElem?_cons_zero]; rfl) (by first | rfl | (rw [hops.out]; rfl)) (fun w' hS => by first | exact load_run hS (by rfl) (by rfl) (by repeat (first | exact List.mem_cons_self .. | apply List.mem_cons_of_mem)) | (go_simp; rfl)) ?_
        simp only [Act.put, List.setIfInBounds_toArray, List.set_cons_succ, List.set_cons_zero]
        refine wpT_act (by rw [hops.out]; simp only [List.getElem?_toArray, List.getElem?_cons_succ, List.getElem?_cons_zero]; rfl) (by first | rfl | (rw [hops.out]; rfl)) ?_ trivial
        go_simp
        obtain ⟨bn, hbq, hJ⟩ := HJ.out.alloc0
        try simp only [heap_drew] at hbq
        rw [← hbq]
        clear hbq
        have HJ := Lib.hid hJ
        clear hJ
        refine ⟨(by first | exact HJ.out | exact HJ.out.tail), ?_⟩
        refine wpT_act (by rw [hops.out]; simp only [List.getElem?_toArray, List.getElem?_cons_succ, List.getElem?_cons_zero]; rfl) (by first | rfl | (rw [hops.out]; rfl)) ?_ trivial
        refine wp_store_row 24 _ _ (by rfl) bn (wc y) (by rfl) (by rfl) 24 _ (HJ.out.get (List.mem_cons_self ..)) (by rw [wc_size]; exact size24) (by simp only [wc_size]) (wc_one _) ?_
        have HJ := Lib.hid (HJ.out.set y)
        refine ⟨(by first | exact HJ.out | exact HJ.out.tail), ?_⟩
        refine wpT_yield _ (by rw [hops.out]; simp only [List.getElem?_toArray, List.getElem?_cons_succ, List.getElem?_cons_zero]; rfl) (by first | rfl | (rw [hops.out]; rfl)) (fun w' hS => by first | exact load_run hS (by rfl) (by rfl) (by repeat (first | exact List.mem_cons_self .. | apply List.mem_cons_of_mem)) | (go_simp; rfl)) ?_
        simp only [Act.put, List.setIfInBounds_toArray, List.set_cons_succ, List.set_cons_zero]
        exact ⟨rfl, bn, rfl, HJ.out⟩
      refine wpT_act (by rw [hops.out]; simp only [List.getElem?_toArray, List.getElem?_cons_succ, List.getElem?_cons_zero]; rfl) (by first | rfl | (rw [hops.out]; rfl)) ?_ ?_
      · go_simp
        obtain ⟨bn, hbq, hJ⟩ := HJ.out.alloc0
        try simp only [heap_drew] at hbq
        rw [← hbq]
        clear hbq
        have HJ := Lib.hid hJ
        clear hJ
        refine ⟨(by first | exact HJ.out | exact HJ.out.tail), ?_⟩
        refine wpT_act (by rw [hops.out]; simp only [List.getElem?_toArray, List.getElem?_cons_succ, List.getElem?_cons_zero]; rfl) (by first | rfl | (rw [hops.out]; rfl)) ?_ trivial
        go_simp
        refine (C9.out _).mono ?_
        rintro e w1 ⟨rfl, hb⟩
        have HJ := Lib.hid (Inv.call HJ.out hb)
        clear hb
        refine ⟨(by first | exact HJ.out | exact HJ.out.tail), ?_⟩
        refine wpT_yield _ (by rw [hops.out]; simp only [List.getElem?_toArray, List.getElem?_cons_succ, List.getElem?_cons_zero]; rfl) (by first | rfl | (rw [hops.out]; rfl)) (fun w' hS => by first | exact load_run hS (by rfl) (by rfl) (by repeat (first | exact List.mem_cons_self .. | apply List.mem_cons_of_mem)) | (go_simp; rfl)) ?_
        simp only [Act.put, List.setIfInBounds_toArray, List.set_cons_succ, List.set_cons_zero]
        refine wpT_yield _ (by rw [hops.out]; simp only [List.getElem?_toArray, List.getElem?_cons_succ, List.getElem?_cons_zero]; rfl) (by first | rfl | (rw [hops.out]; rfl)) (fun w' hS => by first | exact load_run hS (by rfl) (by rfl) (by repeat (first | exact List.mem_cons_self .. | apply List.mem_cons_of_mem)) | (go_simp; rfl)) ?_
        simp only [Act.put, List.setIfInBounds_toArray, List.set_cons_succ, List.set_cons_zero]
        refine wpT_yield _ (by rw [hops.out]; simp only [List.getElem?_toArray, List.getElem?_cons_succ, List.getElem?_cons_zero]; rfl) (by first | rfl | (rw [hops.out]; rfl)) (fun w' hS => by first | exact load_run hS (by rfl) (by rfl) (by repeat (first | exact List.mem_cons_self .. | apply List.mem_cons_of_mem)) | (go_simp; rfl)) ?_
        simp only [Act.put, List.setIfInBounds_toArray, List.set_cons_succ, List.set_cons_zero]
        refine wpT_act (by rw [hops.out]; simp only [List.getElem?_toArray, List.getElem?_cons_succ, List.getElem?_cons_zero]; rfl) (by first | rfl | (rw [hops.out]; rfl)) ?_ trivial
        refine wp_store_row 24 _ _ (by rfl) bn (wc y) (by rfl) (by rfl) 24 _ (HJ.out.get (List.mem_cons_self ..)) (by rw [wc_size]; exact size24) (by simp only [wc_size]) (wc_one _) ?_
        have HJ := Lib.hid (HJ.out.set y)
        refine ⟨(by first | exact HJ.out | exact HJ.out.tail), ?_⟩
        refine wpT_yield _ (by rw [hops.out]; simp only [List.getElem?_toArray, List.getElem?_cons_succ, List.getElem?_cons_zero]; rfl) (by first | rfl | (rw [hops.out]; rfl)) (fun w' hS => by first | exact load_run hS (by rfl) (by rfl) (by repeat (first | exact List.mem_cons_self .. | apply List.mem_cons_of_mem)) | (go_simp; rfl)) ?_
        simp only [Act.put, List.setIfInBounds_toArray, List.set_cons_succ, List.set_cons_zero]
        exact ⟨rfl, bn, rfl, HJ.out⟩
      exact trivial
    refine wpT_act (by rw [hops.out]; simp only [List.getElem?_toArray, List.getElem?_cons_succ, List.getElem?_cons_zero]; rfl) (by first | rfl | (rw [hops.out]; rfl)) ?_ ?_
    · go_simp
      obtain ⟨bn, hbq, hJ⟩ := HJ.out.alloc0
      try simp only [heap_drew] at hbq
      rw [← hbq]
      clear hbq
      have HJ := Lib.hid hJ
      clear hJ
      refine ⟨(by first | exact HJ.out | exact HJ.out.tail), ?_⟩
      refine wpT_act (by rw [hops.out]; simp only [List.getElem?_toArray, List.getElem?_cons_succ, List.getElem?_cons_zero]; rfl) (by first | rfl | (rw [hops.out]; rfl)) ?_ trivial
      go_simp
      refine (C8.out _).mono ?_
      rintro e w1 ⟨rfl, hb⟩
      have HJ := Lib.hid (Inv.call HJ.out hb)
      clear hb
      refine ⟨(by first | exact HJ.out | exact HJ.out.tail), ?_⟩
      refine wpT_act (by rw [hops.out]; simp only [List.getElem?_toArray, List.getElem?_cons_succ, List.getElem?_cons_zero]; rfl) (by first | rfl | (rw [hops.out]; rfl)) ?_ trivial
      go_simp
      refine (C9.out _).mono ?_
      rintro e w1 ⟨rfl, hb⟩
      have HJ := Lib.hid (Inv.call HJ.out hb)
      clear hb
      refine ⟨(by first | exact HJ.out | exact HJ.out.tail), ?_⟩
      refine wpT_yield _ (by rw [hops.out]; simp only [List.getElem?_toArray, List.getElem?_cons_succ, List.getElem?_cons_zero]; rfl) (by first | rfl | (rw [hops.out]; rfl)) (fun w' hS => by first | exact load_run hS (by rfl) (by rfl) (by repeat (first | exact List.mem_cons_self .. | apply List.mem_cons_of_mem)) | (go_simp; rfl)) ?_
      simp only [Act.put, List.setIfInBounds_toArray, List.set_cons_succ, List.set_cons_zero]
      refine wpT_yield _ (by rw [hops.out]; simp only [List.getElem?_toArray, List.getElem?_cons_succ, List.getElem?_cons_zero]; rfl) (by first | rfl | (rw [hops.out]; rfl)) (fun w' hS => by first | exact load_run hS (by rfl) (by rfl) (by repeat (first | exact List.mem_cons_self .. | apply List.mem_cons_of_mem)) | (go_simp; rfl)) ?_
      simp only [Act.put, List.setIfInBounds_toArray, List.set_cons_succ, List.set_cons_zero]
      refine wpT_yield _ (by rw [hops.out]; simp only [List.getElem?_toArray, List.getElem?_cons_succ, List.getElem?_cons_zero]; rfl) (by first | rfl | (rw [hops.out]; rfl)) (fun w' hS => by first | exact load_run hS (by rfl) (by rfl) (by repeat (first | exact List.mem_cons_self .. | apply List.mem_cons_of_mem)) | (go_simp; rfl)) ?_
      simp only [Act.put, List.setIfInBounds_toArray, List.set_cons_succ, List.set_cons_zero]
      refine wpT_act (by rw [hops.out]; simp only [List.getElem?_toArray, List.getElem?_cons_succ, List.getElem?_cons_zero]; rfl) (by first | rfl | (rw [hops.out]; rfl)) ?_ trivial
      refine wp_store_row 24 _ _ (by rfl) bn (wc y) (by rfl) (by rfl) 24 _ (HJ.out.get (List.mem_cons_self ..)) (by rw [wc_size]; exact size24) (by simp only [wc_size]) (wc_one _) ?_
      have HJ := Lib.hid (HJ.out.set y)
      refine ⟨(by first | exact HJ.out | exact HJ.out.tail), ?_⟩
      refine wpT_yield _ (by rw [hops.out]; simp only [List.getElem?_toArray, List.getElem?_cons_succ, List.getElem?_cons_zero]; rfl) (by first | rfl | (rw [hops.out]; rfl)) (fun w' hS => by first | exact load_run hS (by rfl) (by rfl) (by repeat (first | exact List.mem_cons_self .. | apply List.mem_cons_of_mem)) | (go_simp; rfl)) ?_
      simp only [Act.put, List.setIfInBounds_toArray, List.set_cons_succ, List.set_cons_zero]
      exact ⟨rfl, bn, rfl, HJ.out⟩
    exact trivial
  case hK =>
    intro b22 V hV
    have HI := Lib.hid hV
    clear hV
    go_wp2_with fail
    apply region_join (S := fun (bn : Nat) V => Inv w V ((bn, x) :: [(b22, y), (b20, x), (b18, p), (b16, q), (b14, p), (b12, a), (b10, s), (b8, s), (w.heap.size + 1 + 1, c), (w.heap.size + 1, b), (w.heap.size, a)]))
    case hreg =>
      have HJ := Lib.hid HI.out.drew
      refine wp_region_tr (.yield 0 (.act 1 (.act 2 (.yield 3 (.yield 4 (.yield 5 (.act 6 (.act 7 (.yield 8 .done) .none) .none)))) (.act 6 (.act 2 (.yield 3 (.yield 4 (.yield 5 (.act 7 (.yield 8 .done) .none)))) .none) .none)) (.act 6 (.act 1 (.act 2 (.yield 3 (.yield 4 (.yield 5 (.act 7 (.yield 8 .done) .none)))) .none) .none) .none))) (by kernel_rfl) (by kernel_rfl) (by kernel_rfl) (fun _ _ _ _ _ h => absurd h.1 (by simp)) (fun w' => Inv w w' [(b22, y), (b20, x), (b18, p), (b16, q), (b14, p), (b12, a), (b10, s), (b8, s), (w.heap.size + 1 + 1, c), (w.heap.size + 1, b), (w.heap.size, a)]) HI.out.drew ?_
      intro OPS hops
      refine wpT_yield _ (by rw [hops.out]; simp only [List.getElem?_toArray, List.getElem?_cons_succ, List.getElem?_cons_zero]; rfl) (by first | rfl | (rw [hops.out]; rfl)) (fun w' hS => by first | exact load_run hS (by rfl) (by rfl) (by repeat (first | exact List.mem_cons_self .. | apply List.mem_cons_of_mem)) | (go_simp; rfl)) ?_
      simp only [Act.put, List.setIfInBounds_toArray, List.set_cons_succ, List.set_cons_zero]
      refine wpT_act (by rw [hops.out]; simp only [List.getElem?_toArray, List.getElem?_cons_succ, List.getElem?_cons_zero]; rfl) (by first | rfl | (rw [hops.out]; rfl)) ?_ ?_
      · go_simp
        refine (C13.out _).mono ?_
        rintro e w1 ⟨rfl, hb⟩
        have HJ := Lib.hid (Inv.call HJ.out hb)
        clear hb
        refine ⟨(by first | exact HJ.out | exact HJ.out.tail), ?_⟩
        refine wpT_act (by rw [hops.out]; simp only [List.getElem?_toArray, List.getElem?_cons_succ, List.getElem?_cons_zero]; rfl) (by first | rfl | (rw [hops.out]; rfl)) ?_ ?_
        · go_simp
          refine (C10.out _).mono ?_
          rintro e w1 ⟨rfl, hb⟩
          have HJ := Lib.hid (Inv.call HJ.out hb)
          clear hb
          refine ⟨(by first | exact HJ.out | exact HJ.out.tail), ?_⟩
          refine wpT_yield _ (by rw [hops.out]; simp only [List.getElem?_toArray, List.getElem?_cons_succ, List.getElem?_cons_zero]; rfl) (by first | rfl | (rw [hops.out]; rfl)) (fun w' hS => by first | exact load_run hS (by rfl) (by rfl) (by repeat (first | exact List.mem_cons_self .. | apply List.mem_cons_of_mem)) | (go_simp; rfl)) ?_
          simp only [Act.put, List.setIfInBounds_toArray, List.set_cons_succ, List.set_cons_zero]
          refine wpT_yield _ (by rw [hops.out]; simp only [List.getElem?_toArray, List.getElem?_cons_succ, List.getElem?_cons_zero]; rfl) (by first | rfl | (rw [hops.out]; rfl)) (fun w' hS => by first | exact load_run hS (by rfl) (by rfl) (by repeat (first | exact List.mem_cons_self .. | apply List.mem_cons_of_mem)) | (go_simp; rfl)) ?_
          simp only [Act.put, List.setIfInBounds_toArray, List.set_cons_succ, List.set_cons_zero]
          refine wpT_yield _ (by rw [hops.out]; simp only [List.getElem?_toArray, List.getElem?_cons_succ, List.getElem?_cons_zero]; rfl) (by first | rfl | (rw [hops.out]; rfl)) (fun w' hS => by first | exact load_run hS (by rfl) (by rfl) (by repeat (first | exact List.mem_cons_self .. | apply List.mem_cons_of_mem)) | (go_simp; rfl)) ?_
          simp only [Act.put, List.setIfInBounds_toArray, List.set_cons_succ, List.set_cons_zero]
          refine wpT_act (by rw [hops.out]; simp only [List.getElem?_toArray, List.getElem?_cons_succ, List.getElem?_cons_zero]; rfl) (by first | rfl | (rw [hops.out]; rfl)) ?_ trivial
          go_simp
          obtain ⟨bn, hbq, hJ⟩ := HJ.out.alloc0
          try simp only [heap_drew] at hbq
          rw [← hbq]
          clear hbq
          have HJ := Lib.hid hJ
          clear hJ
          refine ⟨(by first | exact HJ.out | exact HJ.out.tail), ?_⟩
          refine wpT_act (by rw [hops.out]; simp only [List.getElem?_toArray, List.getElem?_cons_succ, List.getElem?_cons_zero]; rfl) (by first | rfl | (rw [hops.out]; rfl)) ?_ trivial
          refine wp_store_row 24 _ _ (by rfl) bn (wc x) (by rfl) (by rfl) 24 _ (HJ.out.get (List.mem_cons_self ..)) (by rw [wc_size]; exact size24) (by simp only [wc_size]) (wc_one _) ?_
          have HJ := Lib.hid (HJ.out.set x)
          refine ⟨(by first | exact HJ.out | exact HJ.out.tail), ?_⟩
          refine wpT_yield _ (by rw [hops.out]; simp only [List.getElem?_toArray, List.getElem?_cons_succ, List.getElem?_cons_zero]; rfl) (by first | rfl | (rw [hops.out]; rfl)) (fun w' hS => by first | exact load_run hS (by rfl) (by rfl) (by repeat (first | exact List.mem_cons_self .. | apply List.mem_cons_of_mem)) | (go_simp; rfl)) ?_
          simp only [Act.put, List.setIfInBounds_toArray, List.set_cons_succ, List.set_cons_zero]
          exact ⟨rfl, bn, rfl, HJ.out⟩
        refine wpT_act (by rw [hops.out]; simp only [List.getElem?_toArray, List.getElem?_cons_succ, List.getElem?_cons_zero]; rfl) (by first | rfl | (rw [hops.out]; rfl)) ?_ ?_
        · go_simp
          obtain ⟨bn, hbq, hJ⟩ := HJ.out.alloc0
          try simp only [heap_drew] at hbq
          rw [← hbq]
          clear hbq
          have HJ := Lib.hid hJ
          clear hJ
          refine ⟨(by first | exact HJ.out | exact HJ.out.tail), ?_⟩
          refine wpT_act (by rw [hops.out]; simp only [List.getElem?_toArray, List.getElem?_cons_succ, List.getElem?_cons_zero]; rfl) (by first | rfl | (rw [hops.out]; rfl)) ?_ trivial
          go_simp
          refine (C10.out _).mono ?_
          rintro e w1 ⟨rfl, hb⟩
          have HJ := Lib.hid (Inv.call HJ.out hb)
          clear hb
          refine ⟨(by first | exact HJ.out | exact HJ.out.tail), ?_⟩
          refine wpT_yield _ (by rw [hops.out]; simp only [List.getElem?_toArray, List.getElem?_cons_succ, List.getElem?_cons_zero]; rfl) (by first | rfl | (rw [hops.out]; rfl)) (fun w' hS => by first | exact load_run hS (by rfl) (by rfl) (by repeat (first | exact List.mem_cons_self .. | apply List.mem_cons_of_mem)) | (go_simp; rfl)) ?_
          simp only [Act.put, List.setIfInBounds_toArray, List.set_cons_succ, List.set_cons_zero]
          refine wpT_yield _ (by rw [hops.out]; simp only [List.getElem?_toArray, List.getElem?_cons_succ, List.getElem?_cons_zero]; rfl) (by first | rfl | (rw [hops.out]; rfl)) (fun w' hS => by first | exact load_run hS (by rfl) (by rfl) (by repeat (first | exact List.mem_cons_self .. | apply List.mem_cons_of_mem)) | (go_simp; rfl)) ?_
          simp only [Act.put, List.setIfInBounds_toArray, List.set_cons_succ, List.set_cons_zero]
          refine wpT_yield _ (by rw [hops.out]; simp only [List.getElem?_toArray, List.getElem?_cons_succ, List.getElem?_cons_zero]; rfl) (by first | rfl | (rw [hops.out]; rfl)) (fun w' hS => by first | exact load_run hS (by rfl) (by rfl) (by repeat (first | exact List.mem_cons_self .. | apply List.mem_cons_of_mem)) | (go_simp; rfl)) ?_
          simp only [Act.put, List.setIfInBounds_toArray, List.set_cons_succ, List.set_cons_zero]
          refine wpT_act (by rw [hops.out]; simp only [List.getElem?_toArray, List.getElem?_cons_succ, List.getElem?_cons_zero]; rfl) (by first | rfl | (rw [hops.out]; rfl)) ?_ trivial
          refine wp_store_row 24 _ _ (by rfl) bn (wc x) (by rfl) (by rfl) 24 _ (HJ.out.get (List.mem_cons_self ..)) (by rw [wc_size]; exact size24) (by simp only [wc_size]) (wc_one _) ?_
          have HJ := Lib.hid (HJ.out.set x)
          refine ⟨(by first | exact HJ.out | exact HJ.out.tail), ?_⟩
          refine wpT_yield _ (by rw [hops.out]; simp only [List.getElem?_toArray, List.getElem?_cons_succ, List.getElem?_cons_zero]; rfl) (by first | rfl | (rw [hops.out]; rfl)) (fun w' hS => by first | exact load_run hS (by rfl) (by rfl) (by repeat (first | exact List.mem_cons_self .. | apply List.mem_cons_of_mem)) | (go_simp; rfl)) ?_
          simp only [Act.put, List.setIfInBounds_toArray, List.set_cons_succ, List.set_cons_zero]
          exact ⟨rfl, bn, rfl, HJ.out⟩
        exact trivial
      refine wpT_act (by rw [hops.out]; simp only [List.getElem?_toArray, List.getElem?_cons_succ, List.getElem?_cons_zero]; rfl) (by first | rfl | (rw [hops.out]; rfl)) ?_ ?_
      · go_simp
        obtain ⟨bn, hbq, hJ⟩ := HJ.out.alloc0
        try simp only [heap_drew] at hbq
        rw [← hbq]
        clear hbq
        have HJ := Lib.hid hJ
        clear hJ
        refine ⟨(by first | exact HJ.out | exact HJ.out.tail), ?_⟩
        refine wpT_act (by rw [hops.out]; simp only [List.getElem?_toArray, List.getElem?_cons_succ, List.getElem?_cons_zero]; rfl) (by first | rfl | (rw [hops.out]; rfl)) ?_ trivial
        go_simp
        refine (C13.out _).mono ?_
        rintro e w1 ⟨rfl, hb⟩
        have HJ := Lib.hid (Inv.call HJ.out hb)
        clear hb
        refine ⟨(by first | exact HJ.out | exact HJ.out.tail), ?_⟩
        refine wpT_act (by rw [hops.out]; simp only [List.getElem?_toArray, List.getElem?_cons_succ, List.getElem?_cons_zero]; rfl) (by first | rfl | (rw [hops.out]; rfl)) ?_ trivial
        go_simp
        refine (C10.out _).mono ?_
        rintro e w1 ⟨rfl, hb⟩
        have HJ := Lib.hid (Inv.call HJ.out hb)
        clear hb
        refine ⟨(by first | exact HJ.out | exact HJ.out.tail), ?_⟩
        refine wpT_yield _ (by rw [hops.out]; simp only [List.getElem?_toArray, List.getElem?_cons_succ, List.getElem?_cons_zero]; rfl) (by first | rfl | (rw [hops.out]; rfl)) (fun w' hS => by first | exact load_run hS (by rfl) (by rfl) (by repeat (first | exact List.mem_cons_self .. | apply List.mem_cons_of_mem)) | (go_simp; rfl)) ?_
        simp only [Act.put, List.setIfInBounds_toArray, List.set_cons_succ, List.set_cons_zero]
        refine wpT_yield _ (by rw [hops.out]; simp only [List.getElem?_toArray, List.getElem?_cons_succ, List.getElem?_cons_zero]; rfl) (by first | rfl | (rw [hops.out]; rfl)) (fun w' hS => by first | exact load_run hS (by rfl) (by rfl) (by repeat (first | exact List.mem_cons_self .. | apply List.mem_cons_of_mem)) | (go_simp; rfl)) ?_
        simp only [Act.put, List.setIfInBounds_toArray, List.set_cons_succ, List.set_cons_zero]
        refine wpT_yield _ (by rw [hops.out]; simp only [List.getElem?_toArray, List.getElem?_cons_succ, List.getElem?_cons_zero]; rfl) (by first | rfl | (rw [hops.out]; rfl)) (fun w' hS => by first | exact load_run hS (by rfl) (by rfl) (by repeat (first | exact List.mem_cons_self .. | apply List.mem_cons_of_mem)) | (go_simp; rfl)) ?_
        simp only [Act.put, List.setIfInBounds_toArray, List.set_cons_succ, List.set_cons_zero]
        refine wpT_act (by rw [hops.out]; simp only [List.getElem?_toArray, List.getElem?_cons_succ, List.getElem?_cons_zero]; rfl) (by first | rfl | (rw [hops.out]; rfl)) ?_ trivial
        refine wp_store_row 24 _ _ (by rfl) bn (wc x) (by rfl) (by rfl) 24 _ (HJ.out.get (List.mem_cons_self ..)) (by rw [wc_size]; exact size24) (by simp only [wc_size]) (wc_one _) ?_
        have HJ := Lib.hid (HJ.out.set x)
        refine ⟨(by first | exact HJ.out | exact HJ.out.tail), ?_⟩
        refine wpT_yield _ (by rw [hops.out]; simp only [List.getElem?_toArray, List.getElem?_cons_succ, List.getElem?_cons_zero]; rfl) (by first | rfl | (rw [hops.out]; rfl)) (fun w' hS => by first | exact load_run hS (by rfl) (by rfl) (by repeat (first | exact List.mem_cons_self .. | apply List.mem_cons_of_mem)) | (go_simp; rfl)) ?_
        simp only [Act.put, List.setIfInBounds_toArray, List.set_cons_succ, List.set_cons_zero]
        exact ⟨rfl, bn, rfl, HJ.out⟩
      exact trivial
    case hK =>
      intro b24 V hV
      have HI := Lib.hid hV
      clear hV
      have hg := guard24; have he := eq_self
      go_wp2_with (first | refine load_inv HI.out (by rfl) (by rfl) (by rfl) (by repeat (first | exact List.mem_cons_self .. | apply List.mem_cons_of_mem)) ?_ | (go_at_call 15; (first | refine (C11.out _).mono ?_ | refine (C12.out _).mono ?_); rintro e w1 ⟨rfl, hb⟩; replace HI := Lib.hid (Inv.call HI.out hb); clear hb))
      go_ret
      exact ⟨rfl, HI.out.1⟩
end
end Go.Proofs.Ytkbambojnifjcaa
