/- Contracts and words that the laws stand on (TxOrdersWalk). -/
import Derived.Test.YtkibccmfgndfjaaTxo
import Derived.Test.YtkibccmfgndfjaaOpen
import Derived.Test.YtkibccmfgndfjaaOa
set_option linter.unusedVariables false
set_option linter.unusedSimpArgs false
namespace Go.Proofs.Ytkibccmfgndfjaa
section
open Go.RowKit Go.Proofs
theorem cmp_refl : ∀ l : List UInt8, Lib.compareBytes l l = 0
  | [] => rfl
  | x :: l => by
    have : ¬ x < x := UInt8.lt_irrefl x
    unfold Lib.compareBytes
    rw [if_neg this, if_neg this]
    exact cmp_refl l
theorem exec_load_row {P : Program} {o : Oper} {ev : Operand → Value} {w : World} (ty : TypeId) (x : Operand) (ho : o.op = .load ty x) (g : Nat) (hx : ev x = .pointer (some ⟨g, 0, none⟩)) (t : TypeId) (cs : Array Value) (fr : Nat × Nat) (d : TypeDesc) (hg : w.heap[g]? = some (.cells cs t fr))
    (hu : P.underlying ty = some d) (hd : (match d with | .struct _ | .array _ _ => true | _ => false) = true) (hi : (P.info? ty).map (·.size) = some cs.size) : (execOp ev o).run P w = .ok (.value (.agg cs)) w := by
  unfold execOp
  simp only [ho, hx, Instr.loadAt, Instr.sureAddr, Sem.run_bind, Sem.run_pure, Result.andThen_ok, run_loadVar_row w g t ty cs fr d hg hu hd hi]
set_option maxHeartbeats 2000000 in
set_option maxRecDepth 100000 in
theorem txOrders_walk (xs ys : List UInt8) (n m : Int) (w : World) (hx : xs.length = 32) (hy : ys.length = 32) :
    Calls Try.prog 3 #[.agg (opC xs n), .agg (opC ys m)] w fun e w' => e = .returned (.bool true) ∧ Below w.heap.size w w' := by
  have hB1 : ∀ w', Below (w.heap.size + 2) ((w.alloc (.cells (opC xs n) 26)).alloc (.cells (opC ys m) 26)) w' → w'.heap[w.heap.size]? = some (.cells (opC xs n) 26) ∧ w'.heap[w.heap.size + 1]? = some (.cells (opC ys m) 26) := fun w' hb =>
    ⟨(hb.block _ (by omega)).trans (heap2_at0 w _ _), (hb.block _ (by omega)).trans (heap2_at1 w _ _)⟩
  have hb0 : Below w.heap.size w ((w.alloc (.cells (opC xs n) 26)).alloc (.cells (opC ys m) 26)) := ((Below.refl _ _).alloc (Nat.le_refl _) _).alloc (by simp) _
  obtain ⟨R, hR⟩ : ∃ R, R = (if Lib.compareBytes xs ys = 0 then ordN n m else Lib.compareBytes xs ys) := ⟨_, rfl⟩
  have h15 := fun w => tx15 xs ys n m w hx hy
  have h16 := fun w => tx16 xs ys n m w hx hy
  have h17 := fun w => tx15 xs xs n n w hx hx
  rw [← hR] at h15 h16
  rw [if_pos (cmp_refl xs), show ordN n n = 0 by unfold ordN; rw [if_neg (by omega), if_neg (by omega)]] at h17
  clear hR
  have hz1 : (opC xs n).size = 33 := by simp [opC, bs, hx]
  have hz2 : (opC ys m).size = 33 := by simp [opC, bs, hy]
  obtain ⟨C1, hC1⟩ : ∃ C1, C1 = opC xs n := ⟨_, rfl⟩
  obtain ⟨C2, hC2⟩ : ∃ C2, C2 = opC ys m := ⟨_, rfl⟩
  rw [← hC1] at hB1 hb0 h15 h16 h17 hz1
  rw [← hC2] at hB1 hb0 h15 h16 hz2
  rw [← hC1, ← hC2]
  clear hC1 hC2
  have H15 := Lib.hid h15; have H16 := Lib.hid h16; have H17 := Lib.hid h17; have HB0 := Lib.hid hb0; have HBX := Lib.hid hB1
  clear h15 h16 h17 hb0 hB1
  obtain ⟨W2, hW2⟩ : ∃ W2, W2 = (w.alloc (.cells C1 26)).alloc (.cells C2 26) := ⟨_, rfl⟩
  have hsz : W2.heap.size = w.heap.size + 2 := by rw [hW2]; simp
  rw [← hW2] at HBX HB0
  go_enter Try.func3, Try.ntmps3
  go_wp2_with fail
  rw [← hW2]
  clear hW2
  refine wp_region_pi [(0, true), (1, true), (3, true), (4, true), (2, false), (5, false), (6, true), (7, true), (8, true), (9, true), (10, false), (11, true), (12, true), (13, true)] (by kernel_rfl) (by kernel_rfl) rfl (by kernel_rfl) (fun _ _ _ _ _ h => h) (fun w' => Below (w.heap.size + 2) W2 w') (Below.refl _ _).drew ?_
  intro OPS hops
  iterate 4
    first | (refine wpPi_yield _ (by rw [hops.out]; simp only [List.getElem?_toArray, List.getElem?_cons_succ, List.getElem?_cons_zero]; rfl) (by first | rfl | (rw [hops.out]; rfl)) (fun w' hS => by first | exact exec_load_row (o := _) 26 _ rfl w.heap.size rfl 26 C1 (0, 0) _ (HBX.out w' hS).1 Try.underlying26 rfl (by rw [hz1]; kernel_rfl) | exact exec_load_row (o := _) 26 _ rfl (w.heap.size + 1) rfl 26 C2 (0, 0) _ (HBX.out w' hS).2 Try.underlying26 rfl (by rw [hz2]; kernel_rfl) | (go_simp; rfl)) ?_; simp only [Act.put, List.setIfInBounds_toArray, List.set_cons_succ, List.set_cons_zero]) | (refine wpPi_skip (by rw [hops.out]; simp only [List.getElem?_toArray, List.getElem?_cons_succ, List.getElem?_cons_zero]; rfl) (by first | rfl | (rw [hops.out]; rfl)) ?_; simp only [Act.put, List.setIfInBounds_toArray, List.set_cons_succ, List.set_cons_zero])
  refine wpPi_act (by rw [hops.out]; simp only [List.getElem?_toArray, List.getElem?_cons_succ, List.getElem?_cons_zero]; rfl) (by first | rfl | (rw [hops.out]; rfl)) ?_
  go_simp
  refine (H15.out _).mono ?_
  rintro e w3 ⟨rfl, hb3⟩
  have HBa := Lib.hid ((Below.refl (w.heap.size + 2) W2).drew.trans (hb3.mono (by simp [hsz])))
  clear hb3
  try (refine ⟨(by first | exact (Below.refl _ _).drew | exact HBa.out | exact HBb.out | exact HBc.out), ?_⟩)
  refine wpPi_act (by rw [hops.out]; simp only [List.getElem?_toArray, List.getElem?_cons_succ, List.getElem?_cons_zero]; rfl) (by first | rfl | (rw [hops.out]; rfl)) ?_
  go_simp
  refine (H16.out _).mono ?_
  rintro e w4 ⟨rfl, hb4⟩
  have HBb := Lib.hid (HBa.out.trans (hb4.mono (by have := HBa.out.size; omega)))
  clear hb4
  try (refine ⟨(by first | exact (Below.refl _ _).drew | exact HBa.out | exact HBb.out | exact HBc.out), ?_⟩)
  iterate 4
    first | (refine wpPi_yield _ (by rw [hops.out]; simp only [List.getElem?_toArray, List.getElem?_cons_succ, List.getElem?_cons_zero]; rfl) (by first | rfl | (rw [hops.out]; rfl)) (fun w' hS => by first | exact exec_load_row (o := _) 26 _ rfl w.heap.size rfl 26 C1 (0, 0) _ (HBX.out w' hS).1 Try.underlying26 rfl (by rw [hz1]; kernel_rfl) | exact exec_load_row (o := _) 26 _ rfl (w.heap.size + 1) rfl 26 C2 (0, 0) _ (HBX.out w' hS).2 Try.underlying26 rfl (by rw [hz2]; kernel_rfl) | (go_simp; rfl)) ?_; simp only [Act.put, List.setIfInBounds_toArray, List.set_cons_succ, List.set_cons_zero]) | (refine wpPi_skip (by rw [hops.out]; simp only [List.getElem?_toArray, List.getElem?_cons_succ, List.getElem?_cons_zero]; rfl) (by first | rfl | (rw [hops.out]; rfl)) ?_; simp only [Act.put, List.setIfInBounds_toArray, List.set_cons_succ, List.set_cons_zero])
  refine wpPi_act (by rw [hops.out]; simp only [List.getElem?_toArray, List.getElem?_cons_succ, List.getElem?_cons_zero]; rfl) (by first | rfl | (rw [hops.out]; rfl)) ?_
  go_simp
  refine (H17.out _).mono ?_
  rintro e w5 ⟨rfl, hb5⟩
  have HBc := Lib.hid (HBb.out.trans (hb5.mono (by have := HBb.out.size; omega)))
  clear hb5
  try (refine ⟨(by first | exact (Below.refl _ _).drew | exact HBa.out | exact HBb.out | exact HBc.out), ?_⟩)
  iterate 3
    first | (refine wpPi_yield _ (by rw [hops.out]; simp only [List.getElem?_toArray, List.getElem?_cons_succ, List.getElem?_cons_zero]; rfl) (by first | rfl | (rw [hops.out]; rfl)) (fun w' hS => by first | exact exec_load_row (o := _) 26 _ rfl w.heap.size rfl 26 C1 (0, 0) _ (HBX.out w' hS).1 Try.underlying26 rfl (by rw [hz1]; kernel_rfl) | exact exec_load_row (o := _) 26 _ rfl (w.heap.size + 1) rfl 26 C2 (0, 0) _ (HBX.out w' hS).2 Try.underlying26 rfl (by rw [hz2]; kernel_rfl) | (go_simp; rfl)) ?_; simp only [Act.put, List.setIfInBounds_toArray, List.set_cons_succ, List.set_cons_zero]) | (refine wpPi_skip (by rw [hops.out]; simp only [List.getElem?_toArray, List.getElem?_cons_succ, List.getElem?_cons_zero]; rfl) (by first | rfl | (rw [hops.out]; rfl)) ?_; simp only [Act.put, List.setIfInBounds_toArray, List.set_cons_succ, List.set_cons_zero])
  simp only [wpPi]
  go_wp2_with fail
  go_ret
  exact ⟨rfl, HB0.out.trans (HBc.out.mono (by omega))⟩
end
section
open Go.RowKit Go.Proofs
theorem take_one {α : Type} (l : List α) (i : Nat) (h : i < l.length) : (l.drop i).take 1 = [l[i]] := by
  rw [List.drop_eq_getElem_cons h]; rfl
/-- Cells that are read as bytes one by one. -/
theorem bytes_of_rd {P : Program} {w : World} {e : TypeId} (he : P.underlying e = some (.int .u8)) (l : List Value) (h : ∀ i, i < l.length → Rd P w e ((l.drop i).take 1)) : ∃ xs : List UInt8, xs.length = l.length ∧ l = bs xs := by
  refine ⟨l.map (fun v => match v with | .int _ n => UInt8.ofNat n.toNat | _ => 0), by simp, ?_⟩
  apply List.ext_getElem
  · simp [bs]
  · intro i h1 h2
    obtain ⟨n, hn, hw⟩ := (h i h1).int he
    rw [take_one l i h1] at hn
    injection hn with hn
    have hb : 0 ≤ n ∧ n < 256 := by simp [Lit.wf, IntKind.min, IntKind.max, IntKind.signed, IntKind.bits] at hw; omega
    simp only [bs, List.getElem_map, hn]
    congr 1
    simp
    omega
theorem cells26 : Try.prog.cellsOf 26 = 33 := by kernel_rfl
theorem cells23 : Try.prog.cellsOf 23 = 32 := by kernel_rfl
theorem cells24 : Try.prog.cellsOf 24 = 1 := by kernel_rfl
theorem cells5 : Try.prog.cellsOf 5 = 1 := by kernel_rfl
/-- An outpoint that came in. -/
theorem opC_of {w : World} {c : Array Value} (g : Rd Try.prog w 26 c.toList) : ∃ xs n, xs.length = 32 ∧ c = opC xs n := by
  obtain ⟨hl, hf⟩ := g.struct Try.underlying26
  rw [cells26] at hl
  have f0 := hf _ (List.mem_cons_self ..)
  have f1 := hf _ (List.mem_cons_of_mem _ (List.mem_cons_self ..))
  clear hf
  simp only [cells23, cells24, List.drop_zero] at f0 f1
  obtain ⟨h0, ha⟩ := f0.array Try.underlying23
  obtain ⟨n, hn, _⟩ := f1.int Try.underlying24
  rw [cells23] at h0
  simp only [cells5, Nat.mul_one] at ha
  obtain ⟨xs, hx, he⟩ := bytes_of_rd Try.underlying5 (c.toList.take 32) (fun i hi => ha i (by omega))
  refine ⟨xs, n, by omega, ?_⟩
  apply Array.toList_inj.1
  rw [opC, List.toList_toArray, ← he, ← hn, show (c.toList.drop 32).take 1 = c.toList.drop 32 from List.take_of_length_le (by rw [List.length_drop]; omega), List.take_append_drop]
end
end Go.Proofs.Ytkibccmfgndfjaa
