/- Contracts and words that the laws stand on (Txo). -/
import Derived.Lib.BytesEntry
import Derived.Lib.Bytealg
import Derived.Test.YtkibccmfgndfjaaOct
import Derived.Test.YtkibccmfgndfjaaMem
set_option linter.unusedVariables false
set_option linter.unusedSimpArgs false
namespace Go.Proofs.Ytkibccmfgndfjaa
section
open Go.RowKit Go.Proofs
/-! bytes.Compare, and the order of outpoints. -/
theorem run_bytesOf {P : Program} {w : World} {v : Value} {xs : List UInt8} (h : HB w v xs) : (Extern.Bytes.bytesOf v).run P w = .ok ⟨xs.toArray⟩ w := by
  obtain ⟨p, c, rfl, h0, h1, h2⟩ := h
  cases p with
  | none => obtain rfl := h1 rfl; rfl
  | some a =>
    have := Lib.run_loadBytesX (P := P) w (xs.map fun x => (x.toNat : Int)) a .empty (fun j x hj => by
      simp only [List.getElem?_map, Option.map_eq_some_iff] at hj
      obtain ⟨y, hy, rfl⟩ := hj
      exact h2 a rfl j y hy)
    rw [List.length_map] at this
    show (Extern.Bytes.loadBytes a xs.length .empty).run P w = _
    rw [this]
    congr 1
    apply ByteArray.ext
    simp [Lib.bytesOf]
    apply List.ext_getElem <;> simp
theorem run_compare {P : Program} {w : World} {u v : Value} {xs ys : List UInt8} (h : HB w u xs) (h' : HB w v ys) :
    (Extern.BytealgCompare.compare #[u, v]).run P w = .ok (.int .i64 (Lib.compareBytes xs ys)) w := by
  change Sem.run P (do pure (goInt (Extern.BytealgCompare.cmp (← Extern.Bytes.bytesOf u) (← Extern.Bytes.bytesOf v)))) w = _
  simp only [Sem.run_bind, Sem.run_pure, run_bytesOf h, run_bytesOf h', Result.andThen]
  rw [Lib.cmp_eq]
  rfl
set_option maxHeartbeats 1000000 in
set_option maxRecDepth 100000 in
theorem compare53 (u v : Value) (xs ys : List UInt8) (w : World) (h : HB w u xs) (h' : HB w v ys) :
    Calls Try.prog 53 #[u, v] w fun e w' => e = .returned (.int .i64 (Lib.compareBytes xs ys)) ∧ w' = w := by
  go_enter Try.func53, Try.ntmps53
  go_wp2
  rw [run_callFunc_extern Try.func71 (by kernel_rfl) (by kernel_rfl) (by kernel_rfl) (e := Extern.BytealgCompare.compare) (by kernel_rfl), run_compare h h']
  simp only [Result.andThen]
  rw [Oper.upon_value]
  go_wp2
  go_ret
  exact ⟨rfl, rfl⟩
theorem isNaN72 (n : Int) (w : World) : Calls Try.prog 72 #[.int .u32 n] w fun e w' => e = .returned (.bool false) ∧ w' = w := by
  go_enter Try.func72, Try.ntmps72
  go_wp2
  go_ret
  exact ⟨by simp, rfl⟩
end
section
open Go.RowKit Go.Proofs
def ordN (n m : Int) : Int := if n < m then -1 else if m < n then 1 else 0
set_option maxHeartbeats 1000000 in
set_option maxRecDepth 100000 in
theorem compare54 (n m : Int) (w : World) : Calls Try.prog 54 #[.int .u32 n, .int .u32 m] w fun e w' => e = .returned (.int .i64 (ordN n m)) ∧ w' = w := by
  by_cases h1 : n < m
  · go_enter Try.func54, Try.ntmps54
    go_wp2_with (go_at_call 72; refine (isNaN72 _ _).mono ?_; rintro e w' ⟨rfl, rfl⟩)
    go_ret
    exact ⟨by simp [ordN, h1], rfl⟩
  · by_cases h2 : m < n
    · go_enter Try.func54, Try.ntmps54
      go_wp2_with (go_at_call 72; refine (isNaN72 _ _).mono ?_; rintro e w' ⟨rfl, rfl⟩)
      go_ret
      exact ⟨by simp [ordN, h1, h2], rfl⟩
    · go_enter Try.func54, Try.ntmps54
      go_wp2_with (go_at_call 72; refine (isNaN72 _ _).mono ?_; rintro e w' ⟨rfl, rfl⟩)
      go_ret
      exact ⟨by rw [show ordN n m = 0 by unfold ordN; rw [if_neg (by omega), if_neg (by omega)]]; rfl, rfl⟩
set_option maxHeartbeats 1000000 in
set_option maxRecDepth 100000 in
theorem or52 (A : Addr) (a b : Int) (w : World) (h0 : w.cell? A = some (.int .i64 a)) (h1 : w.cell? ⟨A.block, A.off + 1, none⟩ = some (.int .i64 b)) :
    Calls Try.prog 52 #[.slice (some A) 2 2] w fun e w' => e = .returned (.int .i64 (if a = 0 then b else a)) ∧ w' = w := by
  go_enter Try.func52, Try.ntmps52
  go_wp2
  go_loopw [8] (fun s8 w' => ∃ i : Nat, i ≤ 2 ∧ s8 = .int .i64 i ∧ w' = w ∧ (1 ≤ i → a = 0) ∧ (2 ≤ i → b = 0)) (fun s8 _ => 2 - (intOf s8).toNat)
  case atStart => exact ⟨0, by omega, rfl, rfl, by omega, by omega⟩
  case round =>
    obtain ⟨i, hi, rfl, rfl, ha, hb⟩ := hrel
    obtain rfl | rfl | rfl : i = 0 ∨ i = 1 ∨ i = 2 := by omega
    · by_cases hz : a = 0
      · go_wp2
        exact ⟨⟨1, by omega, rfl, trivial, fun _ => hz, by omega⟩, by simp [intOf]⟩
      · go_wp2
        go_ret
        exact ⟨by simp [hz], rfl⟩
    · by_cases hz : b = 0
      · go_wp2
        exact ⟨⟨2, by omega, rfl, trivial, fun _ => ha (by omega), fun _ => hz⟩, by simp [intOf]⟩
      · go_wp2
        go_ret
        exact ⟨by simp [ha (by omega)], rfl⟩
    · go_wp2
      go_ret
      exact ⟨by simp [ha (by omega), hb (by omega)], rfl⟩
end
section
open Go.RowKit Go.Proofs
/-- An outpoint's cells. -/
def opC (xs : List UInt8) (n : Int) : Array Value := (bs xs ++ [Value.int .u32 n]).toArray
theorem opC_at (xs : List UInt8) (n : Int) (hx : xs.length = 32) : (opC xs n)[32]? = some (.int .u32 n) ∧ ∀ (i : Nat) x, xs[i]? = some x → (opC xs n)[i]? = some (.int .u8 (x.toNat : Int)) := by
  refine ⟨by simp [opC, bs, hx], fun i x h => ?_⟩
  have := (List.getElem?_eq_some_iff.1 h).1
  simp [opC, bs, List.getElem?_append, this]
  obtain ⟨_, rfl⟩ := List.getElem?_eq_some_iff.1 h
  rfl
theorem HB.box {w : World} {b : Nat} {t : TypeId} {fr : Nat × Nat} {xs : List UInt8} {n : Int} (hx : xs.length = 32) (hb : w.heap[b]? = some (.cells (opC xs n) t fr)) : HB w (.slice (some ⟨b, 0, none⟩) 32 32) xs ∧ w.cell? ⟨b, 32, none⟩ = some (.int .u32 n) := by
  obtain ⟨h1, h2⟩ := opC_at xs n hx
  have hc : ∀ i, w.cell? ⟨b, i, none⟩ = (opC xs n)[i]? := fun i => by simp [World.cell?, hb]
  refine ⟨⟨some ⟨b, 0, none⟩, 32, by rw [hx], by omega, (fun e => by cases e), fun a ha i x hi => ?_⟩, by rw [hc]; exact h1⟩
  injection ha with ha
  subst ha
  have : (Addr.add ⟨b, 0, none⟩ i : Addr) = ⟨b, i, none⟩ := by unfold Addr.add; split <;> simp_all
  rw [this, hc]
  exact h2 i x hi
theorem cell_new2 (w : World) (a b : Value) (t : TypeId) : ((w.alloc (.cells #[a, b] t)).drew).cell? ⟨w.heap.size, 0, none⟩ = some a ∧ ((w.alloc (.cells #[a, b] t)).drew).cell? ⟨w.heap.size, 0 + 1, none⟩ = some b := by
  have hb : ((w.alloc (.cells #[a, b] t)).drew).heap[w.heap.size]? = some (.cells #[a, b] t) := by
    show (w.heap.push _)[w.heap.size]? = _
    rw [Array.getElem?_push, if_pos rfl]
  constructor <;> (simp only [World.cell?, hb]; rfl)
theorem heap2_at0 (w : World) (o p : Obj) : ((w.alloc o).alloc p).heap[w.heap.size]? = some o := by
  show ((w.heap.push o).push p)[w.heap.size]? = some o
  rw [Array.getElem?_push, if_neg (by simp), Array.getElem?_push, if_pos rfl]
theorem heap2_at1 (w : World) (o p : Obj) : ((w.alloc o).alloc p).heap[w.heap.size + 1]? = some p := by
  show ((w.heap.push o).push p)[w.heap.size + 1]? = some p
  rw [Array.getElem?_push, if_pos (by simp)]
set_option maxHeartbeats 1000000 in
set_option maxRecDepth 100000 in
theorem tx15 (xs ys : List UInt8) (n m : Int) (w : World) (hx : xs.length = 32) (hy : ys.length = 32) :
    Calls Try.prog 15 #[.agg (opC xs n), .agg (opC ys m)] w fun e w' => e = .returned (.int .i64 (if Lib.compareBytes xs ys = 0 then ordN n m else Lib.compareBytes xs ys)) ∧ Below w.heap.size w w' := by
  have hB1 : ∀ w', Below (w.heap.size + 2) ((w.alloc (.cells (opC xs n) 26)).alloc (.cells (opC ys m) 26)) w' → (HB w' (.slice (some ⟨w.heap.size, 0, none⟩) 32 32) xs ∧ w'.cell? ⟨w.heap.size, 32, none⟩ = some (.int .u32 n)) ∧ (HB w' (.slice (some ⟨w.heap.size + 1, 0, none⟩) 32 32) ys ∧ w'.cell? ⟨w.heap.size + 1, 32, none⟩ = some (.int .u32 m)) := fun w' hb =>
    ⟨HB.box hx (t := 26) (fr := (0, 0)) ((hb.block _ (by omega)).trans (heap2_at0 w _ _)), HB.box hy (t := 26) (fr := (0, 0)) ((hb.block _ (by omega)).trans (heap2_at1 w _ _))⟩
  have HBX := Lib.hid hB1
  have hb0 : Below w.heap.size w ((w.alloc (.cells (opC xs n) 26)).alloc (.cells (opC ys m) 26)) := ((Below.refl _ _).alloc (Nat.le_refl _) _).alloc (by simp) _
  have HB0 := Lib.hid hb0
  obtain ⟨r, hr⟩ : ∃ r, r = Lib.compareBytes xs ys := ⟨_, rfl⟩
  obtain ⟨q, hq⟩ : ∃ q, q = ordN n m := ⟨_, rfl⟩
  obtain ⟨R, hR⟩ : ∃ R, R = (if Lib.compareBytes xs ys = 0 then ordN n m else Lib.compareBytes xs ys) := ⟨_, rfl⟩
  rw [← hR]
  have HR2 := Lib.hid (show (if r = 0 then q else r) = R by rw [hR, hr, hq])
  clear hR
  obtain ⟨W2, hW2⟩ : ∃ W2, W2 = (w.alloc (.cells (opC xs n) 26)).alloc (.cells (opC ys m) 26) := ⟨_, rfl⟩
  have HR := Lib.hid hr; have HQ := Lib.hid hq
  clear hr hq
  have hsz : W2.heap.size = w.heap.size + 2 := by rw [hW2]; simp
  rw [← hW2] at HBX HB0
  clear hB1 hb0
  go_enter Try.func15, Try.ntmps15
  go_wp2_with fail
  rw [← hW2]
  clear hW2
  refine wp_region_pi [(0, true), (1, true), (2, true), (3, true), (5, true), (6, true), (7, true), (8, true), (4, false), (9, false), (10, false), (11, false), (12, true)] (by kernel_rfl) (by kernel_rfl) rfl (by kernel_rfl) (fun _ _ _ _ _ h => h) (fun w' => Below (w.heap.size + 2) W2 w') (Below.refl _ _).drew ?_
  intro OPS hops
  iterate 8
    first | (refine wpPi_yield _ (by rw [hops.out]; simp only [List.getElem?_toArray, List.getElem?_cons_succ, List.getElem?_cons_zero]; rfl) (by first | rfl | (rw [hops.out]; rfl)) (fun w' hS => by have q1 := (HBX.out w' hS).1.2; have q2 := (HBX.out w' hS).2.2; go_simp; rfl) ?_; simp only [Act.put, List.setIfInBounds_toArray, List.set_cons_succ, List.set_cons_zero]) | (refine wpPi_skip (by rw [hops.out]; simp only [List.getElem?_toArray, List.getElem?_cons_succ, List.getElem?_cons_zero]; rfl) (by first | rfl | (rw [hops.out]; rfl)) ?_; simp only [Act.put, List.setIfInBounds_toArray, List.set_cons_succ, List.set_cons_zero])
  refine wpPi_act (by rw [hops.out]; simp only [List.getElem?_toArray, List.getElem?_cons_succ, List.getElem?_cons_zero]; rfl) (by first | rfl | (rw [hops.out]; rfl)) ?_
  go_simp
  have hq4 := HBX.out _ (Below.refl _ W2).drew
  refine (compare53 _ _ xs ys _ hq4.1.1 hq4.2.1).mono ?_
  rw [← HR.out]
  rintro e w3 ⟨rfl, rfl⟩
  clear hq4
  try (refine ⟨(by first | exact (Below.refl _ _).drew | exact HBa.out), ?_⟩)
  refine wpPi_act (by rw [hops.out]; simp only [List.getElem?_toArray, List.getElem?_cons_succ, List.getElem?_cons_zero]; rfl) (by first | rfl | (rw [hops.out]; rfl)) ?_
  go_simp
  refine (compare54 _ _ _).mono ?_
  rw [← HQ.out]
  rintro e w4 ⟨rfl, rfl⟩
  try (refine ⟨(by first | exact (Below.refl _ _).drew | exact HBa.out), ?_⟩)
  refine wpPi_act (by rw [hops.out]; simp only [List.getElem?_toArray, List.getElem?_cons_succ, List.getElem?_cons_zero]; rfl) (by first | rfl | (rw [hops.out]; rfl)) ?_
  go_simp
  have HBa := Lib.hid (((Below.refl (w.heap.size + 2) W2).alloc (by simp [hsz]) (.cells #[.int .i64 r, .int .i64 q] 3)).drew)
  try (refine ⟨(by first | exact (Below.refl _ _).drew | exact HBa.out), ?_⟩)
  refine wpPi_act (by rw [hops.out]; simp only [List.getElem?_toArray, List.getElem?_cons_succ, List.getElem?_cons_zero]; rfl) (by first | rfl | (rw [hops.out]; rfl)) ?_
  go_simp
  obtain ⟨n0, n1⟩ := cell_new2 W2 (.int .i64 r) (.int .i64 q) 3
  rw [hsz] at n0 n1
  refine (or52 ⟨w.heap.size + 2, 0, none⟩ r q _ n0 n1).mono ?_
  rw [HR2.out]
  rintro e w5 ⟨rfl, rfl⟩
  try (refine ⟨(by first | exact (Below.refl _ _).drew | exact HBa.out), ?_⟩)
  iterate 1
    first | (refine wpPi_yield _ (by rw [hops.out]; simp only [List.getElem?_toArray, List.getElem?_cons_succ, List.getElem?_cons_zero]; rfl) (by first | rfl | (rw [hops.out]; rfl)) (fun w' hS => by have q1 := (HBX.out w' hS).1.2; have q2 := (HBX.out w' hS).2.2; go_simp; rfl) ?_; simp only [Act.put, List.setIfInBounds_toArray, List.set_cons_succ, List.set_cons_zero]) | (refine wpPi_skip (by rw [hops.out]; simp only [List.getElem?_toArray, List.getElem?_cons_succ, List.getElem?_cons_zero]; rfl) (by first | rfl | (rw [hops.out]; rfl)) ?_; simp only [Act.put, List.setIfInBounds_toArray, List.set_cons_succ, List.set_cons_zero])
  simp only [wpPi]
  go_wp2_with fail
  go_ret
  exact ⟨rfl, HB0.out.trans (HBa.out.mono (by omega : w.heap.size ≤ w.heap.size + 2))⟩
end
section
open Go.RowKit Go.Proofs
theorem cmp_drop (xs ys : List UInt8) (k : Nat) (hx : k < xs.length) (hy : k < ys.length) :
    Lib.compareBytes (xs.drop k) (ys.drop k) = if xs[k] < ys[k] then -1 else if ys[k] < xs[k] then 1 else Lib.compareBytes (xs.drop (k + 1)) (ys.drop (k + 1)) := by
  rw [List.drop_eq_getElem_cons hx, List.drop_eq_getElem_cons hy]
  rfl
theorem ptr_box (w : World) (b k : Nat) (t : TypeId) (fr : Nat × Nat) (xs : List UInt8) (n : Int) (hb : w.heap[b]? = some (.cells (opC xs n) t fr)) (hx : xs.length = 32) (hk : k < 32) : w.cell? ⟨b, k, none⟩ = some (.int .u8 ((xs[k]'(by omega)).toNat : Int)) := by
  obtain ⟨h1, h2⟩ := opC_at xs n hx
  simp only [World.cell?, hb]
  exact h2 k _ (List.getElem?_eq_getElem (by omega))
set_option maxHeartbeats 2000000 in
set_option maxRecDepth 100000 in
theorem tx16 (xs ys : List UInt8) (n m : Int) (w : World) (hx : xs.length = 32) (hy : ys.length = 32) :
    Calls Try.prog 16 #[.agg (opC xs n), .agg (opC ys m)] w fun e w' => e = .returned (.int .i64 (if Lib.compareBytes xs ys = 0 then ordN n m else Lib.compareBytes xs ys)) ∧ Below w.heap.size w w' := by
  have hB1 : ∀ w', Below (w.heap.size + 2) ((w.alloc (.cells (opC xs n) 26)).alloc (.cells (opC ys m) 26)) w' → w'.heap[w.heap.size]? = some (.cells (opC xs n) 26) ∧ w'.heap[w.heap.size + 1]? = some (.cells (opC ys m) 26) := fun w' hb =>
    ⟨(hb.block _ (by omega)).trans (heap2_at0 w _ _), (hb.block _ (by omega)).trans (heap2_at1 w _ _)⟩
  have HBX := Lib.hid hB1
  have hb0 : Below w.heap.size w ((w.alloc (.cells (opC xs n) 26)).alloc (.cells (opC ys m) 26)) := ((Below.refl _ _).alloc (Nat.le_refl _) _).alloc (by simp) _
  have HB0 := Lib.hid hb0
  obtain ⟨R, hR⟩ : ∃ R, R = (if Lib.compareBytes xs ys = 0 then ordN n m else Lib.compareBytes xs ys) := ⟨_, rfl⟩
  rw [← hR]
  have HR := Lib.hid hR
  clear hR
  obtain ⟨W2, hW2⟩ : ∃ W2, W2 = (w.alloc (.cells (opC xs n) 26)).alloc (.cells (opC ys m) 26) := ⟨_, rfl⟩
  have hsz : W2.heap.size = w.heap.size + 2 := by rw [hW2]; simp
  rw [← hW2] at HBX HB0
  clear hB1 hb0
  obtain ⟨C1, hC1⟩ : ∃ C1, C1 = opC xs n := ⟨_, rfl⟩
  obtain ⟨C2, hC2⟩ : ∃ C2, C2 = opC ys m := ⟨_, rfl⟩
  rw [← hC1, ← hC2] at hW2 HBX
  rw [← hC1, ← hC2]
  have HC1 := Lib.hid hC1; have HC2 := Lib.hid hC2
  clear hC1 hC2
  go_enter Try.func16, Try.ntmps16
  go_wp2_with fail
  rw [← hW2]
  clear hW2
  go_loopw [5] (fun s5 w' => ∃ k : Nat, k ≤ 32 ∧ s5 = .int .i64 k ∧ Below (w.heap.size + 2) W2 w' ∧ Lib.compareBytes xs ys = Lib.compareBytes (xs.drop k) (ys.drop k)) (fun s5 _ => 32 - (intOf s5).toNat)
  case atStart => exact ⟨0, by omega, rfl, by first | exact Below.refl _ _ | exact (Below.refl _ _).drew, rfl⟩
  case round =>
    obtain ⟨k, hk, rfl, hbk, hcmp⟩ := hrel
    have HBk := Lib.hid hbk; have HCMP := Lib.hid hcmp
    clear hcmp hbk
    obtain ⟨hq1, hq2⟩ := HBX.out _ HBk.out
    rw [HC1.out] at hq1
    rw [HC2.out] at hq2
    by_cases hlt : k < 32
    · have c1 := ptr_box wr w.heap.size k 26 (0, 0) xs n hq1 hx hlt
      have c2 := ptr_box wr (w.heap.size + 1) k 26 (0, 0) ys m hq2 hy hlt
      have hd := cmp_drop xs ys k (by omega) (by omega)
      clear hq1 hq2
      generalize xs[k] = x at *
      generalize ys[k] = y at *
      have HD := Lib.hid hd
      clear hd
      have ki0 : (0 : Int) ≤ (k : Int) := by omega
      have ki1 : (k : Int) < 32 := by omega
      have lxy : (x < y) = (x.toNat < y.toNat) := rfl
      have lyx : (y < x) = (y.toNat < x.toNat) := rfl
      have LXY := Lib.hid lxy; have LYX := Lib.hid lyx
      clear lxy lyx
      have hw1 : R = (if x.toNat < y.toNat then -1 else if y.toNat < x.toNat then 1 else R) := by
        by_cases g1 : x < y
        · have g1' : x.toNat < y.toNat := g1
          rw [if_pos g1', HR.out, HCMP.out, HD.out, if_pos g1]; rfl
        · have g1' : ¬ x.toNat < y.toNat := g1
          rw [if_neg g1']
          by_cases g2 : y < x
          · have g2' : y.toNat < x.toNat := g2
            rw [if_pos g2', HR.out, HCMP.out, HD.out, if_neg g1, if_pos g2]; rfl
          · have g2' : ¬ y.toNat < x.toNat := g2
            rw [if_neg g2']
      by_cases hxy : x.toNat < y.toNat
      · obtain rfl : R = -1 := by rw [hw1, if_pos hxy]
        clear hw1
        go_wp2_with fail
        refine wp_region_pi [(0, true), (1, true), (2, true), (3, true), (4, true), (5, true), (6, true), (7, true), (8, true)] (by kernel_rfl) (by kernel_rfl) rfl (by kernel_rfl) (fun _ _ _ _ _ h => h) (fun w' => w' = wr.drew) rfl ?_
        intro OPS hops
        iterate 9
          first | (refine wpPi_yield _ (by rw [hops.out]; simp only [List.getElem?_toArray, List.getElem?_cons_succ, List.getElem?_cons_zero]; rfl) (by first | rfl | (rw [hops.out]; rfl)) (fun w' hS => by subst hS; go_simp; rfl) ?_; simp only [Act.put, List.setIfInBounds_toArray, List.set_cons_succ, List.set_cons_zero]) | (refine wpPi_skip (by rw [hops.out]; simp only [List.getElem?_toArray, List.getElem?_cons_succ, List.getElem?_cons_zero]; rfl) (by first | rfl | (rw [hops.out]; rfl)) ?_; simp only [Act.put, List.setIfInBounds_toArray, List.set_cons_succ, List.set_cons_zero])
        simp only [wpPi]
        go_wp2_with fail
        go_ret
        exact ⟨rfl, HB0.out.trans (HBk.out.drew.mono (by omega))⟩
      · by_cases hyx : y.toNat < x.toNat
        · obtain rfl : R = 1 := by rw [hw1, if_neg hxy, if_pos hyx]
          clear hw1
          go_wp2_with fail
          refine wp_region_pi [(0, true), (1, true), (2, true), (3, true), (4, true), (5, true), (6, true), (7, true), (8, true)] (by kernel_rfl) (by kernel_rfl) rfl (by kernel_rfl) (fun _ _ _ _ _ h => h) (fun w' => w' = wr.drew) rfl ?_
          intro OPS hops
          iterate 9
            first | (refine wpPi_yield _ (by rw [hops.out]; simp only [List.getElem?_toArray, List.getElem?_cons_succ, List.getElem?_cons_zero]; rfl) (by first | rfl | (rw [hops.out]; rfl)) (fun w' hS => by subst hS; go_simp; rfl) ?_; simp only [Act.put, List.setIfInBounds_toArray, List.set_cons_succ, List.set_cons_zero]) | (refine wpPi_skip (by rw [hops.out]; simp only [List.getElem?_toArray, List.getElem?_cons_succ, List.getElem?_cons_zero]; rfl) (by first | rfl | (rw [hops.out]; rfl)) ?_; simp only [Act.put, List.setIfInBounds_toArray, List.set_cons_succ, List.set_cons_zero])
          simp only [wpPi]
          go_wp2_with fail
          refine wp_region_pi [(0, true), (1, true), (2, true), (3, true), (4, true), (5, true), (6, true), (7, true), (8, true)] (by kernel_rfl) (by kernel_rfl) rfl (by kernel_rfl) (fun _ _ _ _ _ h => h) (fun w' => w' = wr.drew.drew) rfl ?_
          intro OPS hops
          iterate 9
            first | (refine wpPi_yield _ (by rw [hops.out]; simp only [List.getElem?_toArray, List.getElem?_cons_succ, List.getElem?_cons_zero]; rfl) (by first | rfl | (rw [hops.out]; rfl)) (fun w' hS => by subst hS; go_simp; rfl) ?_; simp only [Act.put, List.setIfInBounds_toArray, List.set_cons_succ, List.set_cons_zero]) | (refine wpPi_skip (by rw [hops.out]; simp only [List.getElem?_toArray, List.getElem?_cons_succ, List.getElem?_cons_zero]; rfl) (by first | rfl | (rw [hops.out]; rfl)) ?_; simp only [Act.put, List.setIfInBounds_toArray, List.set_cons_succ, List.set_cons_zero])
          simp only [wpPi]
          go_wp2_with fail
          go_ret
          exact ⟨rfl, HB0.out.trans (HBk.out.drew.drew.mono (by omega))⟩
        · clear hw1
          have hcx : Lib.compareBytes xs ys = Lib.compareBytes (xs.drop (k + 1)) (ys.drop (k + 1)) := by rw [HCMP.out, HD.out, if_neg (show ¬ x < y from hxy), if_neg (show ¬ y < x from hyx)]
          have HCX := Lib.hid hcx
          clear hcx
          go_wp2_with fail
          refine wp_region_pi [(0, true), (1, true), (2, true), (3, true), (4, true), (5, true), (6, true), (7, true), (8, true)] (by kernel_rfl) (by kernel_rfl) rfl (by kernel_rfl) (fun _ _ _ _ _ h => h) (fun w' => w' = wr.drew) rfl ?_
          intro OPS hops
          iterate 9
            first | (refine wpPi_yield _ (by rw [hops.out]; simp only [List.getElem?_toArray, List.getElem?_cons_succ, List.getElem?_cons_zero]; rfl) (by first | rfl | (rw [hops.out]; rfl)) (fun w' hS => by subst hS; go_simp; rfl) ?_; simp only [Act.put, List.setIfInBounds_toArray, List.set_cons_succ, List.set_cons_zero]) | (refine wpPi_skip (by rw [hops.out]; simp only [List.getElem?_toArray, List.getElem?_cons_succ, List.getElem?_cons_zero]; rfl) (by first | rfl | (rw [hops.out]; rfl)) ?_; simp only [Act.put, List.setIfInBounds_toArray, List.set_cons_succ, List.set_cons_zero])
          simp only [wpPi]
          go_wp2_with fail
          refine wp_region_pi [(0, true), (1, true), (2, true), (3, true), (4, true), (5, true), (6, true), (7, true), (8, true)] (by kernel_rfl) (by kernel_rfl) rfl (by kernel_rfl) (fun _ _ _ _ _ h => h) (fun w' => w' = wr.drew.drew) rfl ?_
          intro OPS hops
          iterate 9
            first | (refine wpPi_yield _ (by rw [hops.out]; simp only [List.getElem?_toArray, List.getElem?_cons_succ, List.getElem?_cons_zero]; rfl) (by first | rfl | (rw [hops.out]; rfl)) (fun w' hS => by subst hS; go_simp; rfl) ?_; simp only [Act.put, List.setIfInBounds_toArray, List.set_cons_succ, List.set_cons_zero]) | (refine wpPi_skip (by rw [hops.out]; simp only [List.getElem?_toArray, List.getElem?_cons_succ, List.getElem?_cons_zero]; rfl) (by first | rfl | (rw [hops.out]; rfl)) ?_; simp only [Act.put, List.setIfInBounds_toArray, List.set_cons_succ, List.set_cons_zero])
          simp only [wpPi]
          go_wp2_with fail
          go_roundw
          case rel => exact ⟨k + 1, by omega, by go_num, HBk.out.drew.drew, HCX.out⟩
          case measure => simp [intOf]; omega
    · obtain rfl : k = 32 := by omega
      have c1 := (opC_at xs n hx).1
      have c2 := (opC_at ys m hy).1
      have c1' : wr.cell? ⟨w.heap.size, 32, none⟩ = some (.int .u32 n) := by simp only [World.cell?, hq1]; exact c1
      have c2' : wr.cell? ⟨w.heap.size + 1, 32, none⟩ = some (.int .u32 m) := by simp only [World.cell?, hq2]; exact c2
      have hw1 : R = ordN n m := by
        rw [HR.out, HCMP.out, List.drop_of_length_le (by omega), List.drop_of_length_le (by omega)]; rfl
      clear c1 c2 hq1 hq2
      by_cases hnm : n < m
      · obtain rfl : R = -1 := by rw [hw1, ordN, if_pos hnm]
        go_wp2_with fail
        go_ret
        exact ⟨rfl, HB0.out.trans (HBk.out.mono (by omega))⟩
      · by_cases hmn : m < n
        · obtain rfl : R = 1 := by rw [hw1, ordN, if_neg hnm, if_pos hmn]
          go_wp2_with fail
          go_ret
          exact ⟨rfl, HB0.out.trans (HBk.out.mono (by omega))⟩
        · obtain rfl : R = 0 := by rw [hw1, ordN, if_neg hnm, if_neg hmn]
          go_wp2_with fail
          go_ret
          exact ⟨rfl, HB0.out.trans (HBk.out.mono (by omega))⟩
end
end Go.Proofs.Ytkibccmfgndfjaa
