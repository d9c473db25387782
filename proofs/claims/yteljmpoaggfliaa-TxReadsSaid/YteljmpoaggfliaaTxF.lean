/- Contracts and words that the laws stand on (TxF). -/
import Derived.Lib.BytesEntry
import Derived.Lib.Bytealg
import Derived.Test.YteljmpoaggfliaaOctA
import Derived.Test.YteljmpoaggfliaaBase
import Derived.Test.YteljmpoaggfliaaTxD
set_option linter.unusedVariables false
set_option linter.unusedSimpArgs false
namespace Go.Proofs.Yteljmpoaggfliaa
section
open Go.RowKit Go.Proofs
/-! bytes.Compare, and the order of outpoints. -/
theorem run_bytesOf {P : Program} {w : World} {v : Value} {xs : List UInt8} (h : HB w v xs) : (Extern.Bytes.bytesOf v).run P w = .ok ⟨xs.toArray⟩ w := by
  obtain ⟨p, c, rfl, h0, h1, h2⟩ := h
  cases p with
  | none => obtain rfl := h1 rfl; rfl
  | some a =>
    have := Lib.run_loadBytesX (P := P) w (xs.map fun x => (x.toNat : Int)) a .empty (fun j x hj => by
      simp only [List.getElem?_map, Option.map_eq_some_iff] at hj
      obtain ⟨y, hy, rfl⟩ := hj
      exact h2 a rfl j y hy)
    rw [List.length_map] at this
    show (Extern.Bytes.loadBytes a xs.length .empty).run P w = _
    rw [this]
    congr 1
    apply ByteArray.ext
    simp [Lib.bytesOf]
    apply List.ext_getElem <;> simp
theorem run_compare {P : Program} {w : World} {u v : Value} {xs ys : List UInt8} (h : HB w u xs) (h' : HB w v ys) :
    (Extern.BytealgCompare.compare #[u, v]).run P w = .ok (.int .i64 (Lib.compareBytes xs ys)) w := by
  change Sem.run P (do pure (goInt (Extern.BytealgCompare.cmp (← Extern.Bytes.bytesOf u) (← Extern.Bytes.bytesOf v)))) w = _
  simp only [Sem.run_bind, Sem.run_pure, run_bytesOf h, run_bytesOf h', Result.andThen]
  rw [Lib.cmp_eq]
  rfl
set_option maxHeartbeats 1000000 in
set_option maxRecDepth 100000 in
theorem compare53 (u v : Value) (xs ys : List UInt8) (w : World) (h : HB w u xs) (h' : HB w v ys) :
    Calls Try.prog 112 #[u, v] w fun e w' => e = .returned (.int .i64 (Lib.compareBytes xs ys)) ∧ w' = w := by
  go_enter Try.func112, Try.ntmps112
  go_wp2
  rw [run_callFunc_extern Try.func145 (by kernel_rfl) (by kernel_rfl) (by kernel_rfl) (e := Extern.BytealgCompare.compare) (by kernel_rfl), run_compare h h']
  simp only [Result.andThen]
  rw [Oper.upon_value]
  go_wp2
  go_ret
  exact ⟨rfl, rfl⟩
theorem isNaN72 (n : Int) (w : World) : Calls Try.prog 146 #[.int .u32 n] w fun e w' => e = .returned (.bool false) ∧ w' = w := by
  go_enter Try.func146, Try.ntmps146
  go_wp2
  go_ret
  exact ⟨by simp, rfl⟩
end
section
open Go.RowKit Go.Proofs
def ordN (n m : Int) : Int := if n < m then -1 else if m < n then 1 else 0
set_option maxHeartbeats 1000000 in
set_option maxRecDepth 100000 in
theorem compare54 (n m : Int) (w : World) : Calls Try.prog 113 #[.int .u32 n, .int .u32 m] w fun e w' => e = .returned (.int .i64 (ordN n m)) ∧ w' = w := by
  by_cases h1 : n < m
  · go_enter Try.func113, Try.ntmps113
    go_wp2_with (go_at_call 146; refine (isNaN72 _ _).mono ?_; rintro e w' ⟨rfl, rfl⟩)
    go_ret
    exact ⟨by simp [ordN, h1], rfl⟩
  · by_cases h2 : m < n
    · go_enter Try.func113, Try.ntmps113
      go_wp2_with (go_at_call 146; refine (isNaN72 _ _).mono ?_; rintro e w' ⟨rfl, rfl⟩)
      go_ret
      exact ⟨by simp [ordN, h1, h2], rfl⟩
    · go_enter Try.func113, Try.ntmps113
      go_wp2_with (go_at_call 146; refine (isNaN72 _ _).mono ?_; rintro e w' ⟨rfl, rfl⟩)
      go_ret
      exact ⟨by rw [show ordN n m = 0 by unfold ordN; rw [if_neg (by omega), if_neg (by omega)]]; rfl, rfl⟩
set_option maxHeartbeats 1000000 in
set_option maxRecDepth 100000 in
theorem or52 (A : Addr) (a b : Int) (w : World) (h0 : w.cell? A = some (.int .i64 a)) (h1 : w.cell? ⟨A.block, A.off + 1, none⟩ = some (.int .i64 b)) :
    Calls Try.prog 72 #[.slice (some A) 2 2] w fun e w' => e = .returned (.int .i64 (if a = 0 then b else a)) ∧ w' = w := by
  go_enter Try.func72, Try.ntmps72
  go_wp2
  go_loopw [8] (fun s8 w' => ∃ i : Nat, i ≤ 2 ∧ s8 = .int .i64 i ∧ w' = w ∧ (1 ≤ i → a = 0) ∧ (2 ≤ i → b = 0)) (fun s8 _ => 2 - (intOf s8).toNat)
  case atStart => exact ⟨0, by omega, rfl, rfl, by omega, by omega⟩
  case round =>
    obtain ⟨i, hi, rfl, rfl, ha, hb⟩ := hrel
    obtain rfl | rfl | rfl : i = 0 ∨ i = 1 ∨ i = 2 := by omega
    · by_cases hz : a = 0
      · go_wp2
        exact ⟨⟨1, by omega, rfl, trivial, fun _ => hz, by omega⟩, by simp [intOf]⟩
      · go_wp2
        go_ret
        exact ⟨by simp [hz], rfl⟩
    · by_cases hz : b = 0
      · go_wp2
        exact ⟨⟨2, by omega, rfl, trivial, fun _ => ha (by omega), fun _ => hz⟩, by simp [intOf]⟩
      · go_wp2
        go_ret
        exact ⟨by simp [ha (by omega)], rfl⟩
    · go_wp2
      go_ret
      exact ⟨by simp [ha (by omega), hb (by omega)], rfl⟩
end
section
open Go.RowKit Go.Proofs
/-- An outpoint's cells. -/
def opC (xs : List UInt8) (n : Int) : Array Value := (bs xs ++ [Value.int .u32 n]).toArray
theorem opC_at (xs : List UInt8) (n : Int) (hx : xs.length = 32) : (opC xs n)[32]? = some (.int .u32 n) ∧ ∀ (i : Nat) x, xs[i]? = some x → (opC xs n)[i]? = some (.int .u8 (x.toNat : Int)) := by
  refine ⟨by simp [opC, bs, hx], fun i x h => ?_⟩
  have := (List.getElem?_eq_some_iff.1 h).1
  simp [opC, bs, List.getElem?_append, this]
  obtain ⟨_, rfl⟩ := List.getElem?_eq_some_iff.1 h
  rfl
theorem HB.box {w : World} {b : Nat} {t : TypeId} {fr : Nat × Nat} {xs : List UInt8} {n : Int} (hx : xs.length = 32) (hb : w.heap[b]? = some (.cells (opC xs n) t fr)) : HB w (.slice (some ⟨b, 0, none⟩) 32 32) xs ∧ w.cell? ⟨b, 32, none⟩ = some (.int .u32 n) := by
  obtain ⟨h1, h2⟩ := opC_at xs n hx
  have hc : ∀ i, w.cell? ⟨b, i, none⟩ = (opC xs n)[i]? := fun i => by simp [World.cell?, hb]
  refine ⟨⟨some ⟨b, 0, none⟩, 32, by rw [hx], by omega, (fun e => by cases e), fun a ha i x hi => ?_⟩, by rw [hc]; exact h1⟩
  injection ha with ha
  subst ha
  have : (Addr.add ⟨b, 0, none⟩ i : Addr) = ⟨b, i, none⟩ := by unfold Addr.add; split <;> simp_all
  rw [this, hc]
  exact h2 i x hi
theorem cell_new2 (w : World) (a b : Value) (t : TypeId) : ((w.alloc (.cells #[a, b] t)).drew).cell? ⟨w.heap.size, 0, none⟩ = some a ∧ ((w.alloc (.cells #[a, b] t)).drew).cell? ⟨w.heap.size, 0 + 1, none⟩ = some b := by
  have hb : ((w.alloc (.cells #[a, b] t)).drew).heap[w.heap.size]? = some (.cells #[a, b] t) := by
    show (w.heap.push _)[w.heap.size]? = _
    rw [Array.getElem?_push, if_pos rfl]
  constructor <;> (simp only [World.cell?, hb]; rfl)
theorem heap2_at0 (w : World) (o p : Obj) : ((w.alloc o).alloc p).heap[w.heap.size]? = some o := by
  show ((w.heap.push o).push p)[w.heap.size]? = some o
  rw [Array.getElem?_push, if_neg (by simp), Array.getElem?_push, if_pos rfl]
theorem heap2_at1 (w : World) (o p : Obj) : ((w.alloc o).alloc p).heap[w.heap.size + 1]? = some p := by
  show ((w.heap.push o).push p)[w.heap.size + 1]? = some p
  rw [Array.getElem?_push, if_pos (by simp)]
set_option maxHeartbeats 1000000 in
set_option maxRecDepth 100000 in
theorem tx15 (xs ys : List UInt8) (n m : Int) (w : World) (hx : xs.length = 32) (hy : ys.length = 32) :
    Calls Try.prog 44 #[.agg (opC xs n), .agg (opC ys m)] w fun e w' => e = .returned (.int .i64 (if Lib.compareBytes xs ys = 0 then ordN n m else Lib.compareBytes xs ys)) ∧ Below w.heap.size w w' := by
  have hB1 : ∀ w', Below (w.heap.size + 2) ((w.alloc (.cells (opC xs n) 44)).alloc (.cells (opC ys m) 44)) w' → (HB w' (.slice (some ⟨w.heap.size, 0, none⟩) 32 32) xs ∧ w'.cell? ⟨w.heap.size, 32, none⟩ = some (.int .u32 n)) ∧ (HB w' (.slice (some ⟨w.heap.size + 1, 0, none⟩) 32 32) ys ∧ w'.cell? ⟨w.heap.size + 1, 32, none⟩ = some (.int .u32 m)) := fun w' hb =>
    ⟨HB.box hx (t := 44) (fr := (0, 0)) ((hb.block _ (by omega)).trans (heap2_at0 w _ _)), HB.box hy (t := 44) (fr := (0, 0)) ((hb.block _ (by omega)).trans (heap2_at1 w _ _))⟩
  have HBX := Lib.hid hB1
  have hb0 : Below w.heap.size w ((w.alloc (.cells (opC xs n) 44)).alloc (.cells (opC ys m) 44)) := ((Below.refl _ _).alloc (Nat.le_refl _) _).alloc (by simp) _
  have HB0 := Lib.hid hb0
  obtain ⟨r, hr⟩ : ∃ r, r = Lib.compareBytes xs ys := ⟨_, rfl⟩
  obtain ⟨q, hq⟩ : ∃ q, q = ordN n m := ⟨_, rfl⟩
  obtain ⟨R, hR⟩ : ∃ R, R = (if Lib.compareBytes xs ys = 0 then ordN n m else Lib.compareBytes xs ys) := ⟨_, rfl⟩
  rw [← hR]
  have HR2 := Lib.hid (show (if r = 0 then q else r) = R by rw [hR, hr, hq])
  clear hR
  obtain ⟨W2, hW2⟩ : ∃ W2, W2 = (w.alloc (.cells (opC xs n) 44)).alloc (.cells (opC ys m) 44) := ⟨_, rfl⟩
  have HR := Lib.hid hr; have HQ := Lib.hid hq
  clear hr hq
  have hsz : W2.heap.size = w.heap.size + 2 := by rw [hW2]; simp
  rw [← hW2] at HBX HB0
  clear hB1 hb0
  go_enter Try.func44, Try.ntmps44
  go_wp2_with fail
  rw [← hW2]
  clear hW2
  refine wp_region_pi [(0, true), (1, true), (2, true), (3, true), (5, true), (6, true), (7, true), (8, true), (4, false), (9, false), (10, false), (11, false), (12, true)] (by kernel_rfl) (by kernel_rfl) rfl (by kernel_rfl) (fun _ _ _ _ _ h => h) (fun w' => Below (w.heap.size + 2) W2 w') (Below.refl _ _).drew ?_
  intro OPS hops
  iterate 8
    first | (refine wpPi_yield _ (by rw [hops.out]; simp only [List.getElem?_toArray, List.getElem?_cons_succ, List.getElem?_cons_zero]; rfl) (by first | rfl | (rw [hops.out]; rfl)) (fun w' hS => by have q1 := (HBX.out w' hS).1.2; have q2 := (HBX.out w' hS).2.2; go_simp; rfl) ?_; simp only [Act.put, List.setIfInBounds_toArray, List.set_cons_succ, List.set_cons_zero]) | (refine wpPi_skip (by rw [hops.out]; simp only [List.getElem?_toArray, List.getElem?_cons_succ, List.getElem?_cons_zero]; rfl) (by first | rfl | (rw [hops.out]; rfl)) ?_; simp only [Act.put, List.setIfInBounds_toArray, List.set_cons_succ, List.set_cons_zero])
  refine wpPi_act (by rw [hops.out]; simp only [List.getElem?_toArray, List.getElem?_cons_succ, List.getElem?_cons_zero]; rfl) (by first | rfl | (rw [hops.out]; rfl)) ?_
  go_simp
  have hq4 := HBX.out _ (Below.refl _ W2).drew
  refine (compare53 _ _ xs ys _ hq4.1.1 hq4.2.1).mono ?_
  rw [← HR.out]
  rintro e w3 ⟨rfl, rfl⟩
  clear hq4
  try (refine ⟨(by first | exact (Below.refl _ _).drew | exact HBa.out), ?_⟩)
  refine wpPi_act (by rw [hops.out]; simp only [List.getElem?_toArray, List.getElem?_cons_succ, List.getElem?_cons_zero]; rfl) (by first | rfl | (rw [hops.out]; rfl)) ?_
  go_simp
  refine (compare54 _ _ _).mono ?_
  rw [← HQ.out]
  rintro e w4 ⟨rfl, rfl⟩
  try (refine ⟨(by first | exact (Below.refl _ _).drew | exact HBa.out), ?_⟩)
  refine wpPi_act (by rw [hops.out]; simp only [List.getElem?_toArray, List.getElem?_cons_succ, List.getElem?_cons_zero]; rfl) (by first | rfl | (rw [hops.out]; rfl)) ?_
  go_simp
  have HBa := Lib.hid (((Below.refl (w.heap.size + 2) W2).alloc (by simp [hsz]) (.cells #[.int .i64 r, .int .i64 q] 3)).drew)
  try (refine ⟨(by first | exact (Below.refl _ _).drew | exact HBa.out), ?_⟩)
  refine wpPi_act (by rw [hops.out]; simp only [List.getElem?_toArray, List.getElem?_cons_succ, List.getElem?_cons_zero]; rfl) (by first | rfl | (rw [hops.out]; rfl)) ?_
  go_simp
  obtain ⟨n0, n1⟩ := cell_new2 W2 (.int .i64 r) (.int .i64 q) 3
  rw [hsz] at n0 n1
  refine (or52 ⟨w.heap.size + 2, 0, none⟩ r q _ n0 n1).mono ?_
  rw [HR2.out]
  rintro e w5 ⟨rfl, rfl⟩
  try (refine ⟨(by first | exact (Below.refl _ _).drew | exact HBa.out), ?_⟩)
  iterate 1
    first | (refine wpPi_yield _ (by rw [hops.out]; simp only [List.getElem?_toArray, List.getElem?_cons_succ, List.getElem?_cons_zero]; rfl) (by first | rfl | (rw [hops.out]; rfl)) (fun w' hS => by have q1 := (HBX.out w' hS).1.2; have q2 := (HBX.out w' hS).2.2; go_simp; rfl) ?_; simp only [Act.put, List.setIfInBounds_toArray, List.set_cons_succ, List.set_cons_zero]) | (refine wpPi_skip (by rw [hops.out]; simp only [List.getElem?_toArray, List.getElem?_cons_succ, List.getElem?_cons_zero]; rfl) (by first | rfl | (rw [hops.out]; rfl)) ?_; simp only [Act.put, List.setIfInBounds_toArray, List.set_cons_succ, List.set_cons_zero])
  simp only [wpPi]
  go_wp2_with fail
  go_ret
  exact ⟨rfl, HB0.out.trans (HBa.out.mono (by omega : w.heap.size ≤ w.heap.size + 2))⟩
end
section
open Go Go.RowKit Go.Proofs
attribute [local go_sem] Oper.semAt_some
attribute [local irreducible] Calls

theorem cb_cases : ∀ l m : List UInt8, Lib.compareBytes l m = -1 ∨ Lib.compareBytes l m = 0 ∨ Lib.compareBytes l m = 1
  | [], [] => .inr (.inl rfl)
  | [], _ :: _ => .inl rfl
  | _ :: _, [] => .inr (.inr rfl)
  | a :: us, b :: vs => by
    unfold Lib.compareBytes
    split
    · exact .inl rfl
    · split
      · exact .inr (.inr rfl)
      · exact cb_cases us vs
theorem cb_refl : ∀ l : List UInt8, Lib.compareBytes l l = 0
  | [] => rfl
  | x :: l => by
    have : ¬ x < x := UInt8.lt_irrefl x
    unfold Lib.compareBytes
    rw [if_neg this, if_neg this]
    exact cb_refl l
theorem u8_tri {a b : UInt8} (h1 : ¬ a < b) (h2 : ¬ b < a) : a = b := by
  rw [UInt8.lt_iff_toNat_lt] at h1 h2
  exact UInt8.toNat_inj.1 (by omega)
theorem cb_zero : ∀ l m : List UInt8, Lib.compareBytes l m = 0 → l = m
  | [], [], _ => rfl
  | [], _ :: _, h => by cases h
  | _ :: _, [], h => by cases h
  | a :: us, b :: vs, h => by
    unfold Lib.compareBytes at h
    split at h
    · cases h
    · split at h
      · cases h
      · rename_i h1 h2
        rw [u8_tri h1 h2, cb_zero us vs h]
theorem cb_neg : ∀ l m : List UInt8, Lib.compareBytes m l = - Lib.compareBytes l m
  | [], [] => rfl
  | [], _ :: _ => rfl
  | _ :: _, [] => rfl
  | a :: us, b :: vs => by
    unfold Lib.compareBytes
    by_cases h1 : a < b
    · have h2 : ¬ b < a := by rw [UInt8.lt_iff_toNat_lt] at *; omega
      rw [if_neg h2, if_pos h1, if_pos h1]; rfl
    · by_cases h2 : b < a
      · rw [if_pos h2, if_neg h1, if_pos h2]
      · rw [if_neg h2, if_neg h1, if_neg h1, if_neg h2]
        exact cb_neg us vs
theorem cb_trans : ∀ l m k : List UInt8, Lib.compareBytes l m = -1 → Lib.compareBytes m k = -1 → Lib.compareBytes l k = -1
  | [], [], _, h, _ => by cases h
  | [], _ :: _, [], _, h => by cases h
  | [], _ :: _, _ :: _, _, _ => rfl
  | _ :: _, [], _, h, _ => by cases h
  | _ :: _, _ :: _, [], _, h => by cases h
  | a :: us, b :: vs, c :: ws, h1, h2 => by
    unfold Lib.compareBytes at h1 h2 ⊢
    by_cases x1 : a < b
    · by_cases x2 : b < c
      · rw [if_pos (by rw [UInt8.lt_iff_toNat_lt] at *; omega)]
      · rw [if_neg x2] at h2
        split at h2
        · cases h2
        · rename_i x3
          have := u8_tri x2 x3
          subst this
          rw [if_pos x1]
    · rw [if_neg x1] at h1
      split at h1
      · cases h1
      · rename_i x3
        have := u8_tri x1 x3
        subst this
        by_cases x2 : a < c
        · rw [if_pos x2]
        · rw [if_neg x2] at h2 ⊢
          split at h2
          · cases h2
          · rename_i x4
            rw [if_neg x4]
            exact cb_trans us vs ws h1 h2
/-- The order of outpoints. -/
def O (a b : List UInt8 × Int) : Int := if Lib.compareBytes a.1 b.1 = 0 then ordN a.2 b.2 else Lib.compareBytes a.1 b.1
theorem ordN_cases (n m : Int) : ordN n m = -1 ∧ n < m ∨ ordN n m = 0 ∧ n = m ∨ ordN n m = 1 ∧ m < n := by
  unfold ordN
  split
  · exact .inl ⟨rfl, by assumption⟩
  · split
    · exact .inr (.inr ⟨rfl, by assumption⟩)
    · exact .inr (.inl ⟨rfl, by omega⟩)
theorem O_cases (a b : List UInt8 × Int) : O a b = -1 ∨ O a b = 0 ∨ O a b = 1 := by
  unfold O
  split
  · rcases ordN_cases a.2 b.2 with h | h | h
    · exact .inl h.1
    · exact .inr (.inl h.1)
    · exact .inr (.inr h.1)
  · exact cb_cases _ _
theorem O_zero {a b : List UInt8 × Int} (h : O a b = 0) : a = b := by
  unfold O at h
  split at h
  · rename_i h0
    have h1 := cb_zero _ _ h0
    rcases ordN_cases a.2 b.2 with h2 | h2 | h2
    · omega
    · exact Prod.ext h1 h2.2
    · omega
  · rename_i h0; exact absurd h h0
theorem O_neg (a b : List UInt8 × Int) : O b a = - O a b := by
  unfold O
  have h1 := cb_neg a.1 b.1
  by_cases h0 : Lib.compareBytes a.1 b.1 = 0
  · rw [if_pos h0, if_pos (by omega)]
    rcases ordN_cases a.2 b.2 with h2 | h2 | h2 <;> rcases ordN_cases b.2 a.2 with h3 | h3 | h3 <;> omega
  · rw [if_neg h0, if_neg (by omega)]
    exact h1
theorem O_same {xs : List UInt8} {n m : Int} : O (xs, n) (xs, m) = ordN n m := by
  unfold O
  rw [if_pos (cb_refl _)]
theorem O_refl (a : List UInt8 × Int) : O a a = 0 := by
  have := O_neg a a; omega
theorem O_trans {a b c : List UInt8 × Int} (h1 : O a b = -1) (h2 : O b c = -1) : O a c = -1 := by
  unfold O at h1 h2 ⊢
  by_cases x1 : Lib.compareBytes a.1 b.1 = 0
  · have e1 := cb_zero _ _ x1
    rw [if_pos x1] at h1
    rw [e1]
    by_cases x2 : Lib.compareBytes b.1 c.1 = 0
    · rw [if_pos x2] at h2 ⊢
      rcases ordN_cases a.2 b.2 with h3 | h3 | h3 <;> rcases ordN_cases b.2 c.2 with h4 | h4 | h4 <;> rcases ordN_cases a.2 c.2 with h5 | h5 | h5 <;> omega
    · rw [if_neg x2] at h2 ⊢; exact h2
  · rw [if_neg x1] at h1
    by_cases x2 : Lib.compareBytes b.1 c.1 = 0
    · rw [← cb_zero _ _ x2, if_neg x1]; exact h1
    · rw [if_neg x2] at h2
      have := cb_trans _ _ _ h1 h2
      rw [if_neg (by omega)]; exact this
theorem O_tri (a b c : List UInt8 × Int) : (O a b = -1 ∧ O b c = -1 → O a c = -1) ∧ (O a b = 1 ∧ O b c = 1 → O a c = 1) ∧ (O a b = 0 → O a c = O b c) ∧ (O b c = 0 → O a c = O a b) := by
  refine ⟨fun h => O_trans h.1 h.2, fun h => ?_, fun h => by rw [O_zero h], fun h => by rw [← O_zero h]⟩
  have h1 := O_neg a b; have h2 := O_neg b c; have h3 := O_neg a c
  have := O_trans (a := c) (b := b) (c := a) (by omega) (by omega)
  omega
def pt (a : List UInt8 × Int) : List Value := bs a.1 ++ [.int .u32 a.2]
theorem cmp44 (xs ys : List UInt8) (n m R : Int) (w : World) (hx : xs.length = 32) (hy : ys.length = 32) (hR : O (xs, n) (ys, m) = R) : Calls Try.prog 44 #[.agg (bs xs ++ [Value.int .u32 n]).toArray, .agg (bs ys ++ [Value.int .u32 m]).toArray] w fun e w' => e = .returned (.int .i64 R) ∧ Below w.heap.size w w' := by
  subst hR
  exact tx15 xs ys n m w hx hy
theorem pt_len (xs : List UInt8) (n : Int) (hx : xs.length = 32) : (bs xs ++ [Value.int .u32 n]).length = 33 := by simp [hx]
theorem pt_32 (xs : List UInt8) (n : Int) (hx : xs.length = 32) : (bs xs ++ [Value.int .u32 n])[32]? = some (.int .u32 n) := by
  rw [List.getElem?_append_right (by simp [hx])]; simp [hx]
theorem pt_all (xs : List UInt8) (n : Int) (hx : xs.length = 32) : ((bs xs ++ [Value.int .u32 n]).drop 0).take 33 = bs xs ++ [Value.int .u32 n] := by
  rw [List.drop_zero, List.take_of_length_le (by rw [pt_len xs n hx]; exact Nat.le_refl _)]
theorem pt_h (xs : List UInt8) (n : Int) (hx : xs.length = 32) : ((bs xs ++ [Value.int .u32 n]).drop 0).take 32 = bs xs := by
  rw [List.drop_zero, take_pt _ _ hx]
theorem ag23' : aggr Try.prog 23 32 = true := by kernel_rfl
end
end Go.Proofs.Yteljmpoaggfliaa
