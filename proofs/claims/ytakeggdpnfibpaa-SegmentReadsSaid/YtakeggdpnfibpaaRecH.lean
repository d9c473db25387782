/- Contracts and words that the laws stand on (RecH). -/
import Derived.Test.YtakeggdpnfibpaaRecG0
set_option linter.unusedVariables false
set_option linter.unusedSimpArgs false
namespace Go.Proofs.Ytakeggdpnfibpaa
section
open Go Go.RowKit Go.Proofs
attribute [local irreducible] Calls

/-- W' has W's old blocks, but for those of K. -/
structure ChgP (K : Nat → Prop) (w w' : World) : Prop where
  os : w'.os = w.os
  tape : w'.tape = w.tape
  output : w'.output = w.output
  size : w.heap.size ≤ w'.heap.size
  block : ∀ k, k < w.heap.size → ¬ K k → w'.heap[k]? = w.heap[k]?
theorem ChgP.refl (K : Nat → Prop) (w : World) : ChgP K w w := ⟨rfl, rfl, rfl, Nat.le_refl _, fun _ _ _ => rfl⟩
theorem ChgP.drew {K : Nat → Prop} {w w1 : World} (h : ChgP K w w1) : ChgP K w w1.drew := ⟨h.os, h.tape, h.output, h.size, h.block⟩
theorem ChgP.setCell {K : Nat → Prop} {w w1 : World} (h : ChgP K w w1) {p : Addr} (hp : K p.block) (v : Value) : ChgP K w (w1.setCell p v) :=
  ⟨h.os, h.tape, h.output, by have := h.size; simp [World.setCell]; omega, fun k hk hn => (Below.heap_setCell w1 p v k (fun e => by subst e; exact hn hp)).trans (h.block k hk hn)⟩
theorem ChgP.below {B : Nat} {K : Nat → Prop} {w w' : World} (h : ChgP K w w') (hs : ∀ k, K k → B ≤ k) (hB : B ≤ w.heap.size) : Below B w w' :=
  ⟨h.os, h.tape, h.output, h.size, fun k hk => h.block k (by omega) (fun hm => by have := hs k hm; omega)⟩
/-- A payload that may be written over. -/
def SPay (K : Nat → Prop) (g : Nat) (pv : Value) (W : World) : Prop := ∃ A n c, pv = .slice A n c ∧ n ≤ 140737488355328 ∧ (A = none → n = 0) ∧ ∀ a, A = some a → ∃ h o' cs, a = ⟨h, o', none⟩ ∧ h ≠ g ∧ K h ∧ W.heap[h]? = some (.cells cs 5 (0, 0)) ∧ ∀ j, j < n → ∃ z, cs[o' + j]? = some (.int .u8 z)
/-- Records that may be written over. -/
def SP (K : Nat → Prop) (g o : Nat) (l : List Value) (W : World) : Prop := K g ∧ ∃ cs, W.heap[g]? = some (.cells cs 48 (0, 0)) ∧ ∀ (j : Nat) pv, l[j]? = some pv → (∃ k, cs[o + j * 2]? = some (.int .i64 k)) ∧ cs[o + j * 2 + 1]? = some pv ∧ SPay K g pv W
theorem SPay.same {K : Nat → Prop} {g : Nat} {pv : Value} {W W' : World} (h : SPay K g pv W) (hh : ∀ k, k ≠ g → W'.heap[k]? = W.heap[k]?) : SPay K g pv W' := by
  obtain ⟨A, n, c, h1, hl, h2, h3⟩ := h
  refine ⟨A, n, c, h1, hl, h2, fun a ha => ?_⟩
  obtain ⟨q, o', cs, g1, g2, g3, g4, g5⟩ := h3 a ha
  exact ⟨q, o', cs, g1, g2, g3, (hh q g2).trans g4, g5⟩
theorem SP.same {K : Nat → Prop} {g o : Nat} {l : List Value} {W W' : World} (h : SP K g o l W) (hh : ∀ k, K k → W'.heap[k]? = W.heap[k]?) : SP K g o l W' := by
  obtain ⟨h0, cs, h1, h2⟩ := h
  refine ⟨h0, cs, (hh g h0).trans h1, fun j pv hj => ?_⟩
  obtain ⟨hm, hp, A, n', c', rfl, ml, m2, m3⟩ := h2 j pv hj
  refine ⟨hm, hp, A, n', c', rfl, ml, m2, fun a ha => ?_⟩
  obtain ⟨r, p', es, rfl, r1, r2, r3, r4⟩ := m3 a ha
  exact ⟨r, p', es, rfl, r1, r2, (hh r r2).trans r3, r4⟩
theorem SP.drew {K : Nat → Prop} {g o : Nat} {l : List Value} {W : World} (h : SP K g o l W) : SP K g o l W.drew := h
theorem SP.kind {K : Nat → Prop} {g o : Nat} {l : List Value} {W : World} (h : SP K g o l W) {i : Nat} {pv : Value} (hi : l[i]? = some pv) : ∃ k : Int, W.cell? ⟨g, o + i * 2, none⟩ = some (.int .i64 k) := by
  obtain ⟨_, cs, h1, h2⟩ := h
  obtain ⟨⟨k, hk⟩, _⟩ := h2 i pv hi
  exact ⟨k, by rw [blk_cell h1]; exact hk⟩
theorem SP.pay {K : Nat → Prop} {g o : Nat} {l : List Value} {W : World} (h : SP K g o l W) {i : Nat} {pv : Value} (hi : l[i]? = some pv) : W.cell? ⟨g, o + i * 2 + 1, none⟩ = some pv := by
  obtain ⟨_, cs, h1, h2⟩ := h
  rw [blk_cell h1]; exact (h2 i pv hi).2.1
theorem SP.shape {K : Nat → Prop} {g o : Nat} {l : List Value} {W : World} (h : SP K g o l W) {i : Nat} {pv : Value} (hi : l[i]? = some pv) : ∃ A n c, pv = .slice A n c ∧ n ≤ 140737488355328 ∧ (n ≠ 0 → ∃ q o', A = some ⟨q, o', none⟩) := by
  obtain ⟨_, cs, h1, h2⟩ := h
  obtain ⟨A, n, c, rfl, gl, g2, g3⟩ := (h2 i pv hi).2.2
  refine ⟨A, n, c, rfl, gl, fun hn => ?_⟩
  cases A with
  | none => exact absurd (g2 rfl) hn
  | some a => obtain ⟨q, o', _, rfl, _⟩ := g3 a rfl; exact ⟨q, o', rfl⟩
theorem SP.byte {K : Nat → Prop} {g o : Nat} {l : List Value} {W : World} (h : SP K g o l W) {i q o' n c : Nat} (hi : l[i]? = some (.slice (some ⟨q, o', none⟩) n c)) {j : Nat} (hj : j < n) : ∃ z, W.cell? ⟨q, o' + j, none⟩ = some (.int .u8 z) := by
  obtain ⟨_, cs, h1, h2⟩ := h
  obtain ⟨A, n', c', e, gl, g2, g3⟩ := (h2 i _ hi).2.2
  injection e with e1 e2 e3
  subst e1 e2 e3
  obtain ⟨q', p', ds, e, k1, k2, k3, k4⟩ := g3 _ rfl
  injection e with e1 e2 _
  subst e1 e2
  obtain ⟨z, hz⟩ := k4 j hj
  exact ⟨z, by rw [blk_cell k3]; exact hz⟩
theorem SP.free {K : Nat → Prop} {g o : Nat} {l : List Value} {W : World} (h : SP K g o l W) (k : Nat) : W.frozen? ⟨g, k, none⟩ = false := by
  obtain ⟨_, cs, h1, h2⟩ := h
  exact blk_free h1 k
theorem SP.bfree {K : Nat → Prop} {g o : Nat} {l : List Value} {W : World} (h : SP K g o l W) {i q o' n c : Nat} (hi : l[i]? = some (.slice (some ⟨q, o', none⟩) n c)) (k : Nat) : W.frozen? ⟨q, k, none⟩ = false := by
  obtain ⟨_, cs, h1, h2⟩ := h
  obtain ⟨A, n', c', e, gl, g2, g3⟩ := (h2 i _ hi).2.2
  injection e with e1 e2 e3
  subst e1 e2 e3
  obtain ⟨q', p', ds, e, k1, k2, k3, k4⟩ := g3 _ rfl
  injection e with e1 e2 _
  subst e1 e2
  exact blk_free k3 k
theorem SP.setK {K : Nat → Prop} {g o : Nat} {l : List Value} {W : World} (h : SP K g o l W) (i : Nat) (k : Int) : SP K g o l (W.setCell ⟨g, o + i * 2, none⟩ (.int .i64 k)) := by
  obtain ⟨h0, cs, h1, h2⟩ := h
  refine ⟨h0, _, blk_set h1 _ _, fun j pv hj => ?_⟩
  obtain ⟨⟨m, hm⟩, hp, hs⟩ := h2 j pv hj
  refine ⟨?_, ?_, hs.same fun q hq => Below.heap_setCell W _ _ q hq⟩
  · by_cases e : j = i
    · subst e
      refine ⟨k, ?_⟩
      rw [Array.getElem?_setIfInBounds_self_of_lt]
      exact (Array.getElem?_eq_some_iff.1 hm).1
    · exact ⟨m, by rw [Array.getElem?_setIfInBounds_ne (by omega)]; exact hm⟩
  · rw [Array.getElem?_setIfInBounds_ne (by omega)]; exact hp
theorem SP.setB {K : Nat → Prop} {g o : Nat} {l : List Value} {W : World} (h : SP K g o l W) {i q o' n c : Nat} (hi : l[i]? = some (.slice (some ⟨q, o', none⟩) n c)) (j : Nat) (z : Int) : SP K g o l (W.setCell ⟨q, o' + j, none⟩ (.int .u8 z)) ∧ K q := by
  obtain ⟨h0, cs, h1, h2⟩ := h
  obtain ⟨A, n', c', e, gl, g2, g3⟩ := (h2 i _ hi).2.2
  injection e with e1 e2 e3
  subst e1 e2 e3
  obtain ⟨q', p', ds, e, k1, k2, k3, k4⟩ := g3 _ rfl
  injection e with e1 e2 _
  subst e1 e2
  refine ⟨⟨h0, cs, (Below.heap_setCell W _ _ g (fun e => k1 e.symm)).trans h1, fun j' pv hj => ?_⟩, k2⟩
  obtain ⟨hm, hp, A, n', c', rfl, ml, m2, m3⟩ := h2 j' pv hj
  refine ⟨hm, hp, A, n', c', rfl, ml, m2, fun a ha => ?_⟩
  obtain ⟨r, p', es, rfl, r1, r2, r3, r4⟩ := m3 a ha
  by_cases e : r = q
  · subst e
    rw [k3] at r3
    injection r3 with r3
    injection r3 with r3
    subst r3
    refine ⟨r, p', _, rfl, r1, r2, blk_set k3 _ _, fun j2 hj2 => ?_⟩
    obtain ⟨z2, hz2⟩ := r4 j2 hj2
    by_cases e : o' + j = p' + j2
    · exact ⟨z, by rw [e, Array.getElem?_setIfInBounds_self_of_lt]; exact (Array.getElem?_eq_some_iff.1 hz2).1⟩
    · exact ⟨z2, by rw [Array.getElem?_setIfInBounds_ne e]; exact hz2⟩
  · exact ⟨r, p', es, rfl, r1, r2, (Below.heap_setCell W _ _ r e).trans r3, r4⟩
theorem SPay.of_own {K : Nat → Prop} {B g : Nat} {v : Value} {p : List UInt8} {W : World} {cs : Array Value} (ho : W.ownsRow B 5 1 v p.length (bs p)) (hpl : p.length ≤ 140737488355328) (hg : W.heap[g]? = some (.cells cs 48 (0, 0))) (hK : ∀ k, v.ownBlock = some k → K k) : SPay K g v W := by
  have hne := own_ne ho hg (by decide)
  rcases ho.2 with ⟨rfl, he⟩ | ⟨q, cap, cur, rfl, h1, h2, h3, h4, h5, h6⟩
  · exact ⟨none, p.length, 0, by rw [he], hpl, fun _ => he, fun a ha => by cases ha⟩
  · refine ⟨_, _, _, rfl, hpl, (fun e => by cases e), fun a ha => ?_⟩
    injection ha with ha
    subst ha
    refine ⟨q, 0, cur, rfl, fun e => hne (by rw [e]; rfl), hK q rfl, h2, fun j hj => ?_⟩
    have e1 : cur.toList[j]? = (bs p)[j]? := by rw [← h6, List.getElem?_take_of_lt (by omega)]
    have e2 : (bs p)[j]? = some (.int .u8 (p[j].toNat : Int)) := by simp [bs, hj]
    exact ⟨(p[j].toNat : Int), by rw [Nat.zero_add, ← Array.getElem?_toList, e1, e2]⟩
theorem SP.of_rows {W : World} {B : Nat} {u : Value} {ys : List RecI} (h : W.ownsRow B 48 2 u ys.length (rcells ys)) (hp : Pays B ys W) (hq : ∀ y ∈ ys, y.p.length ≤ 140737488355328) (h0 : ys ≠ []) : ∃ g c, u = .slice (some ⟨g, 0, none⟩) (ys.map (·.v)).length c ∧ SP (fun k => B ≤ k ∧ k < W.heap.size) g 0 (ys.map (·.v)) W := by
  have hh := h
  rcases h.2 with ⟨rfl, he⟩ | ⟨g, cap, cur, rfl, h1, h2, h3, h4, h5, h6⟩
  · exact absurd (by cases ys with | nil => rfl | cons y l => simp at he) h0
  · refine ⟨g, cap, by simp, ⟨h1, blk_lt h2⟩, cur, h2, fun j pv hj => ?_⟩
    rw [List.getElem?_map, Option.map_eq_some_iff] at hj
    obtain ⟨y, hy, rfl⟩ := hj
    obtain ⟨e1, e2⟩ := rcells_get ys j y hy
    have hlen : (rcells ys).length = ys.length * 2 := h.1
    have key : ∀ q v, (rcells ys)[q]? = some v → cur[q]? = some v := fun q v hq => by
      have hq1 := (List.getElem?_eq_some_iff.1 hq).1
      rw [← h6, List.getElem?_take_of_lt (by omega)] at hq
      rw [← Array.getElem?_toList]; exact hq
    refine ⟨⟨_, by rw [Nat.zero_add, Nat.mul_comm]; exact key _ _ e1⟩, by rw [Nat.zero_add, Nat.mul_comm]; exact key _ _ e2, ?_⟩
    have ho := hp y (List.mem_of_getElem? hy)
    exact SPay.of_own ho (hq y (List.mem_of_getElem? hy)) h2 (fun k hk => ho.lt k hk)
end
end Go.Proofs.Ytakeggdpnfibpaa
