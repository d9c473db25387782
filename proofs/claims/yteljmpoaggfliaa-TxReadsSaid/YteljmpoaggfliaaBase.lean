/- Contracts and words that the laws stand on (Base). -/
import Derived.Test.YteljmpoaggfliaaProg
import Derived.WalkKit
import Derived.Outline
import Derived.WalkSpells
import Derived.WalkLawsBesides
import Derived.Below
import Derived.Lib.SlParts
import Derived.OwnWalk
import Derived.Deep.AppendLies
import Derived.Maps.AppendAt
import Derived.RegionTactic
import Derived.Laws.BytesArg
import Derived.Laws.IdiomStrings
import Derived.Deep.LoopGhost
import Derived.Deep.Draws
import Derived.Lib.Hide
import Derived.KernelRfl
import Derived.OrdersHeld
import Derived.RangeFuncNested
import Derived.WalkMore
import Derived.OwnWalkIn
import Derived.Deep.MidRow
import Derived.Laws.MakeOwn
import Derived.RangeFuncBound
import Derived.RangeFuncCalls
import Derived.RangeFuncLeaves
import Derived.TacticsInMore
import Derived.LoopNIn
import Derived.LoopIn
import Derived.OrdersIn
set_option linter.unusedVariables false
set_option linter.unusedSimpArgs false
namespace Go.Proofs.Yteljmpoaggfliaa
section
open Go.RowKit Go.Proofs

/-- The old blocks outside S are as they were. -/
structure Chg (S : List Nat) (w w' : World) : Prop where
  os : w'.os = w.os
  tape : w'.tape = w.tape
  output : w'.output = w.output
  size : w.heap.size ≤ w'.heap.size
  block : ∀ k, k < w.heap.size → k ∉ S → w'.heap[k]? = w.heap[k]?

theorem Chg.refl (S : List Nat) (w : World) : Chg S w w := ⟨rfl, rfl, rfl, Nat.le_refl _, fun _ _ _ => rfl⟩
theorem Chg.trans {S S' : List Nat} {w w1 w2 : World} (h : Chg S w w1) (h' : Chg S' w1 w2) (hs : ∀ k, k ∈ S' → k ∈ S ∨ w.heap.size ≤ k) : Chg S w w2 :=
  ⟨h'.os.trans h.os, h'.tape.trans h.tape, h'.output.trans h.output, Nat.le_trans h.size h'.size, fun k hk hn =>
    (h'.block k (Nat.lt_of_lt_of_le hk h.size) (fun hm => by rcases hs k hm with h1 | h1; exact hn h1; omega)).trans (h.block k hk hn)⟩
theorem Chg.mono {S S' : List Nat} {w w' : World} (h : Chg S w w') (hs : ∀ k, k ∈ S → k ∈ S' ∨ w.heap.size ≤ k) : Chg S' w w' :=
  ⟨h.os, h.tape, h.output, h.size, fun k hk hn => h.block k hk (fun hm => by rcases hs k hm with h1 | h1; exact hn h1; omega)⟩
theorem Chg.alloc {S : List Nat} {w w1 : World} (h : Chg S w w1) (o : Obj) : Chg S w (w1.alloc o) :=
  ⟨h.os, h.tape, h.output, by have := h.size; simp; omega, fun k hk hn => (Below.heap_alloc w1 o k (Nat.lt_of_lt_of_le hk h.size)).trans (h.block k hk hn)⟩
theorem Chg.drew {S : List Nat} {w w1 : World} (h : Chg S w w1) : Chg S w w1.drew := ⟨h.os, h.tape, h.output, h.size, h.block⟩
theorem Chg.drewN {S : List Nat} {w w1 : World} (h : Chg S w w1) (n : Nat) : Chg S w (w1.drewN n) := ⟨h.os, h.tape, h.output, h.size, h.block⟩
theorem Chg.setCell {S : List Nat} {w w1 : World} (h : Chg S w w1) {p : Addr} (hp : p.block ∈ S ∨ w.heap.size ≤ p.block) (v : Value) : Chg S w (w1.setCell p v) :=
  ⟨h.os, h.tape, h.output, by have := h.size; simp [World.setCell]; omega, fun k hk hn => (Below.heap_setCell w1 p v k (fun e => by subst e; rcases hp with h1 | h1; exact hn h1; omega)).trans (h.block k hk hn)⟩
theorem Chg.grown {S : List Nat} {w w1 w2 : World} (h : Chg S w w1) {row : Option Nat} (hg : w1.grownBy w2 row) (hr : ∀ k, row = some k → k ∈ S ∨ w.heap.size ≤ k) : Chg S w w2 :=
  ⟨hg.os.trans h.os, hg.tape.trans h.tape, hg.output.trans h.output, Nat.le_trans h.size hg.size, fun k hk hn =>
    (hg.block k (Nat.lt_of_lt_of_le hk h.size) (fun e => by rcases hr k e.symm with h1 | h1; exact hn h1; omega)).trans (h.block k hk hn)⟩
theorem Chg.below {B : Nat} {S : List Nat} {w w' : World} (h : Chg S w w') (hs : ∀ k, k ∈ S → B ≤ k) (hB : B ≤ w.heap.size) : Below B w w' :=
  ⟨h.os, h.tape, h.output, h.size, fun k hk => h.block k (by omega) (fun hm => by have := hs k hm; omega)⟩
theorem Chg.of_belowS (S : List Nat) {w w' : World} (h : Below w.heap.size w w') : Chg S w w' := ⟨h.os, h.tape, h.output, h.size, fun k hk _ => h.block k hk⟩
theorem Chg.of_below {w w' : World} (h : Below w.heap.size w w') : Chg [] w w' := ⟨h.os, h.tape, h.output, h.size, fun k hk _ => h.block k hk⟩
theorem Chg.cell {S : List Nat} {w w' : World} (h : Chg S w w') {a : Addr} {v : Value} (hc : w.cell? a = some v) (hn : a.block ∉ S) : w'.cell? a = some v :=
  (World.cell?_of_block (h.block a.block (World.block_lt_of_cell? w a hc) hn)).trans hc
theorem Chg.blk {S : List Nat} {w w' : World} (h : Chg S w w') {k : Nat} {o : Obj} (hc : w.heap[k]? = some o) (hn : k ∉ S) : w'.heap[k]? = some o :=
  (h.block k (Array.getElem?_eq_some_iff.1 hc).1 hn).trans hc

/-- The bytes' cells. -/
def bs (xs : List UInt8) : List Value := xs.map fun x => Value.int .u8 (x.toNat : Int)
@[simp] theorem bs_length (xs : List UInt8) : (bs xs).length = xs.length := by simp [bs]
theorem bs_append (xs ys : List UInt8) : bs (xs ++ ys) = bs xs ++ bs ys := by simp [bs]
theorem bs_one (u : Value) (xs : List UInt8) (h : u ∈ bs xs) : u.oneCell' = true := by
  simp only [bs, List.mem_map] at h; obtain ⟨q, _, rfl⟩ := h; rfl

/-- A pen at block p, its slice v, its bytes xs. -/
structure IsPen (w : World) (p : Nat) (v : Value) (xs : List UInt8) : Prop where
  blk : w.heap[p]? = some (.cells #[v] 96 (0, 0))
  row : w.ownsRow 0 5 1 v xs.length (bs xs)

theorem blk_cell {w : World} {p : Nat} {cs : Array Value} {t : TypeId} {fr : Nat × Nat} (h : w.heap[p]? = some (.cells cs t fr)) (i : Nat) : w.cell? ⟨p, i, none⟩ = cs[i]? := cell_of_row w p i cs t fr h
theorem blk_free {w : World} {p : Nat} {cs : Array Value} {t : TypeId} (h : w.heap[p]? = some (.cells cs t (0, 0))) (i : Nat) : w.frozen? ⟨p, i, none⟩ = false := by simp [World.frozen?, h]
theorem blk_lt {w : World} {p : Nat} {o : Obj} (h : w.heap[p]? = some o) : p < w.heap.size := (Array.getElem?_eq_some_iff.1 h).1
theorem blk_set {w : World} {p : Nat} {cs : Array Value} {t : TypeId} (h : w.heap[p]? = some (.cells cs t (0, 0))) (i : Nat) (u : Value) : (w.setCell ⟨p, i, none⟩ u).heap[p]? = some (.cells (cs.setIfInBounds i u) t (0, 0)) := by
  simp [World.setCell, Array.getElem?_modify, h]

theorem own_ne {w : World} {base : Nat} {e t : TypeId} {size n g : Nat} {v : Value} {xs : List Value} {cs : Array Value} {fr : Nat × Nat} (h : w.ownsRow base e size v n xs) (hg : w.heap[g]? = some (.cells cs t fr)) (hne : e ≠ t) : v.ownBlock ≠ some g := by
  rcases h.2 with ⟨rfl, _⟩ | ⟨g', cap, cur, rfl, _, hh, _⟩
  · simp [Value.ownBlock]
  · intro he
    have : g' = g := by simpa [Value.ownBlock] using he
    subst this
    rw [hh] at hg
    injection hg with hg
    injection hg with _ ht
    exact hne ht

theorem own_kept_setCell {w : World} {base : Nat} {e : TypeId} {size n : Nat} {v : Value} {xs : List Value} (h : w.ownsRow base e size v n xs) {p : Addr} (hp : v.ownBlock ≠ some p.block) (u : Value) : (w.setCell p u).ownsRow base e size v n xs := by
  refine h.kept (row := some p.block) ⟨rfl, rfl, rfl, by simp [World.setCell], fun k _ hne => Below.heap_setCell w p u k (fun e => by subst e; exact hne rfl)⟩ (.inr hp)

/-- Where a slice lies behind an append: where it lay, or in a new block. -/
def Nx (w : World) (v v' : Value) : Prop := v'.ownBlock = v.ownBlock ∨ ∃ g, v'.ownBlock = some g ∧ w.heap.size ≤ g
theorem Nx.refl (w : World) (v : Value) : Nx w v v := .inl rfl
theorem Nx.trans {w w1 : World} {v v1 v2 : Value} (h : Nx w v v1) (h' : Nx w1 v1 v2) (hs : w.heap.size ≤ w1.heap.size) : Nx w v v2 := by
  rcases h' with e | ⟨g, e, hg⟩
  · rcases h with e' | ⟨g, e', hg⟩
    · exact .inl (e.trans e')
    · exact .inr ⟨g, e.trans e', hg⟩
  · exact .inr ⟨g, e, Nat.le_trans hs hg⟩
theorem Nx.mem {w : World} {v v' : Value} (h : Nx w v v') {S : List Nat} (hv : ∀ k, v.ownBlock = some k → k ∈ S) : ∀ k, v'.ownBlock = some k → k ∈ S ∨ w.heap.size ≤ k := by
  intro k hk
  rcases h with e | ⟨g, e, hg⟩
  · exact .inl (hv k (e ▸ hk))
  · rw [e] at hk; injection hk with hk; subst hk; exact .inr hg

section
variable {P : Program} {ops : Array Oper} {rest : List Oper} {o : Oper} {a : Act} {Q : Exit → Act → World → Prop}

/-- append(v, y) onto an owned row of one-cell elements; the world is 'W.alloc' of the one-cell box. -/
theorem wpl_push {W : World} (base : Nat) (hgd : o.guard = none) (s x : Operand) (t e : TypeId) (z : Value) (bytes : Nat)
    (ho : o.op = .call { callee := .builtin .append, args := #[s, x], argTypes := #[t, t] })
    (ht : P.underlying t = some (.slice e)) (hinfo : (P.info? e).map (fun i => (i.zero, i.size, i.bytes)) = some (some z, 1, bytes)) (hz : z.cells.size = 1) (hb0 : 0 < bytes)
    (v : Value) (xs : List Value) (y : Value) (hs : a.eval s = v) (hx : a.eval x = .slice (some ⟨W.heap.size, 0, none⟩) 1 1) (h1 : y.oneCell' = true)
    (HO : W.ownsRow base e 1 v xs.length xs) (hbase : base ≤ W.heap.size) (hl : (xs.length + 1) * bytes ≤ 140737488355328)
    (h : ∀ v1 w1, w1.ownsRow base e 1 v1 (xs ++ [y]).length (xs ++ [y]) → W.grownBy w1 v.ownBlock → Nx W v v1 → wpList P ops Q rest (a.put o.dst v1) w1) :
    wpList P ops Q (o :: rest) a (W.alloc (.cells #[y] e)) := by
  obtain ⟨i0, hi, hzz⟩ := Option.map_eq_some_iff.1 hinfo
  simp only [Prod.mk.injEq] at hzz
  obtain ⟨hz0, hz1, hz2⟩ := hzz
  have hlen : xs.length + 1 ≤ 140737488355328 := Nat.le_trans (Nat.le_mul_of_pos_right _ hb0) hl
  refine wpList_append_own_at (W.alloc (.cells #[y] e)) hgd s x t ho base e i0 z 1 bytes ht hi hz0 hz1 hz2 hz (by omega) v xs.length xs hs (HO.alloc _) ⟨W.heap.size, 0, none⟩ 1 1 [y] hx rfl
    (World.news_of_block (cs := #[y]) (t := e) (fr := (0, 0)) (heap_alloc_new W _)) (by simpa using h1) (by simp only [maxLen]; omega) hl (by simp; omega) ?_
  intro v1 w1 hown hg _ hat
  refine h v1 w1 (by simpa using hown) (World.grownBy.trans (World.grownBy_alloc W _ _) hg) ?_
  rcases hat with hat | hat
  · exact .inl hat
  · exact .inr ⟨_, hat, by simp⟩
end

theorem own_slice {w : World} {base n : Nat} {e : TypeId} {size : Nat} {v : Value} {xs : List Value} (h : w.ownsRow base e size v n xs) : ∃ A c, v = .slice A n c := by
  rcases h.2 with ⟨rfl, rfl⟩ | ⟨g, cap, cur, rfl, _⟩
  · exact ⟨none, 0, rfl⟩
  · exact ⟨_, cap, rfl⟩
theorem IsPen.ne {w : World} {p : Nat} {v : Value} {xs : List UInt8} (h : IsPen w p v xs) : v.ownBlock ≠ some p := own_ne h.row h.blk (by decide)
/-- A pen's slice has been appended to, and is stored back. -/
theorem IsPen.step {w w1 : World} {p : Nat} {v v1 : Value} {xs ys : List UInt8} (h : IsPen w p v xs) (hg : w.grownBy w1 v.ownBlock) (hown : w1.ownsRow 0 5 1 v1 ys.length (bs ys)) :
    IsPen (w1.setCell ⟨p, 0, none⟩ v1) p v1 ys := by
  have hb1 : w1.heap[p]? = some (.cells #[v] 96 (0, 0)) := (hg.block p (blk_lt h.blk) (fun e => h.ne e.symm)).trans h.blk
  exact ⟨by simpa using blk_set hb1 0 v1, own_kept_setCell hown (own_ne hown hb1 (by decide)) v1⟩

/-! bytes that are read -/
/-- The value v is a slice of the bytes l (nil: no byte). -/
def HB (w : World) (v : Value) (l : List UInt8) : Prop :=
  ∃ (p : Option Addr) (cap : Nat), v = .slice p l.length cap ∧ l.length ≤ cap ∧ (p = none → l = []) ∧ ∀ a, p = some a → ∀ (i : Nat) x, l[i]? = some x → w.cell? (a.add i) = some (.int .u8 (x.toNat : Int))
theorem HB.holds {w : World} {v : Value} {l : List UInt8} (h : HB w v l) : Lib.HoldsBytes w v l := by
  obtain ⟨p, c, e, _, h1, h2⟩ := h
  exact ⟨p, c, e, h1, h2⟩
theorem blk_of_add (a : Addr) (n : Nat) : (a.add n).block = a.block := by unfold Addr.add; split <;> rfl
theorem add_of_add (a : Addr) (i j : Nat) : (a.add i).add j = a.add (i + j) := by
  unfold Addr.add
  by_cases hi : i = 0 <;> by_cases hj : j = 0 <;> simp [hi, hj, Nat.add_assoc]
theorem HB.shape {w : World} {v : Value} {xs : List UInt8} (h : HB w v xs) : ∃ A c, v = .slice A xs.length c ∧ xs.length ≤ c := by
  obtain ⟨p, c, e, h0, _⟩ := h; exact ⟨p, c, e, h0⟩
theorem HB.nil (w : World) (A : Option Addr) (c : Nat) : HB w (.slice A 0 c) [] := ⟨A, c, rfl, Nat.zero_le _, fun _ => rfl, fun _ _ i x h => by simp at h⟩
theorem HB.chg {S : List Nat} {w w' : World} {v : Value} {xs : List UInt8} (h : HB w v xs) (hc : Chg S w w') (hn : ∀ k, v.ownBlock = some k → k ∉ S) : HB w' v xs := by
  obtain ⟨p, c, rfl, h0, h1, h2⟩ := h
  refine ⟨p, c, rfl, h0, h1, fun a ha i x hx => hc.cell (h2 a ha i x hx) ?_⟩
  rw [blk_of_add]
  subst ha
  exact hn _ rfl
theorem HB.of_own {w : World} {base : Nat} {e : TypeId} {v : Value} {xs : List UInt8} (h : w.ownsRow base e 1 v xs.length (bs xs)) : HB w v xs := by
  rcases h.2 with ⟨rfl, hn⟩ | ⟨g, cap, cur, rfl, _, _, hnc, _⟩
  · obtain rfl := List.eq_nil_of_length_eq_zero hn
    exact HB.nil _ _ _
  · refine ⟨_, cap, rfl, hnc, (fun e => by cases e), fun a ha i x hx => ?_⟩
    injection ha with ha
    subst ha
    exact h.cells (g := g) rfl i _ (by simp [bs, hx])
theorem HB.lt {w : World} {v : Value} {xs : List UInt8} (h : HB w v xs) (h0 : xs ≠ []) : ∃ k, v.ownBlock = some k ∧ k < w.heap.size := by
  obtain ⟨p, c, rfl, _, h1, h2⟩ := h
  rcases p with _ | a
  · exact absurd (h1 rfl) h0
  · refine ⟨a.block, rfl, ?_⟩
    have := World.block_lt_of_cell? w _ (h2 a rfl 0 (xs[0]'(List.length_pos_iff.2 h0)) (by simp))
    rwa [blk_of_add] at this
/-- A cut's address. -/
def cutA (A : Option Addr) (c k : Nat) : Option Addr := if c = k then A else A.map (·.add k)
theorem cutA_block (A : Option Addr) (c k n m n' m' : Nat) : (Value.slice (cutA A c k) n m).ownBlock = (Value.slice A n' m').ownBlock := by
  unfold cutA
  split
  · cases A <;> rfl
  · cases A with
    | none => rfl
    | some a => simp [Value.ownBlock, blk_of_add]
theorem HB.cut {w : World} {A : Option Addr} {n c a b : Nat} {xs : List UInt8} (h : HB w (.slice A n c) xs) (hab : a ≤ b) (hb : b ≤ n) : HB w (.slice (cutA A c a) (b - a) (c - a)) ((xs.drop a).take (b - a)) := by
  obtain ⟨p, c', e, h0, h1, h2⟩ := h
  injection e with e1 e2 e3
  subst e1 e2 e3
  have hl : ((xs.drop a).take (b - a)).length = b - a := by simp; omega
  refine ⟨cutA A c a, c - a, by rw [hl], by rw [hl]; omega, fun hn => ?_, fun ad ha i x hx => ?_⟩
  · unfold cutA at hn
    by_cases hc : c = a
    · rw [if_pos hc] at hn
      rw [h1 hn]; simp
    · rw [if_neg hc] at hn
      cases A with
      | none => rw [h1 rfl]; simp
      | some a => cases hn
  · have hi := (List.getElem?_eq_some_iff.1 hx).1
    rw [hl] at hi
    unfold cutA at ha
    rw [if_neg (by omega)] at ha
    cases A with
    | none => cases ha
    | some a0 =>
      injection ha with ha
      subst ha
      rw [add_of_add]
      refine h2 a0 rfl (a + i) x ?_
      rw [List.getElem?_take_of_lt hi] at hx
      simpa using hx
theorem HB.drop {w : World} {A : Option Addr} {n c a : Nat} {xs : List UInt8} (h : HB w (.slice A n c) xs) (ha : a ≤ n) : HB w (.slice (cutA A c a) (n - a) (c - a)) (xs.drop a) := by
  have hl : xs.length = n := by
    obtain ⟨p, c', e, _⟩ := h
    injection e with e1 e2 e3
    exact e2.symm
  have := h.cut ha (Nat.le_refl n)
  rwa [List.take_of_length_le (by simp; omega)] at this
theorem HB.take {w : World} {A : Option Addr} {n c b : Nat} {xs : List UInt8} (h : HB w (.slice A n c) xs) (hb : b ≤ n) : HB w (.slice A b c) (xs.take b) := by
  obtain ⟨p, c', e, h0, h1, h2⟩ := h
  injection e with e1 e2 e3
  subst e1 e2 e3
  have hl : (xs.take b).length = b := by simp; omega
  refine ⟨A, c, by rw [hl], by omega, fun hn => by rw [h1 hn]; simp, fun ad ha i x hx => h2 ad ha i x ?_⟩
  have hi := (List.getElem?_eq_some_iff.1 hx).1
  rw [hl] at hi
  rwa [List.getElem?_take_of_lt hi] at hx
theorem HB.at_ {w : World} {A : Option Addr} {n c i : Nat} {xs : List UInt8} (h : HB w (.slice A n c) xs) (hi : i < n) (hi' : i < xs.length) : ∃ a, A = some a ∧ w.cell? (a.add i) = some (.int .u8 (xs[i].toNat : Int)) := by
  obtain ⟨p, c', e, h0, h1, h2⟩ := h
  injection e with e1 e2 e3
  subst e1 e2 e3
  cases A with
  | none => rw [h1 rfl] at hi'; simp at hi'
  | some a => exact ⟨a, rfl, h2 a rfl i _ (by simp)⟩

theorem own_block {w w' : World} {base : Nat} {e : TypeId} {size n : Nat} {v : Value} {xs : List Value} (h : w.ownsRow base e size v n xs) (hb : ∀ k, v.ownBlock = some k → w'.heap[k]? = w.heap[k]?) : w'.ownsRow base e size v n xs := by
  refine ⟨h.1, ?_⟩
  rcases h.2 with hn | ⟨g, cap, cur, rfl, hg, hh, rest⟩
  · exact .inl hn
  · exact .inr ⟨g, cap, cur, rfl, hg, (hb g rfl).trans hh, rest⟩
theorem own_lt {w : World} {base : Nat} {e : TypeId} {size n : Nat} {v : Value} {xs : List Value} (h : w.ownsRow base e size v n xs) (k : Nat) (hk : v.ownBlock = some k) : k < w.heap.size := (h.lt k hk).2
theorem own_base {w : World} {base : Nat} {e : TypeId} {size n : Nat} {v : Value} {xs : List Value} (h : w.ownsRow base e size v n xs) {b : Nat} (hb : ∀ k, v.ownBlock = some k → b ≤ k) : w.ownsRow b e size v n xs := by
  refine ⟨h.1, ?_⟩
  rcases h.2 with hn | ⟨g, cap, cur, rfl, hg, rest⟩
  · exact .inl hn
  · exact .inr ⟨g, cap, cur, rfl, hb g rfl, rest⟩
theorem own_chg {S : List Nat} {w w' : World} {base : Nat} {e : TypeId} {size n : Nat} {v : Value} {xs : List Value} (h : w.ownsRow base e size v n xs) (hc : Chg S w w') (hn : ∀ k, v.ownBlock = some k → k ∉ S) : w'.ownsRow base e size v n xs :=
  own_block h fun k hk => hc.block k (own_lt h k hk) (hn k hk)
theorem IsPen.chg {S : List Nat} {w w' : World} {p : Nat} {v : Value} {xs : List UInt8} (h : IsPen w p v xs) (hc : Chg S w w') (hp : p ∉ S) (hv : ∀ k, v.ownBlock = some k → k ∉ S) : IsPen w' p v xs :=
  ⟨hc.blk h.blk hp, own_chg h.row hc hv⟩
theorem IsPen.below {w w' : World} {p : Nat} {v : Value} {xs : List UInt8} (h : IsPen w p v xs) (hc : Below w.heap.size w w') : IsPen w' p v xs :=
  h.chg (Chg.of_below hc) (by simp) (by simp)
theorem IsPen.drew {w : World} {p : Nat} {v : Value} {xs : List UInt8} (h : IsPen w p v xs) : IsPen w.drew p v xs := ⟨h.blk, h.row⟩
theorem HB.below {w w' : World} {v : Value} {xs : List UInt8} (h : HB w v xs) (hc : Below w.heap.size w w') : HB w' v xs := h.chg (Chg.of_below hc) (by simp)
theorem HB.drew {w : World} {v : Value} {xs : List UInt8} (h : HB w v xs) : HB w.drew v xs := h
theorem HB.drewN {w : World} {v : Value} {xs : List UInt8} (h : HB w v xs) (n : Nat) : HB (w.drewN n) v xs := h.chg (S := []) ((Chg.refl _ _).drewN n) (by simp)
section
variable {P : Program} (w : World)
theorem run_append_of_nil (base : Nat) (t ty e : TypeId) (i : TypeInfo) (size : Nat) (ht : P.underlying t = some (.slice e)) (hi : P.info? e = some i)
    (v : Value) (n : Nat) (xs : List Value) (hown : w.ownsRow base e size v n xs) (c : Nat) : (Builtin.append_ #[t, t] ty #[v, .slice none 0 c]).run P w = .ok v w := by
  rcases hown.2 with ⟨rfl, rfl⟩ | ⟨g, cap, cur, rfl, _, _, hnc, _⟩
  · simp [Builtin.append_, run_underlying ht, sizeOf, typeInfo, hi, Builtin.lenOf, Builtin.firstCells]
  · simp [Builtin.append_, run_underlying ht, sizeOf, typeInfo, hi, Builtin.lenOf, Builtin.firstCells, hnc, storeCells]

/-- append(v, x...), v an owned row, x bytes that are read. -/
theorem run_pushes (base : Nat) (t ty e : TypeId) (ht : P.underlying t = some (.slice e)) (hinfo : (P.info? e).map (fun i => (i.zero, i.size, i.bytes)) = some (some (.int .u8 0), 1, 1))
    (v : Value) (xs ys : List UInt8) (u : Value) (hown : w.ownsRow base e 1 v xs.length (bs xs)) (hr : HB w u ys) (hl : xs.length + ys.length ≤ 140737488355328) (hbase : base ≤ w.heap.size) :
    ∃ v' w', (Builtin.append_ #[t, t] ty #[v, u]).run P w = .ok v' w' ∧ w'.ownsRow base e 1 v' (xs ++ ys).length (bs (xs ++ ys)) ∧ w.grownBy w' v.ownBlock ∧ Nx w v v' := by
  obtain ⟨i0, hi, hzz⟩ := Option.map_eq_some_iff.1 hinfo
  simp only [Prod.mk.injEq] at hzz
  obtain ⟨hz0, hz1, hz2⟩ := hzz
  obtain ⟨p, c, rfl, _, h1, h2⟩ := hr
  rcases p with _ | ad
  · obtain rfl := h1 rfl
    exact ⟨v, w, run_append_of_nil w base t ty e i0 1 ht hi v _ _ hown c, by simpa using hown, World.grownBy.refl w _, .inl rfl⟩
  · obtain ⟨v', w', hrun, a2, a3, _, a5⟩ := run_append_own_at (P := P) w base t ty e i0 (.int .u8 0) 1 1 ht hi hz0 hz1 hz2 rfl (by omega) v xs.length (bs xs) hown ad ys.length c (bs ys) (by simp)
      (fun j u hu => by
        simp only [bs, List.getElem?_map, Option.map_eq_some_iff] at hu
        obtain ⟨x, hx, rfl⟩ := hu
        exact h2 ad rfl j x hx) (fun u hu => bs_one u ys hu) (by simp only [maxLen]; omega) (by omega) hbase
    refine ⟨v', w', hrun, by simpa [bs_append] using a2, a3, ?_⟩
    rcases a5 with a5 | a5
    · exact .inl a5
    · exact .inr ⟨_, a5, Nat.le_refl _⟩

theorem wp_pushes {o : Oper} {a : Act} {K : Act → World → Prop} {Q : Exit → Act → World → Prop} (s x : Operand) (t : TypeId)
    (ho : o.op = .call { callee := .builtin .append, args := #[s, x], argTypes := #[t, t] })
    (base : Nat) (e : TypeId) (ht : P.underlying t = some (.slice e)) (hinfo : (P.info? e).map (fun i => (i.zero, i.size, i.bytes)) = some (some (.int .u8 0), 1, 1))
    (v : Value) (xs ys : List UInt8) (u : Value) (hs : a.eval s = v) (hx : a.eval x = u) (hown : w.ownsRow base e 1 v xs.length (bs xs)) (hr : HB w u ys) (hl : xs.length + ys.length ≤ 140737488355328) (hbase : base ≤ w.heap.size)
    (h : ∀ v' w', w'.ownsRow base e 1 v' (xs ++ ys).length (bs (xs ++ ys)) → w.grownBy w' v.ownBlock → Nx w v v' → K (a.put o.dst v') w') : o.wp P a w K Q := by
  obtain ⟨v', w', hrun, h2, h3, h4⟩ := run_pushes (P := P) w base t o.type e ht hinfo v xs ys u hown hr hl hbase
  unfold Oper.wp execOp
  simp only [ho, resolve, invoke, builtin, Sem.run_bind, Sem.run_pure, Result.andThen_ok, List.map_toArray, List.map_cons, List.map_nil, hs, hx, hrun]
  exact h v' w' h2 h3 h4

theorem wpl_pushes {ops : Array Oper} {rest : List Oper} {o : Oper} {a : Act} {Q : Exit → Act → World → Prop} (hgd : o.guard = none) (s x : Operand) (t : TypeId)
    (ho : o.op = .call { callee := .builtin .append, args := #[s, x], argTypes := #[t, t] })
    (base : Nat) (e : TypeId) (ht : P.underlying t = some (.slice e)) (hinfo : (P.info? e).map (fun i => (i.zero, i.size, i.bytes)) = some (some (.int .u8 0), 1, 1))
    (v : Value) (xs ys : List UInt8) (u : Value) (hs : a.eval s = v) (hx : a.eval x = u) (hown : w.ownsRow base e 1 v xs.length (bs xs)) (hr : HB w u ys) (hl : xs.length + ys.length ≤ 140737488355328) (hbase : base ≤ w.heap.size)
    (h : ∀ v' w', w'.ownsRow base e 1 v' (xs ++ ys).length (bs (xs ++ ys)) → w.grownBy w' v.ownBlock → Nx w v v' → wpList P ops Q rest (a.put o.dst v') w') : wpList P ops Q (o :: rest) a w :=
  wpList_plain hgd fun _ hK => wp_pushes w s x t ho base e ht hinfo v xs ys u hs hx hown hr hl hbase fun v' w' h2 h3 h4 => hK _ _ (h v' w' h2 h3 h4)

theorem step_pushes {ops : Array Oper} {o : Oper} {a : Act} {K : Act → World → Prop} {Q : Exit → Act → World → Prop} {E : Prop} (hgd : o.guard = none) (s x : Operand) (t : TypeId)
    (ho : o.op = .call { callee := .builtin .append, args := #[s, x], argTypes := #[t, t] })
    (base : Nat) (e : TypeId) (ht : P.underlying t = some (.slice e)) (hinfo : (P.info? e).map (fun i => (i.zero, i.size, i.bytes)) = some (some (.int .u8 0), 1, 1))
    (v : Value) (xs ys : List UInt8) (u : Value) (hs : a.eval s = v) (hx : a.eval x = u) (hown : w.ownsRow base e 1 v xs.length (bs xs)) (hr : HB w u ys) (hl : xs.length + ys.length ≤ 140737488355328) (hbase : base ≤ w.heap.size)
    (h : ∀ v' w', w'.ownsRow base e 1 v' (xs ++ ys).length (bs (xs ++ ys)) → w.grownBy w' v.ownBlock → Nx w v v' → K (a.put o.dst v') w') :
    if Region.wanted o (yielded ops a.tmps) = true then Oper.wp P o a w K Q else E := by
  have hw : Region.wanted o (yielded ops a.tmps) = true := by simp [Region.wanted, hgd]
  rw [if_pos hw]
  exact wp_pushes w s x t ho base e ht hinfo v xs ys u hs hx hown hr hl hbase h
end
/-- 'string(b)'. -/
theorem HB.string {P : Program} {w : World} {v : Value} {xs : List UInt8} (h : HB w v xs) (src dst e : TypeId) (hs : P.underlying src = some (.slice e)) (he : P.underlying e = some (.int .u8)) (hd : P.underlying dst = some .string) :
    (convert src dst v).run P w = .ok (.string ⟨xs.toArray⟩) w := by
  obtain ⟨p, c, rfl, _, h1, h2⟩ := h
  rcases p with _ | a
  · obtain rfl := h1 rfl
    exact run_convert_bytes_nil w src e hs he 0 c dst hd
  · exact run_convert_bytes_back w src dst e a c xs hs he hd (fun j hj => h2 a rfl j _ (by simp))
end
section
open Go
section
variable {P : Program} {ops : Array Oper} {Q : Exit → Act → World → Prop} {md : Region.Mode} {S : World → Prop}

/-- An order that serves for all: 'true': the operation yields in every world that meets S; 'false': it is the only one that may come up. -/
def okPi (md : Region.Mode) (ops : Array Oper) : List (Nat × Bool) → Array Bool → Bool
  | [], listed => (Region.ready md ops listed).isEmpty
  | (i, true) :: r, listed => Region.free md ops listed i && (Region.ready md ops listed).contains i && okPi md ops r (listed.setIfInBounds i true)
  | (i, false) :: r, listed => (Region.ready md ops listed == [i]) && okPi md ops r (listed.setIfInBounds i true)

def wpPi (P : Program) (ops : Array Oper) (Q : Exit → Act → World → Prop) (S : World → Prop) : List (Nat × Bool) → Act → World → Prop
  | [], a, w => Q .normal a w
  | (i, true) :: r, a, w => ∃ o v, ops[i]? = some o ∧ YieldsIf P ops S o v a ∧ wpPi P ops Q S r (a.put o.dst v) w
  | (i, false) :: r, a, w => wpOp P ops Q i (fun a' w' => S w' ∧ wpPi P ops Q S r a' w') a w

theorem wpPi_sound (hs : Region.noSelect ops = true) (hQ : ∀ c d v a w, Q (.panic c) (Act.put a (some d) v) w → Q (.panic c) a w) :
    ∀ (l : List (Nat × Bool)) (listed : Array Bool) (a : Act) (w : World), okPi md ops l listed = true → S w → wpPi P ops Q S l a w → wpAnyH P md ops Q S l.length listed a w := by
  intro l
  induction l with
  | nil => intro listed a w hk _ h; exact ⟨by simpa [okPi] using hk, h⟩
  | cons x r ih =>
    obtain ⟨i, b⟩ := x
    intro listed a w hk hS h
    cases b with
    | true =>
      simp only [okPi, Bool.and_eq_true] at hk
      obtain ⟨o, v, ho, hy, hr⟩ := h
      exact wpAnyH_take ho hs hk.1.1 hk.1.2 (fun c a w h => by
        cases hd : o.dst with
        | none => rw [hd] at h; exact h
        | some d => rw [hd] at h; exact hQ c _ _ a w h) hy hS (ih _ _ _ hk.2 hS hr)
    | false =>
      simp only [okPi, Bool.and_eq_true, beq_iff_eq] at hk
      refine wpAnyH_all hk.1 (by simp) ?_
      intro j hj
      simp only [List.mem_singleton] at hj
      subst hj
      exact wpOp_mono (fun a' w' h' => ⟨h'.1, ih _ _ _ hk.2 h'.1 h'.2⟩) h

/-- A region that draws its order, walked in one order. -/
theorem wp_region_pi {id : Nat} {a : Act} {w : World} (l : List (Nat × Bool)) (hm : P.follows .mixedOrders = true) (hs : Region.noSelect ops = true)
    (hl : l.length = ops.size) (hk : okPi .any ops l (Array.replicate ops.size false) = true) (hQ : ∀ c d v a w, Q (.panic c) (Act.put a (some d) v) w → Q (.panic c) a w) (S : World → Prop) (hS : S w.drew)
    (h : ∀ ops' : Array Oper, RowKit.Hid (ops' = ops) → wpPi P ops' Q S l a w.drew) : (Code.region id ops true).wp P Q a w := by
  refine wp_region_held (S := S) hm ?_
  have := wpPi_sound hs hQ l _ a _ hk hS (h ops rfl)
  rwa [hl] at this

theorem wpPi_yield {i : Nat} {r : List (Nat × Bool)} {a : Act} {w : World} {o : Oper} (v : Value) (ho : ops[i]? = some o) (hw : Region.wanted o (yielded ops a.tmps) = true)
    (hv : ∀ w, S w → (execOp a.eval o).run P w = .ok (.value v) w) (h : wpPi P ops Q S r (a.put o.dst v) w) : wpPi P ops Q S ((i, true) :: r) a w :=
  ⟨o, v, ho, .inl ⟨hw, hv⟩, h⟩
theorem wpPi_skip {i : Nat} {r : List (Nat × Bool)} {a : Act} {w : World} {o : Oper} (ho : ops[i]? = some o) (hw : Region.wanted o (yielded ops a.tmps) = false)
    (h : wpPi P ops Q S r (a.put o.dst undef) w) : wpPi P ops Q S ((i, true) :: r) a w :=
  ⟨o, undef, ho, .inr ⟨hw, rfl⟩, h⟩
theorem wpPi_act {i : Nat} {r : List (Nat × Bool)} {a : Act} {w : World} {o : Oper} (ho : ops[i]? = some o) (hw : Region.wanted o (yielded ops a.tmps) = true)
    (h : o.wp P a w (fun a' w' => S w' ∧ wpPi P ops Q S r a' w') Q) : wpPi P ops Q S ((i, false) :: r) a w := by
  show wpOp P ops Q i _ a w
  unfold wpOp
  simp only [ho, hw, if_true]
  exact .inl h
theorem wpPi_actSkip {i : Nat} {r : List (Nat × Bool)} {a : Act} {w : World} {o : Oper} (ho : ops[i]? = some o) (hw : Region.wanted o (yielded ops a.tmps) = false)
    (hS : S w) (h : wpPi P ops Q S r (a.put o.dst undef) w) : wpPi P ops Q S ((i, false) :: r) a w := by
  show wpOp P ops Q i _ a w
  unfold wpOp
  simp only [ho, hw]
  exact ⟨hS, h⟩
end
end
section
open Go
section
variable {F : Fence} {n : Nat} {P : Program} {b : Frame} {a : Act} {k : List Item} {cs : List Frame} {w : World} {Q : Exit → Act → World → Prop}
theorem stepR_scope {c : Code} : step P (lone (b.atR a (.code (.scope c) :: k)) cs w) = .next (lone (b.atR a (.code c :: .inScope c :: k)) cs w) :=
  step_lone_go (by simp [stepG, stepG.exec, Frame.atR])
theorem stepR_inScope {c : Code} : step P (lone (b.atR a (.inScope c :: k)) cs w) = .next (lone (b.atR a k) cs w) :=
  step_lone_go (by simp [stepG, stepG.exec, Frame.atR])
/-- A scope through which the run goes without a goto, inside a fence. -/
theorem wpIn_scope {c : Code} (h : c.wpIn F n P (Exit.noGoto Q) a w) : (Code.scope c).wpIn F n P Q a w := by
  intro b k cs hro hb hr
  have h0 : (lone (b.atR a (.code (.scope c) :: k)) cs w).fenced P F := fenced_calm hb hr rfl
  obtain ⟨e, a₁, w₁, hq, harr⟩ := h b (.inScope c :: k) cs hro hb hr
  cases e with
  | normal => exact ⟨.normal, a₁, w₁, hq, .head h0 stepR_scope (StepsIn.trans harr (.one (fenced_calm hb hr rfl) stepR_inScope))⟩
  | exit id =>
    have hx : exitTo id (.inScope c :: k) = exitTo id k := by simp [exitTo]
    exact ⟨.exit id, a₁, w₁, hq, fun k' hk => .head h0 stepR_scope (harr.1 k' (by rw [hx]; exact hk)),
      fun hr' hk => let ⟨k₁, h1, h2⟩ := harr.2 hr' (by rw [hx]; exact hk); ⟨k₁, h1, .head h0 stepR_scope h2⟩⟩
  | goto l => exact hq.elim
  | ret => exact ⟨_, a₁, w₁, hq, .of_steps (.one h0 stepR_scope) harr⟩
  | panic ch => exact ⟨_, a₁, w₁, hq, .of_steps (.one h0 stepR_scope) harr⟩
  | outgrown => exact ⟨_, a₁, w₁, hq, .of_steps (.one h0 stepR_scope) harr⟩
theorem wpIn_label' {l : Nat} (h : Q .normal a w) : (Code.label l).wpIn F n P Q a w := wpIn_label h
end
end
section
open Go
/-! A region that draws its order, walked along a tree of orders: where several operations may come up, each is walked. -/
/-- The tree: all done; one that yields in every world that meets S; one that comes up, and the others that may. -/
inductive PT where
  | done
  | yield (i : Nat) (t : PT)
  | act (i : Nat) (t : PT) (more : PT)
  | none
def PT.alts : PT → List Nat
  | .act i _ m => i :: m.alts
  | _ => []
section
variable {P : Program} {ops : Array Oper} {Q : Exit → Act → World → Prop} {md : Region.Mode} {S : World → Prop}
def okT (md : Region.Mode) (ops : Array Oper) : PT → Nat → Bool → Array Bool → Bool
  | .done, f, _, listed => f == 0 && (Region.ready md ops listed).isEmpty
  | .yield i t, f, _, listed => f != 0 && Region.free md ops listed i && (Region.ready md ops listed).contains i && okT md ops t (f - 1) true (listed.setIfInBounds i true)
  | .act i t m, f, top, listed => f != 0 && (!top || Region.ready md ops listed == i :: m.alts) && okT md ops t (f - 1) true (listed.setIfInBounds i true) && okT md ops m f false listed
  | .none, _, top, _ => !top
def wpT (P : Program) (ops : Array Oper) (Q : Exit → Act → World → Prop) (S : World → Prop) : PT → Act → World → Prop
  | .done, a, w => Q .normal a w
  | .yield i t, a, w => ∃ o v, ops[i]? = some o ∧ YieldsIf P ops S o v a ∧ wpT P ops Q S t (a.put o.dst v) w
  | .act i t m, a, w => wpOp P ops Q i (fun a' w' => S w' ∧ wpT P ops Q S t a' w') a w ∧ wpT P ops Q S m a w
  | .none, _, _ => True
theorem wpT_sound (hs : Region.noSelect ops = true) (hQ : ∀ c d v a w, Q (.panic c) (Act.put a (some d) v) w → Q (.panic c) a w) :
    ∀ (t : PT) (f : Nat) (listed : Array Bool) (a : Act) (w : World), S w → wpT P ops Q S t a w →
      (okT md ops t f true listed = true → wpAnyH P md ops Q S f listed a w) ∧ (okT md ops t f false listed = true → ∀ i ∈ t.alts, wpOp P ops Q i (fun a' w' => S w' ∧ wpAnyH P md ops Q S (f - 1) (listed.setIfInBounds i true) a' w') a w) := by
  intro t
  induction t with
  | done =>
    intro f listed a w _ h
    refine ⟨fun hk => ?_, fun _ i hi => by simp [PT.alts] at hi⟩
    simp only [okT, Bool.and_eq_true, beq_iff_eq] at hk
    obtain ⟨rfl, hk⟩ := hk
    exact ⟨by simpa using hk, h⟩
  | yield i t ih =>
    intro f listed a w hS h
    refine ⟨fun hk => ?_, fun _ i hi => by simp [PT.alts] at hi⟩
    simp only [okT, Bool.and_eq_true, bne_iff_ne] at hk
    obtain ⟨o, v, ho, hy, hr⟩ := h
    obtain ⟨⟨⟨h0, h1⟩, h2⟩, h3⟩ := hk
    obtain ⟨g, rfl⟩ : ∃ g, f = g + 1 := ⟨f - 1, by omega⟩
    exact wpAnyH_take ho hs h1 h2 (fun c a w h => by
      cases hd : o.dst with
      | none => rw [hd] at h; exact h
      | some d => rw [hd] at h; exact hQ c _ _ a w h) hy hS ((ih _ _ _ _ hS hr).1 h3)
  | act i t m iht ihm =>
    intro f listed a w hS h
    have key : ∀ top, okT md ops (.act i t m) f top listed = true → f ≠ 0 ∧ ∀ j ∈ PT.alts (.act i t m), wpOp P ops Q j (fun a' w' => S w' ∧ wpAnyH P md ops Q S (f - 1) (listed.setIfInBounds j true) a' w') a w := by
      intro top hk
      simp only [okT, Bool.and_eq_true, bne_iff_ne] at hk
      obtain ⟨⟨⟨h0, h1⟩, h2⟩, h3⟩ := hk
      refine ⟨h0, fun j hj => ?_⟩
      rcases List.mem_cons.1 hj with rfl | hj
      · exact wpOp_mono (fun a' w' h' => ⟨h'.1, (iht _ _ _ _ h'.1 h'.2).1 h2⟩) h.1
      · exact (ihm _ _ _ _ hS h.2).2 h3 j hj
    refine ⟨fun hk => ?_, fun hk => (key false hk).2⟩
    obtain ⟨h0, hall⟩ := key true hk
    simp only [okT, Bool.and_eq_true, Bool.or_eq_true, beq_iff_eq, Bool.not_true, Bool.false_eq_true, false_or] at hk
    obtain ⟨g, rfl⟩ : ∃ g, f = g + 1 := ⟨f - 1, by omega⟩
    exact wpAnyH_all hk.1.1.2 (by simp) hall
  | none =>
    intro f listed a w _ _
    exact ⟨fun hk => by simp [okT] at hk, fun _ i hi => by simp [PT.alts] at hi⟩
theorem wp_region_tr {id : Nat} {a : Act} {w : World} (t : PT) (hm : P.follows .mixedOrders = true) (hs : Region.noSelect ops = true)
    (hk : okT .any ops t ops.size true (Array.replicate ops.size false) = true) (hQ : ∀ c d v a w, Q (.panic c) (Act.put a (some d) v) w → Q (.panic c) a w) (S : World → Prop) (hS : S w.drew)
    (h : ∀ ops' : Array Oper, RowKit.Hid (ops' = ops) → wpT P ops' Q S t a w.drew) : (Code.region id ops true).wp P Q a w :=
  wp_region_held (S := S) hm ((wpT_sound hs hQ t _ _ a _ hS (h ops rfl)).1 hk)
theorem wpT_yield {i : Nat} {t : PT} {a : Act} {w : World} {o : Oper} (v : Value) (ho : ops[i]? = some o) (hw : Region.wanted o (yielded ops a.tmps) = true)
    (hv : ∀ w, S w → (execOp a.eval o).run P w = .ok (.value v) w) (h : wpT P ops Q S t (a.put o.dst v) w) : wpT P ops Q S (.yield i t) a w :=
  ⟨o, v, ho, .inl ⟨hw, hv⟩, h⟩
theorem wpT_act {i : Nat} {t m : PT} {a : Act} {w : World} {o : Oper} (ho : ops[i]? = some o) (hw : Region.wanted o (yielded ops a.tmps) = true)
    (h : o.wp P a w (fun a' w' => S w' ∧ wpT P ops Q S t a' w') Q) (hm : wpT P ops Q S m a w) : wpT P ops Q S (.act i t m) a w := by
  refine ⟨?_, hm⟩
  unfold wpOp
  simp only [ho, hw, if_true]
  exact .inl h
end
/-- What a region leaves, joined: mk tells the temporaries by what hangs on the order. -/
theorem region_join {α : Type} {P : Program} {c : Code} {Q : Exit → Act → World → Prop} {a : Act} {w : World} {S : α → World → Prop} {mk : α → Act} (hreg : c.wp P (fun e a' w' => e = .normal ∧ ∃ b, a' = mk b ∧ S b w') a w) (hK : ∀ b V, S b V → Q .normal (mk b) V) : c.wp P Q a w :=
  Code.wp_mono (fun e a' w' h => by obtain ⟨rfl, b, rfl, hS⟩ := h; exact hK b _ hS) hreg
theorem region_join2 {α β : Type} {P : Program} {c : Code} {Q : Exit → Act → World → Prop} {a : Act} {w : World} {S : α → β → World → Prop} {mk : α → β → Act} (hreg : c.wp P (fun e a' w' => e = .normal ∧ ∃ b d, a' = mk b d ∧ S b d w') a w) (hK : ∀ b d V, S b d V → Q .normal (mk b d) V) : c.wp P Q a w :=
  Code.wp_mono (fun e a' w' h => by obtain ⟨rfl, b, d, rfl, hS⟩ := h; exact hK b d _ hS) hreg
end
section
open Go Go.RowKit Go.Proofs
/-! A world in parts: blocks that are owned, and facts that do not hang on these. -/
/-- What is owned: its blocks, and what is known of them. -/
structure Res where
  fp : List Nat
  ok : World → Prop
  loc : ∀ W W' : World, (∀ k ∈ fp, W'.heap[k]? = W.heap[k]?) → ok W → ok W'
  cel : ∀ W : World, ok W → ∀ k ∈ fp, ∃ o : Obj, W.heap[k]? = some o ∧ o.isCells = true
/-- A block, known whole. -/
def Blk (b : Nat) (l : List Value) (T : TypeId) : Res := ⟨[b], fun W => W.heap[b]? = some (.cells l.toArray T (0, 0)), fun _ _ h ho => (h b (by simp)).trans ho, fun W h k hk => by simp at hk; subst hk; exact ⟨_, h, rfl⟩⟩
/-- A slice that was appended to: n elements of the type E (size cells each), whose cells are l. -/
def Row (v : Value) (E : TypeId) (size n : Nat) (l : List Value) : Res := ⟨v.ownBlock.toList, fun W => W.ownsRow 0 E size v n l, fun _ _ h ho => own_block ho (fun k hk => h k (by simp [hk])), fun W h k hk => by
  rcases h.2 with ⟨rfl, _⟩ | ⟨g, cap, cur, rfl, _, hh, _⟩
  · simp [Value.ownBlock] at hk
  · simp [Value.ownBlock] at hk; subst hk; exact ⟨_, hh, rfl⟩⟩
def Keys (L : List Res) (k : Nat) : Prop := ∃ r ∈ L, k ∈ r.fp
/-- W' has W's old blocks of cells, but for those of K. -/
structure Same (K : Nat → Prop) (W W' : World) : Prop where
  size : W.heap.size ≤ W'.heap.size
  blk : ∀ (k : Nat) (o : Obj), ¬ K k → W.heap[k]? = some o → o.isCells = true → W'.heap[k]? = some o
theorem Same.refl (K : Nat → Prop) (W : World) : Same K W W := ⟨Nat.le_refl _, fun _ _ _ h _ => h⟩
theorem cell_cells {W : World} {a : Addr} {v : Value} (h : W.cell? a = some v) : ∃ o : Obj, W.heap[a.block]? = some o ∧ o.isCells = true := by
  unfold World.cell? at h
  split at h <;> first | cases h | skip
  all_goals first | (rename_i hh; exact ⟨_, hh, rfl⟩) | (rename_i hh _; exact ⟨_, hh, rfl⟩) | (rename_i _ hh; exact ⟨_, hh, rfl⟩)
theorem Same.cell {K : Nat → Prop} {W W' : World} (h : Same K W W') {a : Addr} {v : Value} (hk : ¬ K a.block) (hc : W.cell? a = some v) : W'.cell? a = some v := by
  obtain ⟨o, ho, hl⟩ := cell_cells hc
  exact (World.cell?_of_block ((h.blk _ o hk ho hl).trans ho.symm)).trans hc
/-- F holds in W, and in each world that has W's old blocks of cells, but for those of K. -/
def Away (K : Nat → Prop) (F : World → Prop) (W : World) : Prop := ∀ W' : World, Same K W W' → F W'
theorem Away.mono {K K' : Nat → Prop} {F : World → Prop} {W : World} (h : Away K F W) (hk : ∀ k, K' k → K k) : Away K' F W := fun W' hs => h W' ⟨hs.size, fun k o hn ho hc => hs.blk k o (fun h' => hn (hk k h')) ho hc⟩
theorem Away.here {K : Nat → Prop} {F : World → Prop} {W : World} (h : Away K F W) : F W := h W (Same.refl _ _)
structure St (w W : World) (L : List Res) (Fs : List (World → Prop)) : Prop where
  below : Below w.heap.size w W
  own : ∀ r ∈ L, r.ok W ∧ ∀ k ∈ r.fp, w.heap.size ≤ k ∧ k < W.heap.size
  apart : ∀ (i j : Nat) (r s : Res), L[i]? = some r → L[j]? = some s → i ≠ j → ∀ k ∈ r.fp, k ∉ s.fp
  facts : ∀ F ∈ Fs, Away (Keys L) F W
section
variable {w W W' : World} {L : List Res} {Fs : List (World → Prop)}
theorem St.start (w : World) : St w w [] [] := ⟨Below.refl _ _, (fun _ h => by cases h), (fun i j r s h => by simp at h), (fun _ h => by cases h)⟩
theorem St.res (h : St w W L Fs) {i : Nat} {r : Res} (hi : L[i]? = some r) : r.ok W := (h.own r (List.mem_of_getElem? hi)).1
theorem St.fact (h : St w W L Fs) {i : Nat} {F : World → Prop} (hi : Fs[i]? = some F) : F W := (h.facts F (List.mem_of_getElem? hi)).here
theorem St.addF (h : St w W L Fs) {F : World → Prop} (hF : Away (Keys L) F W) : St w W L (F :: Fs) :=
  ⟨h.below, h.own, h.apart, fun G hG => by rcases List.mem_cons.1 hG with rfl | hG; exact hF; exact h.facts G hG⟩
theorem St.dropF (h : St w W L Fs) {Gs : List (World → Prop)} (hs : ∀ G ∈ Gs, G ∈ Fs) : St w W L Gs := ⟨h.below, h.own, h.apart, fun G hG => h.facts G (hs G hG)⟩
theorem St.key_lt (h : St w W L Fs) {k : Nat} (hk : Keys L k) : w.heap.size ≤ k ∧ k < W.heap.size := by obtain ⟨r, hr, hm⟩ := hk; exact (h.own r hr).2 k hm
/-- One part is turned (r to r'), what is new may belong to it. -/
theorem St.upd (h : St w W L Fs) {i : Nat} {r r' : Res} (hi : L[i]? = some r) (hc : Chg r.fp W W') (hok : r'.ok W') (hfp : ∀ k ∈ r'.fp, (k ∈ r.fp ∨ W.heap.size ≤ k) ∧ k < W'.heap.size) : St w W' (L.set i r') Fs := by
  have hr := h.own r (List.mem_of_getElem? hi)
  have hli := (List.getElem?_eq_some_iff.1 hi).1
  have hB := h.below.size
  have old : ∀ s ∈ L.set i r', s = r' ∨ ∃ j, j ≠ i ∧ L[j]? = some s := by
    intro s hs
    obtain ⟨j, hj⟩ := List.mem_iff_getElem?.1 hs
    by_cases hji : i = j
    · subst hji; rw [List.getElem?_set_self hli] at hj; injection hj with hj; exact .inl hj.symm
    · rw [List.getElem?_set_ne hji] at hj; exact .inr ⟨j, fun e => hji e.symm, hj⟩
  refine ⟨h.below.trans (hc.below (fun k hk => (hr.2 k hk).1) hB), ?_, ?_, ?_⟩
  · intro s hs
    rcases old s hs with rfl | ⟨j, hj, hs'⟩
    · refine ⟨hok, fun k hk => ?_⟩
      obtain ⟨h1 | h1, h2⟩ := hfp k hk
      · exact ⟨(hr.2 k h1).1, h2⟩
      · exact ⟨by omega, h2⟩
    · have ho := h.own s (List.mem_of_getElem? hs')
      refine ⟨s.loc W W' (fun k hk => hc.block k (ho.2 k hk).2 (h.apart j i s r hs' hi hj k hk)) ho.1, fun k hk => ⟨(ho.2 k hk).1, Nat.lt_of_lt_of_le (ho.2 k hk).2 hc.size⟩⟩
  · intro a b s t ha hb hab k hk hk'
    have get : ∀ (a : Nat) (s : Res), (L.set i r')[a]? = some s → (a = i ∧ s = r') ∨ (a ≠ i ∧ L[a]? = some s) := by
      intro a s ha
      by_cases hai : i = a
      · subst hai; rw [List.getElem?_set_self hli] at ha; injection ha with ha; exact .inl ⟨rfl, ha.symm⟩
      · rw [List.getElem?_set_ne hai] at ha; exact .inr ⟨fun e => hai e.symm, ha⟩
    have key : ∀ (j : Nat) (s : Res), j ≠ i → L[j]? = some s → ∀ k ∈ s.fp, k ∉ r'.fp := by
      intro j s hj hs k hk hk'
      obtain ⟨h1 | h1, _⟩ := hfp k hk'
      · exact h.apart j i s r hs hi hj k hk h1
      · have := ((h.own s (List.mem_of_getElem? hs)).2 k hk).2; omega
    rcases get a s ha with ⟨rfl, rfl⟩ | ⟨h1, h2⟩
    · rcases get b t hb with ⟨rfl, rfl⟩ | ⟨h3, h4⟩
      · exact hab rfl
      · exact key b t h3 h4 k hk' hk
    · rcases get b t hb with ⟨rfl, rfl⟩ | ⟨h3, h4⟩
      · exact key a s h1 h2 k hk hk'
      · exact h.apart a b s t h2 h4 hab k hk hk'
  · intro F hF W'' hs
    refine h.facts F hF W'' ⟨Nat.le_trans hc.size hs.size, fun k o hn ho hcl => ?_⟩
    have hk := (Array.getElem?_eq_some_iff.1 ho).1
    have hkr : k ∉ r.fp := fun hm => hn ⟨r, List.mem_of_getElem? hi, hm⟩
    refine hs.blk k o ?_ ((hc.block k hk hkr).trans ho) hcl
    rintro ⟨s, hs', hm⟩
    rcases old s hs' with rfl | ⟨j, _, hj⟩
    · obtain ⟨h1 | h1, _⟩ := hfp k hm
      · exact hkr h1
      · omega
    · exact hn ⟨s, List.mem_of_getElem? hj, hm⟩
/-- A call that turns nothing of old. -/
theorem St.call (h : St w W L Fs) (hb : Below W.heap.size W W') : St w W' L Fs := by
  refine ⟨h.below.trans (hb.mono h.below.size), fun r hr => ⟨r.loc W W' (fun k hk => hb.block k ((h.own r hr).2 k hk).2) (h.own r hr).1, fun k hk => ⟨((h.own r hr).2 k hk).1, Nat.lt_of_lt_of_le ((h.own r hr).2 k hk).2 hb.size⟩⟩, h.apart, ?_⟩
  intro F hF W'' hs
  exact h.facts F hF W'' ⟨Nat.le_trans hb.size hs.size, fun k o hn ho hc => hs.blk k o hn ((hb.block k (Array.getElem?_eq_some_iff.1 ho).1).trans ho) hc⟩
/-- A block that holds no cells is turned (book-keeping). -/
theorem St.book (h : St w W L Fs) {row : Option Nat} (hg : W.grownBy W' row) (hr : ∀ r, row = some r → w.heap.size ≤ r ∧ ∃ o : Obj, W.heap[r]? = some o ∧ o.isCells = false) : St w W' L Fs := by
  have same : ∀ (k : Nat) (o : Obj), W.heap[k]? = some o → o.isCells = true → W'.heap[k]? = some o := fun k o ho hc => by
    refine (hg.block k (Array.getElem?_eq_some_iff.1 ho).1 (fun e => ?_)).trans ho
    obtain ⟨_, o', h1, h2⟩ := hr k e.symm
    rw [ho] at h1
    injection h1 with h1
    subst h1
    rw [hc] at h2
    cases h2
  refine ⟨h.below.grown hg h.below.size (fun k hk => (hr k hk).1), fun r hm => ?_, h.apart, fun F hF W'' hs => ?_⟩
  · have ho := h.own r hm
    refine ⟨r.loc W W' (fun k hk => ?_) ho.1, fun k hk => ⟨(ho.2 k hk).1, Nat.lt_of_lt_of_le (ho.2 k hk).2 hg.size⟩⟩
    obtain ⟨o, h1, h2⟩ := r.cel W ho.1 k hk
    rw [h1]; exact same k o h1 h2
  · exact h.facts F hF W'' ⟨Nat.le_trans hg.size hs.size, fun k o hn ho hc => hs.blk k o hn (same k o ho hc) hc⟩
theorem St.drew (h : St w W L Fs) : St w W.drew L Fs := h.call (Below.refl _ _).drew
theorem St.drewN (h : St w W L Fs) (n : Nat) : St w (W.drewN n) L Fs := ⟨⟨h.below.os, h.below.tape, h.below.output, h.below.size, h.below.block⟩, fun r hr => ⟨r.loc W (W.drewN n) (fun _ _ => rfl) (h.own r hr).1, (h.own r hr).2⟩, h.apart, fun F hF W' hs => h.facts F hF W' ⟨hs.size, hs.blk⟩⟩
/-- What is new is taken. -/
theorem St.new (h : St w W L Fs) (hb : Below W.heap.size W W') {r : Res} (hok : r.ok W') (hfp : ∀ k ∈ r.fp, W.heap.size ≤ k ∧ k < W'.heap.size) : St w W' (r :: L) Fs := by
  have h' := h.call hb
  refine ⟨h'.below, ?_, ?_, ?_⟩
  · intro s hs
    rcases List.mem_cons.1 hs with rfl | hs
    · exact ⟨hok, fun k hk => ⟨Nat.le_trans h.below.size (hfp k hk).1, (hfp k hk).2⟩⟩
    · exact h'.own s hs
  · have key : ∀ (j : Nat) (s : Res), L[j]? = some s → ∀ k ∈ s.fp, k ∉ r.fp := fun j s hs k hk hm => by
      have := ((h.own s (List.mem_of_getElem? hs)).2 k hk).2; have := (hfp k hm).1; omega
    intro i j s t hi hj hij k hk hk'
    cases i with
    | zero =>
      simp at hi; subst hi
      cases j with
      | zero => exact hij rfl
      | succ j => exact key j t (by simpa using hj) k hk' hk
    | succ i =>
      cases j with
      | zero => simp at hj; subst hj; exact key i s (by simpa using hi) k hk hk'
      | succ j => exact h'.apart i j s t (by simpa using hi) (by simpa using hj) (by omega) k hk hk'
  · intro F hF W'' hs
    refine h.facts F hF W'' ⟨Nat.le_trans hb.size hs.size, fun k o hn ho hc => hs.blk k o ?_ ((hb.block k (Array.getElem?_eq_some_iff.1 ho).1).trans ho) hc⟩
    have hk := (Array.getElem?_eq_some_iff.1 ho).1
    rintro ⟨s, hs', hm⟩
    rcases List.mem_cons.1 hs' with rfl | hs'
    · have := (hfp k hm).1; omega
    · exact hn ⟨s, hs', hm⟩
theorem St.alloc (h : St w W L Fs) (l : List Value) (T : TypeId) : St w (W.alloc (.cells l.toArray T)) (Blk W.heap.size l T :: L) Fs :=
  h.new ((Below.refl _ _).alloc (Nat.le_refl _) _) (heap_alloc_new _ _) (fun k hk => by simp [Blk] at hk; subst hk; simp)
theorem getElem?_eraseIdx_some {α : Type} {l : List α} {i a : Nat} {s : α} (h : (l.eraseIdx i)[a]? = some s) : ∃ b, b ≠ i ∧ l[b]? = some s ∧ b = if a < i then a else a + 1 := by
  rw [List.getElem?_eraseIdx] at h
  split at h
  · exact ⟨a, by omega, h, by rw [if_pos (by assumption)]⟩
  · exact ⟨a + 1, by omega, h, by rw [if_neg (by assumption)]⟩
/-- A part is let go: what is known of it stays known. -/
theorem St.freeze (h : St w W L Fs) {i : Nat} {r : Res} (hi : L[i]? = some r) : St w W (L.eraseIdx i) (r.ok :: Fs) := by
  have hm : ∀ s ∈ L.eraseIdx i, ∃ b, b ≠ i ∧ L[b]? = some s := fun s hs => by
    obtain ⟨a, ha⟩ := List.mem_iff_getElem?.1 hs
    obtain ⟨b, h1, h2, _⟩ := getElem?_eraseIdx_some ha
    exact ⟨b, h1, h2⟩
  refine ⟨h.below, fun s hs => by obtain ⟨b, _, hb⟩ := hm s hs; exact h.own s (List.mem_of_getElem? hb), ?_, ?_⟩
  · intro a b s t ha hb hab
    obtain ⟨a', h1, h2, h3⟩ := getElem?_eraseIdx_some ha
    obtain ⟨b', h4, h5, h6⟩ := getElem?_eraseIdx_some hb
    refine h.apart a' b' s t h2 h5 ?_
    split at h3 <;> split at h6 <;> omega
  · intro F hF
    rcases List.mem_cons.1 hF with rfl | hF
    · intro W' hs
      have ho := h.own r (List.mem_of_getElem? hi)
      refine r.loc W W' (fun k hk => ?_) ho.1
      obtain ⟨o, h1, h2⟩ := r.cel W ho.1 k hk
      rw [h1]
      refine hs.blk k o ?_ h1 h2
      rintro ⟨s, hs', hk'⟩
      obtain ⟨b, hb1, hb2⟩ := hm s hs'
      exact h.apart b i s r hb2 hi hb1 k hk' hk
    · refine (h.facts F hF).mono ?_
      rintro k ⟨s, hs', hk'⟩
      obtain ⟨b, _, hb2⟩ := hm s hs'
      exact ⟨s, List.mem_of_getElem? hb2, hk'⟩
theorem St.sub (h : St w W L Fs) (i : Nat) : St w W (L.eraseIdx i) Fs := by
  by_cases hi : i < L.length
  · exact (h.freeze (List.getElem?_eq_getElem hi)).dropF fun G hG => List.mem_cons_of_mem _ hG
  · rw [List.eraseIdx_of_length_le (by omega)]; exact h
/-! what lies in a block -/
theorem St.blk (h : St w W L Fs) {i b : Nat} {l : List Value} {T : TypeId} (hi : L[i]? = some (Blk b l T)) : W.heap[b]? = some (.cells l.toArray T (0, 0)) := h.res hi
theorem St.cell (h : St w W L Fs) {i b k : Nat} {l : List Value} {T : TypeId} {v : Value} (hi : L[i]? = some (Blk b l T)) (hv : l[k]? = some v) : W.cell? ⟨b, k, none⟩ = some v := by
  rw [cell_of_row W b k _ _ _ (h.blk hi)]; simpa using hv
theorem St.free (h : St w W L Fs) {i b k : Nat} {l : List Value} {T : TypeId} (hi : L[i]? = some (Blk b l T)) : W.frozen? ⟨b, k, none⟩ = false := frozen_of_row W b k _ T (h.blk hi)
theorem St.setCell (h : St w W L Fs) {i b k : Nat} {l : List Value} {T : TypeId} (hi : L[i]? = some (Blk b l T)) (v : Value) : St w (W.setCell ⟨b, k, none⟩ v) (L.set i (Blk b (l.set k v) T)) Fs := by
  refine h.upd hi ⟨rfl, rfl, rfl, by simp [World.setCell], fun j hj hn => ?_⟩ ?_ ?_
  · exact heap_setCell_other W _ j v (by simp [Blk] at hn; exact hn)
  · show (W.setCell ⟨b, k, none⟩ v).heap[b]? = _
    rw [heap_setCell_same W b k _ T v (h.blk hi)]; simp
  · intro j hj
    refine ⟨.inl hj, ?_⟩
    have := (h.own _ (List.mem_of_getElem? hi)).2 j hj
    simpa [World.setCell] using this.2
/-- The cells l from place k on are turned to xs. -/
def splice (l : List Value) (k : Nat) (xs : List Value) : List Value := l.take k ++ (xs ++ l.drop (k + xs.length))
theorem splice_nil (l : List Value) (k : Nat) : splice l k [] = l := by simp [splice]
theorem splice_cons (l : List Value) (k : Nat) (v : Value) (xs : List Value) (h : k < l.length) : splice (l.set k v) (k + 1) xs = splice l k (v :: xs) := by
  simp only [splice, List.length_cons, List.cons_append]
  rw [show k + 1 + xs.length = k + (xs.length + 1) by omega]
  have e1 : (l.set k v).take (k + 1) = l.take k ++ [v] := by
    apply List.ext_getElem?
    intro i
    rw [List.getElem?_take]
    by_cases hi : i < k + 1
    · rw [if_pos hi]
      by_cases hk : i = k
      · subst hk
        rw [List.getElem?_set_self h, List.getElem?_append_right (by simp; omega)]
        simp [Nat.min_eq_left (Nat.le_of_lt h)]
      · rw [List.getElem?_set_ne (by omega), List.getElem?_append_left (by simp; omega), List.getElem?_take_of_lt (by omega)]
    · rw [if_neg hi, List.getElem?_eq_none]
      simp; omega
  have e2 : (l.set k v).drop (k + (xs.length + 1)) = l.drop (k + (xs.length + 1)) := by
    apply List.ext_getElem?
    intro i
    rw [List.getElem?_drop, List.getElem?_drop, List.getElem?_set_ne (by omega)]
  rw [e1, e2, List.append_assoc]
  rfl
theorem St.setCells {i b : Nat} {T : TypeId} (xs : List Value) : ∀ (k : Nat) (l : List Value) (W : World) (L : List Res), St w W L Fs → L[i]? = some (Blk b l T) → k + xs.length ≤ l.length → St w (W.setCells b k xs) (L.set i (Blk b (splice l k xs) T)) Fs := by
  induction xs with
  | nil =>
    intro k l W L h hi _
    rw [splice_nil]
    have : L.set i (Blk b l T) = L := by
      apply List.ext_getElem?
      intro j
      by_cases hj : i = j
      · subst hj; rw [List.getElem?_set_self (List.getElem?_eq_some_iff.1 hi).1, hi]
      · rw [List.getElem?_set_ne hj]
    rw [this]
    exact h
  | cons v xs ih =>
    intro k l W L h hi hl
    simp only [List.length_cons] at hl
    rw [World.setCells]
    have h1 := h.setCell (k := k) hi v
    have h2 := ih (k + 1) (l.set k v) _ _ h1 (List.getElem?_set_self (List.getElem?_eq_some_iff.1 hi).1) (by simp; omega)
    rw [List.set_set, splice_cons l k v xs (by omega)] at h2
    exact h2
end
/-- The blocks of X are as they were. -/
def Keeps (X : Nat → Prop) (w w' : World) : Prop := ∀ k, X k → w'.heap[k]? = w.heap[k]?
theorem Keeps.refl (X : Nat → Prop) (w : World) : Keeps X w w := fun _ _ => rfl
theorem Keeps.trans {X : Nat → Prop} {a b c : World} (h : Keeps X a b) (k : Keeps X b c) : Keeps X a c := fun i hi => (k i hi).trans (h i hi)
theorem Keeps.cell {X : Nat → Prop} {w w' : World} (h : Keeps X w w') {a : Addr} {v : Value} (hc : w.cell? a = some v) (hx : X a.block) : w'.cell? a = some v := (World.cell?_of_block (h a.block hx)).trans hc
theorem Keeps.of_below {X : Nat → Prop} {w w' : World} (h : Below w.heap.size w w') (hX : ∀ k, X k → k < w.heap.size) : Keeps X w w' := fun k hk => h.block k (hX k hk)

end
section
open Go Go.RowKit Go.Proofs
/-- A type whose variables are one cell. -/
def scal (P : Program) (t : TypeId) : Bool := match P.underlying t with
  | some (.struct _) | some (.array _ _) | none => false
  | _ => (P.info? t).map (·.size) == some 1
/-- A type whose variables are n cells. -/
def aggr (P : Program) (t : TypeId) (n : Nat) : Bool := match P.underlying t with
  | some (.struct _) | some (.array _ _) => (P.info? t).map (·.size) == some n
  | _ => false
/-- A type's zero. -/
def zeroIs (P : Program) (t : TypeId) (z : Value) : Prop := (P.info? t).bind (·.zero) = some z
section
variable {P : Program} {W : World} {t : TypeId} {o : Oper} {ev : Operand → Value}
theorem scal_agg (h : scal P t = true) (W : World) : (isAgg t).run P W = .ok false W := by
  unfold scal at h
  unfold isAgg
  rw [Sem.run_bind]
  cases hu : P.underlying t with
  | none => simp [hu] at h
  | some d =>
    rw [run_underlying hu W]
    rw [hu] at h
    cases d <;> simp_all [Result.andThen]
theorem scal_size (h : scal P t = true) : (P.info? t).map (·.size) = some 1 := by
  unfold scal at h
  split at h <;> simp_all
theorem run_ld (h : scal P t = true) {x : Operand} {p : Addr} {v : Value} (ho : o.op = .load t x) (hx : ev x = .pointer (some p)) (hc : W.cell? p = some v) : (execOp ev o).run P W = .ok (.value v) W := by
  unfold execOp
  simp only [ho, hx, Instr.loadAt, Instr.sureAddr, loadVar, Sem.run_bind, Sem.run_pure, Result.andThen_ok, scal_agg h]
  simp [go_sem, hc]
theorem aggr_desc {n : Nat} (h : aggr P t n = true) : ∃ d, P.underlying t = some d ∧ d.isRow = true ∧ (P.info? t).map (·.size) = some n := by
  unfold aggr at h
  split at h
  · rename_i hu; exact ⟨_, hu, rfl, by simpa using h⟩
  · rename_i hu; exact ⟨_, hu, rfl, by simpa using h⟩
  · cases h
theorem run_lda {n : Nat} (h : aggr P t n = true) {x : Operand} {b k : Nat} {cs : List Value} (ho : o.op = .load t x) (hx : ev x = .pointer (some ⟨b, k, none⟩)) (hc : W.rangeAt b k cs) (hn : cs.length = n) : (execOp ev o).run P W = .ok (.value (.agg cs.toArray)) W := by
  obtain ⟨d, hu, hd, hi⟩ := aggr_desc h
  unfold execOp
  simp only [ho, hx, Instr.loadAt, Instr.sureAddr, Sem.run_bind, Sem.run_pure, Result.andThen_ok, run_loadVar_mid W b k t cs d hc hu hd (by rw [hi, hn])]
theorem cells_one {v : Value} (h : v.oneCell' = true) : v.cells = #[v] := by
  cases v <;> first | rfl | (simp [Value.oneCell'] at h)
theorem run_stc (h : scal P t = true) {x y : Operand} {p : Addr} {u v : Value} (ho : o.op = .store t x y) (hx : ev x = .pointer (some p)) (hy : ev y = v) (h1 : v.oneCell' = true) (hc : W.cell? p = some u) (hf : W.frozen? p = false) : (execOp ev o).run P W = .ok .skip (W.setCell p v) := by
  have hs := scal_size h
  obtain ⟨i, hi, hi1⟩ := Option.map_eq_some_iff.1 hs
  have e : ((Instr.storeAt t (.pointer (some p)) v).run P W) = .ok () (W.setCell p v) := by
    simp only [Instr.storeAt, Instr.sureAddr, storeVar, sizeOf, typeInfo, Sem.run_bind, Sem.run_pure, Result.andThen_ok, cells_one h1]
    simp [go_sem, hi, hi1, storeCells, run_store P W p v .plain h1, hc, hf]
  unfold execOp
  simp only [ho, hx, hy, Sem.run_bind, Sem.run_pure, Result.andThen_ok, e]
theorem run_sta {n : Nat} (h : aggr P t n = true) {x y : Operand} {b k : Nat} {cs : List Value} (ho : o.op = .store t x y) (hx : ev x = .pointer (some ⟨b, k, none⟩)) (hy : ev y = .agg cs.toArray) (hn : cs.length = n) (h1 : ∀ v ∈ cs, v.oneCell' = true) (ht : W.there b k cs.length) : (execOp ev o).run P W = .ok .skip (W.setCells b k cs) := by
  obtain ⟨d, hu, hd, hi⟩ := aggr_desc h
  unfold execOp
  have := run_storeAt_mid (P := P) W b k t cs.toArray (by simpa using ht) (by rw [hi, ← hn]; simp) (all_oneCell_toArray h1)
  simp only [ho, hx, hy, Sem.run_bind, Sem.run_pure, Result.andThen_ok, this]
theorem run_bx {x : Operand} {l : List Value} (ho : o.op = .box t x) (hx : (ev x).cells = l.toArray) : (execOp ev o).run P W = .ok (.value (.pointer (some ⟨W.heap.size, 0, none⟩))) (W.alloc (.cells l.toArray t)) := by
  unfold execOp
  simp only [ho, Instr.box, newVar, newRow, hx, Sem.run_bind, Sem.run_pure, Result.andThen_ok, run_newObj_alloc]
theorem run_al {l : List Value} {z : Value} (ho : o.op = .alloc t) (hz : zeroIs P t z) (hl : z.cells = l.toArray) : (execOp ev o).run P W = .ok (.value (.pointer (some ⟨W.heap.size, 0, none⟩))) (W.alloc (.cells l.toArray t)) := by
  obtain ⟨i, hi, hz⟩ := Option.bind_eq_some_iff.1 hz
  unfold execOp
  have e : (zeroValue t).run P W = .ok z W := by simp [zeroValue, typeInfo, hi, hz, go_sem]
  simp only [ho, Instr.alloc, newVar, newRow, Sem.run_bind, Sem.run_pure, Result.andThen_ok, e, hl, run_newObj_alloc]
theorem run_ix {N : Nat} {E : TypeId} {x ix : Operand} {cs : Array Value} {kd : IntKind} {k : Nat} {v : Value} (hu : P.underlying t = some (.array N E)) (hE : scal P E = true) (ho : o.op = .index t x ix) (hx : ev x = .agg cs) (hi : ev ix = .int kd (k : Int)) (hk : k < N) (hv : cs[k]? = some v) : (execOp ev o).run P W = .ok (.value v) W := by
  obtain ⟨i, hi', hi1⟩ := Option.map_eq_some_iff.1 (scal_size hE)
  have h0 : (0 : Int) ≤ (k : Int) ∧ (k : Int) < (N : Int) := by omega
  unfold execOp
  simp only [ho, hx, hi, Instr.index, asIntOf, Sem.run_bind, Sem.run_pure, Result.andThen_ok, run_underlying hu, h0, and_self, if_true, sizeOf, typeInfo, part, scal_agg hE]
  simp [go_sem, hi', hi1, hv, scal_agg hE]
theorem wp_of_run {a : Act} {K : Act → World → Prop} {Q : Exit → Act → World → Prop} {v : Value} {W' : World} (h : (execOp a.eval o).run P W = .ok (.value v) W') (hK : K (a.put o.dst v) W') : o.wp P a W K Q := by
  unfold Oper.wp; rw [h]; exact hK
theorem wp_of_skip {a : Act} {K : Act → World → Prop} {Q : Exit → Act → World → Prop} {W' : World} (h : (execOp a.eval o).run P W = .ok .skip W') (hK : K (a.put o.dst undef) W') : o.wp P a W K Q := by
  unfold Oper.wp; rw [h]; exact hK
end
/-! The steps of a walk, by what is owned. -/
section
variable {P : Program} {w W : World} {L : List Res} {Fs : List (World → Prop)} {o : Oper} {a : Act} {K : Act → World → Prop} {Q : Exit → Act → World → Prop} {ops : Array Oper} {rest : List Oper} {t T : TypeId} {b k n : Nat} {l cs : List Value} {v : Value} {x y : Operand}
theorem St.range (h : St w W L Fs) {i : Nat} (hi : L[i]? = some (Blk b l T)) (hv : (l.drop k).take cs.length = cs) : W.rangeAt b k cs := by
  intro j u hu
  refine h.cell hi ?_
  rw [← hv] at hu
  have hj : j < cs.length := by
    have := (List.getElem?_eq_some_iff.1 hu).1
    simp at this; omega
  rw [List.getElem?_take_of_lt hj, List.getElem?_drop] at hu
  exact hu
theorem St.there (h : St w W L Fs) {i : Nat} (hi : L[i]? = some (Blk b l T)) (hk : k + n ≤ l.length) : W.there b k n := fun j hj =>
  ⟨by rw [h.cell hi (k := k + j) (List.getElem?_eq_getElem (by omega))]; rfl, h.free hi⟩
theorem s_ld (hS : St w W L Fs) (i : Nat) (ho : o.op = .load t x) (hx : a.eval x = .pointer (some ⟨b, k, none⟩)) (hi : L[i]? = some (Blk b l T)) (hs : scal P t = true) (hv : l[k]? = some v) (h : K (a.put o.dst v) W) : o.wp P a W K Q :=
  wp_of_run (run_ld hs ho hx (hS.cell hi hv)) h
theorem s_lda (hS : St w W L Fs) (i : Nat) (n : Nat) (ho : o.op = .load t x) (hx : a.eval x = .pointer (some ⟨b, k, none⟩)) (hi : L[i]? = some (Blk b l T)) (hs : aggr P t n = true) (hv : (l.drop k).take n = cs) (hn : cs.length = n) (h : K (a.put o.dst (.agg cs.toArray)) W) : o.wp P a W K Q :=
  wp_of_run (run_lda hs ho hx (hS.range hi (by rw [hn]; exact hv)) hn) h
theorem s_st (hS : St w W L Fs) (i : Nat) (ho : o.op = .store t x y) (hx : a.eval x = .pointer (some ⟨b, k, none⟩)) (hi : L[i]? = some (Blk b l T)) (hs : scal P t = true) (hy : a.eval y = v) (h1 : v.oneCell' = true) (hk : k < l.length) (h : ∀ W', St w W' (L.set i (Blk b (l.set k v) T)) Fs → K (a.put o.dst undef) W') : o.wp P a W K Q :=
  wp_of_skip (run_stc hs ho hx hy h1 (hS.cell hi (List.getElem?_eq_getElem hk)) (hS.free hi)) (h _ (hS.setCell hi v))
theorem s_sta (hS : St w W L Fs) (i : Nat) (n : Nat) (ho : o.op = .store t x y) (hx : a.eval x = .pointer (some ⟨b, k, none⟩)) (hi : L[i]? = some (Blk b l T)) (hs : aggr P t n = true) (hy : a.eval y = .agg cs.toArray) (hn : cs.length = n) (h1 : ∀ v ∈ cs, v.oneCell' = true) (hk : k + n ≤ l.length) (h : ∀ W', St w W' (L.set i (Blk b (splice l k cs) T)) Fs → K (a.put o.dst undef) W') : o.wp P a W K Q :=
  wp_of_skip (run_sta hs ho hx hy hn h1 (hS.there hi (by omega))) (h _ (St.setCells cs k l W L hS hi (by omega)))
theorem s_bx (hS : St w W L Fs) (ho : o.op = .box t x) (hx : (a.eval x).cells = l.toArray) (h : ∀ b W', St w W' (Blk b l t :: L) Fs → K (a.put o.dst (.pointer (some ⟨b, 0, none⟩))) W') : o.wp P a W K Q :=
  wp_of_run (run_bx ho hx) (h _ _ (hS.alloc l t))
theorem s_al (hS : St w W L Fs) (ho : o.op = .alloc t) {z : Value} (hz : zeroIs P t z) (hl : z.cells = l.toArray) (h : ∀ b W', St w W' (Blk b l t :: L) Fs → K (a.put o.dst (.pointer (some ⟨b, 0, none⟩))) W') : o.wp P a W K Q :=
  wp_of_run (run_al ho hz hl) (h _ _ (hS.alloc l t))
theorem madeCells_one (z : Value) (n : Nat) (h1 : z.oneCell' = true) : madeCells z.cells n = (List.replicate n z).toArray := by
  rw [cells_one h1]
  apply Array.ext
  · simp [madeCells]
  · intro i h1 h2
    simp [madeCells, Nat.mod_one]
theorem s_mk (hS : St w W L Fs) {E : TypeId} {z : Value} (n : Nat) {kl kc : IntKind} {z1 z2 : Operand} (ho : o.op = .makeSlice t z1 z2) (h1 : a.eval z1 = .int kl (n : Int)) (h2 : a.eval z2 = .int kc (n : Int)) (ht : P.underlying t = some (.slice E)) (hz : zeroIs P E z) (hz1 : z.oneCell' = true) (hi : ((P.info? E).map fun i => (i.size, i.bytes)) = some (1, k)) (hk : k * n ≤ 281474976710656) (hn : n ≤ 9223372036854775807)
    (h : ∀ b W', St w W' (Blk b (List.replicate n z) E :: L) Fs → K (a.put o.dst (.slice (some ⟨b, 0, none⟩) n n)) W') : o.wp P a W K Q := by
  obtain ⟨i, hi', hz⟩ := Option.bind_eq_some_iff.1 hz
  have hi2 : i.size = 1 ∧ i.bytes = k := by simp [hi'] at hi; exact hi
  have hb : (i.bytes : Int) * (n : Int) ≤ 281474976710656 := by
    rw [hi2.2]
    have hk' : ((k * n : Nat) : Int) ≤ 281474976710656 := by omega
    rwa [Int.natCast_mul] at hk'
  have := run_make (P := P) W t E i z ht hi' hz kl kc (n : Int) (n : Int) (by omega) (Int.le_refl _) hb (by omega)
  rw [Int.toNat_natCast, hi2.1, Nat.mul_one, madeCells_one z n hz1] at this
  refine wp_of_run (v := .slice (some ⟨W.heap.size, 0, none⟩) n n) (W' := W.alloc (.cells (List.replicate n z).toArray E)) ?_ (h _ _ (hS.alloc _ _))
  unfold execOp
  simp only [ho, h1, h2, Sem.run_bind, Sem.run_pure, Result.andThen_ok, this]
theorem wl (hw : Region.wanted o (yielded ops a.tmps) = true) (h : o.wp P a W (wpList P ops Q rest) Q) : wpList P ops Q (o :: rest) a W := by
  unfold wpList
  rw [if_pos hw]
  exact .inl h
/-- The operation writes slot d. -/
theorem atd (d : Nat) (_h : o.dst = some d) (h : wpList P ops Q (o :: rest) a W) : wpList P ops Q (o :: rest) a W := h
/-- The operation stores where slot d points to. -/
theorem sto (d : Nat) {t : TypeId} {y : Operand} (_h : o.op = .store t (.tmp d) y) (h : wpList P ops Q (o :: rest) a W) : wpList P ops Q (o :: rest) a W := h
/-- A call has made the block b. -/
def New (w w' : World) (r : Res) : Prop := Below w.heap.size w w' ∧ r.ok w' ∧ ∀ k ∈ r.fp, w.heap.size ≤ k ∧ k < w'.heap.size
theorem St.take {W' : World} {r : Res} (h : St w W L Fs) (hn : New W W' r) : St w W' (r :: L) Fs := h.new hn.1 hn.2.1 hn.2.2
theorem St.give (h : St w W L Fs) (i : Nat) {r : Res} (hi : L[i]? = some r) : New w W r := ⟨h.below, (h.own r (List.mem_of_getElem? hi)).1, (h.own r (List.mem_of_getElem? hi)).2⟩
end
end
section
open Go Go.RowKit Go.Proofs
/-! The same inside a loop over a function: what is no cells stays beside. -/
/-- Kept since k0, and in parts. -/
structure Sk (k0 w W : World) (L : List Res) (Fs : List (World → Prop)) : Prop where
  st : St w W L Fs
  oth : KeepsOthers k0 W
theorem KeepsOthers.of_below {W W' : World} (h : Below W.heap.size W W') : KeepsOthers W W' := ⟨h.size, fun k o hk _ => (h.block k (Array.getElem?_eq_some_iff.1 hk).1).trans hk⟩
theorem KeepsOthers.setCells (b : Nat) : ∀ (xs : List Value) (k : Nat) (W : World), KeepsOthers W (W.setCells b k xs)
  | [], _, W => KeepsOthers.refl W
  | v :: xs, k, W => by rw [World.setCells]; exact (KeepsOthers.setCell W ⟨b, k, none⟩ v).trans (KeepsOthers.setCells b xs (k + 1) _)
section
variable {P : Program} {k0 w W : World} {L : List Res} {Fs : List (World → Prop)} {o : Oper} {a : Act} {K : Act → World → Prop} {Q : Exit → Act → World → Prop} {ops : Array Oper} {rest : List Oper} {t T : TypeId} {b k n : Nat} {l cs : List Value} {v : Value} {x y : Operand} {F : Fence} {m : Nat}
theorem St.sk (h : St w W L Fs) : Sk W w W L Fs := ⟨h, KeepsOthers.refl W⟩
theorem Sk.call {W' : World} (h : Sk k0 w W L Fs) (hb : Below W.heap.size W W') : Sk k0 w W' L Fs := ⟨h.st.call hb, h.oth.trans (KeepsOthers.of_below hb)⟩
theorem Sk.take {W' : World} {r : Res} (h : Sk k0 w W L Fs) (hn : New W W' r) : Sk k0 w W' (r :: L) Fs := ⟨h.st.take hn, h.oth.trans (KeepsOthers.of_below hn.1)⟩
theorem Sk.drew (h : Sk k0 w W L Fs) : Sk k0 w W.drew L Fs := ⟨h.st.drew, h.oth.trans (KeepsOthers.drew W)⟩
theorem Sk.sub (h : Sk k0 w W L Fs) (i : Nat) : Sk k0 w W (L.eraseIdx i) Fs := ⟨h.st.sub i, h.oth⟩
theorem wpIn_of_run {W' : World} {nx : Next} (hd : ∀ c, o.op ≠ .defer c) (hab : o.about P W a.eval = none) (h : (execOp a.eval o).run P W = .ok nx W') (hK : o.uponIn F m P a K Q (.ok nx W')) : o.wpIn F m P a W K Q := by
  unfold Oper.wpIn
  rw [Oper.semAt_eq _ _ _ hd, h, hab]
  exact ⟨(fun f hf => by cases hf), hK⟩
theorem about_none (ho : ∀ c, o.op ≠ .call c) : o.about P W a.eval = none := by
  unfold Oper.about
  split
  · rename_i c hc; exact absurd hc (ho c)
  · rfl
theorem i_ld (hS : Sk k0 w W L Fs) (i : Nat) (ho : o.op = .load t x) (hx : a.eval x = .pointer (some ⟨b, k, none⟩)) (hi : L[i]? = some (Blk b l T)) (hs : scal P t = true) (hv : l[k]? = some v) (h : K (a.put o.dst v) W) : o.wpIn F m P a W K Q :=
  wpIn_of_run (by rw [ho]; exact fun c h => by cases h) (about_none (by rw [ho]; exact fun c h => by cases h)) (run_ld hs ho hx (hS.st.cell hi hv)) h
theorem i_lda (hS : Sk k0 w W L Fs) (i : Nat) (n : Nat) (ho : o.op = .load t x) (hx : a.eval x = .pointer (some ⟨b, k, none⟩)) (hi : L[i]? = some (Blk b l T)) (hs : aggr P t n = true) (hv : (l.drop k).take n = cs) (hn : cs.length = n) (h : K (a.put o.dst (.agg cs.toArray)) W) : o.wpIn F m P a W K Q :=
  wpIn_of_run (by rw [ho]; exact fun c h => by cases h) (about_none (by rw [ho]; exact fun c h => by cases h)) (run_lda hs ho hx (hS.st.range hi (by rw [hn]; exact hv)) hn) h
theorem i_st (hS : Sk k0 w W L Fs) (i : Nat) (ho : o.op = .store t x y) (hx : a.eval x = .pointer (some ⟨b, k, none⟩)) (hi : L[i]? = some (Blk b l T)) (hs : scal P t = true) (hy : a.eval y = v) (h1 : v.oneCell' = true) (hk : k < l.length) (h : ∀ W', Sk k0 w W' (L.set i (Blk b (l.set k v) T)) Fs → K (a.put o.dst undef) W') : o.wpIn F m P a W K Q :=
  wpIn_of_run (by rw [ho]; exact fun c h => by cases h) (about_none (by rw [ho]; exact fun c h => by cases h)) (run_stc hs ho hx hy h1 (hS.st.cell hi (List.getElem?_eq_getElem hk)) (hS.st.free hi)) (h _ ⟨hS.st.setCell hi v, hS.oth.trans (KeepsOthers.setCell W _ v)⟩)
theorem i_sta (hS : Sk k0 w W L Fs) (i : Nat) (n : Nat) (ho : o.op = .store t x y) (hx : a.eval x = .pointer (some ⟨b, k, none⟩)) (hi : L[i]? = some (Blk b l T)) (hs : aggr P t n = true) (hy : a.eval y = .agg cs.toArray) (hn : cs.length = n) (h1 : ∀ v ∈ cs, v.oneCell' = true) (hk : k + n ≤ l.length) (h : ∀ W', Sk k0 w W' (L.set i (Blk b (splice l k cs) T)) Fs → K (a.put o.dst undef) W') : o.wpIn F m P a W K Q :=
  wpIn_of_run (by rw [ho]; exact fun c h => by cases h) (about_none (by rw [ho]; exact fun c h => by cases h)) (run_sta hs ho hx hy hn h1 (hS.st.there hi (by omega))) (h _ ⟨St.setCells cs k l W L hS.st hi (by omega), hS.oth.trans (KeepsOthers.setCells b cs k W)⟩)
theorem i_bx (hS : Sk k0 w W L Fs) (ho : o.op = .box t x) (hx : (a.eval x).cells = l.toArray) (h : ∀ b W', Sk k0 w W' (Blk b l t :: L) Fs → K (a.put o.dst (.pointer (some ⟨b, 0, none⟩))) W') : o.wpIn F m P a W K Q :=
  wpIn_of_run (by rw [ho]; exact fun c h => by cases h) (about_none (by rw [ho]; exact fun c h => by cases h)) (run_bx ho hx) (h _ _ ⟨hS.st.alloc l t, hS.oth.trans (KeepsOthers.alloc W _)⟩)
theorem i_al (hS : Sk k0 w W L Fs) (ho : o.op = .alloc t) {z : Value} (hz : zeroIs P t z) (hl : z.cells = l.toArray) (h : ∀ b W', Sk k0 w W' (Blk b l t :: L) Fs → K (a.put o.dst (.pointer (some ⟨b, 0, none⟩))) W') : o.wpIn F m P a W K Q :=
  wpIn_of_run (by rw [ho]; exact fun c h => by cases h) (about_none (by rw [ho]; exact fun c h => by cases h)) (run_al ho hz hl) (h _ _ ⟨hS.st.alloc l t, hS.oth.trans (KeepsOthers.alloc W _)⟩)
theorem il (hw : Region.wanted o (yielded ops a.tmps) = true) (h : o.wpIn F m P a W (wpListIn F m P ops Q rest) Q) : wpListIn F m P ops Q (o :: rest) a W := by
  unfold wpListIn
  rw [if_pos hw]
  exact h
theorem itd (d : Nat) (_h : o.dst = some d) (h : wpListIn F m P ops Q (o :: rest) a W) : wpListIn F m P ops Q (o :: rest) a W := h
/-- What is in parts abides what a loop keeps beside. -/
theorem St.ownFrom {α : Type} {B : Nat} (hB : w.heap.size ≤ B) (L : α → List Res) (Fs : α → List (World → Prop)) : OwnFrom B (fun (s : α) W => St w W (L s) (Fs s)) :=
  fun s A C row hs hg hr => hs.book hg (fun r e => ⟨Nat.le_trans hB (hr r e).1, (hr r e).2⟩)
theorem Keeps.of_blk {W' : World} {L' : List Res} {Gs : List (World → Prop)} {w' : World} {j i : Nat} (h : St w W L Fs) (hi : L[i]? = some (Blk b l T)) (h' : St w' W' L' Gs) (hj : L'[j]? = some (Blk b l T)) : Keeps (· = b) W W' := by
  rintro k rfl
  rw [h.blk hi, h'.blk hj]
end
end
section
open Go
/-! A region that draws its order inside a loop over a function: walked along one order, or a tree of orders. -/
section
variable {F : Fence} {n : Nat} {P : Program} {ops : Array Oper} {Q : Exit → Act → World → Prop} {md : Region.Mode} {S : World → Prop}
def noDefer (ops : Array Oper) : Bool := ops.all fun o => match o.op with
  | .defer _ => false
  | _ => true
theorem noDefer_spec (h : noDefer ops = true) {i : Nat} {o : Oper} (hi : ops[i]? = some o) : ∀ c, o.op ≠ .defer c := by
  intro c hc
  have := (Array.all_eq_true_iff_forall_mem.1 h) o (Array.mem_of_getElem? hi)
  rw [hc] at this
  cases this
theorem YieldsIf.wpOpIn' (hF : ∀ f, F.fn f) (hnd : noDefer ops = true) {i : Nat} {o : Oper} {v : Value} {a : Act} (hi : ops[i]? = some o) (hy : YieldsIf P ops S o v a)
    {K : Act → World → Prop} {w : World} (hS : S w) (h : K (a.put o.dst v) w) : wpOpIn F n P ops Q i K a w := by
  unfold Go.wpOpIn
  simp only [hi]
  rcases hy with ⟨hw, hv⟩ | ⟨hw, rfl⟩
  · simp only [hw, if_true, Oper.wpIn, Oper.semAt_eq F.round _ _ (noDefer_spec hnd hi), hv w hS, Oper.uponIn]; exact ⟨fun f _ => hF f, h⟩
  · simp only [hw, Bool.false_eq_true, if_false]; exact ⟨fun f _ => hF f, h⟩
theorem wpOpIn_putIf (hF : ∀ f, F.fn f) (hnd : noDefer ops = true) {j : Nat} {oi oj : Oper} {v : Value} (hj : ops[j]? = some oj) (hap : oi.apart ops oj = true)
    (hsi : ∀ cs b, oi.op ≠ .select cs b) (hsj : ∀ cs b, oj.op ≠ .select cs b)
    (hQ : ∀ c a w, Q (.panic c) (a.put oi.dst v) w → Q (.panic c) a w) {K : Act → World → Prop} {a : Act} {w : World}
    (hy : YieldsIf P ops S oi v a) (h : wpOpIn F n P ops Q j K (a.put oi.dst v) w) :
    wpOpIn F n P ops Q j (fun a' w' => YieldsIf P ops S oi v a' ∧ K (a'.put oi.dst v) w') a w := by
  obtain ⟨h1, h2, h3⟩ := Oper.apart_spec hap
  have hdj := noDefer_spec hnd hj
  have keep : ∀ (a : Act), YieldsIf P ops S oi v a → ∀ u, YieldsIf P ops S oi v (a.put oj.dst u) := fun a hy u =>
    hy.of_same (execOp_put oi hsi a oj.dst u h3) (wanted_put oi a oj.dst u h3)
  have keepD : ∀ d, YieldsIf P ops S oi v { a with defers := d :: a.defers } := fun d => hy.of_same rfl rfl
  unfold wpOpIn at *
  simp only [hj] at *
  rw [wanted_put oj a oi.dst v h1] at h
  split
  · rename_i hw
    simp only [hw, if_true] at h
    unfold Oper.wpIn at *
    rw [Oper.semAt_eq F.round _ _ hdj] at h ⊢
    rw [execOp_put oj hsj a oi.dst v h1] at h
    refine ⟨fun f _ => hF f, ?_⟩
    replace h := h.2
    generalize (execOp a.eval oj).run P w = r at *
    cases r with
    | ok n w' =>
      cases n <;> simp only [Oper.uponIn] at h ⊢
      case value u => exact ⟨keep a hy u, by rw [← Act.put_comm a v u h2]; exact h⟩
      case skip => exact ⟨keep a hy _, by rw [← Act.put_comm a v undef h2]; exact h⟩
      case defer d =>
        refine ⟨keep _ (keepD d) _, ?_⟩
        rw [← Act.put_comm _ v undef h2, ← Act.put_defers]
        exact h
      case enter f args =>
        refine ⟨h.1, CallsIn.mono h.2 fun e w'' he => ?_⟩
        cases e with
        | returned u => exact ⟨keep a hy u, by rw [← Act.put_comm a v u h2]; exact he⟩
        | panicked c => exact hQ _ _ _ he
        | outgrown => exact he
      case row row args => exact ⟨h.1, RowsIn.mono h.2 fun u w'' he => ⟨keep a hy u, by rw [← Act.put_comm a v u h2]; exact he⟩⟩
      case round =>
        refine ⟨h.1, RoundIn.mono h.2 fun e w'' he => ?_⟩
        cases e with
        | returned u => exact ⟨keep a hy u, by rw [← Act.put_comm a v u h2]; exact he⟩
        | panicked c => exact hQ _ _ _ he
        | outgrown => exact he
    | halt x w' =>
      cases x <;> simp only [Oper.uponIn] at h ⊢
      case panic u => exact hQ _ _ _ h
  · rename_i hw
    simp only [hw] at h
    exact ⟨fun f _ => hF f, keep a hy _, by rw [← Act.put_comm a v undef h2]; exact h.2⟩
def wpAnyHIn (F : Fence) (n : Nat) (P : Program) (md : Region.Mode) (ops : Array Oper) (Q : Exit → Act → World → Prop) (S : World → Prop) : Nat → Array Bool → Act → World → Prop
  | 0, listed, a, w => Region.ready md ops listed = [] ∧ Q .normal a w
  | fuel + 1, listed, a, w =>
    (Region.ready md ops listed = [] → Q .normal a w) ∧
    ∀ i ∈ Region.ready md ops listed, wpOpIn F n P ops Q i (fun a' w' => S w' ∧ wpAnyHIn F n P md ops Q S fuel (listed.setIfInBounds i true) a' w') a w
theorem wpAnyIn_of_held : ∀ (fuel : Nat) (listed : Array Bool) (a : Act) (w : World), wpAnyHIn F n P md ops Q S fuel listed a w → wpAnyIn F n P md ops Q fuel listed a w
  | 0, _, _, _, h => h
  | fuel + 1, _, _, _, h => ⟨h.1, fun i hi => wpOpIn_mono (fun a' w' h' => wpAnyIn_of_held fuel _ a' w' h'.2) (h.2 i hi)⟩
theorem wpAnyHIn_first (hF : ∀ f, F.fn f) (hnd : noDefer ops = true) {i : Nat} {oi : Oper} {v : Value} (hi : ops[i]? = some oi) (hsel : ∀ (j : Nat) (o : Oper) cs b, ops[j]? = some o → o.op ≠ .select cs b)
    (hQ : ∀ c a w, Q (.panic c) (a.put oi.dst v) w → Q (.panic c) a w) :
    ∀ (fuel : Nat) (listed : Array Bool) (a : Act) (w : World),
      (∀ j oj, ops[j]? = some oj → j ≠ i → listed.getD j true = false → (∀ e ∈ oj.after, Region.binds md e = true → e.on ≠ i) → oi.apart ops oj = true) →
      i ∈ Region.ready md ops listed → YieldsIf P ops S oi v a → S w →
      wpAnyHIn F n P md ops Q S fuel (listed.setIfInBounds i true) (a.put oi.dst v) w → wpAnyHIn F n P md ops Q S (fuel + 1) listed a w := by
  intro fuel
  induction fuel with
  | zero =>
    intro listed a w _ hr hy hS H
    refine ⟨fun h => (by rw [h] at hr; cases hr), fun j hj => ?_⟩
    by_cases hji : j = i
    · subst hji; exact YieldsIf.wpOpIn' hF hnd hi hy hS ⟨hS, H⟩
    · have := ready_mono hj hji
      rw [H.1] at this
      cases this
  | succ fuel ih =>
    intro listed a w hfree hr hy hS H
    refine ⟨fun h => (by rw [h] at hr; cases hr), fun j hj => ?_⟩
    by_cases hji : j = i
    · subst hji; exact YieldsIf.wpOpIn' hF hnd hi hy hS ⟨hS, H⟩
    · have h1 := H.2 j (ready_mono hj hji)
      obtain ⟨hjun, oj, hoj, hall⟩ := mem_ready.1 hj
      have hnot : ∀ e ∈ oj.after, Region.binds md e = true → e.on ≠ i := fun e he hb heq => by
        have h1 := hall e he hb
        have h0 := (mem_ready.1 hr).1
        rw [heq] at h1
        rcases Nat.lt_or_ge i listed.size with h' | h'
        · simp [h'] at h0 h1; rw [h0] at h1; cases h1
        · simp [Array.getElem?_eq_none h'] at h1
      have h2 := wpOpIn_putIf hF hnd hoj (hfree j oj hoj hji hjun hnot) (fun cs b => hsel i oi cs b hi) (fun cs b => hsel j oj cs b hoj) hQ hy h1
      have hfree' : ∀ k ok, ops[k]? = some ok → k ≠ i → (listed.setIfInBounds j true).getD k true = false →
          (∀ e ∈ ok.after, Region.binds md e = true → e.on ≠ i) → oi.apart ops ok = true := fun k ok hk hki hun hno => by
        refine hfree k ok hk hki ?_ hno
        by_cases hjk : j = k
        · subst hjk; exact hjun
        · rw [getD_set_ne true hjk] at hun; exact hun
      refine wpOpIn_mono (fun a' w' h3 => ⟨h3.2.1, ih (listed.setIfInBounds j true) a' w' hfree' (ready_mono hr (Ne.symm hji)) h3.1 h3.2.1 ?_⟩) h2
      rw [Array.setIfInBounds_comm _ _ hji]
      exact h3.2.2
theorem wpAnyHIn_take (hF : ∀ f, F.fn f) (hnd : noDefer ops = true) {i : Nat} {oi : Oper} {v : Value} {fuel : Nat} {listed : Array Bool} {a : Act} {w : World} (hi : ops[i]? = some oi)
    (hs : Region.noSelect ops = true) (hf : Region.free md ops listed i = true) (hr : (Region.ready md ops listed).contains i = true)
    (hQ : ∀ c a w, Q (.panic c) (a.put oi.dst v) w → Q (.panic c) a w) (hy : YieldsIf P ops S oi v a) (hS : S w)
    (h : wpAnyHIn F n P md ops Q S fuel (listed.setIfInBounds i true) (a.put oi.dst v) w) : wpAnyHIn F n P md ops Q S (fuel + 1) listed a w :=
  wpAnyHIn_first hF hnd hi (Region.noSelect_spec hs) hQ fuel listed a w (Region.free_spec hi hf) (by simpa using hr) hy hS h
theorem wpAnyHIn_all {rs : List Nat} {fuel : Nat} {listed : Array Bool} {a : Act} {w : World} (hr : Region.ready md ops listed = rs) (hne : rs ≠ [])
    (h : ∀ i ∈ rs, wpOpIn F n P ops Q i (fun a' w' => S w' ∧ wpAnyHIn F n P md ops Q S fuel (listed.setIfInBounds i true) a' w') a w) : wpAnyHIn F n P md ops Q S (fuel + 1) listed a w :=
  ⟨fun h0 => absurd (hr ▸ h0) hne, hr ▸ h⟩
def wpTI (F : Fence) (n : Nat) (P : Program) (ops : Array Oper) (Q : Exit → Act → World → Prop) (S : World → Prop) : PT → Act → World → Prop
  | .done, a, w => Q .normal a w
  | .yield i t, a, w => ∃ o v, ops[i]? = some o ∧ YieldsIf P ops S o v a ∧ wpTI F n P ops Q S t (a.put o.dst v) w
  | .act i t m, a, w => wpOpIn F n P ops Q i (fun a' w' => S w' ∧ wpTI F n P ops Q S t a' w') a w ∧ wpTI F n P ops Q S m a w
  | .none, _, _ => True
theorem wpTI_sound (hF : ∀ f, F.fn f) (hnd : noDefer ops = true) (hs : Region.noSelect ops = true) (hQ : ∀ c d v a w, Q (.panic c) (Act.put a (some d) v) w → Q (.panic c) a w) :
    ∀ (t : PT) (f : Nat) (listed : Array Bool) (a : Act) (w : World), S w → wpTI F n P ops Q S t a w →
      (okT md ops t f true listed = true → wpAnyHIn F n P md ops Q S f listed a w) ∧ (okT md ops t f false listed = true → ∀ i ∈ t.alts, wpOpIn F n P ops Q i (fun a' w' => S w' ∧ wpAnyHIn F n P md ops Q S (f - 1) (listed.setIfInBounds i true) a' w') a w) := by
  intro t
  induction t with
  | done =>
    intro f listed a w _ h
    refine ⟨fun hk => ?_, fun _ i hi => by simp [PT.alts] at hi⟩
    simp only [okT, Bool.and_eq_true, beq_iff_eq] at hk
    obtain ⟨rfl, hk⟩ := hk
    exact ⟨by simpa using hk, h⟩
  | yield i t ih =>
    intro f listed a w hS h
    refine ⟨fun hk => ?_, fun _ i hi => by simp [PT.alts] at hi⟩
    simp only [okT, Bool.and_eq_true, bne_iff_ne] at hk
    obtain ⟨o, v, ho, hy, hr⟩ := h
    obtain ⟨⟨⟨h0, h1⟩, h2⟩, h3⟩ := hk
    obtain ⟨g, rfl⟩ : ∃ g, f = g + 1 := ⟨f - 1, by omega⟩
    exact wpAnyHIn_take hF hnd ho hs h1 h2 (fun c a w h => by
      cases hd : o.dst with
      | none => rw [hd] at h; exact h
      | some d => rw [hd] at h; exact hQ c _ _ a w h) hy hS ((ih _ _ _ _ hS hr).1 h3)
  | act i t m iht ihm =>
    intro f listed a w hS h
    have key : ∀ top, okT md ops (.act i t m) f top listed = true → f ≠ 0 ∧ ∀ j ∈ PT.alts (.act i t m), wpOpIn F n P ops Q j (fun a' w' => S w' ∧ wpAnyHIn F n P md ops Q S (f - 1) (listed.setIfInBounds j true) a' w') a w := by
      intro top hk
      simp only [okT, Bool.and_eq_true, bne_iff_ne] at hk
      obtain ⟨⟨⟨h0, h1⟩, h2⟩, h3⟩ := hk
      refine ⟨h0, fun j hj => ?_⟩
      rcases List.mem_cons.1 hj with rfl | hj
      · exact wpOpIn_mono (fun a' w' h' => ⟨h'.1, (iht _ _ _ _ h'.1 h'.2).1 h2⟩) h.1
      · exact (ihm _ _ _ _ hS h.2).2 h3 j hj
    refine ⟨fun hk => ?_, fun hk => (key false hk).2⟩
    obtain ⟨h0, hall⟩ := key true hk
    simp only [okT, Bool.and_eq_true, Bool.or_eq_true, beq_iff_eq, Bool.not_true, Bool.false_eq_true, false_or] at hk
    obtain ⟨g, rfl⟩ : ∃ g, f = g + 1 := ⟨f - 1, by omega⟩
    exact wpAnyHIn_all hk.1.1.2 (by simp) hall
  | none =>
    intro f listed a w _ _
    exact ⟨fun hk => by simp [okT] at hk, fun _ i hi => by simp [PT.alts] at hi⟩
theorem wpIn_region_tr {id : Nat} {a : Act} {w : World} (t : PT) (hF : ∀ f, F.fn f) (hnd : noDefer ops = true) (hm : P.follows .mixedOrders = true) (hs : Region.noSelect ops = true)
    (hk : okT .any ops t ops.size true (Array.replicate ops.size false) = true) (hQ : ∀ c d v a w, Q (.panic c) (Act.put a (some d) v) w → Q (.panic c) a w) (S : World → Prop) (hS : S w.drew)
    (h : ∀ ops' : Array Oper, RowKit.Hid (ops' = ops) → wpTI F n P ops' Q S t a w.drew) : (Code.region id ops true).wpIn F n P Q a w :=
  wpIn_region_any hm (wpAnyIn_of_held _ _ _ _ ((wpTI_sound hF hnd hs hQ t _ _ a _ hS (h ops rfl)).1 hk))
theorem wpTI_yield {i : Nat} {t : PT} {a : Act} {w : World} {o : Oper} (v : Value) (ho : ops[i]? = some o) (hw : Region.wanted o (yielded ops a.tmps) = true)
    (hv : ∀ w, S w → (execOp a.eval o).run P w = .ok (.value v) w) (h : wpTI F n P ops Q S t (a.put o.dst v) w) : wpTI F n P ops Q S (.yield i t) a w :=
  ⟨o, v, ho, .inl ⟨hw, hv⟩, h⟩
theorem wpTI_skip {i : Nat} {t : PT} {a : Act} {w : World} {o : Oper} (ho : ops[i]? = some o) (hw : Region.wanted o (yielded ops a.tmps) = false)
    (h : wpTI F n P ops Q S t (a.put o.dst undef) w) : wpTI F n P ops Q S (.yield i t) a w := ⟨o, undef, ho, .inr ⟨hw, rfl⟩, h⟩
theorem wpTI_act {i : Nat} {t m : PT} {a : Act} {w : World} {o : Oper} (ho : ops[i]? = some o) (hw : Region.wanted o (yielded ops a.tmps) = true)
    (h : o.wpIn F n P a w (fun a' w' => S w' ∧ wpTI F n P ops Q S t a' w') Q) (hm : wpTI F n P ops Q S m a w) : wpTI F n P ops Q S (.act i t m) a w := by
  refine ⟨?_, hm⟩
  unfold wpOpIn
  simp only [ho, hw, if_true]
  exact h
end
end
end Go.Proofs.Yteljmpoaggfliaa
