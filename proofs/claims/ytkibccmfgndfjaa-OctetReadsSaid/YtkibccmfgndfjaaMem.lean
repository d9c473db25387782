/- Contracts and words that the laws stand on (Mem). -/
import Derived.Test.YtkibccmfgndfjaaProg
import Derived.WalkKit
import Derived.Outline
import Derived.WalkSpells
import Derived.WalkLawsBesides
import Derived.Below
import Derived.Lib.SlParts
import Derived.OwnWalk
import Derived.Deep.AppendLies
import Derived.Maps.AppendAt
import Derived.RegionTactic
import Derived.Laws.BytesArg
import Derived.Laws.IdiomStrings
import Derived.Deep.LoopGhost
import Derived.Deep.Draws
import Derived.Lib.Hide
import Derived.KernelRfl
import Derived.OrdersHeld
import Derived.RangeFuncNested
import Derived.WalkMore
import Derived.OwnWalkIn
set_option linter.unusedVariables false
set_option linter.unusedSimpArgs false
namespace Go.Proofs.Ytkibccmfgndfjaa
section
open Go.RowKit Go.Proofs

/-- The old blocks outside S are as they were. -/
structure Chg (S : List Nat) (w w' : World) : Prop where
  os : w'.os = w.os
  tape : w'.tape = w.tape
  output : w'.output = w.output
  size : w.heap.size ≤ w'.heap.size
  block : ∀ k, k < w.heap.size → k ∉ S → w'.heap[k]? = w.heap[k]?

theorem Chg.refl (S : List Nat) (w : World) : Chg S w w := ⟨rfl, rfl, rfl, Nat.le_refl _, fun _ _ _ => rfl⟩
theorem Chg.trans {S S' : List Nat} {w w1 w2 : World} (h : Chg S w w1) (h' : Chg S' w1 w2) (hs : ∀ k, k ∈ S' → k ∈ S ∨ w.heap.size ≤ k) : Chg S w w2 :=
  ⟨h'.os.trans h.os, h'.tape.trans h.tape, h'.output.trans h.output, Nat.le_trans h.size h'.size, fun k hk hn =>
    (h'.block k (Nat.lt_of_lt_of_le hk h.size) (fun hm => by rcases hs k hm with h1 | h1; exact hn h1; omega)).trans (h.block k hk hn)⟩
theorem Chg.mono {S S' : List Nat} {w w' : World} (h : Chg S w w') (hs : ∀ k, k ∈ S → k ∈ S' ∨ w.heap.size ≤ k) : Chg S' w w' :=
  ⟨h.os, h.tape, h.output, h.size, fun k hk hn => h.block k hk (fun hm => by rcases hs k hm with h1 | h1; exact hn h1; omega)⟩
theorem Chg.alloc {S : List Nat} {w w1 : World} (h : Chg S w w1) (o : Obj) : Chg S w (w1.alloc o) :=
  ⟨h.os, h.tape, h.output, by have := h.size; simp; omega, fun k hk hn => (Below.heap_alloc w1 o k (Nat.lt_of_lt_of_le hk h.size)).trans (h.block k hk hn)⟩
theorem Chg.drew {S : List Nat} {w w1 : World} (h : Chg S w w1) : Chg S w w1.drew := ⟨h.os, h.tape, h.output, h.size, h.block⟩
theorem Chg.drewN {S : List Nat} {w w1 : World} (h : Chg S w w1) (n : Nat) : Chg S w (w1.drewN n) := ⟨h.os, h.tape, h.output, h.size, h.block⟩
theorem Chg.setCell {S : List Nat} {w w1 : World} (h : Chg S w w1) {p : Addr} (hp : p.block ∈ S ∨ w.heap.size ≤ p.block) (v : Value) : Chg S w (w1.setCell p v) :=
  ⟨h.os, h.tape, h.output, by have := h.size; simp [World.setCell]; omega, fun k hk hn => (Below.heap_setCell w1 p v k (fun e => by subst e; rcases hp with h1 | h1; exact hn h1; omega)).trans (h.block k hk hn)⟩
theorem Chg.grown {S : List Nat} {w w1 w2 : World} (h : Chg S w w1) {row : Option Nat} (hg : w1.grownBy w2 row) (hr : ∀ k, row = some k → k ∈ S ∨ w.heap.size ≤ k) : Chg S w w2 :=
  ⟨hg.os.trans h.os, hg.tape.trans h.tape, hg.output.trans h.output, Nat.le_trans h.size hg.size, fun k hk hn =>
    (hg.block k (Nat.lt_of_lt_of_le hk h.size) (fun e => by rcases hr k e.symm with h1 | h1; exact hn h1; omega)).trans (h.block k hk hn)⟩
theorem Chg.below {B : Nat} {S : List Nat} {w w' : World} (h : Chg S w w') (hs : ∀ k, k ∈ S → B ≤ k) (hB : B ≤ w.heap.size) : Below B w w' :=
  ⟨h.os, h.tape, h.output, h.size, fun k hk => h.block k (by omega) (fun hm => by have := hs k hm; omega)⟩
theorem Chg.of_belowS (S : List Nat) {w w' : World} (h : Below w.heap.size w w') : Chg S w w' := ⟨h.os, h.tape, h.output, h.size, fun k hk _ => h.block k hk⟩
theorem Chg.of_below {w w' : World} (h : Below w.heap.size w w') : Chg [] w w' := ⟨h.os, h.tape, h.output, h.size, fun k hk _ => h.block k hk⟩
theorem Chg.cell {S : List Nat} {w w' : World} (h : Chg S w w') {a : Addr} {v : Value} (hc : w.cell? a = some v) (hn : a.block ∉ S) : w'.cell? a = some v :=
  (World.cell?_of_block (h.block a.block (World.block_lt_of_cell? w a hc) hn)).trans hc
theorem Chg.blk {S : List Nat} {w w' : World} (h : Chg S w w') {k : Nat} {o : Obj} (hc : w.heap[k]? = some o) (hn : k ∉ S) : w'.heap[k]? = some o :=
  (h.block k (Array.getElem?_eq_some_iff.1 hc).1 hn).trans hc

/-- The bytes' cells. -/
def bs (xs : List UInt8) : List Value := xs.map fun x => Value.int .u8 (x.toNat : Int)
@[simp] theorem bs_length (xs : List UInt8) : (bs xs).length = xs.length := by simp [bs]
theorem bs_append (xs ys : List UInt8) : bs (xs ++ ys) = bs xs ++ bs ys := by simp [bs]
theorem bs_one (u : Value) (xs : List UInt8) (h : u ∈ bs xs) : u.oneCell' = true := by
  simp only [bs, List.mem_map] at h; obtain ⟨q, _, rfl⟩ := h; rfl

/-- A pen at block p, its slice v, its bytes xs. -/
structure IsPen (w : World) (p : Nat) (v : Value) (xs : List UInt8) : Prop where
  blk : w.heap[p]? = some (.cells #[v] 39 (0, 0))
  row : w.ownsRow 0 5 1 v xs.length (bs xs)

theorem blk_cell {w : World} {p : Nat} {cs : Array Value} {t : TypeId} {fr : Nat × Nat} (h : w.heap[p]? = some (.cells cs t fr)) (i : Nat) : w.cell? ⟨p, i, none⟩ = cs[i]? := cell_of_row w p i cs t fr h
theorem blk_free {w : World} {p : Nat} {cs : Array Value} {t : TypeId} (h : w.heap[p]? = some (.cells cs t (0, 0))) (i : Nat) : w.frozen? ⟨p, i, none⟩ = false := by simp [World.frozen?, h]
theorem blk_lt {w : World} {p : Nat} {o : Obj} (h : w.heap[p]? = some o) : p < w.heap.size := (Array.getElem?_eq_some_iff.1 h).1
theorem blk_set {w : World} {p : Nat} {cs : Array Value} {t : TypeId} (h : w.heap[p]? = some (.cells cs t (0, 0))) (i : Nat) (u : Value) : (w.setCell ⟨p, i, none⟩ u).heap[p]? = some (.cells (cs.setIfInBounds i u) t (0, 0)) := by
  simp [World.setCell, Array.getElem?_modify, h]

theorem own_ne {w : World} {base : Nat} {e t : TypeId} {size n g : Nat} {v : Value} {xs : List Value} {cs : Array Value} {fr : Nat × Nat} (h : w.ownsRow base e size v n xs) (hg : w.heap[g]? = some (.cells cs t fr)) (hne : e ≠ t) : v.ownBlock ≠ some g := by
  rcases h.2 with ⟨rfl, _⟩ | ⟨g', cap, cur, rfl, _, hh, _⟩
  · simp [Value.ownBlock]
  · intro he
    have : g' = g := by simpa [Value.ownBlock] using he
    subst this
    rw [hh] at hg
    injection hg with hg
    injection hg with _ ht
    exact hne ht

theorem own_kept_setCell {w : World} {base : Nat} {e : TypeId} {size n : Nat} {v : Value} {xs : List Value} (h : w.ownsRow base e size v n xs) {p : Addr} (hp : v.ownBlock ≠ some p.block) (u : Value) : (w.setCell p u).ownsRow base e size v n xs := by
  refine h.kept (row := some p.block) ⟨rfl, rfl, rfl, by simp [World.setCell], fun k _ hne => Below.heap_setCell w p u k (fun e => by subst e; exact hne rfl)⟩ (.inr hp)

/-- Where a slice lies behind an append: where it lay, or in a new block. -/
def Nx (w : World) (v v' : Value) : Prop := v'.ownBlock = v.ownBlock ∨ ∃ g, v'.ownBlock = some g ∧ w.heap.size ≤ g
theorem Nx.refl (w : World) (v : Value) : Nx w v v := .inl rfl
theorem Nx.trans {w w1 : World} {v v1 v2 : Value} (h : Nx w v v1) (h' : Nx w1 v1 v2) (hs : w.heap.size ≤ w1.heap.size) : Nx w v v2 := by
  rcases h' with e | ⟨g, e, hg⟩
  · rcases h with e' | ⟨g, e', hg⟩
    · exact .inl (e.trans e')
    · exact .inr ⟨g, e.trans e', hg⟩
  · exact .inr ⟨g, e, Nat.le_trans hs hg⟩
theorem Nx.mem {w : World} {v v' : Value} (h : Nx w v v') {S : List Nat} (hv : ∀ k, v.ownBlock = some k → k ∈ S) : ∀ k, v'.ownBlock = some k → k ∈ S ∨ w.heap.size ≤ k := by
  intro k hk
  rcases h with e | ⟨g, e, hg⟩
  · exact .inl (hv k (e ▸ hk))
  · rw [e] at hk; injection hk with hk; subst hk; exact .inr hg

section
variable {P : Program} {ops : Array Oper} {rest : List Oper} {o : Oper} {a : Act} {Q : Exit → Act → World → Prop}

/-- append(v, y) onto an owned row of one-cell elements; the world is 'W.alloc' of the one-cell box. -/
theorem wpl_push {W : World} (base : Nat) (hgd : o.guard = none) (s x : Operand) (t e : TypeId) (z : Value) (bytes : Nat)
    (ho : o.op = .call { callee := .builtin .append, args := #[s, x], argTypes := #[t, t] })
    (ht : P.underlying t = some (.slice e)) (hinfo : (P.info? e).map (fun i => (i.zero, i.size, i.bytes)) = some (some z, 1, bytes)) (hz : z.cells.size = 1) (hb0 : 0 < bytes)
    (v : Value) (xs : List Value) (y : Value) (hs : a.eval s = v) (hx : a.eval x = .slice (some ⟨W.heap.size, 0, none⟩) 1 1) (h1 : y.oneCell' = true)
    (HO : W.ownsRow base e 1 v xs.length xs) (hbase : base ≤ W.heap.size) (hl : (xs.length + 1) * bytes ≤ 140737488355328)
    (h : ∀ v1 w1, w1.ownsRow base e 1 v1 (xs ++ [y]).length (xs ++ [y]) → W.grownBy w1 v.ownBlock → Nx W v v1 → wpList P ops Q rest (a.put o.dst v1) w1) :
    wpList P ops Q (o :: rest) a (W.alloc (.cells #[y] e)) := by
  obtain ⟨i0, hi, hzz⟩ := Option.map_eq_some_iff.1 hinfo
  simp only [Prod.mk.injEq] at hzz
  obtain ⟨hz0, hz1, hz2⟩ := hzz
  have hlen : xs.length + 1 ≤ 140737488355328 := Nat.le_trans (Nat.le_mul_of_pos_right _ hb0) hl
  refine wpList_append_own_at (W.alloc (.cells #[y] e)) hgd s x t ho base e i0 z 1 bytes ht hi hz0 hz1 hz2 hz (by omega) v xs.length xs hs (HO.alloc _) ⟨W.heap.size, 0, none⟩ 1 1 [y] hx rfl
    (World.news_of_block (cs := #[y]) (t := e) (fr := (0, 0)) (heap_alloc_new W _)) (by simpa using h1) (by simp only [maxLen]; omega) hl (by simp; omega) ?_
  intro v1 w1 hown hg _ hat
  refine h v1 w1 (by simpa using hown) (World.grownBy.trans (World.grownBy_alloc W _ _) hg) ?_
  rcases hat with hat | hat
  · exact .inl hat
  · exact .inr ⟨_, hat, by simp⟩
end

theorem own_slice {w : World} {base n : Nat} {e : TypeId} {size : Nat} {v : Value} {xs : List Value} (h : w.ownsRow base e size v n xs) : ∃ A c, v = .slice A n c := by
  rcases h.2 with ⟨rfl, rfl⟩ | ⟨g, cap, cur, rfl, _⟩
  · exact ⟨none, 0, rfl⟩
  · exact ⟨_, cap, rfl⟩
theorem IsPen.ne {w : World} {p : Nat} {v : Value} {xs : List UInt8} (h : IsPen w p v xs) : v.ownBlock ≠ some p := own_ne h.row h.blk (by decide)
/-- A pen's slice has been appended to, and is stored back. -/
theorem IsPen.step {w w1 : World} {p : Nat} {v v1 : Value} {xs ys : List UInt8} (h : IsPen w p v xs) (hg : w.grownBy w1 v.ownBlock) (hown : w1.ownsRow 0 5 1 v1 ys.length (bs ys)) :
    IsPen (w1.setCell ⟨p, 0, none⟩ v1) p v1 ys := by
  have hb1 : w1.heap[p]? = some (.cells #[v] 39 (0, 0)) := (hg.block p (blk_lt h.blk) (fun e => h.ne e.symm)).trans h.blk
  exact ⟨by simpa using blk_set hb1 0 v1, own_kept_setCell hown (own_ne hown hb1 (by decide)) v1⟩

/-! bytes that are read -/
/-- The value v is a slice of the bytes l (nil: no byte). -/
def HB (w : World) (v : Value) (l : List UInt8) : Prop :=
  ∃ (p : Option Addr) (cap : Nat), v = .slice p l.length cap ∧ l.length ≤ cap ∧ (p = none → l = []) ∧ ∀ a, p = some a → ∀ (i : Nat) x, l[i]? = some x → w.cell? (a.add i) = some (.int .u8 (x.toNat : Int))
theorem HB.holds {w : World} {v : Value} {l : List UInt8} (h : HB w v l) : Lib.HoldsBytes w v l := by
  obtain ⟨p, c, e, _, h1, h2⟩ := h
  exact ⟨p, c, e, h1, h2⟩
theorem blk_of_add (a : Addr) (n : Nat) : (a.add n).block = a.block := by unfold Addr.add; split <;> rfl
theorem add_of_add (a : Addr) (i j : Nat) : (a.add i).add j = a.add (i + j) := by
  unfold Addr.add
  by_cases hi : i = 0 <;> by_cases hj : j = 0 <;> simp [hi, hj, Nat.add_assoc]
theorem HB.shape {w : World} {v : Value} {xs : List UInt8} (h : HB w v xs) : ∃ A c, v = .slice A xs.length c ∧ xs.length ≤ c := by
  obtain ⟨p, c, e, h0, _⟩ := h; exact ⟨p, c, e, h0⟩
theorem HB.nil (w : World) (A : Option Addr) (c : Nat) : HB w (.slice A 0 c) [] := ⟨A, c, rfl, Nat.zero_le _, fun _ => rfl, fun _ _ i x h => by simp at h⟩
theorem HB.chg {S : List Nat} {w w' : World} {v : Value} {xs : List UInt8} (h : HB w v xs) (hc : Chg S w w') (hn : ∀ k, v.ownBlock = some k → k ∉ S) : HB w' v xs := by
  obtain ⟨p, c, rfl, h0, h1, h2⟩ := h
  refine ⟨p, c, rfl, h0, h1, fun a ha i x hx => hc.cell (h2 a ha i x hx) ?_⟩
  rw [blk_of_add]
  subst ha
  exact hn _ rfl
theorem HB.of_own {w : World} {base : Nat} {e : TypeId} {v : Value} {xs : List UInt8} (h : w.ownsRow base e 1 v xs.length (bs xs)) : HB w v xs := by
  rcases h.2 with ⟨rfl, hn⟩ | ⟨g, cap, cur, rfl, _, _, hnc, _⟩
  · obtain rfl := List.eq_nil_of_length_eq_zero hn
    exact HB.nil _ _ _
  · refine ⟨_, cap, rfl, hnc, (fun e => by cases e), fun a ha i x hx => ?_⟩
    injection ha with ha
    subst ha
    exact h.cells (g := g) rfl i _ (by simp [bs, hx])
theorem HB.lt {w : World} {v : Value} {xs : List UInt8} (h : HB w v xs) (h0 : xs ≠ []) : ∃ k, v.ownBlock = some k ∧ k < w.heap.size := by
  obtain ⟨p, c, rfl, _, h1, h2⟩ := h
  rcases p with _ | a
  · exact absurd (h1 rfl) h0
  · refine ⟨a.block, rfl, ?_⟩
    have := World.block_lt_of_cell? w _ (h2 a rfl 0 (xs[0]'(List.length_pos_iff.2 h0)) (by simp))
    rwa [blk_of_add] at this
/-- A cut's address. -/
def cutA (A : Option Addr) (c k : Nat) : Option Addr := if c = k then A else A.map (·.add k)
theorem cutA_block (A : Option Addr) (c k n m n' m' : Nat) : (Value.slice (cutA A c k) n m).ownBlock = (Value.slice A n' m').ownBlock := by
  unfold cutA
  split
  · cases A <;> rfl
  · cases A with
    | none => rfl
    | some a => simp [Value.ownBlock, blk_of_add]
theorem HB.cut {w : World} {A : Option Addr} {n c a b : Nat} {xs : List UInt8} (h : HB w (.slice A n c) xs) (hab : a ≤ b) (hb : b ≤ n) : HB w (.slice (cutA A c a) (b - a) (c - a)) ((xs.drop a).take (b - a)) := by
  obtain ⟨p, c', e, h0, h1, h2⟩ := h
  injection e with e1 e2 e3
  subst e1 e2 e3
  have hl : ((xs.drop a).take (b - a)).length = b - a := by simp; omega
  refine ⟨cutA A c a, c - a, by rw [hl], by rw [hl]; omega, fun hn => ?_, fun ad ha i x hx => ?_⟩
  · unfold cutA at hn
    by_cases hc : c = a
    · rw [if_pos hc] at hn
      rw [h1 hn]; simp
    · rw [if_neg hc] at hn
      cases A with
      | none => rw [h1 rfl]; simp
      | some a => cases hn
  · have hi := (List.getElem?_eq_some_iff.1 hx).1
    rw [hl] at hi
    unfold cutA at ha
    rw [if_neg (by omega)] at ha
    cases A with
    | none => cases ha
    | some a0 =>
      injection ha with ha
      subst ha
      rw [add_of_add]
      refine h2 a0 rfl (a + i) x ?_
      rw [List.getElem?_take_of_lt hi] at hx
      simpa using hx
theorem HB.drop {w : World} {A : Option Addr} {n c a : Nat} {xs : List UInt8} (h : HB w (.slice A n c) xs) (ha : a ≤ n) : HB w (.slice (cutA A c a) (n - a) (c - a)) (xs.drop a) := by
  have hl : xs.length = n := by
    obtain ⟨p, c', e, _⟩ := h
    injection e with e1 e2 e3
    exact e2.symm
  have := h.cut ha (Nat.le_refl n)
  rwa [List.take_of_length_le (by simp; omega)] at this
theorem HB.take {w : World} {A : Option Addr} {n c b : Nat} {xs : List UInt8} (h : HB w (.slice A n c) xs) (hb : b ≤ n) : HB w (.slice A b c) (xs.take b) := by
  obtain ⟨p, c', e, h0, h1, h2⟩ := h
  injection e with e1 e2 e3
  subst e1 e2 e3
  have hl : (xs.take b).length = b := by simp; omega
  refine ⟨A, c, by rw [hl], by omega, fun hn => by rw [h1 hn]; simp, fun ad ha i x hx => h2 ad ha i x ?_⟩
  have hi := (List.getElem?_eq_some_iff.1 hx).1
  rw [hl] at hi
  rwa [List.getElem?_take_of_lt hi] at hx
theorem HB.at_ {w : World} {A : Option Addr} {n c i : Nat} {xs : List UInt8} (h : HB w (.slice A n c) xs) (hi : i < n) (hi' : i < xs.length) : ∃ a, A = some a ∧ w.cell? (a.add i) = some (.int .u8 (xs[i].toNat : Int)) := by
  obtain ⟨p, c', e, h0, h1, h2⟩ := h
  injection e with e1 e2 e3
  subst e1 e2 e3
  cases A with
  | none => rw [h1 rfl] at hi'; simp at hi'
  | some a => exact ⟨a, rfl, h2 a rfl i _ (by simp)⟩

theorem own_block {w w' : World} {base : Nat} {e : TypeId} {size n : Nat} {v : Value} {xs : List Value} (h : w.ownsRow base e size v n xs) (hb : ∀ k, v.ownBlock = some k → w'.heap[k]? = w.heap[k]?) : w'.ownsRow base e size v n xs := by
  refine ⟨h.1, ?_⟩
  rcases h.2 with hn | ⟨g, cap, cur, rfl, hg, hh, rest⟩
  · exact .inl hn
  · exact .inr ⟨g, cap, cur, rfl, hg, (hb g rfl).trans hh, rest⟩
theorem own_lt {w : World} {base : Nat} {e : TypeId} {size n : Nat} {v : Value} {xs : List Value} (h : w.ownsRow base e size v n xs) (k : Nat) (hk : v.ownBlock = some k) : k < w.heap.size := (h.lt k hk).2
theorem own_base {w : World} {base : Nat} {e : TypeId} {size n : Nat} {v : Value} {xs : List Value} (h : w.ownsRow base e size v n xs) {b : Nat} (hb : ∀ k, v.ownBlock = some k → b ≤ k) : w.ownsRow b e size v n xs := by
  refine ⟨h.1, ?_⟩
  rcases h.2 with hn | ⟨g, cap, cur, rfl, hg, rest⟩
  · exact .inl hn
  · exact .inr ⟨g, cap, cur, rfl, hb g rfl, rest⟩
theorem own_chg {S : List Nat} {w w' : World} {base : Nat} {e : TypeId} {size n : Nat} {v : Value} {xs : List Value} (h : w.ownsRow base e size v n xs) (hc : Chg S w w') (hn : ∀ k, v.ownBlock = some k → k ∉ S) : w'.ownsRow base e size v n xs :=
  own_block h fun k hk => hc.block k (own_lt h k hk) (hn k hk)
theorem IsPen.chg {S : List Nat} {w w' : World} {p : Nat} {v : Value} {xs : List UInt8} (h : IsPen w p v xs) (hc : Chg S w w') (hp : p ∉ S) (hv : ∀ k, v.ownBlock = some k → k ∉ S) : IsPen w' p v xs :=
  ⟨hc.blk h.blk hp, own_chg h.row hc hv⟩
theorem IsPen.below {w w' : World} {p : Nat} {v : Value} {xs : List UInt8} (h : IsPen w p v xs) (hc : Below w.heap.size w w') : IsPen w' p v xs :=
  h.chg (Chg.of_below hc) (by simp) (by simp)
theorem IsPen.drew {w : World} {p : Nat} {v : Value} {xs : List UInt8} (h : IsPen w p v xs) : IsPen w.drew p v xs := ⟨h.blk, h.row⟩
theorem HB.below {w w' : World} {v : Value} {xs : List UInt8} (h : HB w v xs) (hc : Below w.heap.size w w') : HB w' v xs := h.chg (Chg.of_below hc) (by simp)
theorem HB.drew {w : World} {v : Value} {xs : List UInt8} (h : HB w v xs) : HB w.drew v xs := h
theorem HB.drewN {w : World} {v : Value} {xs : List UInt8} (h : HB w v xs) (n : Nat) : HB (w.drewN n) v xs := h.chg (S := []) ((Chg.refl _ _).drewN n) (by simp)
section
variable {P : Program} (w : World)
theorem run_append_of_nil (base : Nat) (t ty e : TypeId) (i : TypeInfo) (size : Nat) (ht : P.underlying t = some (.slice e)) (hi : P.info? e = some i)
    (v : Value) (n : Nat) (xs : List Value) (hown : w.ownsRow base e size v n xs) (c : Nat) : (Builtin.append_ #[t, t] ty #[v, .slice none 0 c]).run P w = .ok v w := by
  rcases hown.2 with ⟨rfl, rfl⟩ | ⟨g, cap, cur, rfl, _, _, hnc, _⟩
  · simp [Builtin.append_, run_underlying ht, sizeOf, typeInfo, hi, Builtin.lenOf, Builtin.firstCells]
  · simp [Builtin.append_, run_underlying ht, sizeOf, typeInfo, hi, Builtin.lenOf, Builtin.firstCells, hnc, storeCells]

/-- append(v, x...), v an owned row, x bytes that are read. -/
theorem run_pushes (base : Nat) (t ty e : TypeId) (ht : P.underlying t = some (.slice e)) (hinfo : (P.info? e).map (fun i => (i.zero, i.size, i.bytes)) = some (some (.int .u8 0), 1, 1))
    (v : Value) (xs ys : List UInt8) (u : Value) (hown : w.ownsRow base e 1 v xs.length (bs xs)) (hr : HB w u ys) (hl : xs.length + ys.length ≤ 140737488355328) (hbase : base ≤ w.heap.size) :
    ∃ v' w', (Builtin.append_ #[t, t] ty #[v, u]).run P w = .ok v' w' ∧ w'.ownsRow base e 1 v' (xs ++ ys).length (bs (xs ++ ys)) ∧ w.grownBy w' v.ownBlock ∧ Nx w v v' := by
  obtain ⟨i0, hi, hzz⟩ := Option.map_eq_some_iff.1 hinfo
  simp only [Prod.mk.injEq] at hzz
  obtain ⟨hz0, hz1, hz2⟩ := hzz
  obtain ⟨p, c, rfl, _, h1, h2⟩ := hr
  rcases p with _ | ad
  · obtain rfl := h1 rfl
    exact ⟨v, w, run_append_of_nil w base t ty e i0 1 ht hi v _ _ hown c, by simpa using hown, World.grownBy.refl w _, .inl rfl⟩
  · obtain ⟨v', w', hrun, a2, a3, _, a5⟩ := run_append_own_at (P := P) w base t ty e i0 (.int .u8 0) 1 1 ht hi hz0 hz1 hz2 rfl (by omega) v xs.length (bs xs) hown ad ys.length c (bs ys) (by simp)
      (fun j u hu => by
        simp only [bs, List.getElem?_map, Option.map_eq_some_iff] at hu
        obtain ⟨x, hx, rfl⟩ := hu
        exact h2 ad rfl j x hx) (fun u hu => bs_one u ys hu) (by simp only [maxLen]; omega) (by omega) hbase
    refine ⟨v', w', hrun, by simpa [bs_append] using a2, a3, ?_⟩
    rcases a5 with a5 | a5
    · exact .inl a5
    · exact .inr ⟨_, a5, Nat.le_refl _⟩

theorem wp_pushes {o : Oper} {a : Act} {K : Act → World → Prop} {Q : Exit → Act → World → Prop} (s x : Operand) (t : TypeId)
    (ho : o.op = .call { callee := .builtin .append, args := #[s, x], argTypes := #[t, t] })
    (base : Nat) (e : TypeId) (ht : P.underlying t = some (.slice e)) (hinfo : (P.info? e).map (fun i => (i.zero, i.size, i.bytes)) = some (some (.int .u8 0), 1, 1))
    (v : Value) (xs ys : List UInt8) (u : Value) (hs : a.eval s = v) (hx : a.eval x = u) (hown : w.ownsRow base e 1 v xs.length (bs xs)) (hr : HB w u ys) (hl : xs.length + ys.length ≤ 140737488355328) (hbase : base ≤ w.heap.size)
    (h : ∀ v' w', w'.ownsRow base e 1 v' (xs ++ ys).length (bs (xs ++ ys)) → w.grownBy w' v.ownBlock → Nx w v v' → K (a.put o.dst v') w') : o.wp P a w K Q := by
  obtain ⟨v', w', hrun, h2, h3, h4⟩ := run_pushes (P := P) w base t o.type e ht hinfo v xs ys u hown hr hl hbase
  unfold Oper.wp execOp
  simp only [ho, resolve, invoke, builtin, Sem.run_bind, Sem.run_pure, Result.andThen_ok, List.map_toArray, List.map_cons, List.map_nil, hs, hx, hrun]
  exact h v' w' h2 h3 h4

theorem wpl_pushes {ops : Array Oper} {rest : List Oper} {o : Oper} {a : Act} {Q : Exit → Act → World → Prop} (hgd : o.guard = none) (s x : Operand) (t : TypeId)
    (ho : o.op = .call { callee := .builtin .append, args := #[s, x], argTypes := #[t, t] })
    (base : Nat) (e : TypeId) (ht : P.underlying t = some (.slice e)) (hinfo : (P.info? e).map (fun i => (i.zero, i.size, i.bytes)) = some (some (.int .u8 0), 1, 1))
    (v : Value) (xs ys : List UInt8) (u : Value) (hs : a.eval s = v) (hx : a.eval x = u) (hown : w.ownsRow base e 1 v xs.length (bs xs)) (hr : HB w u ys) (hl : xs.length + ys.length ≤ 140737488355328) (hbase : base ≤ w.heap.size)
    (h : ∀ v' w', w'.ownsRow base e 1 v' (xs ++ ys).length (bs (xs ++ ys)) → w.grownBy w' v.ownBlock → Nx w v v' → wpList P ops Q rest (a.put o.dst v') w') : wpList P ops Q (o :: rest) a w :=
  wpList_plain hgd fun _ hK => wp_pushes w s x t ho base e ht hinfo v xs ys u hs hx hown hr hl hbase fun v' w' h2 h3 h4 => hK _ _ (h v' w' h2 h3 h4)

theorem step_pushes {ops : Array Oper} {o : Oper} {a : Act} {K : Act → World → Prop} {Q : Exit → Act → World → Prop} {E : Prop} (hgd : o.guard = none) (s x : Operand) (t : TypeId)
    (ho : o.op = .call { callee := .builtin .append, args := #[s, x], argTypes := #[t, t] })
    (base : Nat) (e : TypeId) (ht : P.underlying t = some (.slice e)) (hinfo : (P.info? e).map (fun i => (i.zero, i.size, i.bytes)) = some (some (.int .u8 0), 1, 1))
    (v : Value) (xs ys : List UInt8) (u : Value) (hs : a.eval s = v) (hx : a.eval x = u) (hown : w.ownsRow base e 1 v xs.length (bs xs)) (hr : HB w u ys) (hl : xs.length + ys.length ≤ 140737488355328) (hbase : base ≤ w.heap.size)
    (h : ∀ v' w', w'.ownsRow base e 1 v' (xs ++ ys).length (bs (xs ++ ys)) → w.grownBy w' v.ownBlock → Nx w v v' → K (a.put o.dst v') w') :
    if Region.wanted o (yielded ops a.tmps) = true then Oper.wp P o a w K Q else E := by
  have hw : Region.wanted o (yielded ops a.tmps) = true := by simp [Region.wanted, hgd]
  rw [if_pos hw]
  exact wp_pushes w s x t ho base e ht hinfo v xs ys u hs hx hown hr hl hbase h
end
/-- 'string(b)'. -/
theorem HB.string {P : Program} {w : World} {v : Value} {xs : List UInt8} (h : HB w v xs) (src dst e : TypeId) (hs : P.underlying src = some (.slice e)) (he : P.underlying e = some (.int .u8)) (hd : P.underlying dst = some .string) :
    (convert src dst v).run P w = .ok (.string ⟨xs.toArray⟩) w := by
  obtain ⟨p, c, rfl, _, h1, h2⟩ := h
  rcases p with _ | a
  · obtain rfl := h1 rfl
    exact run_convert_bytes_nil w src e hs he 0 c dst hd
  · exact run_convert_bytes_back w src dst e a c xs hs he hd (fun j hj => h2 a rfl j _ (by simp))
end
section
open Go
section
variable {P : Program} {ops : Array Oper} {Q : Exit → Act → World → Prop} {md : Region.Mode} {S : World → Prop}

/-- An order that serves for all: 'true': the operation yields in every world that meets S; 'false': it is the only one that may come up. -/
def okPi (md : Region.Mode) (ops : Array Oper) : List (Nat × Bool) → Array Bool → Bool
  | [], listed => (Region.ready md ops listed).isEmpty
  | (i, true) :: r, listed => Region.free md ops listed i && (Region.ready md ops listed).contains i && okPi md ops r (listed.setIfInBounds i true)
  | (i, false) :: r, listed => (Region.ready md ops listed == [i]) && okPi md ops r (listed.setIfInBounds i true)

def wpPi (P : Program) (ops : Array Oper) (Q : Exit → Act → World → Prop) (S : World → Prop) : List (Nat × Bool) → Act → World → Prop
  | [], a, w => Q .normal a w
  | (i, true) :: r, a, w => ∃ o v, ops[i]? = some o ∧ YieldsIf P ops S o v a ∧ wpPi P ops Q S r (a.put o.dst v) w
  | (i, false) :: r, a, w => wpOp P ops Q i (fun a' w' => S w' ∧ wpPi P ops Q S r a' w') a w

theorem wpPi_sound (hs : Region.noSelect ops = true) (hQ : ∀ c d v a w, Q (.panic c) (Act.put a (some d) v) w → Q (.panic c) a w) :
    ∀ (l : List (Nat × Bool)) (listed : Array Bool) (a : Act) (w : World), okPi md ops l listed = true → S w → wpPi P ops Q S l a w → wpAnyH P md ops Q S l.length listed a w := by
  intro l
  induction l with
  | nil => intro listed a w hk _ h; exact ⟨by simpa [okPi] using hk, h⟩
  | cons x r ih =>
    obtain ⟨i, b⟩ := x
    intro listed a w hk hS h
    cases b with
    | true =>
      simp only [okPi, Bool.and_eq_true] at hk
      obtain ⟨o, v, ho, hy, hr⟩ := h
      exact wpAnyH_take ho hs hk.1.1 hk.1.2 (fun c a w h => by
        cases hd : o.dst with
        | none => rw [hd] at h; exact h
        | some d => rw [hd] at h; exact hQ c _ _ a w h) hy hS (ih _ _ _ hk.2 hS hr)
    | false =>
      simp only [okPi, Bool.and_eq_true, beq_iff_eq] at hk
      refine wpAnyH_all hk.1 (by simp) ?_
      intro j hj
      simp only [List.mem_singleton] at hj
      subst hj
      exact wpOp_mono (fun a' w' h' => ⟨h'.1, ih _ _ _ hk.2 h'.1 h'.2⟩) h

/-- A region that draws its order, walked in one order. -/
theorem wp_region_pi {id : Nat} {a : Act} {w : World} (l : List (Nat × Bool)) (hm : P.follows .mixedOrders = true) (hs : Region.noSelect ops = true)
    (hl : l.length = ops.size) (hk : okPi .any ops l (Array.replicate ops.size false) = true) (hQ : ∀ c d v a w, Q (.panic c) (Act.put a (some d) v) w → Q (.panic c) a w) (S : World → Prop) (hS : S w.drew)
    (h : ∀ ops' : Array Oper, RowKit.Hid (ops' = ops) → wpPi P ops' Q S l a w.drew) : (Code.region id ops true).wp P Q a w := by
  refine wp_region_held (S := S) hm ?_
  have := wpPi_sound hs hQ l _ a _ hk hS (h ops rfl)
  rwa [hl] at this

theorem wpPi_yield {i : Nat} {r : List (Nat × Bool)} {a : Act} {w : World} {o : Oper} (v : Value) (ho : ops[i]? = some o) (hw : Region.wanted o (yielded ops a.tmps) = true)
    (hv : ∀ w, S w → (execOp a.eval o).run P w = .ok (.value v) w) (h : wpPi P ops Q S r (a.put o.dst v) w) : wpPi P ops Q S ((i, true) :: r) a w :=
  ⟨o, v, ho, .inl ⟨hw, hv⟩, h⟩
theorem wpPi_skip {i : Nat} {r : List (Nat × Bool)} {a : Act} {w : World} {o : Oper} (ho : ops[i]? = some o) (hw : Region.wanted o (yielded ops a.tmps) = false)
    (h : wpPi P ops Q S r (a.put o.dst undef) w) : wpPi P ops Q S ((i, true) :: r) a w :=
  ⟨o, undef, ho, .inr ⟨hw, rfl⟩, h⟩
theorem wpPi_act {i : Nat} {r : List (Nat × Bool)} {a : Act} {w : World} {o : Oper} (ho : ops[i]? = some o) (hw : Region.wanted o (yielded ops a.tmps) = true)
    (h : o.wp P a w (fun a' w' => S w' ∧ wpPi P ops Q S r a' w') Q) : wpPi P ops Q S ((i, false) :: r) a w := by
  show wpOp P ops Q i _ a w
  unfold wpOp
  simp only [ho, hw, if_true]
  exact .inl h
theorem wpPi_actSkip {i : Nat} {r : List (Nat × Bool)} {a : Act} {w : World} {o : Oper} (ho : ops[i]? = some o) (hw : Region.wanted o (yielded ops a.tmps) = false)
    (hS : S w) (h : wpPi P ops Q S r (a.put o.dst undef) w) : wpPi P ops Q S ((i, false) :: r) a w := by
  show wpOp P ops Q i _ a w
  unfold wpOp
  simp only [ho, hw]
  exact ⟨hS, h⟩
end
end
section
open Go
section
variable {F : Fence} {n : Nat} {P : Program} {b : Frame} {a : Act} {k : List Item} {cs : List Frame} {w : World} {Q : Exit → Act → World → Prop}
theorem stepR_scope {c : Code} : step P (lone (b.atR a (.code (.scope c) :: k)) cs w) = .next (lone (b.atR a (.code c :: .inScope c :: k)) cs w) :=
  step_lone_go (by simp [stepG, stepG.exec, Frame.atR])
theorem stepR_inScope {c : Code} : step P (lone (b.atR a (.inScope c :: k)) cs w) = .next (lone (b.atR a k) cs w) :=
  step_lone_go (by simp [stepG, stepG.exec, Frame.atR])
/-- A scope through which the run goes without a goto, inside a fence. -/
theorem wpIn_scope {c : Code} (h : c.wpIn F n P (Exit.noGoto Q) a w) : (Code.scope c).wpIn F n P Q a w := by
  intro b k cs hro hb hr
  have h0 : (lone (b.atR a (.code (.scope c) :: k)) cs w).fenced P F := fenced_calm hb hr rfl
  obtain ⟨e, a₁, w₁, hq, harr⟩ := h b (.inScope c :: k) cs hro hb hr
  cases e with
  | normal => exact ⟨.normal, a₁, w₁, hq, .head h0 stepR_scope (StepsIn.trans harr (.one (fenced_calm hb hr rfl) stepR_inScope))⟩
  | exit id =>
    have hx : exitTo id (.inScope c :: k) = exitTo id k := by simp [exitTo]
    exact ⟨.exit id, a₁, w₁, hq, fun k' hk => .head h0 stepR_scope (harr.1 k' (by rw [hx]; exact hk)),
      fun hr' hk => let ⟨k₁, h1, h2⟩ := harr.2 hr' (by rw [hx]; exact hk); ⟨k₁, h1, .head h0 stepR_scope h2⟩⟩
  | goto l => exact hq.elim
  | ret => exact ⟨_, a₁, w₁, hq, .of_steps (.one h0 stepR_scope) harr⟩
  | panic ch => exact ⟨_, a₁, w₁, hq, .of_steps (.one h0 stepR_scope) harr⟩
  | outgrown => exact ⟨_, a₁, w₁, hq, .of_steps (.one h0 stepR_scope) harr⟩
theorem wpIn_label' {l : Nat} (h : Q .normal a w) : (Code.label l).wpIn F n P Q a w := wpIn_label h
end
end
end Go.Proofs.Ytkibccmfgndfjaa
