/- Contracts and words that the laws stand on (St). -/
import Derived.Deep.MidRow
import Derived.Laws.MakeOwn
import Derived.RangeFuncNested
import Derived.RangeFuncBound
import Derived.RangeFuncCalls
import Derived.RangeFuncLeaves
import Derived.OwnWalkIn
import Derived.TacticsInMore
import Derived.LoopNIn
import Derived.LoopIn
import Derived.WalkMore
import Derived.OrdersIn
import Derived.Test.YtkbambojnifjcaaBase
set_option linter.unusedVariables false
set_option linter.unusedSimpArgs false
namespace Go.Proofs.Ytkbambojnifjcaa
section
open Go Go.RowKit Go.Proofs
/-! A world in parts: blocks that are owned, and facts that do not hang on these. -/
/-- The old blocks outside S are as they were. -/
structure Chg (S : List Nat) (w w' : World) : Prop where
  os : w'.os = w.os
  tape : w'.tape = w.tape
  output : w'.output = w.output
  size : w.heap.size ≤ w'.heap.size
  block : ∀ k, k < w.heap.size → k ∉ S → w'.heap[k]? = w.heap[k]?
theorem Chg.refl (S : List Nat) (w : World) : Chg S w w := ⟨rfl, rfl, rfl, Nat.le_refl _, fun _ _ _ => rfl⟩
theorem Chg.of_below {w w' : World} (S : List Nat) (h : Below w.heap.size w w') : Chg S w w' := ⟨h.os, h.tape, h.output, h.size, fun k hk _ => h.block k hk⟩
theorem Chg.below {B : Nat} {S : List Nat} {w w' : World} (h : Chg S w w') (hs : ∀ k, k ∈ S → B ≤ k) (hB : B ≤ w.heap.size) : Below B w w' :=
  ⟨h.os, h.tape, h.output, h.size, fun k hk => h.block k (by omega) (fun hm => by have := hs k hm; omega)⟩
/-- What is owned: its blocks, and what is known of them. -/
structure Res where
  fp : List Nat
  ok : World → Prop
  loc : ∀ W W' : World, (∀ k ∈ fp, W'.heap[k]? = W.heap[k]?) → ok W → ok W'
  cel : ∀ W : World, ok W → ∀ k ∈ fp, ∃ o : Obj, W.heap[k]? = some o ∧ o.isCells = true
/-- A block, known whole. -/
def Blk (b : Nat) (l : List Value) (T : TypeId) : Res := ⟨[b], fun W => W.heap[b]? = some (.cells l.toArray T (0, 0)), fun _ _ h ho => (h b (by simp)).trans ho, fun W h k hk => by simp at hk; subst hk; exact ⟨_, h, rfl⟩⟩
theorem own_block {w w' : World} {base : Nat} {e : TypeId} {size n : Nat} {v : Value} {xs : List Value} (h : w.ownsRow base e size v n xs) (hb : ∀ k, v.ownBlock = some k → w'.heap[k]? = w.heap[k]?) : w'.ownsRow base e size v n xs := by
  refine ⟨h.1, ?_⟩
  rcases h.2 with hn | ⟨g, cap, cur, rfl, hg, hh, rest⟩
  · exact .inl hn
  · exact .inr ⟨g, cap, cur, rfl, hg, (hb g rfl).trans hh, rest⟩
/-- A slice that was appended to: n elements of the type E (size cells each), whose cells are l. -/
def Row (v : Value) (E : TypeId) (size n : Nat) (l : List Value) : Res := ⟨v.ownBlock.toList, fun W => W.ownsRow 0 E size v n l, fun _ _ h ho => own_block ho (fun k hk => h k (by simp [hk])), fun W h k hk => by
  rcases h.2 with ⟨rfl, _⟩ | ⟨g, cap, cur, rfl, _, hh, _⟩
  · simp [Value.ownBlock] at hk
  · simp [Value.ownBlock] at hk; subst hk; exact ⟨_, hh, rfl⟩⟩
def Keys (L : List Res) (k : Nat) : Prop := ∃ r ∈ L, k ∈ r.fp
/-- W' has W's old blocks of cells, but for those of K. -/
structure Same (K : Nat → Prop) (W W' : World) : Prop where
  size : W.heap.size ≤ W'.heap.size
  blk : ∀ (k : Nat) (o : Obj), ¬ K k → W.heap[k]? = some o → o.isCells = true → W'.heap[k]? = some o
theorem Same.refl (K : Nat → Prop) (W : World) : Same K W W := ⟨Nat.le_refl _, fun _ _ _ h _ => h⟩
theorem cell_cells {W : World} {a : Addr} {v : Value} (h : W.cell? a = some v) : ∃ o : Obj, W.heap[a.block]? = some o ∧ o.isCells = true := by
  unfold World.cell? at h
  split at h <;> first | cases h | skip
  all_goals first | (rename_i hh; exact ⟨_, hh, rfl⟩) | (rename_i hh _; exact ⟨_, hh, rfl⟩) | (rename_i _ hh; exact ⟨_, hh, rfl⟩)
theorem Same.cell {K : Nat → Prop} {W W' : World} (h : Same K W W') {a : Addr} {v : Value} (hk : ¬ K a.block) (hc : W.cell? a = some v) : W'.cell? a = some v := by
  obtain ⟨o, ho, hl⟩ := cell_cells hc
  exact (World.cell?_of_block ((h.blk _ o hk ho hl).trans ho.symm)).trans hc
/-- F holds in W, and in each world that has W's old blocks of cells, but for those of K. -/
def Away (K : Nat → Prop) (F : World → Prop) (W : World) : Prop := ∀ W' : World, Same K W W' → F W'
theorem Away.mono {K K' : Nat → Prop} {F : World → Prop} {W : World} (h : Away K F W) (hk : ∀ k, K' k → K k) : Away K' F W := fun W' hs => h W' ⟨hs.size, fun k o hn ho hc => hs.blk k o (fun h' => hn (hk k h')) ho hc⟩
theorem Away.here {K : Nat → Prop} {F : World → Prop} {W : World} (h : Away K F W) : F W := h W (Same.refl _ _)
structure St (w W : World) (L : List Res) (Fs : List (World → Prop)) : Prop where
  below : Below w.heap.size w W
  own : ∀ r ∈ L, r.ok W ∧ ∀ k ∈ r.fp, w.heap.size ≤ k ∧ k < W.heap.size
  apart : ∀ (i j : Nat) (r s : Res), L[i]? = some r → L[j]? = some s → i ≠ j → ∀ k ∈ r.fp, k ∉ s.fp
  facts : ∀ F ∈ Fs, Away (Keys L) F W
section
variable {w W W' : World} {L : List Res} {Fs : List (World → Prop)}
theorem St.start (w : World) : St w w [] [] := ⟨Below.refl _ _, (fun _ h => by cases h), (fun i j r s h => by simp at h), (fun _ h => by cases h)⟩
theorem St.res (h : St w W L Fs) {i : Nat} {r : Res} (hi : L[i]? = some r) : r.ok W := (h.own r (List.mem_of_getElem? hi)).1
theorem St.fact (h : St w W L Fs) {i : Nat} {F : World → Prop} (hi : Fs[i]? = some F) : F W := (h.facts F (List.mem_of_getElem? hi)).here
theorem St.addF (h : St w W L Fs) {F : World → Prop} (hF : Away (Keys L) F W) : St w W L (F :: Fs) :=
  ⟨h.below, h.own, h.apart, fun G hG => by rcases List.mem_cons.1 hG with rfl | hG; exact hF; exact h.facts G hG⟩
theorem St.dropF (h : St w W L Fs) {Gs : List (World → Prop)} (hs : ∀ G ∈ Gs, G ∈ Fs) : St w W L Gs := ⟨h.below, h.own, h.apart, fun G hG => h.facts G (hs G hG)⟩
theorem St.key_lt (h : St w W L Fs) {k : Nat} (hk : Keys L k) : w.heap.size ≤ k ∧ k < W.heap.size := by obtain ⟨r, hr, hm⟩ := hk; exact (h.own r hr).2 k hm
/-- One part is turned (r to r'), what is new may belong to it. -/
theorem St.upd (h : St w W L Fs) {i : Nat} {r r' : Res} (hi : L[i]? = some r) (hc : Chg r.fp W W') (hok : r'.ok W') (hfp : ∀ k ∈ r'.fp, (k ∈ r.fp ∨ W.heap.size ≤ k) ∧ k < W'.heap.size) : St w W' (L.set i r') Fs := by
  have hr := h.own r (List.mem_of_getElem? hi)
  have hli := (List.getElem?_eq_some_iff.1 hi).1
  have hB := h.below.size
  have old : ∀ s ∈ L.set i r', s = r' ∨ ∃ j, j ≠ i ∧ L[j]? = some s := by
    intro s hs
    obtain ⟨j, hj⟩ := List.mem_iff_getElem?.1 hs
    by_cases hji : i = j
    · subst hji; rw [List.getElem?_set_self hli] at hj; injection hj with hj; exact .inl hj.symm
    · rw [List.getElem?_set_ne hji] at hj; exact .inr ⟨j, fun e => hji e.symm, hj⟩
  refine ⟨h.below.trans (hc.below (fun k hk => (hr.2 k hk).1) hB), ?_, ?_, ?_⟩
  · intro s hs
    rcases old s hs with rfl | ⟨j, hj, hs'⟩
    · refine ⟨hok, fun k hk => ?_⟩
      obtain ⟨h1 | h1, h2⟩ := hfp k hk
      · exact ⟨(hr.2 k h1).1, h2⟩
      · exact ⟨by omega, h2⟩
    · have ho := h.own s (List.mem_of_getElem? hs')
      refine ⟨s.loc W W' (fun k hk => hc.block k (ho.2 k hk).2 (h.apart j i s r hs' hi hj k hk)) ho.1, fun k hk => ⟨(ho.2 k hk).1, Nat.lt_of_lt_of_le (ho.2 k hk).2 hc.size⟩⟩
  · intro a b s t ha hb hab k hk hk'
    have get : ∀ (a : Nat) (s : Res), (L.set i r')[a]? = some s → (a = i ∧ s = r') ∨ (a ≠ i ∧ L[a]? = some s) := by
      intro a s ha
      by_cases hai : i = a
      · subst hai; rw [List.getElem?_set_self hli] at ha; injection ha with ha; exact .inl ⟨rfl, ha.symm⟩
      · rw [List.getElem?_set_ne hai] at ha; exact .inr ⟨fun e => hai e.symm, ha⟩
    have key : ∀ (j : Nat) (s : Res), j ≠ i → L[j]? = some s → ∀ k ∈ s.fp, k ∉ r'.fp := by
      intro j s hj hs k hk hk'
      obtain ⟨h1 | h1, _⟩ := hfp k hk'
      · exact h.apart j i s r hs hi hj k hk h1
      · have := ((h.own s (List.mem_of_getElem? hs)).2 k hk).2; omega
    rcases get a s ha with ⟨rfl, rfl⟩ | ⟨h1, h2⟩
    · rcases get b t hb with ⟨rfl, rfl⟩ | ⟨h3, h4⟩
      · exact hab rfl
      · exact key b t h3 h4 k hk' hk
    · rcases get b t hb with ⟨rfl, rfl⟩ | ⟨h3, h4⟩
      · exact key a s h1 h2 k hk hk'
      · exact h.apart a b s t h2 h4 hab k hk hk'
  · intro F hF W'' hs
    refine h.facts F hF W'' ⟨Nat.le_trans hc.size hs.size, fun k o hn ho hcl => ?_⟩
    have hk := (Array.getElem?_eq_some_iff.1 ho).1
    have hkr : k ∉ r.fp := fun hm => hn ⟨r, List.mem_of_getElem? hi, hm⟩
    refine hs.blk k o ?_ ((hc.block k hk hkr).trans ho) hcl
    rintro ⟨s, hs', hm⟩
    rcases old s hs' with rfl | ⟨j, _, hj⟩
    · obtain ⟨h1 | h1, _⟩ := hfp k hm
      · exact hkr h1
      · omega
    · exact hn ⟨s, List.mem_of_getElem? hj, hm⟩
/-- A call that turns nothing of old. -/
theorem St.call (h : St w W L Fs) (hb : Below W.heap.size W W') : St w W' L Fs := by
  refine ⟨h.below.trans (hb.mono h.below.size), fun r hr => ⟨r.loc W W' (fun k hk => hb.block k ((h.own r hr).2 k hk).2) (h.own r hr).1, fun k hk => ⟨((h.own r hr).2 k hk).1, Nat.lt_of_lt_of_le ((h.own r hr).2 k hk).2 hb.size⟩⟩, h.apart, ?_⟩
  intro F hF W'' hs
  exact h.facts F hF W'' ⟨Nat.le_trans hb.size hs.size, fun k o hn ho hc => hs.blk k o hn ((hb.block k (Array.getElem?_eq_some_iff.1 ho).1).trans ho) hc⟩
/-- A block that holds no cells is turned (book-keeping). -/
theorem St.book (h : St w W L Fs) {row : Option Nat} (hg : W.grownBy W' row) (hr : ∀ r, row = some r → w.heap.size ≤ r ∧ ∃ o : Obj, W.heap[r]? = some o ∧ o.isCells = false) : St w W' L Fs := by
  have same : ∀ (k : Nat) (o : Obj), W.heap[k]? = some o → o.isCells = true → W'.heap[k]? = some o := fun k o ho hc => by
    refine (hg.block k (Array.getElem?_eq_some_iff.1 ho).1 (fun e => ?_)).trans ho
    obtain ⟨_, o', h1, h2⟩ := hr k e.symm
    rw [ho] at h1
    injection h1 with h1
    subst h1
    rw [hc] at h2
    cases h2
  refine ⟨h.below.grown hg h.below.size (fun k hk => (hr k hk).1), fun r hm => ?_, h.apart, fun F hF W'' hs => ?_⟩
  · have ho := h.own r hm
    refine ⟨r.loc W W' (fun k hk => ?_) ho.1, fun k hk => ⟨(ho.2 k hk).1, Nat.lt_of_lt_of_le (ho.2 k hk).2 hg.size⟩⟩
    obtain ⟨o, h1, h2⟩ := r.cel W ho.1 k hk
    rw [h1]; exact same k o h1 h2
  · exact h.facts F hF W'' ⟨Nat.le_trans hg.size hs.size, fun k o hn ho hc => hs.blk k o hn (same k o ho hc) hc⟩
theorem St.drew (h : St w W L Fs) : St w W.drew L Fs := h.call (Below.refl _ _).drew
theorem St.drewN (h : St w W L Fs) (n : Nat) : St w (W.drewN n) L Fs := ⟨⟨h.below.os, h.below.tape, h.below.output, h.below.size, h.below.block⟩, fun r hr => ⟨r.loc W (W.drewN n) (fun _ _ => rfl) (h.own r hr).1, (h.own r hr).2⟩, h.apart, fun F hF W' hs => h.facts F hF W' ⟨hs.size, hs.blk⟩⟩
/-- What is new is taken. -/
theorem St.new (h : St w W L Fs) (hb : Below W.heap.size W W') {r : Res} (hok : r.ok W') (hfp : ∀ k ∈ r.fp, W.heap.size ≤ k ∧ k < W'.heap.size) : St w W' (r :: L) Fs := by
  have h' := h.call hb
  refine ⟨h'.below, ?_, ?_, ?_⟩
  · intro s hs
    rcases List.mem_cons.1 hs with rfl | hs
    · exact ⟨hok, fun k hk => ⟨Nat.le_trans h.below.size (hfp k hk).1, (hfp k hk).2⟩⟩
    · exact h'.own s hs
  · have key : ∀ (j : Nat) (s : Res), L[j]? = some s → ∀ k ∈ s.fp, k ∉ r.fp := fun j s hs k hk hm => by
      have := ((h.own s (List.mem_of_getElem? hs)).2 k hk).2; have := (hfp k hm).1; omega
    intro i j s t hi hj hij k hk hk'
    cases i with
    | zero =>
      simp at hi; subst hi
      cases j with
      | zero => exact hij rfl
      | succ j => exact key j t (by simpa using hj) k hk' hk
    | succ i =>
      cases j with
      | zero => simp at hj; subst hj; exact key i s (by simpa using hi) k hk hk'
      | succ j => exact h'.apart i j s t (by simpa using hi) (by simpa using hj) (by omega) k hk hk'
  · intro F hF W'' hs
    refine h.facts F hF W'' ⟨Nat.le_trans hb.size hs.size, fun k o hn ho hc => hs.blk k o ?_ ((hb.block k (Array.getElem?_eq_some_iff.1 ho).1).trans ho) hc⟩
    have hk := (Array.getElem?_eq_some_iff.1 ho).1
    rintro ⟨s, hs', hm⟩
    rcases List.mem_cons.1 hs' with rfl | hs'
    · have := (hfp k hm).1; omega
    · exact hn ⟨s, hs', hm⟩
theorem St.alloc (h : St w W L Fs) (l : List Value) (T : TypeId) : St w (W.alloc (.cells l.toArray T)) (Blk W.heap.size l T :: L) Fs :=
  h.new ((Below.refl _ _).alloc (Nat.le_refl _) _) (heap_alloc_new _ _) (fun k hk => by simp [Blk] at hk; subst hk; simp)
theorem getElem?_eraseIdx_some {α : Type} {l : List α} {i a : Nat} {s : α} (h : (l.eraseIdx i)[a]? = some s) : ∃ b, b ≠ i ∧ l[b]? = some s ∧ b = if a < i then a else a + 1 := by
  rw [List.getElem?_eraseIdx] at h
  split at h
  · exact ⟨a, by omega, h, by rw [if_pos (by assumption)]⟩
  · exact ⟨a + 1, by omega, h, by rw [if_neg (by assumption)]⟩
/-- A part is let go: what is known of it stays known. -/
theorem St.freeze (h : St w W L Fs) {i : Nat} {r : Res} (hi : L[i]? = some r) : St w W (L.eraseIdx i) (r.ok :: Fs) := by
  have hm : ∀ s ∈ L.eraseIdx i, ∃ b, b ≠ i ∧ L[b]? = some s := fun s hs => by
    obtain ⟨a, ha⟩ := List.mem_iff_getElem?.1 hs
    obtain ⟨b, h1, h2, _⟩ := getElem?_eraseIdx_some ha
    exact ⟨b, h1, h2⟩
  refine ⟨h.below, fun s hs => by obtain ⟨b, _, hb⟩ := hm s hs; exact h.own s (List.mem_of_getElem? hb), ?_, ?_⟩
  · intro a b s t ha hb hab
    obtain ⟨a', h1, h2, h3⟩ := getElem?_eraseIdx_some ha
    obtain ⟨b', h4, h5, h6⟩ := getElem?_eraseIdx_some hb
    refine h.apart a' b' s t h2 h5 ?_
    split at h3 <;> split at h6 <;> omega
  · intro F hF
    rcases List.mem_cons.1 hF with rfl | hF
    · intro W' hs
      have ho := h.own r (List.mem_of_getElem? hi)
      refine r.loc W W' (fun k hk => ?_) ho.1
      obtain ⟨o, h1, h2⟩ := r.cel W ho.1 k hk
      rw [h1]
      refine hs.blk k o ?_ h1 h2
      rintro ⟨s, hs', hk'⟩
      obtain ⟨b, hb1, hb2⟩ := hm s hs'
      exact h.apart b i s r hb2 hi hb1 k hk' hk
    · refine (h.facts F hF).mono ?_
      rintro k ⟨s, hs', hk'⟩
      obtain ⟨b, _, hb2⟩ := hm s hs'
      exact ⟨s, List.mem_of_getElem? hb2, hk'⟩
theorem St.sub (h : St w W L Fs) (i : Nat) : St w W (L.eraseIdx i) Fs := by
  by_cases hi : i < L.length
  · exact (h.freeze (List.getElem?_eq_getElem hi)).dropF fun G hG => List.mem_cons_of_mem _ hG
  · rw [List.eraseIdx_of_length_le (by omega)]; exact h
/-! what lies in a block -/
theorem St.blk (h : St w W L Fs) {i b : Nat} {l : List Value} {T : TypeId} (hi : L[i]? = some (Blk b l T)) : W.heap[b]? = some (.cells l.toArray T (0, 0)) := h.res hi
theorem St.cell (h : St w W L Fs) {i b k : Nat} {l : List Value} {T : TypeId} {v : Value} (hi : L[i]? = some (Blk b l T)) (hv : l[k]? = some v) : W.cell? ⟨b, k, none⟩ = some v := by
  rw [cell_of_row W b k _ _ _ (h.blk hi)]; simpa using hv
theorem St.free (h : St w W L Fs) {i b k : Nat} {l : List Value} {T : TypeId} (hi : L[i]? = some (Blk b l T)) : W.frozen? ⟨b, k, none⟩ = false := frozen_of_row W b k _ T (h.blk hi)
theorem St.setCell (h : St w W L Fs) {i b k : Nat} {l : List Value} {T : TypeId} (hi : L[i]? = some (Blk b l T)) (v : Value) : St w (W.setCell ⟨b, k, none⟩ v) (L.set i (Blk b (l.set k v) T)) Fs := by
  refine h.upd hi ⟨rfl, rfl, rfl, by simp [World.setCell], fun j hj hn => ?_⟩ ?_ ?_
  · exact heap_setCell_other W _ j v (by simp [Blk] at hn; exact hn)
  · show (W.setCell ⟨b, k, none⟩ v).heap[b]? = _
    rw [heap_setCell_same W b k _ T v (h.blk hi)]; simp
  · intro j hj
    refine ⟨.inl hj, ?_⟩
    have := (h.own _ (List.mem_of_getElem? hi)).2 j hj
    simpa [World.setCell] using this.2
/-- The cells l from place k on are turned to xs. -/
def splice (l : List Value) (k : Nat) (xs : List Value) : List Value := l.take k ++ (xs ++ l.drop (k + xs.length))
theorem splice_nil (l : List Value) (k : Nat) : splice l k [] = l := by simp [splice]
theorem splice_cons (l : List Value) (k : Nat) (v : Value) (xs : List Value) (h : k < l.length) : splice (l.set k v) (k + 1) xs = splice l k (v :: xs) := by
  simp only [splice, List.length_cons, List.cons_append]
  rw [show k + 1 + xs.length = k + (xs.length + 1) by omega]
  have e1 : (l.set k v).take (k + 1) = l.take k ++ [v] := by
    apply List.ext_getElem?
    intro i
    rw [List.getElem?_take]
    by_cases hi : i < k + 1
    · rw [if_pos hi]
      by_cases hk : i = k
      · subst hk
        rw [List.getElem?_set_self h, List.getElem?_append_right (by simp; omega)]
        simp [Nat.min_eq_left (Nat.le_of_lt h)]
      · rw [List.getElem?_set_ne (by omega), List.getElem?_append_left (by simp; omega), List.getElem?_take_of_lt (by omega)]
    · rw [if_neg hi, List.getElem?_eq_none]
      simp; omega
  have e2 : (l.set k v).drop (k + (xs.length + 1)) = l.drop (k + (xs.length + 1)) := by
    apply List.ext_getElem?
    intro i
    rw [List.getElem?_drop, List.getElem?_drop, List.getElem?_set_ne (by omega)]
  rw [e1, e2, List.append_assoc]
  rfl
theorem St.setCells {i b : Nat} {T : TypeId} (xs : List Value) : ∀ (k : Nat) (l : List Value) (W : World) (L : List Res), St w W L Fs → L[i]? = some (Blk b l T) → k + xs.length ≤ l.length → St w (W.setCells b k xs) (L.set i (Blk b (splice l k xs) T)) Fs := by
  induction xs with
  | nil =>
    intro k l W L h hi _
    rw [splice_nil]
    have : L.set i (Blk b l T) = L := by
      apply List.ext_getElem?
      intro j
      by_cases hj : i = j
      · subst hj; rw [List.getElem?_set_self (List.getElem?_eq_some_iff.1 hi).1, hi]
      · rw [List.getElem?_set_ne hj]
    rw [this]
    exact h
  | cons v xs ih =>
    intro k l W L h hi hl
    simp only [List.length_cons] at hl
    rw [World.setCells]
    have h1 := h.setCell (k := k) hi v
    have h2 := ih (k + 1) (l.set k v) _ _ h1 (List.getElem?_set_self (List.getElem?_eq_some_iff.1 hi).1) (by simp; omega)
    rw [List.set_set, splice_cons l k v xs (by omega)] at h2
    exact h2
end
end
section
open Go Go.RowKit Go.Proofs
/-- A type whose variables are one cell. -/
def scal (P : Program) (t : TypeId) : Bool := match P.underlying t with
  | some (.struct _) | some (.array _ _) | none => false
  | _ => (P.info? t).map (·.size) == some 1
/-- A type whose variables are n cells. -/
def aggr (P : Program) (t : TypeId) (n : Nat) : Bool := match P.underlying t with
  | some (.struct _) | some (.array _ _) => (P.info? t).map (·.size) == some n
  | _ => false
/-- A type's zero. -/
def zeroIs (P : Program) (t : TypeId) (z : Value) : Prop := (P.info? t).bind (·.zero) = some z
section
variable {P : Program} {W : World} {t : TypeId} {o : Oper} {ev : Operand → Value}
theorem scal_agg (h : scal P t = true) (W : World) : (isAgg t).run P W = .ok false W := by
  unfold scal at h
  unfold isAgg
  rw [Sem.run_bind]
  cases hu : P.underlying t with
  | none => simp [hu] at h
  | some d =>
    rw [run_underlying hu W]
    rw [hu] at h
    cases d <;> simp_all [Result.andThen]
theorem scal_size (h : scal P t = true) : (P.info? t).map (·.size) = some 1 := by
  unfold scal at h
  split at h <;> simp_all
theorem run_ld (h : scal P t = true) {x : Operand} {p : Addr} {v : Value} (ho : o.op = .load t x) (hx : ev x = .pointer (some p)) (hc : W.cell? p = some v) : (execOp ev o).run P W = .ok (.value v) W := by
  unfold execOp
  simp only [ho, hx, Instr.loadAt, Instr.sureAddr, loadVar, Sem.run_bind, Sem.run_pure, Result.andThen_ok, scal_agg h]
  simp [go_sem, hc]
theorem aggr_desc {n : Nat} (h : aggr P t n = true) : ∃ d, P.underlying t = some d ∧ d.isRow = true ∧ (P.info? t).map (·.size) = some n := by
  unfold aggr at h
  split at h
  · rename_i hu; exact ⟨_, hu, rfl, by simpa using h⟩
  · rename_i hu; exact ⟨_, hu, rfl, by simpa using h⟩
  · cases h
theorem run_lda {n : Nat} (h : aggr P t n = true) {x : Operand} {b k : Nat} {cs : List Value} (ho : o.op = .load t x) (hx : ev x = .pointer (some ⟨b, k, none⟩)) (hc : W.rangeAt b k cs) (hn : cs.length = n) : (execOp ev o).run P W = .ok (.value (.agg cs.toArray)) W := by
  obtain ⟨d, hu, hd, hi⟩ := aggr_desc h
  unfold execOp
  simp only [ho, hx, Instr.loadAt, Instr.sureAddr, Sem.run_bind, Sem.run_pure, Result.andThen_ok, run_loadVar_mid W b k t cs d hc hu hd (by rw [hi, hn])]
theorem cells_one {v : Value} (h : v.oneCell' = true) : v.cells = #[v] := by
  cases v <;> first | rfl | (simp [Value.oneCell'] at h)
theorem run_stc (h : scal P t = true) {x y : Operand} {p : Addr} {u v : Value} (ho : o.op = .store t x y) (hx : ev x = .pointer (some p)) (hy : ev y = v) (h1 : v.oneCell' = true) (hc : W.cell? p = some u) (hf : W.frozen? p = false) : (execOp ev o).run P W = .ok .skip (W.setCell p v) := by
  have hs := scal_size h
  obtain ⟨i, hi, hi1⟩ := Option.map_eq_some_iff.1 hs
  have e : ((Instr.storeAt t (.pointer (some p)) v).run P W) = .ok () (W.setCell p v) := by
    simp only [Instr.storeAt, Instr.sureAddr, storeVar, sizeOf, typeInfo, Sem.run_bind, Sem.run_pure, Result.andThen_ok, cells_one h1]
    simp [go_sem, hi, hi1, storeCells, run_store P W p v .plain h1, hc, hf]
  unfold execOp
  simp only [ho, hx, hy, Sem.run_bind, Sem.run_pure, Result.andThen_ok, e]
theorem run_sta {n : Nat} (h : aggr P t n = true) {x y : Operand} {b k : Nat} {cs : List Value} (ho : o.op = .store t x y) (hx : ev x = .pointer (some ⟨b, k, none⟩)) (hy : ev y = .agg cs.toArray) (hn : cs.length = n) (h1 : ∀ v ∈ cs, v.oneCell' = true) (ht : W.there b k cs.length) : (execOp ev o).run P W = .ok .skip (W.setCells b k cs) := by
  obtain ⟨d, hu, hd, hi⟩ := aggr_desc h
  unfold execOp
  have := run_storeAt_mid (P := P) W b k t cs.toArray (by simpa using ht) (by rw [hi, ← hn]; simp) (all_oneCell_toArray h1)
  simp only [ho, hx, hy, Sem.run_bind, Sem.run_pure, Result.andThen_ok, this]
theorem run_bx {x : Operand} {l : List Value} (ho : o.op = .box t x) (hx : (ev x).cells = l.toArray) : (execOp ev o).run P W = .ok (.value (.pointer (some ⟨W.heap.size, 0, none⟩))) (W.alloc (.cells l.toArray t)) := by
  unfold execOp
  simp only [ho, Instr.box, newVar, newRow, hx, Sem.run_bind, Sem.run_pure, Result.andThen_ok, run_newObj_alloc]
theorem run_al {l : List Value} {z : Value} (ho : o.op = .alloc t) (hz : zeroIs P t z) (hl : z.cells = l.toArray) : (execOp ev o).run P W = .ok (.value (.pointer (some ⟨W.heap.size, 0, none⟩))) (W.alloc (.cells l.toArray t)) := by
  obtain ⟨i, hi, hz⟩ := Option.bind_eq_some_iff.1 hz
  unfold execOp
  have e : (zeroValue t).run P W = .ok z W := by simp [zeroValue, typeInfo, hi, hz, go_sem]
  simp only [ho, Instr.alloc, newVar, newRow, Sem.run_bind, Sem.run_pure, Result.andThen_ok, e, hl, run_newObj_alloc]
theorem run_ix {N : Nat} {E : TypeId} {x ix : Operand} {cs : Array Value} {kd : IntKind} {k : Nat} {v : Value} (hu : P.underlying t = some (.array N E)) (hE : scal P E = true) (ho : o.op = .index t x ix) (hx : ev x = .agg cs) (hi : ev ix = .int kd (k : Int)) (hk : k < N) (hv : cs[k]? = some v) : (execOp ev o).run P W = .ok (.value v) W := by
  obtain ⟨i, hi', hi1⟩ := Option.map_eq_some_iff.1 (scal_size hE)
  have h0 : (0 : Int) ≤ (k : Int) ∧ (k : Int) < (N : Int) := by omega
  unfold execOp
  simp only [ho, hx, hi, Instr.index, asIntOf, Sem.run_bind, Sem.run_pure, Result.andThen_ok, run_underlying hu, h0, and_self, if_true, sizeOf, typeInfo, part, scal_agg hE]
  simp [go_sem, hi', hi1, hv, scal_agg hE]
theorem wp_of_run {a : Act} {K : Act → World → Prop} {Q : Exit → Act → World → Prop} {v : Value} {W' : World} (h : (execOp a.eval o).run P W = .ok (.value v) W') (hK : K (a.put o.dst v) W') : o.wp P a W K Q := by
  unfold Oper.wp; rw [h]; exact hK
theorem wp_of_skip {a : Act} {K : Act → World → Prop} {Q : Exit → Act → World → Prop} {W' : World} (h : (execOp a.eval o).run P W = .ok .skip W') (hK : K (a.put o.dst undef) W') : o.wp P a W K Q := by
  unfold Oper.wp; rw [h]; exact hK
end
/-! The steps of a walk, by what is owned. -/
section
variable {P : Program} {w W : World} {L : List Res} {Fs : List (World → Prop)} {o : Oper} {a : Act} {K : Act → World → Prop} {Q : Exit → Act → World → Prop} {ops : Array Oper} {rest : List Oper} {t T : TypeId} {b k n : Nat} {l cs : List Value} {v : Value} {x y : Operand}
theorem St.range (h : St w W L Fs) {i : Nat} (hi : L[i]? = some (Blk b l T)) (hv : (l.drop k).take cs.length = cs) : W.rangeAt b k cs := by
  intro j u hu
  refine h.cell hi ?_
  rw [← hv] at hu
  have hj : j < cs.length := by
    have := (List.getElem?_eq_some_iff.1 hu).1
    simp at this; omega
  rw [List.getElem?_take_of_lt hj, List.getElem?_drop] at hu
  exact hu
theorem St.there (h : St w W L Fs) {i : Nat} (hi : L[i]? = some (Blk b l T)) (hk : k + n ≤ l.length) : W.there b k n := fun j hj =>
  ⟨by rw [h.cell hi (k := k + j) (List.getElem?_eq_getElem (by omega))]; rfl, h.free hi⟩
theorem s_ld (hS : St w W L Fs) (i : Nat) (ho : o.op = .load t x) (hx : a.eval x = .pointer (some ⟨b, k, none⟩)) (hi : L[i]? = some (Blk b l T)) (hs : scal P t = true) (hv : l[k]? = some v) (h : K (a.put o.dst v) W) : o.wp P a W K Q :=
  wp_of_run (run_ld hs ho hx (hS.cell hi hv)) h
theorem s_lda (hS : St w W L Fs) (i : Nat) (n : Nat) (ho : o.op = .load t x) (hx : a.eval x = .pointer (some ⟨b, k, none⟩)) (hi : L[i]? = some (Blk b l T)) (hs : aggr P t n = true) (hv : (l.drop k).take n = cs) (hn : cs.length = n) (h : K (a.put o.dst (.agg cs.toArray)) W) : o.wp P a W K Q :=
  wp_of_run (run_lda hs ho hx (hS.range hi (by rw [hn]; exact hv)) hn) h
theorem s_st (hS : St w W L Fs) (i : Nat) (ho : o.op = .store t x y) (hx : a.eval x = .pointer (some ⟨b, k, none⟩)) (hi : L[i]? = some (Blk b l T)) (hs : scal P t = true) (hy : a.eval y = v) (h1 : v.oneCell' = true) (hk : k < l.length) (h : ∀ W', St w W' (L.set i (Blk b (l.set k v) T)) Fs → K (a.put o.dst undef) W') : o.wp P a W K Q :=
  wp_of_skip (run_stc hs ho hx hy h1 (hS.cell hi (List.getElem?_eq_getElem hk)) (hS.free hi)) (h _ (hS.setCell hi v))
theorem s_sta (hS : St w W L Fs) (i : Nat) (n : Nat) (ho : o.op = .store t x y) (hx : a.eval x = .pointer (some ⟨b, k, none⟩)) (hi : L[i]? = some (Blk b l T)) (hs : aggr P t n = true) (hy : a.eval y = .agg cs.toArray) (hn : cs.length = n) (h1 : ∀ v ∈ cs, v.oneCell' = true) (hk : k + n ≤ l.length) (h : ∀ W', St w W' (L.set i (Blk b (splice l k cs) T)) Fs → K (a.put o.dst undef) W') : o.wp P a W K Q :=
  wp_of_skip (run_sta hs ho hx hy hn h1 (hS.there hi (by omega))) (h _ (St.setCells cs k l W L hS hi (by omega)))
theorem s_bx (hS : St w W L Fs) (ho : o.op = .box t x) (hx : (a.eval x).cells = l.toArray) (h : ∀ b W', St w W' (Blk b l t :: L) Fs → K (a.put o.dst (.pointer (some ⟨b, 0, none⟩))) W') : o.wp P a W K Q :=
  wp_of_run (run_bx ho hx) (h _ _ (hS.alloc l t))
theorem s_al (hS : St w W L Fs) (ho : o.op = .alloc t) {z : Value} (hz : zeroIs P t z) (hl : z.cells = l.toArray) (h : ∀ b W', St w W' (Blk b l t :: L) Fs → K (a.put o.dst (.pointer (some ⟨b, 0, none⟩))) W') : o.wp P a W K Q :=
  wp_of_run (run_al ho hz hl) (h _ _ (hS.alloc l t))
theorem madeCells_one (z : Value) (n : Nat) (h1 : z.oneCell' = true) : madeCells z.cells n = (List.replicate n z).toArray := by
  rw [cells_one h1]
  apply Array.ext
  · simp [madeCells]
  · intro i h1 h2
    simp [madeCells, Nat.mod_one]
theorem s_mk (hS : St w W L Fs) {E : TypeId} {z : Value} (n : Nat) {kl kc : IntKind} {z1 z2 : Operand} (ho : o.op = .makeSlice t z1 z2) (h1 : a.eval z1 = .int kl (n : Int)) (h2 : a.eval z2 = .int kc (n : Int)) (ht : P.underlying t = some (.slice E)) (hz : zeroIs P E z) (hz1 : z.oneCell' = true) (hi : ((P.info? E).map fun i => (i.size, i.bytes)) = some (1, k)) (hk : k * n ≤ 281474976710656) (hn : n ≤ 9223372036854775807)
    (h : ∀ b W', St w W' (Blk b (List.replicate n z) E :: L) Fs → K (a.put o.dst (.slice (some ⟨b, 0, none⟩) n n)) W') : o.wp P a W K Q := by
  obtain ⟨i, hi', hz⟩ := Option.bind_eq_some_iff.1 hz
  have hi2 : i.size = 1 ∧ i.bytes = k := by simp [hi'] at hi; exact hi
  have hb : (i.bytes : Int) * (n : Int) ≤ 281474976710656 := by
    rw [hi2.2]
    have hk' : ((k * n : Nat) : Int) ≤ 281474976710656 := by omega
    rwa [Int.natCast_mul] at hk'
  have := run_make (P := P) W t E i z ht hi' hz kl kc (n : Int) (n : Int) (by omega) (Int.le_refl _) hb (by omega)
  rw [Int.toNat_natCast, hi2.1, Nat.mul_one, madeCells_one z n hz1] at this
  refine wp_of_run (v := .slice (some ⟨W.heap.size, 0, none⟩) n n) (W' := W.alloc (.cells (List.replicate n z).toArray E)) ?_ (h _ _ (hS.alloc _ _))
  unfold execOp
  simp only [ho, h1, h2, Sem.run_bind, Sem.run_pure, Result.andThen_ok, this]
theorem wl (hw : Region.wanted o (yielded ops a.tmps) = true) (h : o.wp P a W (wpList P ops Q rest) Q) : wpList P ops Q (o :: rest) a W := by
  unfold wpList
  rw [if_pos hw]
  exact .inl h
/-- The operation writes slot d. -/
theorem atd (d : Nat) (_h : o.dst = some d) (h : wpList P ops Q (o :: rest) a W) : wpList P ops Q (o :: rest) a W := h
/-- The operation stores where slot d points to. -/
theorem sto (d : Nat) {t : TypeId} {y : Operand} (_h : o.op = .store t (.tmp d) y) (h : wpList P ops Q (o :: rest) a W) : wpList P ops Q (o :: rest) a W := h
/-- A call has made the block b. -/
def New (w w' : World) (r : Res) : Prop := Below w.heap.size w w' ∧ r.ok w' ∧ ∀ k ∈ r.fp, w.heap.size ≤ k ∧ k < w'.heap.size
theorem St.take {W' : World} {r : Res} (h : St w W L Fs) (hn : New W W' r) : St w W' (r :: L) Fs := h.new hn.1 hn.2.1 hn.2.2
theorem St.give (h : St w W L Fs) (i : Nat) {r : Res} (hi : L[i]? = some r) : New w W r := ⟨h.below, (h.own r (List.mem_of_getElem? hi)).1, (h.own r (List.mem_of_getElem? hi)).2⟩
end
end
section
open Go Go.RowKit Go.Proofs
/-! The same inside a loop over a function: what is no cells stays beside. -/
/-- The blocks of X are as they were. -/
def Keeps (X : Nat → Prop) (w w' : World) : Prop := ∀ k, X k → w'.heap[k]? = w.heap[k]?
theorem Keeps.refl (X : Nat → Prop) (w : World) : Keeps X w w := fun _ _ => rfl
theorem Keeps.trans {X : Nat → Prop} {a b c : World} (h : Keeps X a b) (k : Keeps X b c) : Keeps X a c := fun i hi => (k i hi).trans (h i hi)
theorem Keeps.cell {X : Nat → Prop} {w w' : World} (h : Keeps X w w') {a : Addr} {v : Value} (hc : w.cell? a = some v) (hx : X a.block) : w'.cell? a = some v := (World.cell?_of_block (h a.block hx)).trans hc
theorem Keeps.of_below {X : Nat → Prop} {w w' : World} (h : Below w.heap.size w w') (hX : ∀ k, X k → k < w.heap.size) : Keeps X w w' := fun k hk => h.block k (hX k hk)
/-- Kept since k0, and in parts. -/
structure Sk (k0 w W : World) (L : List Res) (Fs : List (World → Prop)) : Prop where
  st : St w W L Fs
  oth : KeepsOthers k0 W
theorem KeepsOthers.of_below {W W' : World} (h : Below W.heap.size W W') : KeepsOthers W W' := ⟨h.size, fun k o hk _ => (h.block k (Array.getElem?_eq_some_iff.1 hk).1).trans hk⟩
theorem KeepsOthers.setCells (b : Nat) : ∀ (xs : List Value) (k : Nat) (W : World), KeepsOthers W (W.setCells b k xs)
  | [], _, W => KeepsOthers.refl W
  | v :: xs, k, W => by rw [World.setCells]; exact (KeepsOthers.setCell W ⟨b, k, none⟩ v).trans (KeepsOthers.setCells b xs (k + 1) _)
section
variable {P : Program} {k0 w W : World} {L : List Res} {Fs : List (World → Prop)} {o : Oper} {a : Act} {K : Act → World → Prop} {Q : Exit → Act → World → Prop} {ops : Array Oper} {rest : List Oper} {t T : TypeId} {b k n : Nat} {l cs : List Value} {v : Value} {x y : Operand} {F : Fence} {m : Nat}
theorem St.sk (h : St w W L Fs) : Sk W w W L Fs := ⟨h, KeepsOthers.refl W⟩
theorem Sk.call {W' : World} (h : Sk k0 w W L Fs) (hb : Below W.heap.size W W') : Sk k0 w W' L Fs := ⟨h.st.call hb, h.oth.trans (KeepsOthers.of_below hb)⟩
theorem Sk.take {W' : World} {r : Res} (h : Sk k0 w W L Fs) (hn : New W W' r) : Sk k0 w W' (r :: L) Fs := ⟨h.st.take hn, h.oth.trans (KeepsOthers.of_below hn.1)⟩
theorem Sk.drew (h : Sk k0 w W L Fs) : Sk k0 w W.drew L Fs := ⟨h.st.drew, h.oth.trans (KeepsOthers.drew W)⟩
theorem Sk.sub (h : Sk k0 w W L Fs) (i : Nat) : Sk k0 w W (L.eraseIdx i) Fs := ⟨h.st.sub i, h.oth⟩
theorem wpIn_of_run {W' : World} {nx : Next} (hd : ∀ c, o.op ≠ .defer c) (hab : o.about P W a.eval = none) (h : (execOp a.eval o).run P W = .ok nx W') (hK : o.uponIn F m P a K Q (.ok nx W')) : o.wpIn F m P a W K Q := by
  unfold Oper.wpIn
  rw [Oper.semAt_eq _ _ _ hd, h, hab]
  exact ⟨(fun f hf => by cases hf), hK⟩
theorem about_none (ho : ∀ c, o.op ≠ .call c) : o.about P W a.eval = none := by
  unfold Oper.about
  split
  · rename_i c hc; exact absurd hc (ho c)
  · rfl
theorem i_ld (hS : Sk k0 w W L Fs) (i : Nat) (ho : o.op = .load t x) (hx : a.eval x = .pointer (some ⟨b, k, none⟩)) (hi : L[i]? = some (Blk b l T)) (hs : scal P t = true) (hv : l[k]? = some v) (h : K (a.put o.dst v) W) : o.wpIn F m P a W K Q :=
  wpIn_of_run (by rw [ho]; exact fun c h => by cases h) (about_none (by rw [ho]; exact fun c h => by cases h)) (run_ld hs ho hx (hS.st.cell hi hv)) h
theorem i_lda (hS : Sk k0 w W L Fs) (i : Nat) (n : Nat) (ho : o.op = .load t x) (hx : a.eval x = .pointer (some ⟨b, k, none⟩)) (hi : L[i]? = some (Blk b l T)) (hs : aggr P t n = true) (hv : (l.drop k).take n = cs) (hn : cs.length = n) (h : K (a.put o.dst (.agg cs.toArray)) W) : o.wpIn F m P a W K Q :=
  wpIn_of_run (by rw [ho]; exact fun c h => by cases h) (about_none (by rw [ho]; exact fun c h => by cases h)) (run_lda hs ho hx (hS.st.range hi (by rw [hn]; exact hv)) hn) h
theorem i_st (hS : Sk k0 w W L Fs) (i : Nat) (ho : o.op = .store t x y) (hx : a.eval x = .pointer (some ⟨b, k, none⟩)) (hi : L[i]? = some (Blk b l T)) (hs : scal P t = true) (hy : a.eval y = v) (h1 : v.oneCell' = true) (hk : k < l.length) (h : ∀ W', Sk k0 w W' (L.set i (Blk b (l.set k v) T)) Fs → K (a.put o.dst undef) W') : o.wpIn F m P a W K Q :=
  wpIn_of_run (by rw [ho]; exact fun c h => by cases h) (about_none (by rw [ho]; exact fun c h => by cases h)) (run_stc hs ho hx hy h1 (hS.st.cell hi (List.getElem?_eq_getElem hk)) (hS.st.free hi)) (h _ ⟨hS.st.setCell hi v, hS.oth.trans (KeepsOthers.setCell W _ v)⟩)
theorem i_sta (hS : Sk k0 w W L Fs) (i : Nat) (n : Nat) (ho : o.op = .store t x y) (hx : a.eval x = .pointer (some ⟨b, k, none⟩)) (hi : L[i]? = some (Blk b l T)) (hs : aggr P t n = true) (hy : a.eval y = .agg cs.toArray) (hn : cs.length = n) (h1 : ∀ v ∈ cs, v.oneCell' = true) (hk : k + n ≤ l.length) (h : ∀ W', Sk k0 w W' (L.set i (Blk b (splice l k cs) T)) Fs → K (a.put o.dst undef) W') : o.wpIn F m P a W K Q :=
  wpIn_of_run (by rw [ho]; exact fun c h => by cases h) (about_none (by rw [ho]; exact fun c h => by cases h)) (run_sta hs ho hx hy hn h1 (hS.st.there hi (by omega))) (h _ ⟨St.setCells cs k l W L hS.st hi (by omega), hS.oth.trans (KeepsOthers.setCells b cs k W)⟩)
theorem i_bx (hS : Sk k0 w W L Fs) (ho : o.op = .box t x) (hx : (a.eval x).cells = l.toArray) (h : ∀ b W', Sk k0 w W' (Blk b l t :: L) Fs → K (a.put o.dst (.pointer (some ⟨b, 0, none⟩))) W') : o.wpIn F m P a W K Q :=
  wpIn_of_run (by rw [ho]; exact fun c h => by cases h) (about_none (by rw [ho]; exact fun c h => by cases h)) (run_bx ho hx) (h _ _ ⟨hS.st.alloc l t, hS.oth.trans (KeepsOthers.alloc W _)⟩)
theorem i_al (hS : Sk k0 w W L Fs) (ho : o.op = .alloc t) {z : Value} (hz : zeroIs P t z) (hl : z.cells = l.toArray) (h : ∀ b W', Sk k0 w W' (Blk b l t :: L) Fs → K (a.put o.dst (.pointer (some ⟨b, 0, none⟩))) W') : o.wpIn F m P a W K Q :=
  wpIn_of_run (by rw [ho]; exact fun c h => by cases h) (about_none (by rw [ho]; exact fun c h => by cases h)) (run_al ho hz hl) (h _ _ ⟨hS.st.alloc l t, hS.oth.trans (KeepsOthers.alloc W _)⟩)
theorem il (hw : Region.wanted o (yielded ops a.tmps) = true) (h : o.wpIn F m P a W (wpListIn F m P ops Q rest) Q) : wpListIn F m P ops Q (o :: rest) a W := by
  unfold wpListIn
  rw [if_pos hw]
  exact h
theorem itd (d : Nat) (_h : o.dst = some d) (h : wpListIn F m P ops Q (o :: rest) a W) : wpListIn F m P ops Q (o :: rest) a W := h
/-- What is in parts abides what a loop keeps beside. -/
theorem St.ownFrom {α : Type} {B : Nat} (hB : w.heap.size ≤ B) (L : α → List Res) (Fs : α → List (World → Prop)) : OwnFrom B (fun (s : α) W => St w W (L s) (Fs s)) :=
  fun s A C row hs hg hr => hs.book hg (fun r e => ⟨Nat.le_trans hB (hr r e).1, (hr r e).2⟩)
theorem Keeps.of_blk {W' : World} {L' : List Res} {Gs : List (World → Prop)} {w' : World} {j i : Nat} (h : St w W L Fs) (hi : L[i]? = some (Blk b l T)) (h' : St w' W' L' Gs) (hj : L'[j]? = some (Blk b l T)) : Keeps (· = b) W W' := by
  rintro k rfl
  rw [h.blk hi, h'.blk hj]
end
end
section
open Go
/-! A region that draws its order inside a loop over a function: walked along one order, or a tree of orders. -/
section
variable {F : Fence} {n : Nat} {P : Program} {ops : Array Oper} {Q : Exit → Act → World → Prop} {md : Region.Mode} {S : World → Prop}
def noDefer (ops : Array Oper) : Bool := ops.all fun o => match o.op with
  | .defer _ => false
  | _ => true
theorem noDefer_spec (h : noDefer ops = true) {i : Nat} {o : Oper} (hi : ops[i]? = some o) : ∀ c, o.op ≠ .defer c := by
  intro c hc
  have := (Array.all_eq_true_iff_forall_mem.1 h) o (Array.mem_of_getElem? hi)
  rw [hc] at this
  cases this
theorem YieldsIf.wpOpIn' (hF : ∀ f, F.fn f) (hnd : noDefer ops = true) {i : Nat} {o : Oper} {v : Value} {a : Act} (hi : ops[i]? = some o) (hy : YieldsIf P ops S o v a)
    {K : Act → World → Prop} {w : World} (hS : S w) (h : K (a.put o.dst v) w) : wpOpIn F n P ops Q i K a w := by
  unfold Go.wpOpIn
  simp only [hi]
  rcases hy with ⟨hw, hv⟩ | ⟨hw, rfl⟩
  · simp only [hw, if_true, Oper.wpIn, Oper.semAt_eq F.round _ _ (noDefer_spec hnd hi), hv w hS, Oper.uponIn]; exact ⟨fun f _ => hF f, h⟩
  · simp only [hw, Bool.false_eq_true, if_false]; exact ⟨fun f _ => hF f, h⟩
theorem wpOpIn_putIf (hF : ∀ f, F.fn f) (hnd : noDefer ops = true) {j : Nat} {oi oj : Oper} {v : Value} (hj : ops[j]? = some oj) (hap : oi.apart ops oj = true)
    (hsi : ∀ cs b, oi.op ≠ .select cs b) (hsj : ∀ cs b, oj.op ≠ .select cs b)
    (hQ : ∀ c a w, Q (.panic c) (a.put oi.dst v) w → Q (.panic c) a w) {K : Act → World → Prop} {a : Act} {w : World}
    (hy : YieldsIf P ops S oi v a) (h : wpOpIn F n P ops Q j K (a.put oi.dst v) w) :
    wpOpIn F n P ops Q j (fun a' w' => YieldsIf P ops S oi v a' ∧ K (a'.put oi.dst v) w') a w := by
  obtain ⟨h1, h2, h3⟩ := Oper.apart_spec hap
  have hdj := noDefer_spec hnd hj
  have keep : ∀ (a : Act), YieldsIf P ops S oi v a → ∀ u, YieldsIf P ops S oi v (a.put oj.dst u) := fun a hy u =>
    hy.of_same (execOp_put oi hsi a oj.dst u h3) (wanted_put oi a oj.dst u h3)
  have keepD : ∀ d, YieldsIf P ops S oi v { a with defers := d :: a.defers } := fun d => hy.of_same rfl rfl
  unfold wpOpIn at *
  simp only [hj] at *
  rw [wanted_put oj a oi.dst v h1] at h
  split
  · rename_i hw
    simp only [hw, if_true] at h
    unfold Oper.wpIn at *
    rw [Oper.semAt_eq F.round _ _ hdj] at h ⊢
    rw [execOp_put oj hsj a oi.dst v h1] at h
    refine ⟨fun f _ => hF f, ?_⟩
    replace h := h.2
    generalize (execOp a.eval oj).run P w = r at *
    cases r with
    | ok n w' =>
      cases n <;> simp only [Oper.uponIn] at h ⊢
      case value u => exact ⟨keep a hy u, by rw [← Act.put_comm a v u h2]; exact h⟩
      case skip => exact ⟨keep a hy _, by rw [← Act.put_comm a v undef h2]; exact h⟩
      case defer d =>
        refine ⟨keep _ (keepD d) _, ?_⟩
        rw [← Act.put_comm _ v undef h2, ← Act.put_defers]
        exact h
      case enter f args =>
        refine ⟨h.1, CallsIn.mono h.2 fun e w'' he => ?_⟩
        cases e with
        | returned u => exact ⟨keep a hy u, by rw [← Act.put_comm a v u h2]; exact he⟩
        | panicked c => exact hQ _ _ _ he
        | outgrown => exact he
      case row row args => exact ⟨h.1, RowsIn.mono h.2 fun u w'' he => ⟨keep a hy u, by rw [← Act.put_comm a v u h2]; exact he⟩⟩
      case round =>
        refine ⟨h.1, RoundIn.mono h.2 fun e w'' he => ?_⟩
        cases e with
        | returned u => exact ⟨keep a hy u, by rw [← Act.put_comm a v u h2]; exact he⟩
        | panicked c => exact hQ _ _ _ he
        | outgrown => exact he
    | halt x w' =>
      cases x <;> simp only [Oper.uponIn] at h ⊢
      case panic u => exact hQ _ _ _ h
  · rename_i hw
    simp only [hw] at h
    exact ⟨fun f _ => hF f, keep a hy _, by rw [← Act.put_comm a v undef h2]; exact h.2⟩
def wpAnyHIn (F : Fence) (n : Nat) (P : Program) (md : Region.Mode) (ops : Array Oper) (Q : Exit → Act → World → Prop) (S : World → Prop) : Nat → Array Bool → Act → World → Prop
  | 0, listed, a, w => Region.ready md ops listed = [] ∧ Q .normal a w
  | fuel + 1, listed, a, w =>
    (Region.ready md ops listed = [] → Q .normal a w) ∧
    ∀ i ∈ Region.ready md ops listed, wpOpIn F n P ops Q i (fun a' w' => S w' ∧ wpAnyHIn F n P md ops Q S fuel (listed.setIfInBounds i true) a' w') a w
theorem wpAnyIn_of_held : ∀ (fuel : Nat) (listed : Array Bool) (a : Act) (w : World), wpAnyHIn F n P md ops Q S fuel listed a w → wpAnyIn F n P md ops Q fuel listed a w
  | 0, _, _, _, h => h
  | fuel + 1, _, _, _, h => ⟨h.1, fun i hi => wpOpIn_mono (fun a' w' h' => wpAnyIn_of_held fuel _ a' w' h'.2) (h.2 i hi)⟩
theorem wpAnyHIn_first (hF : ∀ f, F.fn f) (hnd : noDefer ops = true) {i : Nat} {oi : Oper} {v : Value} (hi : ops[i]? = some oi) (hsel : ∀ (j : Nat) (o : Oper) cs b, ops[j]? = some o → o.op ≠ .select cs b)
    (hQ : ∀ c a w, Q (.panic c) (a.put oi.dst v) w → Q (.panic c) a w) :
    ∀ (fuel : Nat) (listed : Array Bool) (a : Act) (w : World),
      (∀ j oj, ops[j]? = some oj → j ≠ i → listed.getD j true = false → (∀ e ∈ oj.after, Region.binds md e = true → e.on ≠ i) → oi.apart ops oj = true) →
      i ∈ Region.ready md ops listed → YieldsIf P ops S oi v a → S w →
      wpAnyHIn F n P md ops Q S fuel (listed.setIfInBounds i true) (a.put oi.dst v) w → wpAnyHIn F n P md ops Q S (fuel + 1) listed a w := by
  intro fuel
  induction fuel with
  | zero =>
    intro listed a w _ hr hy hS H
    refine ⟨fun h => (by rw [h] at hr; cases hr), fun j hj => ?_⟩
    by_cases hji : j = i
    · subst hji; exact YieldsIf.wpOpIn' hF hnd hi hy hS ⟨hS, H⟩
    · have := ready_mono hj hji
      rw [H.1] at this
      cases this
  | succ fuel ih =>
    intro listed a w hfree hr hy hS H
    refine ⟨fun h => (by rw [h] at hr; cases hr), fun j hj => ?_⟩
    by_cases hji : j = i
    · subst hji; exact YieldsIf.wpOpIn' hF hnd hi hy hS ⟨hS, H⟩
    · have h1 := H.2 j (ready_mono hj hji)
      obtain ⟨hjun, oj, hoj, hall⟩ := mem_ready.1 hj
      have hnot : ∀ e ∈ oj.after, Region.binds md e = true → e.on ≠ i := fun e he hb heq => by
        have h1 := hall e he hb
        have h0 := (mem_ready.1 hr).1
        rw [heq] at h1
        rcases Nat.lt_or_ge i listed.size with h' | h'
        · simp [h'] at h0 h1; rw [h0] at h1; cases h1
        · simp [Array.getElem?_eq_none h'] at h1
      have h2 := wpOpIn_putIf hF hnd hoj (hfree j oj hoj hji hjun hnot) (fun cs b => hsel i oi cs b hi) (fun cs b => hsel j oj cs b hoj) hQ hy h1
      have hfree' : ∀ k ok, ops[k]? = some ok → k ≠ i → (listed.setIfInBounds j true).getD k true = false →
          (∀ e ∈ ok.after, Region.binds md e = true → e.on ≠ i) → oi.apart ops ok = true := fun k ok hk hki hun hno => by
        refine hfree k ok hk hki ?_ hno
        by_cases hjk : j = k
        · subst hjk; exact hjun
        · rw [getD_set_ne true hjk] at hun; exact hun
      refine wpOpIn_mono (fun a' w' h3 => ⟨h3.2.1, ih (listed.setIfInBounds j true) a' w' hfree' (ready_mono hr (Ne.symm hji)) h3.1 h3.2.1 ?_⟩) h2
      rw [Array.setIfInBounds_comm _ _ hji]
      exact h3.2.2
theorem wpAnyHIn_take (hF : ∀ f, F.fn f) (hnd : noDefer ops = true) {i : Nat} {oi : Oper} {v : Value} {fuel : Nat} {listed : Array Bool} {a : Act} {w : World} (hi : ops[i]? = some oi)
    (hs : Region.noSelect ops = true) (hf : Region.free md ops listed i = true) (hr : (Region.ready md ops listed).contains i = true)
    (hQ : ∀ c a w, Q (.panic c) (a.put oi.dst v) w → Q (.panic c) a w) (hy : YieldsIf P ops S oi v a) (hS : S w)
    (h : wpAnyHIn F n P md ops Q S fuel (listed.setIfInBounds i true) (a.put oi.dst v) w) : wpAnyHIn F n P md ops Q S (fuel + 1) listed a w :=
  wpAnyHIn_first hF hnd hi (Region.noSelect_spec hs) hQ fuel listed a w (Region.free_spec hi hf) (by simpa using hr) hy hS h
theorem wpAnyHIn_all {rs : List Nat} {fuel : Nat} {listed : Array Bool} {a : Act} {w : World} (hr : Region.ready md ops listed = rs) (hne : rs ≠ [])
    (h : ∀ i ∈ rs, wpOpIn F n P ops Q i (fun a' w' => S w' ∧ wpAnyHIn F n P md ops Q S fuel (listed.setIfInBounds i true) a' w') a w) : wpAnyHIn F n P md ops Q S (fuel + 1) listed a w :=
  ⟨fun h0 => absurd (hr ▸ h0) hne, hr ▸ h⟩
def wpTI (F : Fence) (n : Nat) (P : Program) (ops : Array Oper) (Q : Exit → Act → World → Prop) (S : World → Prop) : PT → Act → World → Prop
  | .done, a, w => Q .normal a w
  | .yield i t, a, w => ∃ o v, ops[i]? = some o ∧ YieldsIf P ops S o v a ∧ wpTI F n P ops Q S t (a.put o.dst v) w
  | .act i t m, a, w => wpOpIn F n P ops Q i (fun a' w' => S w' ∧ wpTI F n P ops Q S t a' w') a w ∧ wpTI F n P ops Q S m a w
  | .none, _, _ => True
theorem wpTI_sound (hF : ∀ f, F.fn f) (hnd : noDefer ops = true) (hs : Region.noSelect ops = true) (hQ : ∀ c d v a w, Q (.panic c) (Act.put a (some d) v) w → Q (.panic c) a w) :
    ∀ (t : PT) (f : Nat) (listed : Array Bool) (a : Act) (w : World), S w → wpTI F n P ops Q S t a w →
      (okT md ops t f true listed = true → wpAnyHIn F n P md ops Q S f listed a w) ∧ (okT md ops t f false listed = true → ∀ i ∈ t.alts, wpOpIn F n P ops Q i (fun a' w' => S w' ∧ wpAnyHIn F n P md ops Q S (f - 1) (listed.setIfInBounds i true) a' w') a w) := by
  intro t
  induction t with
  | done =>
    intro f listed a w _ h
    refine ⟨fun hk => ?_, fun _ i hi => by simp [PT.alts] at hi⟩
    simp only [okT, Bool.and_eq_true, beq_iff_eq] at hk
    obtain ⟨rfl, hk⟩ := hk
    exact ⟨by simpa using hk, h⟩
  | yield i t ih =>
    intro f listed a w hS h
    refine ⟨fun hk => ?_, fun _ i hi => by simp [PT.alts] at hi⟩
    simp only [okT, Bool.and_eq_true, bne_iff_ne] at hk
    obtain ⟨o, v, ho, hy, hr⟩ := h
    obtain ⟨⟨⟨h0, h1⟩, h2⟩, h3⟩ := hk
    obtain ⟨g, rfl⟩ : ∃ g, f = g + 1 := ⟨f - 1, by omega⟩
    exact wpAnyHIn_take hF hnd ho hs h1 h2 (fun c a w h => by
      cases hd : o.dst with
      | none => rw [hd] at h; exact h
      | some d => rw [hd] at h; exact hQ c _ _ a w h) hy hS ((ih _ _ _ _ hS hr).1 h3)
  | act i t m iht ihm =>
    intro f listed a w hS h
    have key : ∀ top, okT md ops (.act i t m) f top listed = true → f ≠ 0 ∧ ∀ j ∈ PT.alts (.act i t m), wpOpIn F n P ops Q j (fun a' w' => S w' ∧ wpAnyHIn F n P md ops Q S (f - 1) (listed.setIfInBounds j true) a' w') a w := by
      intro top hk
      simp only [okT, Bool.and_eq_true, bne_iff_ne] at hk
      obtain ⟨⟨⟨h0, h1⟩, h2⟩, h3⟩ := hk
      refine ⟨h0, fun j hj => ?_⟩
      rcases List.mem_cons.1 hj with rfl | hj
      · exact wpOpIn_mono (fun a' w' h' => ⟨h'.1, (iht _ _ _ _ h'.1 h'.2).1 h2⟩) h.1
      · exact (ihm _ _ _ _ hS h.2).2 h3 j hj
    refine ⟨fun hk => ?_, fun hk => (key false hk).2⟩
    obtain ⟨h0, hall⟩ := key true hk
    simp only [okT, Bool.and_eq_true, Bool.or_eq_true, beq_iff_eq, Bool.not_true, Bool.false_eq_true, false_or] at hk
    obtain ⟨g, rfl⟩ : ∃ g, f = g + 1 := ⟨f - 1, by omega⟩
    exact wpAnyHIn_all hk.1.1.2 (by simp) hall
  | none =>
    intro f listed a w _ _
    exact ⟨fun hk => by simp [okT] at hk, fun _ i hi => by simp [PT.alts] at hi⟩
theorem wpIn_region_tr {id : Nat} {a : Act} {w : World} (t : PT) (hF : ∀ f, F.fn f) (hnd : noDefer ops = true) (hm : P.follows .mixedOrders = true) (hs : Region.noSelect ops = true)
    (hk : okT .any ops t ops.size true (Array.replicate ops.size false) = true) (hQ : ∀ c d v a w, Q (.panic c) (Act.put a (some d) v) w → Q (.panic c) a w) (S : World → Prop) (hS : S w.drew)
    (h : ∀ ops' : Array Oper, RowKit.Hid (ops' = ops) → wpTI F n P ops' Q S t a w.drew) : (Code.region id ops true).wpIn F n P Q a w :=
  wpIn_region_any hm (wpAnyIn_of_held _ _ _ _ ((wpTI_sound hF hnd hs hQ t _ _ a _ hS (h ops rfl)).1 hk))
theorem wpTI_yield {i : Nat} {t : PT} {a : Act} {w : World} {o : Oper} (v : Value) (ho : ops[i]? = some o) (hw : Region.wanted o (yielded ops a.tmps) = true)
    (hv : ∀ w, S w → (execOp a.eval o).run P w = .ok (.value v) w) (h : wpTI F n P ops Q S t (a.put o.dst v) w) : wpTI F n P ops Q S (.yield i t) a w :=
  ⟨o, v, ho, .inl ⟨hw, hv⟩, h⟩
theorem wpTI_skip {i : Nat} {t : PT} {a : Act} {w : World} {o : Oper} (ho : ops[i]? = some o) (hw : Region.wanted o (yielded ops a.tmps) = false)
    (h : wpTI F n P ops Q S t (a.put o.dst undef) w) : wpTI F n P ops Q S (.yield i t) a w := ⟨o, undef, ho, .inr ⟨hw, rfl⟩, h⟩
theorem wpTI_act {i : Nat} {t m : PT} {a : Act} {w : World} {o : Oper} (ho : ops[i]? = some o) (hw : Region.wanted o (yielded ops a.tmps) = true)
    (h : o.wpIn F n P a w (fun a' w' => S w' ∧ wpTI F n P ops Q S t a' w') Q) (hm : wpTI F n P ops Q S m a w) : wpTI F n P ops Q S (.act i t m) a w := by
  refine ⟨?_, hm⟩
  unfold wpOpIn
  simp only [ho, hw, if_true]
  exact h
end
end
end Go.Proofs.Ytkbambojnifjcaa
