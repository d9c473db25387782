/- Contracts and words that the laws stand on (Rng). -/
import Derived.Test.YteljmpoaggfliaaBase
set_option linter.unusedVariables false
set_option linter.unusedSimpArgs false
namespace Go.Proofs.Yteljmpoaggfliaa
section
open Go Go.RowKit Go.Proofs
/-! A loop over a function whose items point to memory: the iterator tells the body G of each item and the world, and E of all of them in the end. -/
/-- The iterator turns block b (a variable of its own) and makes new ones. -/
def Turns (b : Nat) (A B : World) : Prop := Chg [b] A B ∧ ∃ i : Int, B.heap[b]? = some (.cells #[.int .i64 i] 3 (0, 0))
def Bears {α : Type} (b : Nat) (J : List α → World → Prop) : Prop := ∀ s A B, J s A → Turns b A B → J s B
/-- The contract: R x A B: between A and B the iterator has made the item x. -/
def SeqG {α : Type} (F : Fence) (n : Nat) (P : Program) (g : Nat) (lb : Array Value) (encs : α → Array Value) (Kp : World → World → Prop) (b : Nat) (R : α → World → World → Prop) (E Ep : List α → Prop) (N : Nat) (w : World) : Prop :=
  ∀ (l : Nat) (J Jx : List α → World → Prop) (W : World), Kp w W → Below w.heap.size w W → Bears b J → Bears b Jx →
    (∀ pre x W0 W1, J pre W0 → Turns b W0 W1 → R x W0 W1 → pre.length < N → YieldAt F (n - 1) P l (encs x) W1 fun e W' =>
      (e = .returned (.bool true) ∧ J (pre ++ [x]) W' ∧ Kp W1 W') ∨ (e = .returned (.bool false) ∧ Jx (pre ++ [x]) W' ∧ Kp W1 W')) →
    J [] W →
    CallsIn F n P g (#[.func (.yield l) #[] #[]] ++ lb) W fun e W' => (∃ v, e = .returned v) ∧ ((∃ xs, E xs ∧ J xs W') ∨ (∃ pre, Ep pre ∧ Jx pre W'))
/-- The loop's two blocks: its record and its rounds' deferred calls. -/
def Books (B : Nat) (r : Loop) (W : World) : Prop := W.heap[B + 1]? = some (.loop r) ∧ W.heap[B]? = some (.deferred (some []))
theorem Books.lt {B : Nat} {r : Loop} {W : World} (h : Books B r W) : B + 1 < W.heap.size := (Array.getElem?_eq_some_iff.1 h.1).1
theorem Books.turn {B : Nat} {r r' : Loop} {W : World} (h : Books B r W) : Books B r' (W.putObj (B + 1) (.loop r')) := ⟨World.putObj_heap_same h.lt, (World.putObj_heap_other (by omega)).trans h.2⟩
theorem Books.kept {B : Nat} {r : Loop} {W W' : World} (h : Books B r W) (hk : KeepsFrom B W W') : Books B r W' := ⟨hk.same _ _ (by omega) h.1 rfl, hk.same _ _ (Nat.le_refl _) h.2 rfl⟩
theorem Books.bear {B b : Nat} {r : Loop} {W W' : World} (h : Books B r W) (hb : b < B) (ht : Turns b W W') : Books B r W' :=
  ⟨ht.1.blk h.1 (by simp; omega), ht.1.blk h.2 (by simp; omega)⟩
variable {F : Fence} {n : Nat} {P : Program}
theorem wpIn_range_G {α : Type} {g : Operand} {ps : Array Tmp} {assign body : Code} {Q : Exit → Act → World → Prop} {a : Act} {w : World}
    (hro : F.round = none) (h1 : 1 ≤ n) {gf : Nat} {lb : Array Value} (hg : a.eval g = .func (.func gf) #[] lb) (hFg : F.fn gf) (eg : ∀ args w, (callFunc gf args).run P w = .ok (.enter gf args) w)
    {encs : α → Array Value} {Kp : World → World → Prop} {b : Nat} {R : α → World → World → Prop} {E Ep : List α → Prop} {N : Nat} {w0 : World} (hseq : SeqG F (n - 1) P gf lb encs Kp b R E Ep N w0) (hb : b < w.heap.size) (hk0 : Kp w0 w) (hKa : ∀ (W : World) (o : Obj), w.heap.size ≤ W.heap.size → Kp W (W.alloc o))
    (hKt : ∀ {A B C : World}, Kp A B → Kp B C → Kp A C) (hKb : ∀ (W : World) (l : Nat) (o o' : Obj), w.heap.size ≤ l → W.heap[l]? = some o → o.isCells = false → Kp W (W.putObj l o')) (hb0 : Below w0.heap.size w0 w) (hps : ∀ x, (encs x).size = ps.size)
    (I : List α → World → Prop) (Ix : Code → List α → World → Prop) (hI : OwnFrom w.heap.size I) (hIx : ∀ c, OwnFrom w.heap.size (Ix c)) (hIb : Bears b I) (hIxb : ∀ c, Bears b (Ix c)) (h0 : I [] w)
    (Ax : List α → α → Act → World → Prop) (hAx : ∀ pre x a', OwnFrom w.heap.size (fun (_ : Unit) W => Ax pre x a' W))
    (hassign : ∀ (l : Nat) (pre : List α) (x : α) (W0 W : World) (K : Act → World → Prop), I pre W0 → Turns b W0 W → R x W0 W → pre.length < N → (∀ a' W', KeepsFrom w.heap.size W W' → Kp W W' → I pre W' → Ax pre x a' W' → K a' W') →
      assign.wpIn (F.inRound l) (n - 1 - 1) P (Exit.then K (fun _ _ _ => False)) { tmps := (ps.zip (encs x)).foldl (fun t (p, v) => t.setIfInBounds p v) a.tmps, defers := [] } W)
    (hbody : ∀ (l : Nat) (pre : List α) (x : α) (a' : Act) (W : World), I pre W → Ax pre x a' W → pre.length < N → body.wpIn (F.inRound l) (n - 1 - 1) P (fun e _ W' => KeepsFrom w.heap.size W W' ∧ Kp W W' ∧
      match e with
      | .normal => I (pre ++ [x]) W'
      | .ret => Ix .ret (pre ++ [x]) W'
      | .exit id => Ix (.exit id) (pre ++ [x]) W'
      | .goto t => Ix (.goto t) (pre ++ [x]) W'
      | .panic _ => False
      | .outgrown => False) a' W)
    (hdone : ∀ (D : Nat) (xs : List α) (W : World), w.heap.size ≤ D → E xs → I xs W → W.heap[D]? = some (.deferred (some [])) → Q .normal { a with defers := { target := .collected D, args := #[] } :: a.defers } W)
    (hstop : ∀ (D : Nat) (c : Code) (pre : List α) (W : World), w.heap.size ≤ D → Ep pre → Ix c pre W → W.heap[D]? = some (.deferred (some [])) → c.wpIn F n P Q { a with defers := { target := .collected D, args := #[] } :: a.defers } W) :
    (Code.rangeFunc g ps assign body).wpIn F n P Q a w := by
  refine wpIn_rangeFunc fun fn hfn => ?_
  rw [hro]
  -- the record, by its state and its jump
  let Rc : LoopState → Option Code → Loop := fun st pe => { state := st, pending := pe, fn, tmps := a.tmps, params := ps, assign, body, defers := w.heap.size }
  let V := (w.alloc (.deferred (some []))).alloc (.loop (Rc .ready none))
  have hVs : V.heap.size = w.heap.size + 2 := by simp [V]
  have hbk : Books w.heap.size (Rc .ready none) V := by
    refine ⟨?_, ?_⟩
    · have := World.alloc_heap_new (w.alloc (.deferred (some []))) (.loop (Rc .ready none)); rwa [World.size_alloc] at this
    · exact (Below.heap_alloc _ _ _ (by simp)).trans (World.alloc_heap_new w _)
  have hIV : I [] V := hI.alloc _ (hI.alloc _ h0)
  have hbV : Below w0.heap.size w0 V := hb0.trans ((((Below.refl _ w).alloc (Nat.le_refl _) _).alloc (by simp) _).mono hb0.size)
  have hkV : Kp w0 V := hKt hk0 (hKt (hKa w _ (Nat.le_refl _)) (hKa _ _ (by simp)))
  have enter : (Instr.enterLoop fn a.tmps ps assign body none).run P w = .ok (w.heap.size + 1, [{ target := .collected w.heap.size, args := #[] }]) V := run_enterLoop_outer _ _ _ _ _
  refine ⟨_, _, V, { target := .fn (.func gf) lb, args := #[.func (.yield (w.heap.size + 1)) #[] #[]] }, V, gf, #[.func (.yield (w.heap.size + 1)) #[] #[]] ++ lb, V, enter, ?_, ?_, ?_, fun _ => h1, ?_⟩
  · simp only [resolve, hg]
    simp [go_sem]
  · intro f' hf'
    simp [Target.leads] at hf'
    subst hf'
    exact hFg
  · simp [invoke, go_sem, eg]
  have call := hseq (w.heap.size + 1) (fun pre W => I pre W ∧ Books w.heap.size (Rc .ready none) W) (fun pre W => ∃ c, Ix c pre W ∧ Books w.heap.size (Rc .done (some c)) W) V hkV hbV
    (fun s A B hs ht => ⟨hIb s A B hs.1 ht, hs.2.bear hb ht⟩)
    (fun s A B hs ht => ⟨hs.choose, hIxb _ s A B hs.choose_spec.1 ht, hs.choose_spec.2.bear hb ht⟩)
    (by
      rintro pre x W0 W ⟨hi, hbk⟩ hT hR hlen
      replace hbk := hbk.bear hb hT
      refine ⟨fn, _, assign, body, run_yield (r := Rc .ready none) hbk.1 (hps x), roundIn_of_wpIn hfn (hassign _ pre x W0 W _ hi hT hR hlen ?_)⟩
      intro a' W2 kf2 kp2 hi2 hax
      have hbk2 := hbk.kept kf2
      refine ⟨_, run_beginRound (r := Rc .ready none) hbk2.1 rfl, ?_⟩
      have kp3 := hKb W2 (w.heap.size + 1) _ (.loop (Rc .busy none)) (by omega) hbk2.1 rfl
      have hbk3 : Books w.heap.size (Rc .busy none) (W2.putObj (w.heap.size + 1) (.loop (Rc .busy none))) := hbk2.turn
      refine wpIn_mono (hbody _ pre x a' _ (hI.putObj (.loop (Rc .busy none)) hi2 (by omega) hbk2.1 rfl) ((hAx pre x a').putObj (s := ()) (.loop (Rc .busy none)) hax (by omega) hbk2.1 rfl) hlen) ?_
      rintro e a3 W3 ⟨kf4, kp4, hp⟩
      have hbk4 := hbk3.kept kf4
      have kp5 : ∀ r, Kp W (W3.putObj (w.heap.size + 1) (.loop r)) := fun r => hKt kp2 (hKt kp3 (hKt kp4 (hKb _ _ _ _ (by omega) hbk4.1 rfl)))
      cases e with
      | normal => exact ⟨_, _, run_endRound none hbk4.1, .inl ⟨rfl, ⟨hI.putObj _ hp (by omega) hbk4.1 rfl, hbk4.turn⟩, kp5 _⟩⟩
      | ret => exact ⟨_, _, run_endRound (some .ret) hbk4.1, .inr ⟨rfl, ⟨.ret, (hIx _).putObj _ hp (by omega) hbk4.1 rfl, hbk4.turn⟩, kp5 _⟩⟩
      | exit id => exact ⟨_, _, run_endRound (some (.exit id)) hbk4.1, .inr ⟨rfl, ⟨.exit id, (hIx _).putObj _ hp (by omega) hbk4.1 rfl, hbk4.turn⟩, kp5 _⟩⟩
      | goto t => exact ⟨_, _, run_endRound (some (.goto t)) hbk4.1, .inr ⟨rfl, ⟨.goto t, (hIx _).putObj _ hp (by omega) hbk4.1 rfl, hbk4.turn⟩, kp5 _⟩⟩
      | panic _ => exact hp.elim
      | outgrown => exact hp.elim)
    ⟨hIV, hbk⟩
  refine call.mono ?_
  rintro e W' ⟨⟨v, rfl⟩, hend⟩
  rcases hend with ⟨xs, hex, hi, hbk'⟩ | ⟨pre, hep, c, hi, hbk'⟩
  · refine ⟨none, _, run_endLoop (r := Rc .ready none) hbk'.1 (by simp [Rc]), ?_⟩
    exact hdone _ xs _ (Nat.le_refl _) hex (hI.putObj _ hi (by omega) hbk'.1 rfl) ((World.putObj_heap_other (by omega)).trans hbk'.2)
  · refine ⟨some c, _, run_endLoop (r := Rc .done (some c)) hbk'.1 (by simp [Rc]), ?_⟩
    exact hstop _ c pre _ (Nat.le_refl _) hep ((hIx c).putObj _ hi (by omega) hbk'.1 rfl) ((World.putObj_heap_other (by omega)).trans hbk'.2)
/-- The same, where the assignments leave the activation a₁ x y. -/
theorem wpIn_range_G1 {α β : Type} {g : Operand} {ps : Array Tmp} {assign body : Code} {Q : Exit → Act → World → Prop} {a : Act} {w : World}
    (hro : F.round = none) (h1 : 1 ≤ n) {gf : Nat} {lb : Array Value} (hg : a.eval g = .func (.func gf) #[] lb) (hFg : F.fn gf) (eg : ∀ args w, (callFunc gf args).run P w = .ok (.enter gf args) w)
    {encs : α → Array Value} {Kp : World → World → Prop} {b : Nat} {R : α → World → World → Prop} {E Ep : List α → Prop} {N : Nat} {w0 : World} (hseq : SeqG F (n - 1) P gf lb encs Kp b R E Ep N w0) (hb : b < w.heap.size) (hk0 : Kp w0 w) (hKa : ∀ (W : World) (o : Obj), w.heap.size ≤ W.heap.size → Kp W (W.alloc o))
    (hKt : ∀ {A B C : World}, Kp A B → Kp B C → Kp A C) (hKb : ∀ (W : World) (l : Nat) (o o' : Obj), w.heap.size ≤ l → W.heap[l]? = some o → o.isCells = false → Kp W (W.putObj l o')) (hb0 : Below w0.heap.size w0 w) (hps : ∀ x, (encs x).size = ps.size)
    (I : List α → World → Prop) (Ix : Code → List α → World → Prop) (hI : OwnFrom w.heap.size I) (hIx : ∀ c, OwnFrom w.heap.size (Ix c)) (hIb : Bears b I) (hIxb : ∀ c, Bears b (Ix c)) (h0 : I [] w)
    (a₁ : α → β → Act) (Ay : List α → α → β → World → Prop) (hAy : ∀ pre x y, OwnFrom w.heap.size (fun (_ : Unit) W => Ay pre x y W))
    (hassign : ∀ (l : Nat) (pre : List α) (x : α) (W0 W : World) (K : Act → World → Prop), I pre W0 → Turns b W0 W → R x W0 W → pre.length < N → (∀ y W', KeepsFrom w.heap.size W W' → Kp W W' → I pre W' → Ay pre x y W' → K (a₁ x y) W') →
      assign.wpIn (F.inRound l) (n - 1 - 1) P (Exit.then K (fun _ _ _ => False)) { tmps := (ps.zip (encs x)).foldl (fun t (p, v) => t.setIfInBounds p v) a.tmps, defers := [] } W)
    (hbody : ∀ (l : Nat) (pre : List α) (x : α) (y : β) (W : World), Ay pre x y W → pre.length < N → body.wpIn (F.inRound l) (n - 1 - 1) P (fun e _ W' => KeepsFrom w.heap.size W W' ∧ Kp W W' ∧
      match e with
      | .normal => I (pre ++ [x]) W'
      | .ret => Ix .ret (pre ++ [x]) W'
      | .exit id => Ix (.exit id) (pre ++ [x]) W'
      | .goto t => Ix (.goto t) (pre ++ [x]) W'
      | .panic _ => False
      | .outgrown => False) (a₁ x y) W)
    (hdone : ∀ (D : Nat) (xs : List α) (W : World), w.heap.size ≤ D → E xs → I xs W → W.heap[D]? = some (.deferred (some [])) → Q .normal { a with defers := { target := .collected D, args := #[] } :: a.defers } W)
    (hstop : ∀ (D : Nat) (c : Code) (pre : List α) (W : World), w.heap.size ≤ D → Ep pre → Ix c pre W → W.heap[D]? = some (.deferred (some [])) → c.wpIn F n P Q { a with defers := { target := .collected D, args := #[] } :: a.defers } W) :
    (Code.rangeFunc g ps assign body).wpIn F n P Q a w :=
  wpIn_range_G hro h1 hg hFg eg hseq hb hk0 hKa (fun h k => hKt h k) hKb hb0 hps I Ix hI hIx hIb hIxb h0
    (fun pre x a' W => ∃ y, a' = a₁ x y ∧ Ay pre x y W) (fun pre x a' s A B row hs hg hr => ⟨hs.choose, hs.choose_spec.1, hAy pre x _ s A B row hs.choose_spec.2 hg hr⟩)
    (fun l pre x W0 W K hi hT hR hn hK => hassign l pre x W0 W K hi hT hR hn (fun y W' kf kp hi' hy => hK _ W' kf kp hi' ⟨y, rfl, hy⟩))
    (fun l pre x a' W _ ⟨y, e, hy⟩ hn => by subst e; exact hbody l pre x y W hy hn) hdone hstop
end
end Go.Proofs.Yteljmpoaggfliaa
