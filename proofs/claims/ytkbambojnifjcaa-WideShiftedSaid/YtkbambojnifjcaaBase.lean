/- Contracts and words that the laws stand on (Base). -/
import Derived.Test.YtkbambojnifjcaaProg
import Derived.WalkKit
import Derived.Outline
import Derived.WalkSpells
import Derived.WalkMore
import Derived.WalkLawsBesides
import Derived.Below
import Derived.OwnWalk
import Derived.RegionTactic
import Derived.Laws.BitsAllLaws
import Derived.Laws.Rows
import Derived.Lib.Hide
import Derived.KernelRfl
import Derived.LoopNIn
import Derived.OrdersHeld
set_option linter.unusedVariables false
set_option linter.unusedSimpArgs false
namespace Go.Proofs.Ytkbambojnifjcaa
section
open Go
end
section
open Go
section
variable {P : Program} {ops : Array Oper} {Q : Exit → Act → World → Prop} {md : Region.Mode} {S : World → Prop}

/-- An order that serves for all: 'true': the operation yields in every world that meets S; 'false': it is the only one that may come up. -/
def okPi (md : Region.Mode) (ops : Array Oper) : List (Nat × Bool) → Array Bool → Bool
  | [], listed => (Region.ready md ops listed).isEmpty
  | (i, true) :: r, listed => Region.free md ops listed i && (Region.ready md ops listed).contains i && okPi md ops r (listed.setIfInBounds i true)
  | (i, false) :: r, listed => (Region.ready md ops listed == [i]) && okPi md ops r (listed.setIfInBounds i true)

def wpPi (P : Program) (ops : Array Oper) (Q : Exit → Act → World → Prop) (S : World → Prop) : List (Nat × Bool) → Act → World → Prop
  | [], a, w => Q .normal a w
  | (i, true) :: r, a, w => ∃ o v, ops[i]? = some o ∧ YieldsIf P ops S o v a ∧ wpPi P ops Q S r (a.put o.dst v) w
  | (i, false) :: r, a, w => wpOp P ops Q i (fun a' w' => S w' ∧ wpPi P ops Q S r a' w') a w

theorem wpPi_sound (hs : Region.noSelect ops = true) (hQ : ∀ c d v a w, Q (.panic c) (Act.put a (some d) v) w → Q (.panic c) a w) :
    ∀ (l : List (Nat × Bool)) (listed : Array Bool) (a : Act) (w : World), okPi md ops l listed = true → S w → wpPi P ops Q S l a w → wpAnyH P md ops Q S l.length listed a w := by
  intro l
  induction l with
  | nil => intro listed a w hk _ h; exact ⟨by simpa [okPi] using hk, h⟩
  | cons x r ih =>
    obtain ⟨i, b⟩ := x
    intro listed a w hk hS h
    cases b with
    | true =>
      simp only [okPi, Bool.and_eq_true] at hk
      obtain ⟨o, v, ho, hy, hr⟩ := h
      exact wpAnyH_take ho hs hk.1.1 hk.1.2 (fun c a w h => by
        cases hd : o.dst with
        | none => rw [hd] at h; exact h
        | some d => rw [hd] at h; exact hQ c _ _ a w h) hy hS (ih _ _ _ hk.2 hS hr)
    | false =>
      simp only [okPi, Bool.and_eq_true, beq_iff_eq] at hk
      refine wpAnyH_all hk.1 (by simp) ?_
      intro j hj
      simp only [List.mem_singleton] at hj
      subst hj
      exact wpOp_mono (fun a' w' h' => ⟨h'.1, ih _ _ _ hk.2 h'.1 h'.2⟩) h

/-- A region that draws its order, walked in one order. -/
theorem wp_region_pi {id : Nat} {a : Act} {w : World} (l : List (Nat × Bool)) (hm : P.follows .mixedOrders = true) (hs : Region.noSelect ops = true)
    (hl : l.length = ops.size) (hk : okPi .any ops l (Array.replicate ops.size false) = true) (hQ : ∀ c d v a w, Q (.panic c) (Act.put a (some d) v) w → Q (.panic c) a w) (S : World → Prop) (hS : S w.drew)
    (h : ∀ ops' : Array Oper, RowKit.Hid (ops' = ops) → wpPi P ops' Q S l a w.drew) : (Code.region id ops true).wp P Q a w := by
  refine wp_region_held (S := S) hm ?_
  have := wpPi_sound hs hQ l _ a _ hk hS (h ops rfl)
  rwa [hl] at this

theorem wpPi_yield {i : Nat} {r : List (Nat × Bool)} {a : Act} {w : World} {o : Oper} (v : Value) (ho : ops[i]? = some o) (hw : Region.wanted o (yielded ops a.tmps) = true)
    (hv : ∀ w, S w → (execOp a.eval o).run P w = .ok (.value v) w) (h : wpPi P ops Q S r (a.put o.dst v) w) : wpPi P ops Q S ((i, true) :: r) a w :=
  ⟨o, v, ho, .inl ⟨hw, hv⟩, h⟩
theorem wpPi_skip {i : Nat} {r : List (Nat × Bool)} {a : Act} {w : World} {o : Oper} (ho : ops[i]? = some o) (hw : Region.wanted o (yielded ops a.tmps) = false)
    (h : wpPi P ops Q S r (a.put o.dst undef) w) : wpPi P ops Q S ((i, true) :: r) a w :=
  ⟨o, undef, ho, .inr ⟨hw, rfl⟩, h⟩
theorem wpPi_act {i : Nat} {r : List (Nat × Bool)} {a : Act} {w : World} {o : Oper} (ho : ops[i]? = some o) (hw : Region.wanted o (yielded ops a.tmps) = true)
    (h : o.wp P a w (fun a' w' => S w' ∧ wpPi P ops Q S r a' w') Q) : wpPi P ops Q S ((i, false) :: r) a w := by
  show wpOp P ops Q i _ a w
  unfold wpOp
  simp only [ho, hw, if_true]
  exact .inl h
theorem wpPi_actSkip {i : Nat} {r : List (Nat × Bool)} {a : Act} {w : World} {o : Oper} (ho : ops[i]? = some o) (hw : Region.wanted o (yielded ops a.tmps) = false)
    (hS : S w) (h : wpPi P ops Q S r (a.put o.dst undef) w) : wpPi P ops Q S ((i, false) :: r) a w := by
  show wpOp P ops Q i _ a w
  unfold wpOp
  simp only [ho, hw]
  exact ⟨hS, h⟩
end
end
section
open Go
/-! A region that draws its order, walked along a tree of orders: where several operations may come up, each is walked. -/
/-- The tree: all done; one that yields in every world that meets S; one that comes up, and the others that may. -/
inductive PT where
  | done
  | yield (i : Nat) (t : PT)
  | act (i : Nat) (t : PT) (more : PT)
  | none
def PT.alts : PT → List Nat
  | .act i _ m => i :: m.alts
  | _ => []
section
variable {P : Program} {ops : Array Oper} {Q : Exit → Act → World → Prop} {md : Region.Mode} {S : World → Prop}
def okT (md : Region.Mode) (ops : Array Oper) : PT → Nat → Bool → Array Bool → Bool
  | .done, f, _, listed => f == 0 && (Region.ready md ops listed).isEmpty
  | .yield i t, f, _, listed => f != 0 && Region.free md ops listed i && (Region.ready md ops listed).contains i && okT md ops t (f - 1) true (listed.setIfInBounds i true)
  | .act i t m, f, top, listed => f != 0 && (!top || Region.ready md ops listed == i :: m.alts) && okT md ops t (f - 1) true (listed.setIfInBounds i true) && okT md ops m f false listed
  | .none, _, top, _ => !top
def wpT (P : Program) (ops : Array Oper) (Q : Exit → Act → World → Prop) (S : World → Prop) : PT → Act → World → Prop
  | .done, a, w => Q .normal a w
  | .yield i t, a, w => ∃ o v, ops[i]? = some o ∧ YieldsIf P ops S o v a ∧ wpT P ops Q S t (a.put o.dst v) w
  | .act i t m, a, w => wpOp P ops Q i (fun a' w' => S w' ∧ wpT P ops Q S t a' w') a w ∧ wpT P ops Q S m a w
  | .none, _, _ => True
theorem wpT_sound (hs : Region.noSelect ops = true) (hQ : ∀ c d v a w, Q (.panic c) (Act.put a (some d) v) w → Q (.panic c) a w) :
    ∀ (t : PT) (f : Nat) (listed : Array Bool) (a : Act) (w : World), S w → wpT P ops Q S t a w →
      (okT md ops t f true listed = true → wpAnyH P md ops Q S f listed a w) ∧ (okT md ops t f false listed = true → ∀ i ∈ t.alts, wpOp P ops Q i (fun a' w' => S w' ∧ wpAnyH P md ops Q S (f - 1) (listed.setIfInBounds i true) a' w') a w) := by
  intro t
  induction t with
  | done =>
    intro f listed a w _ h
    refine ⟨fun hk => ?_, fun _ i hi => by simp [PT.alts] at hi⟩
    simp only [okT, Bool.and_eq_true, beq_iff_eq] at hk
    obtain ⟨rfl, hk⟩ := hk
    exact ⟨by simpa using hk, h⟩
  | yield i t ih =>
    intro f listed a w hS h
    refine ⟨fun hk => ?_, fun _ i hi => by simp [PT.alts] at hi⟩
    simp only [okT, Bool.and_eq_true, bne_iff_ne] at hk
    obtain ⟨o, v, ho, hy, hr⟩ := h
    obtain ⟨⟨⟨h0, h1⟩, h2⟩, h3⟩ := hk
    obtain ⟨g, rfl⟩ : ∃ g, f = g + 1 := ⟨f - 1, by omega⟩
    exact wpAnyH_take ho hs h1 h2 (fun c a w h => by
      cases hd : o.dst with
      | none => rw [hd] at h; exact h
      | some d => rw [hd] at h; exact hQ c _ _ a w h) hy hS ((ih _ _ _ _ hS hr).1 h3)
  | act i t m iht ihm =>
    intro f listed a w hS h
    have key : ∀ top, okT md ops (.act i t m) f top listed = true → f ≠ 0 ∧ ∀ j ∈ PT.alts (.act i t m), wpOp P ops Q j (fun a' w' => S w' ∧ wpAnyH P md ops Q S (f - 1) (listed.setIfInBounds j true) a' w') a w := by
      intro top hk
      simp only [okT, Bool.and_eq_true, bne_iff_ne] at hk
      obtain ⟨⟨⟨h0, h1⟩, h2⟩, h3⟩ := hk
      refine ⟨h0, fun j hj => ?_⟩
      rcases List.mem_cons.1 hj with rfl | hj
      · exact wpOp_mono (fun a' w' h' => ⟨h'.1, (iht _ _ _ _ h'.1 h'.2).1 h2⟩) h.1
      · exact (ihm _ _ _ _ hS h.2).2 h3 j hj
    refine ⟨fun hk => ?_, fun hk => (key false hk).2⟩
    obtain ⟨h0, hall⟩ := key true hk
    simp only [okT, Bool.and_eq_true, Bool.or_eq_true, beq_iff_eq, Bool.not_true, Bool.false_eq_true, false_or] at hk
    obtain ⟨g, rfl⟩ : ∃ g, f = g + 1 := ⟨f - 1, by omega⟩
    exact wpAnyH_all hk.1.1.2 (by simp) hall
  | none =>
    intro f listed a w _ _
    exact ⟨fun hk => by simp [okT] at hk, fun _ i hi => by simp [PT.alts] at hi⟩
theorem wp_region_tr {id : Nat} {a : Act} {w : World} (t : PT) (hm : P.follows .mixedOrders = true) (hs : Region.noSelect ops = true)
    (hk : okT .any ops t ops.size true (Array.replicate ops.size false) = true) (hQ : ∀ c d v a w, Q (.panic c) (Act.put a (some d) v) w → Q (.panic c) a w) (S : World → Prop) (hS : S w.drew)
    (h : ∀ ops' : Array Oper, RowKit.Hid (ops' = ops) → wpT P ops' Q S t a w.drew) : (Code.region id ops true).wp P Q a w :=
  wp_region_held (S := S) hm ((wpT_sound hs hQ t _ _ a _ hS (h ops rfl)).1 hk)
theorem wpT_yield {i : Nat} {t : PT} {a : Act} {w : World} {o : Oper} (v : Value) (ho : ops[i]? = some o) (hw : Region.wanted o (yielded ops a.tmps) = true)
    (hv : ∀ w, S w → (execOp a.eval o).run P w = .ok (.value v) w) (h : wpT P ops Q S t (a.put o.dst v) w) : wpT P ops Q S (.yield i t) a w :=
  ⟨o, v, ho, .inl ⟨hw, hv⟩, h⟩
theorem wpT_act {i : Nat} {t m : PT} {a : Act} {w : World} {o : Oper} (ho : ops[i]? = some o) (hw : Region.wanted o (yielded ops a.tmps) = true)
    (h : o.wp P a w (fun a' w' => S w' ∧ wpT P ops Q S t a' w') Q) (hm : wpT P ops Q S m a w) : wpT P ops Q S (.act i t m) a w := by
  refine ⟨?_, hm⟩
  unfold wpOp
  simp only [ho, hw, if_true]
  exact .inl h
end
/-- What a region leaves, joined: mk tells the temporaries by what hangs on the order. -/
theorem region_join {α : Type} {P : Program} {c : Code} {Q : Exit → Act → World → Prop} {a : Act} {w : World} {S : α → World → Prop} {mk : α → Act} (hreg : c.wp P (fun e a' w' => e = .normal ∧ ∃ b, a' = mk b ∧ S b w') a w) (hK : ∀ b V, S b V → Q .normal (mk b) V) : c.wp P Q a w :=
  Code.wp_mono (fun e a' w' h => by obtain ⟨rfl, b, rfl, hS⟩ := h; exact hK b _ hS) hreg
theorem region_join2 {α β : Type} {P : Program} {c : Code} {Q : Exit → Act → World → Prop} {a : Act} {w : World} {S : α → β → World → Prop} {mk : α → β → Act} (hreg : c.wp P (fun e a' w' => e = .normal ∧ ∃ b d, a' = mk b d ∧ S b d w') a w) (hK : ∀ b d V, S b d V → Q .normal (mk b d) V) : c.wp P Q a w :=
  Code.wp_mono (fun e a' w' h => by obtain ⟨rfl, b, d, rfl, hS⟩ := h; exact hK b d _ hS) hreg
end
end Go.Proofs.Ytkbambojnifjcaa
