/- Contracts and words that the laws stand on (Open). -/
import Derived.ChangeSlices
import Derived.ProofKit
import Derived.OpenShut
import Derived.ChangeAnyMap
set_option linter.unusedVariables false
set_option linter.unusedSimpArgs false
namespace Go.Proofs.Yteljmpoaggfliaa
section
open Go Go.ChangeShapes
/-! What can be read as data of a type, opened by its type. -/
/-- The cells cs can be read as data of the type t. -/
def Rd (P : Program) (w : World) (t : TypeId) (cs : List Value) : Prop :=
  ∃ (H : Type) (enc : TypeId × Value → H) (fuel : Nat) (x : DataW H × List MemPlace), DataW.trod enc P w 0 (fun _ => true) true fuel t cs = some x
section
variable {P : Program} {w : World} {t : TypeId} {cs : List Value}
theorem Rd.of_trod {H : Type} {enc : TypeId × Value → H} {v : Value} {d : DataW H} {ps : List MemPlace} (h : DataW.Trod enc P w 0 (fun _ => true) true t v d ps) : Rd P w t v.cells.toList := by
  obtain ⟨f, h⟩ := h
  exact ⟨H, enc, f, _, h⟩
theorem mapM_mem {α β : Type} {f : α → Option β} : ∀ {l : List α} {r : List β}, l.mapM f = some r → ∀ x ∈ l, ∃ y, f x = some y
  | [], _, _, x, hx => by cases hx
  | a :: l, r, h, x, hx => by
    rw [List.mapM_cons] at h
    simp only [Option.bind_eq_bind, Option.pure_def, Option.bind_eq_some_iff] at h
    obtain ⟨y, hy, ys, hys, _⟩ := h
    rcases List.mem_cons.1 hx with rfl | hx
    · exact ⟨y, hy⟩
    · exact mapM_mem hys x hx
theorem mapM_at {α β : Type} {f : α → Option β} : ∀ {l : List α} {r : List β}, l.mapM f = some r → ∀ i (hi : i < l.length), f l[i] = r[i]?
  | [], _, _, i, hi => by simp at hi
  | a :: l, r, h, i, hi => by
    rw [List.mapM_cons] at h
    simp only [Option.bind_eq_bind, Option.pure_def, Option.bind_eq_some_iff] at h
    obtain ⟨y, hy, ys, hys, e⟩ := h
    injection e with e
    subst e
    cases i with
    | zero => simpa using hy
    | succ i => simpa using mapM_at hys i (by simpa using hi)
theorem Rd.bool (ht : P.underlying t = some .bool) (h : Rd P w t cs) : ∃ b, cs = [.bool b] := by
  obtain ⟨H, enc, fuel, x, h⟩ := h
  cases fuel with
  | zero => simp [DataW.trod] at h
  | succ n =>
    unfold DataW.trod at h
    rw [ht] at h
    split at h <;> first | exact ⟨_, rfl⟩ | (simp_all; done) | (exfalso; simp_all)
theorem Rd.int {k : IntKind} (ht : P.underlying t = some (.int k)) (h : Rd P w t cs) : ∃ n, cs = [.int k n] ∧ (Lit.int k n).wf = true := by
  obtain ⟨H, enc, fuel, x, h⟩ := h
  cases fuel with
  | zero => simp [DataW.trod] at h
  | succ n =>
    unfold DataW.trod at h
    rw [ht] at h
    split at h
    case h_2 k0 k' m hu =>
      injection hu with e1
      injection e1 with e1
      subst e1
      split at h
      · rename_i hc; exact ⟨m, by rw [hc.1], hc.2⟩
      · cases h
    all_goals (exfalso; simp_all)
theorem Rd.string (ht : P.underlying t = some .string) (h : Rd P w t cs) : ∃ s : ByteArray, cs = [.string s] ∧ s.size ≤ maxLen := by
  obtain ⟨H, enc, fuel, x, h⟩ := h
  cases fuel with
  | zero => simp [DataW.trod] at h
  | succ n =>
    unfold DataW.trod at h
    rw [ht] at h
    split at h
    case h_4 s hu =>
      split at h
      · rename_i hc; exact ⟨s, rfl, hc⟩
      · cases h
    all_goals (exfalso; simp_all)
theorem Rd.struct {fs : Array Field} (ht : P.underlying t = some (.struct fs)) (h : Rd P w t cs) : cs.length = P.cellsOf t ∧ ∀ f ∈ fs.toList, Rd P w f.type ((cs.drop f.offset).take (P.cellsOf f.type)) := by
  obtain ⟨H, enc, fuel, x, h⟩ := h
  cases fuel with
  | zero => simp [DataW.trod] at h
  | succ n =>
    unfold DataW.trod at h
    rw [ht] at h
    split at h
    case h_9 fs' hu =>
      injection hu with e1
      injection e1 with e1
      subst e1
      split at h
      · rename_i hc
        refine ⟨hc, fun f hf => ?_⟩
        obtain ⟨xs, hxs, _⟩ := Option.map_eq_some_iff.1 h
        obtain ⟨y, hy⟩ := mapM_mem hxs f hf
        exact ⟨H, enc, n, y, hy⟩
      · cases h
    all_goals (exfalso; simp_all)
theorem Rd.array {n : Nat} {e : TypeId} (ht : P.underlying t = some (.array n e)) (h : Rd P w t cs) : cs.length = P.cellsOf t ∧ ∀ i, i < n → Rd P w e ((cs.drop (i * P.cellsOf e)).take (P.cellsOf e)) := by
  obtain ⟨H, enc, fuel, x, h⟩ := h
  cases fuel with
  | zero => simp [DataW.trod] at h
  | succ m =>
    unfold DataW.trod at h
    rw [ht] at h
    split at h
    case h_10 n' e' hu =>
      injection hu with e1
      injection e1 with e1 e2
      subst e1 e2
      split at h
      · rename_i hc
        refine ⟨hc, fun i hi => ?_⟩
        obtain ⟨xs, hxs, _⟩ := Option.map_eq_some_iff.1 h
        obtain ⟨y, hy⟩ := mapM_mem hxs i (List.mem_range.2 hi)
        exact ⟨H, enc, m, y, hy⟩
      · cases h
    all_goals (exfalso; simp_all)
theorem Rd.slice {e : TypeId} (ht : P.underlying t = some (.slice e)) (h : Rd P w t cs) : ∃ (a : Option Addr) (len cap : Nat), cs = [.slice a len cap] ∧
    ((a = none ∧ len = 0 ∧ cap = 0) ∨ ∃ x, a = some x ∧ len ≤ cap ∧ cap ≤ maxLen ∧ ∀ i, i < cap → ∃ ds, w.cells? 0 (x.add (i * P.cellsOf e)) (P.cellsOf e) = some ds ∧ Rd P w e ds) := by
  obtain ⟨H, enc, fuel, x, h⟩ := h
  cases fuel with
  | zero => simp [DataW.trod] at h
  | succ m =>
    unfold DataW.trod at h
    rw [ht] at h
    split at h
    case h_7 => exact ⟨none, 0, 0, rfl, .inl ⟨rfl, rfl, rfl⟩⟩
    case h_8 =>
      rename_i e' a len cap hu
      injection hu with e1
      injection e1 with e1
      subst e1
      refine ⟨some a, len, cap, rfl, .inr ⟨a, rfl, ?_⟩⟩
      simp only [if_true] at h
      split at h
      · rename_i hc
        refine ⟨hc.2.1, hc.2.2, fun i hi => ?_⟩
        obtain ⟨es, hes, h2⟩ := Option.bind_eq_some_iff.1 h
        obtain ⟨rs, hrs, _⟩ := Option.map_eq_some_iff.1 h2
        have key : ∃ y, (w.cells? 0 (a.add (i * P.cellsOf e)) (P.cellsOf e)).bind (DataW.trod enc P w 0 (fun _ => true) true m e) = some y := by
          by_cases hl : i < len
          · exact mapM_mem hes i (List.mem_range.2 hl)
          · obtain ⟨y, hy⟩ := mapM_mem hrs (i - len) (List.mem_range.2 (by omega))
            rw [show len + (i - len) = i by omega] at hy
            exact ⟨y, hy⟩
        obtain ⟨y, hy⟩ := key
        obtain ⟨ds, hds, hd⟩ := Option.bind_eq_some_iff.1 hy
        exact ⟨ds, hds, H, enc, m, y, hd⟩
      · cases h
    all_goals (exfalso; simp_all)
theorem okWide_agg {r : Reach} {b0 : Nat} {v : Value} {d : TypeDesc} (ht : P.underlying t = some d) (hd : (match d with | .struct _ => true | .array _ _ => true | _ => false) = true := by rfl) (h : Value.okWide P w r b0 t v) : ∃ c : Array Value, v = .agg c := by
  unfold Value.okWide at h
  rw [ht] at h
  cases d <;> first | (cases hd; done) | (obtain ⟨c, e, _⟩ := h; exact ⟨c, e⟩)
theorem cells_spec {b n : Nat} {a : Addr} {l : List Value} (h : w.cells? b a n = some l) : l.length = n ∧ ∀ i, i < n → w.cell? (a.add i) = l[i]? := by
  unfold World.cells? at h
  split at h
  · have hl : l.length = n := by simpa using Go.mapM_len h
    refine ⟨hl, fun i hi => ?_⟩
    have := mapM_at h i (by simpa using hi)
    simpa using this
  · cases h
end
end
end Go.Proofs.Yteljmpoaggfliaa
