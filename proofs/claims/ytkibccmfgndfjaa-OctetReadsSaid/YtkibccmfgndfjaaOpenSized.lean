/- Contracts and words that the laws stand on (OpenSized). -/
import Derived.SizedLaws
import Derived.Test.YtkibccmfgndfjaaOpen
set_option linter.unusedVariables false
set_option linter.unusedSimpArgs false
namespace Go.Proofs.Ytkibccmfgndfjaa
section
open Go Go.ChangeShapes
/-! What can be read as data of a type, none of it greater than a machine's reach, opened by its type. -/
/-- The cells cs can be read as data of the type t, within reach. -/
def Rs (P : Program) (w : World) (t : TypeId) (cs : List Value) : Prop :=
  ∃ (H : Type) (enc : TypeId × Value → H) (fuel : Nat) (x : DataW H × List MemPlace), DataW.trod enc P w 0 (fun _ => true) true fuel t cs = some x ∧ ∀ n ∈ x.1.weights P t, n ≤ reachBytes
section
variable {P : Program} {w : World} {t : TypeId} {cs : List Value}
theorem Rs.rd (h : Rs P w t cs) : Rd P w t cs := by
  obtain ⟨H, enc, fuel, x, h, _⟩ := h
  exact ⟨H, enc, fuel, x, h⟩
theorem Rs.of_trod {H : Type} {enc : TypeId × Value → H} {v : Value} {d : DataW H} {ps : List MemPlace} (h : DataW.Trod enc P w 0 (fun _ => true) true t v d ps) {ts : List TypeId} {ds : List (DataW H)} (hs : (DataW.weightsEach P ts ds).all (· ≤ reachBytes) = true) {j : Nat} (ht : ts[j]? = some t) (hd : ds[j]? = some d) : Rs P w t v.cells.toList := by
  obtain ⟨f, h⟩ := h
  exact ⟨H, enc, f, _, h, fun n hn => by simpa using List.all_eq_true.1 hs n (DataW.weights_mem_each ht hd n hn)⟩
theorem mem_weightsAll {H : Type} {e : TypeId} {n : Nat} : ∀ {l : List (DataW H)} {d : DataW H}, d ∈ l → n ∈ d.weights P e → n ∈ DataW.weightsAll P e l
  | a :: l, d, hd, hn => by
    rw [DataW.weightsAll, List.mem_append]
    rcases List.mem_cons.1 hd with rfl | hd
    · exact .inl hn
    · exact .inr (mem_weightsAll hd hn)
theorem mapM_mem2 {α β : Type} {f : α → Option β} : ∀ {l : List α} {r : List β}, l.mapM f = some r → ∀ x ∈ l, ∃ y, f x = some y ∧ y ∈ r
  | [], _, _, x, hx => by cases hx
  | a :: l, r, h, x, hx => by
    rw [List.mapM_cons] at h
    simp only [Option.bind_eq_bind, Option.pure_def, Option.bind_eq_some_iff] at h
    obtain ⟨y, hy, ys, hys, e⟩ := h
    injection e with e
    subst e
    rcases List.mem_cons.1 hx with rfl | hx
    · exact ⟨y, hy, List.mem_cons_self ..⟩
    · obtain ⟨z, hz, hm⟩ := mapM_mem2 hys x hx
      exact ⟨z, hz, List.mem_cons_of_mem _ hm⟩
theorem mapM_each {H β : Type} {f : Field → Option (DataW H × β)} {n : Nat} : ∀ {l : List Field} {r : List (DataW H × β)}, l.mapM f = some r → ∀ x ∈ l, ∃ y, f x = some y ∧ (n ∈ y.1.weights P x.type → n ∈ DataW.weightsEach P (l.map (·.type)) (r.map (·.1)))
  | [], _, _, x, hx => by cases hx
  | a :: l, r, h, x, hx => by
    rw [List.mapM_cons] at h
    simp only [Option.bind_eq_bind, Option.pure_def, Option.bind_eq_some_iff] at h
    obtain ⟨y, hy, ys, hys, e⟩ := h
    injection e with e
    subst e
    simp only [List.map_cons, DataW.weightsEach, List.mem_append]
    rcases List.mem_cons.1 hx with rfl | hx
    · exact ⟨y, hy, fun h => .inl h⟩
    · obtain ⟨z, hz, hm⟩ := mapM_each (n := n) hys x hx
      exact ⟨z, hz, fun h => .inr (hm h)⟩
theorem Rs.string (ht : P.underlying t = some .string) (h : Rs P w t cs) : ∃ s : ByteArray, cs = [.string s] ∧ s.size ≤ reachBytes := by
  obtain ⟨H, enc, fuel, x, h, hs⟩ := h
  cases fuel with
  | zero => simp [DataW.trod] at h
  | succ n =>
    unfold DataW.trod at h
    rw [ht] at h
    split at h
    case h_4 s hu =>
      split at h
      · rename_i hc
        injection h with h
        subst h
        refine ⟨s, rfl, ?_⟩
        have := hs s.data.toList.length (by simp [DataW.weights])
        simpa using this
      · cases h
    all_goals (exfalso; simp_all)
theorem Rs.struct {fs : Array Field} (ht : P.underlying t = some (.struct fs)) (h : Rs P w t cs) : cs.length = P.cellsOf t ∧ ∀ f ∈ fs.toList, Rs P w f.type ((cs.drop f.offset).take (P.cellsOf f.type)) := by
  obtain ⟨H, enc, fuel, x, h, hs⟩ := h
  cases fuel with
  | zero => simp [DataW.trod] at h
  | succ n =>
    unfold DataW.trod at h
    rw [ht] at h
    split at h
    case h_9 fs' hu =>
      injection hu with e1
      injection e1 with e1
      subst e1
      split at h
      · rename_i hc
        refine ⟨hc, fun f hf => ?_⟩
        obtain ⟨xs, hxs, hx⟩ := Option.map_eq_some_iff.1 h
        subst hx
        obtain ⟨y, hy, _⟩ := mapM_each (P := P) (n := 0) hxs f hf
        refine ⟨H, enc, n, y, hy, fun m hm => ?_⟩
        obtain ⟨y', hy', h'⟩ := mapM_each (P := P) (n := m) hxs f hf
        rw [hy] at hy'
        injection hy' with e
        subst e
        exact hs m (by simp only [DataW.weights, ht]; exact h' hm)
      · cases h
    all_goals (exfalso; simp_all)
theorem Rs.slice {e : TypeId} (ht : P.underlying t = some (.slice e)) (h : Rs P w t cs) : ∃ (a : Option Addr) (len cap : Nat), cs = [.slice a len cap] ∧
    ((a = none ∧ len = 0 ∧ cap = 0) ∨ ∃ x, a = some x ∧ len ≤ cap ∧ cap ≤ maxLen ∧ cap * P.bytesOf e ≤ reachBytes ∧ ∀ i, i < cap → ∃ ds, w.cells? 0 (x.add (i * P.cellsOf e)) (P.cellsOf e) = some ds ∧ Rs P w e ds) := by
  obtain ⟨H, enc, fuel, x, h, hs⟩ := h
  cases fuel with
  | zero => simp [DataW.trod] at h
  | succ m =>
    unfold DataW.trod at h
    rw [ht] at h
    split at h
    case h_7 => exact ⟨none, 0, 0, rfl, .inl ⟨rfl, rfl, rfl⟩⟩
    case h_8 =>
      rename_i e' a len cap hu
      injection hu with e1
      injection e1 with e1
      subst e1
      refine ⟨some a, len, cap, rfl, .inr ⟨a, rfl, ?_⟩⟩
      simp only [if_true] at h
      split at h
      · rename_i hc
        obtain ⟨es, hes, h2⟩ := Option.bind_eq_some_iff.1 h
        obtain ⟨rs, hrs, h3⟩ := Option.map_eq_some_iff.1 h2
        subst h3
        have l1 : es.length = len := by simpa using Go.mapM_len hes
        have l2 : rs.length = cap - len := by simpa using Go.mapM_len hrs
        have hw : cap * P.bytesOf e ≤ reachBytes := by
          have := hs ((es.length + rs.length) * P.bytesOf e) (by simp [DataW.weights, ht])
          rwa [l1, l2, show len + (cap - len) = cap by omega] at this
        refine ⟨hc.2.1, hc.2.2, hw, fun i hi => ?_⟩
        have key : ∃ y, (w.cells? 0 (a.add (i * P.cellsOf e)) (P.cellsOf e)).bind (DataW.trod enc P w 0 (fun _ => true) true m e) = some y ∧ (y ∈ es ∨ y ∈ rs) := by
          by_cases hl : i < len
          · obtain ⟨y, hy, hm⟩ := mapM_mem2 hes i (List.mem_range.2 hl)
            exact ⟨y, hy, .inl hm⟩
          · obtain ⟨y, hy, hm⟩ := mapM_mem2 hrs (i - len) (List.mem_range.2 (by omega))
            rw [show len + (i - len) = i by omega] at hy
            exact ⟨y, hy, .inr hm⟩
        obtain ⟨y, hy, hm⟩ := key
        obtain ⟨ds, hds, hd⟩ := Option.bind_eq_some_iff.1 hy
        refine ⟨ds, hds, H, enc, m, y, hd, fun n hn => hs n ?_⟩
        simp only [DataW.weights, ht, List.mem_cons, List.mem_append]
        rcases hm with hm | hm
        · exact .inr (.inl (mem_weightsAll (List.mem_map.2 ⟨y, hm, rfl⟩) hn))
        · exact .inr (.inr (mem_weightsAll (List.mem_map.2 ⟨y, hm, rfl⟩) hn))
      · cases h
    all_goals (exfalso; simp_all)
end
end
end Go.Proofs.Ytkibccmfgndfjaa
