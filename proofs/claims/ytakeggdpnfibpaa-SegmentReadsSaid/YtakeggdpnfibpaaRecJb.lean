/- Contracts and words that the laws stand on (RecJb). -/
import Derived.Test.YtakeggdpnfibpaaRecJ
set_option linter.unusedVariables false
set_option linter.unusedSimpArgs false
namespace Go.Proofs.Ytakeggdpnfibpaa
section
open Go Go.RowKit Go.Proofs
attribute [local irreducible] Calls

/-- Bytes that may be written over. -/
def WB (B : Nat) (A : Option Addr) (n : Nat) (W : World) : Prop := n ≠ 0 → ∃ g o cs, A = some ⟨g, o, none⟩ ∧ B ≤ g ∧ W.heap[g]? = some (.cells cs 5 (0, 0)) ∧ ∀ j, j < n → ∃ z, cs[o + j]? = some (.int .u8 z)
theorem WB.of_own {B n c : Nat} {A : Option Addr} {W : World} {xs : List UInt8} (h : W.ownsRow B 5 1 (.slice A n c) xs.length (bs xs)) : WB B A n W := by
  intro hn
  rcases h.2 with ⟨e, _⟩ | ⟨g, cap, cur, e, h1, h2, h3, h4, h5, h6⟩
  · injection e with _ e _; exact absurd e hn
  · injection e with e1 e2 e3
    subst e1 e2 e3
    refine ⟨g, 0, cur, rfl, h1, h2, fun j hj => ?_⟩
    have e1 : cur.toList[j]? = (bs xs)[j]? := by rw [← h6, List.getElem?_take_of_lt (by omega)]
    have e2 : (bs xs)[j]? = some (.int .u8 (xs[j].toNat : Int)) := by simp [bs, hj]
    exact ⟨(xs[j].toNat : Int), by rw [Nat.zero_add, ← Array.getElem?_toList, e1, e2]⟩
theorem WB.get {B n j : Nat} {A : Option Addr} {W : World} (h : WB B A n W) (hj : j < n) : ∃ g o z, A = some ⟨g, o, none⟩ ∧ B ≤ g ∧ W.cell? ⟨g, o + j, none⟩ = some (.int .u8 z) ∧ W.frozen? ⟨g, o + j, none⟩ = false ∧ ∀ x, WB B A n (W.setCell ⟨g, o + j, none⟩ (.int .u8 x)) := by
  obtain ⟨g, o, cs, e, h1, h2, h3⟩ := h (by omega)
  obtain ⟨z, hz⟩ := h3 j hj
  refine ⟨g, o, z, e, h1, by rw [blk_cell h2]; exact hz, blk_free h2 _, fun x _ => ⟨g, o, _, e, h1, blk_set h2 _ _, fun i hi => ?_⟩⟩
  obtain ⟨y, hy⟩ := h3 i hi
  by_cases hij : j = i
  · subst hij
    exact ⟨x, by rw [Array.getElem?_setIfInBounds_self_of_lt]; exact (Array.getElem?_eq_some_iff.1 hy).1⟩
  · exact ⟨y, by rw [Array.getElem?_setIfInBounds_ne (by omega)]; exact hy⟩
theorem encL_len (n : Nat) : ∀ l : List (Int × List UInt8), (∀ x ∈ l, x.2.length ≤ n) → (encL l).length ≤ l.length * (n + 13) := by
  intro l
  induction l with
  | nil => intro _; simp [encL]
  | cons x l ih =>
    intro h
    have h1 := h x (List.mem_cons_self ..)
    have h2 := ih (fun y hy => h y (List.mem_cons_of_mem _ hy))
    have e : encL (x :: l) = recB (UInt8.ofNat x.1.toNat) x.2 ++ encL l := by simp [encL]
    rw [e, List.length_append, recB_length, List.length_cons, Nat.add_mul, Nat.one_mul]
    omega
theorem encO_len {l : List (Int × List UInt8)} {n : Nat} (h : ∀ x ∈ l, x.2.length ≤ n) : (encO l).length ≤ l.length * (n + 13) := by
  unfold encO
  split
  · exact encL_len n l h
  · simp
theorem rsame16_d (u v : Value) (l m : List (Int × List UInt8)) (d : Bool) (w : World) (hd : decide (l = m) = d) (hu : RS w u l) (hv : RS w v m) (hl : l.length ≤ 1000000) (hm : m.length ≤ 1000000) :
    Calls Try.prog 14 #[u, v] w fun e w' => e = .returned (.bool d) ∧ Below w.heap.size w w' := by subst hd; exact rsame16 u v l m w hu hv hl hm
theorem same22_d (u v : Value) (l m : List (Int × List UInt8)) (d : Bool) (w : World) (hd : decide (l = m) = d) (hu : RS w u l) (hv : RS w v m) (hl : l.length ≤ 1000000) (hm : m.length ≤ 1000000) :
    Calls Try.prog 30 #[u, v] w fun e w' => e = .returned (.bool d) ∧ Below w.heap.size w w' := by subst hd; exact same22 u v l m w hu hv hl hm
end
end Go.Proofs.Ytakeggdpnfibpaa
