/- Contracts and words that the laws stand on (RecD). -/
import Derived.Test.YtakeggdpnfibpaaRng
import Derived.Test.YtakeggdpnfibpaaRecC
import Derived.Test.YtakeggdpnfibpaaRecA
set_option linter.unusedVariables false
set_option linter.unusedSimpArgs false
namespace Go.Proofs.Ytakeggdpnfibpaa
section
open Go Go.RowKit Go.Proofs
open Go.Shelf in
attribute [local go_sem] Oper.semAt_some
attribute [local irreducible] Calls

/-- An item of the loop: kind, payload, place behind it, and the payload's slice. -/
structure RecI where
  k : UInt8
  p : List UInt8
  nx : Int
  v : Value
def RecI.strip (x : RecI) : UInt8 × List UInt8 × Int := (x.k, x.p, x.nx)
def encR (x : RecI) : Array Value := #[.int .i64 x.nx, .agg #[.int .i64 (x.k.toNat : Int), x.v]]
/-- All records from place i on (f: a bound on how many). -/
def allF (xs : List UInt8) : Nat → Int → List (UInt8 × List UInt8 × Int)
  | 0, _ => []
  | f + 1, i => match decR xs i with
    | none => []
    | some (k, p) => (k, p, i + 13 + (p.length : Int)) :: allF xs f (i + 13 + (p.length : Int))
theorem allF_none {xs : List UInt8} {i : Int} (h : decR xs i = none) (f : Nat) : allF xs f i = [] := by
  cases f with
  | zero => rfl
  | succ f => unfold allF; rw [h]
theorem allF_some {xs : List UInt8} {i : Int} {k : UInt8} {p : List UInt8} (h : decR xs i = some (k, p)) (f : Nat) : allF xs (f + 1) i = (k, p, i + 13 + (p.length : Int)) :: allF xs f (i + 13 + (p.length : Int)) := by
  rw [allF, h]
theorem allF_len (xs : List UInt8) : ∀ (f : Nat) (i : Int), (allF xs f i).length ≤ f := by
  intro f
  induction f with
  | zero => intro i; simp [allF]
  | succ f ih =>
    intro i
    cases h : decR xs i with
    | none => rw [allF_none h]; simp
    | some x => rw [allF_some h]; simp only [List.length_cons]; have := ih (i + 13 + (x.2.length : Int)); omega
theorem decR_in {xs : List UInt8} {i : Int} {k : UInt8} {p : List UInt8} (h : decR xs i = some (k, p)) : 0 ≤ i ∧ i + 13 ≤ xs.length := by
  by_cases hb : i < 0 ∨ (xs.length : Int) < i ∨ (xs.length : Int) - i < 13
  · rw [decR_far hb] at h; cases h
  · omega
def at3 (b : Nat) (W : World) : Int := match W.cell? ⟨b, 0, none⟩ with
  | some v => intOf v
  | none => 0
def Kept (m b2 b3 : Nat) : World → World → Prop := Keeps (fun k => k = b2 ∨ k = b3 ∨ k < m)
def RecNew (x : RecI) (A B : World) : Prop := B.ownsRow A.heap.size 5 1 x.v x.p.length (bs x.p)
end
section
open Go Go.RowKit Go.Proofs
attribute [local go_sem] Oper.semAt_some
attribute [local irreducible] Calls
end
end Go.Proofs.Ytakeggdpnfibpaa
