/- Contracts and words that the laws stand on (WOpen). -/
import Derived.Test.YtkbambojnifjcaaWords
import Derived.Test.YtkbambojnifjcaaOpen
set_option linter.unusedVariables false
set_option linter.unusedSimpArgs false
namespace Go.Proofs.Ytkbambojnifjcaa
section
open Go Go.RowKit Go.Proofs
theorem cells24 : Try.prog.cellsOf 24 = 4 := by kernel_rfl
theorem cells22' : Try.prog.cellsOf 22 = 1 := by kernel_rfl
/-- A number that came in. -/
theorem wc_of {w : World} {c : Array Value} (g : Rd Try.prog w 24 c.toList) : ∃ n, n < M4 ∧ c = wc n := by
  obtain ⟨hl, hf⟩ := g.array Try.underlying24
  rw [cells24] at hl
  simp only [cells22', Nat.mul_one] at hf
  obtain ⟨l⟩ := c
  simp only at hl hf
  match l, hl, hf with
  | [v0, v1, v2, v3], _, hf =>
    obtain ⟨n0, h0, w0⟩ := (hf 0 (by decide)).int Try.underlying22
    obtain ⟨n1, h1, w1⟩ := (hf 1 (by decide)).int Try.underlying22
    obtain ⟨n2, h2, w2⟩ := (hf 2 (by decide)).int Try.underlying22
    obtain ⟨n3, h3, w3⟩ := (hf 3 (by decide)).int Try.underlying22
    simp at h0 h1 h2 h3
    subst h0 h1 h2 h3
    have u : ∀ n : Int, (Lit.int .u64 n).wf = true → 0 ≤ n ∧ n < 18446744073709551616 := fun n h => by simp [Lit.wf, IntKind.min, IntKind.max, IntKind.signed, IntKind.bits] at h; omega
    obtain ⟨a0, b0⟩ := u _ w0
    obtain ⟨a1, b1⟩ := u _ w1
    obtain ⟨a2, b2⟩ := u _ w2
    obtain ⟨a3, b3⟩ := u _ w3
    obtain ⟨m0, rfl⟩ := Int.eq_ofNat_of_zero_le a0
    obtain ⟨m1, rfl⟩ := Int.eq_ofNat_of_zero_le a1
    obtain ⟨m2, rfl⟩ := Int.eq_ofNat_of_zero_le a2
    obtain ⟨m3, rfl⟩ := Int.eq_ofNat_of_zero_le a3
    refine ⟨m0 + m1 * 18446744073709551616 + m2 * 340282366920938463463374607431768211456 + m3 * 6277101735386680763835789423207666416102355444464034512896, by simp only [M4]; omega, ?_⟩
    unfold wc
    rw [show (m0 + m1 * 18446744073709551616 + m2 * 340282366920938463463374607431768211456 + m3 * 6277101735386680763835789423207666416102355444464034512896) % 18446744073709551616 = m0 by omega,
      show (m0 + m1 * 18446744073709551616 + m2 * 340282366920938463463374607431768211456 + m3 * 6277101735386680763835789423207666416102355444464034512896) / 18446744073709551616 % 18446744073709551616 = m1 by omega,
      show (m0 + m1 * 18446744073709551616 + m2 * 340282366920938463463374607431768211456 + m3 * 6277101735386680763835789423207666416102355444464034512896) / 340282366920938463463374607431768211456 % 18446744073709551616 = m2 by omega,
      show (m0 + m1 * 18446744073709551616 + m2 * 340282366920938463463374607431768211456 + m3 * 6277101735386680763835789423207666416102355444464034512896) / 6277101735386680763835789423207666416102355444464034512896 % 18446744073709551616 = m3 by omega]
end
end Go.Proofs.Ytkbambojnifjcaa
