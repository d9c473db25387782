/- Contracts and words that the laws stand on (Short). -/
import Derived.Test.YtkibccmfgndfjaaOa
set_option linter.unusedVariables false
set_option linter.unusedSimpArgs false
namespace Go.Proofs.Ytkibccmfgndfjaa
section
open Go.RowKit Go.Proofs
theorem le_leNum (l : List UInt8) : le l.length (leNum l) = l := by
  induction l with
  | nil => rfl
  | cons x r ih =>
    have hx := x.toNat_lt
    rw [List.length_cons, le, leNum]
    have h1 : (x.toNat + 256 * leNum r) % 256 = x.toNat := by omega
    have h2 : (x.toNat + 256 * leNum r) / 256 = leNum r := by omega
    rw [h1, h2, ih]
    simp
/-- What is read as a size is what is written for it. -/
theorem getSize_csize {xs : List UInt8} {n k : Nat} (h : getSize xs = some (n, k)) : csize n = xs.take k ∧ k = compact n := by
  cases xs with
  | nil => simp [getSize] at h
  | cons f r =>
    simp only [getSize] at h
    have hf := f.toNat_lt
    split at h
    · rename_i h1
      simp only [Option.some.injEq, Prod.mk.injEq] at h; obtain ⟨rfl, rfl⟩ := h
      simp [csize, compact, h1]
    · rename_i h1
      split at h
      · cases h
      · rename_i h2
        split at h
        · rename_i h3
          simp only [Option.some.injEq, Prod.mk.injEq] at h; obtain ⟨rfl, rfl⟩ := h
          refine ⟨?_, h3.symm⟩
          have hl : (r.take (msz f)).length = msz f := by simp; omega
          have hle := le_leNum (r.take (msz f))
          rw [hl] at hle
          have hm : msz f = 2 ∨ msz f = 4 ∨ msz f = 8 := by unfold msz; split; simp; split <;> simp
          have hmf : (msz f = 2 → f = 253) ∧ (msz f = 4 → f = 254) ∧ (msz f = 8 → f = 255) := by
            unfold msz
            split
            · rename_i h; exact ⟨fun _ => UInt8.toNat_inj.1 h, by simp, by simp⟩
            · split
              · rename_i h; exact ⟨by simp, fun _ => UInt8.toNat_inj.1 h, by simp⟩
              · exact ⟨by simp, by simp, fun _ => UInt8.toNat_inj.1 (show f.toNat = 255 by omega)⟩
          rw [List.take_succ_cons]
          generalize leNum (r.take (msz f)) = v at h3 hle ⊢
          rw [← hle]
          have hc : (compact v = 3 → ¬ v < 253 ∧ v < 65536) ∧ (compact v = 5 → ¬ v < 253 ∧ ¬ v < 65536 ∧ v < 4294967296) ∧ (compact v = 9 → ¬ v < 253 ∧ ¬ v < 65536 ∧ ¬ v < 4294967296) := by
            unfold compact
            refine ⟨?_, ?_, ?_⟩ <;> (split <;> (try split) <;> (try split) <;> simp <;> omega)
          unfold csize
          rcases hm with h | h | h <;> rw [h] at h3 ⊢
          · have := hmf.1 h; subst this
            have := hc.1 h3
            rw [if_neg this.1, if_pos this.2]
          · have := hmf.2.1 h; subst this
            have := hc.2.1 h3
            rw [if_neg this.1, if_neg this.2.1, if_pos this.2.2]
          · have := hmf.2.2 h; subst this
            have := hc.2.2 h3
            rw [if_neg this.1, if_neg this.2.1, if_neg this.2.2]
        · cases h
theorem getBytes_csize {most : Int} {xs l : List UInt8} {m : Nat} (h : getBytes most xs = some (l, m)) : csize l.length ++ l = xs.take m ∧ ∃ k, getSize xs = some (l.length, k) ∧ (l.length : Int) ≤ most ∧ m = k + l.length ∧ m ≤ xs.length := by
  obtain ⟨n, k, hg, rfl, rfl, h0, hm, hx⟩ := getBytes_some h
  have hl : ((xs.drop k).take n).length = n := by simp; omega
  rw [hl]
  refine ⟨?_, k, hg, hm, rfl, hx⟩
  rw [(getSize_csize hg).1, List.take_add]
end
end Go.Proofs.Ytkibccmfgndfjaa
