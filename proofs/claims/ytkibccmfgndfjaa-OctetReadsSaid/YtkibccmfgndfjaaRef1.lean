/- Contracts and words that the laws stand on (Ref1). -/
import Derived.Test.YtkibccmfgndfjaaOa
set_option linter.unusedVariables false
set_option linter.unusedSimpArgs false
namespace Go.Proofs.Ytkibccmfgndfjaa
section
open Go.RowKit Go.Proofs
set_option maxHeartbeats 400000 in
set_option maxRecDepth 100000 in
theorem twin_any (b : Value) (xs : List UInt8) (w : World) (hb : HB w b xs) (hl : xs.length ≤ 70368744177664) :
    Calls Try.prog 17 #[b] w fun e w' => ∃ v', e = .returned v' ∧ w'.ownsRow w.heap.size 5 1 v' xs.length (bs xs) ∧ Below w.heap.size w w' := by
  have Hb := Lib.hid hb
  obtain ⟨A, c, rfl, hlc⟩ := hb.shape
  clear hb
  go_enter Try.func17, Try.ntmps17
  go_wp2_with (at_builtin; refine wpl_pushes _ rfl (.tmp 4) (.tmp 5) 29 rfl w.heap.size 5 Try.underlying29 u8_info _ [] xs _ rfl rfl ?c1 ?c2 ?c3 ?c4 ?_)
  case c1 => exact World.ownsRow_nil _ _ _ _
  case c2 => exact Hb.out
  case c3 => simp; omega
  case c4 => exact Nat.le_refl _
  intro v' w' hown hg hnx
  have hbl : Below w.heap.size w w' := (Below.refl _ _).grown hg (Nat.le_refl _) (by simp [Value.ownBlock])
  go_wp2_with fail
  go_ret
  exact ⟨_, rfl, hown, hbl⟩
def PowRel (k : Nat) (w : World) (s4 s3 : Value) (w' : World) : Prop := ∃ i : Nat, i ≤ k ∧ s4 = .int .i64 i ∧ s3 = .int .u64 (256 ^ i : Nat) ∧ w' = w
set_option maxHeartbeats 400000 in
set_option maxRecDepth 100000 in
theorem power_any (k : Nat) (hk : k ≤ 7) (w : World) : Calls Try.prog 75 #[.int .i64 (k : Int)] w fun e w' => e = .returned (.int .u64 (256 ^ k : Nat)) ∧ w = w' := by
  go_enter Try.func75, Try.ntmps75
  go_wp2_with fail
  go_loopw [4, 3] (fun s4 s3 w' => PowRel k w s4 s3 w') (fun s4 _ _ => k - (intOf s4).toNat)
  case atStart => exact ⟨0, by omega, rfl, rfl, rfl⟩
  case round =>
    obtain ⟨i, hi, rfl, rfl, rfl⟩ := hrel
    by_cases hlt : i < k
    · have hp : 256 ^ i ≤ 256 ^ 6 := Nat.pow_le_pow_right (by omega) (by omega)
      have h6 : (256 : Nat) ^ 6 = 281474976710656 := by decide
      rw [h6] at hp
      have hs : 256 ^ (i + 1) = 256 ^ i * 256 := Nat.pow_succ ..
      generalize 256 ^ i = q at *
      have HS := Lib.hid hs; clear hs h6
      go_wp2_with fail
      go_roundw
      case rel => exact ⟨i + 1, by omega, by go_num, by rw [HS.out]; go_num, rfl⟩
      case measure => simp [intOf]; omega
    · obtain rfl : i = k := by omega
      obtain ⟨q, hq⟩ : ∃ q, q = 256 ^ i := ⟨_, rfl⟩
      rw [← hq]
      have HQ := Lib.hid hq; clear hq
      go_wp2_with fail
      go_ret
      exact ⟨by rw [← HQ.out]; rfl, rfl⟩
end
end Go.Proofs.Ytkibccmfgndfjaa
