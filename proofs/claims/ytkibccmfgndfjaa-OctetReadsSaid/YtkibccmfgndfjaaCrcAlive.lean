/- Contracts and words that the laws stand on (CrcAlive). -/
import Derived.Lib.SlBytesConst
import Derived.Test.YtkibccmfgndfjaaCrcMark
set_option linter.unusedVariables false
set_option linter.unusedSimpArgs false
namespace Go.Proofs.Ytkibccmfgndfjaa
section
open Go.RowKit Go.Proofs
theorem check_sum : crcOn 0 [49, 50, 51, 52, 53, 54, 55, 56, 57] = 3808858755 := by kernel_rfl
set_option maxHeartbeats 1000000 in
set_option maxRecDepth 100000 in
theorem alive2_any (w : World) : Calls Try.prog 22 #[] w fun e w' => e = .returned (.bool true) ∧ Below w.heap.size w w' := by
  obtain ⟨W0, hW0⟩ : ∃ W0, W0 = w.alloc (.cells #[.int .u8 49, .int .u8 50, .int .u8 51, .int .u8 52, .int .u8 53, .int .u8 54, .int .u8 55, .int .u8 56, .int .u8 57] 5 (9, 10)) := ⟨_, rfl⟩
  have hsz : W0.heap.size = w.heap.size + 1 := by rw [hW0]; simp
  have hl0 : HB W0 (.slice (some ⟨w.heap.size, 0, none⟩) 9 9) [49, 50, 51, 52, 53, 54, 55, 56, 57] := by rw [hW0]; exact HB.lit w [49, 50, 51, 52, 53, 54, 55, 56, 57] 5 (9, 10)
  have hb0 : Below w.heap.size w W0 := by rw [hW0]; exact (Below.refl _ w).alloc (Nat.le_refl _) _
  have hsn := sum_new _ _ _ hl0 (by simp)
  rw [check_sum, hsz] at hsn
  have HSN := Lib.hid hsn
  have HB0 := Lib.hid hb0
  clear hl0 hb0 hsn
  have kc := fun (w : World) (C : Array Value) (n c : Nat) => Lib.run_convert_bytes_const (P := Try.prog) w 29 5 C n c Try.underlying29 Try.underlying5
  go_enter Try.func22, Try.ntmps22
  go_wp2_with fail
  rw [← hW0]
  clear hW0
  refine HSN.out.mono ?_
  rintro e w1 ⟨rfl, hb1⟩
  have hb1' : Below w.heap.size W0 w1 := hb1.mono (by omega)
  have HB1 := Lib.hid (HB0.out.trans hb1')
  clear hb1 hb1'
  go_wp2_with fail
  refine (sum_any _ [] _ (HParts.nil _ _ _) (by simp) (by simp)).mono ?_
  rw [show crcOn 0 ([] : List (List UInt8)).flatten = 0 from by kernel_rfl]
  rintro e w2 ⟨rfl, hb2⟩
  have HB2 := Lib.hid (HB1.out.trans (hb2.mono HB1.out.size))
  go_wp2_with fail
  go_ret
  exact ⟨ret_bool (by simp), HB2.out⟩
end
end Go.Proofs.Ytkibccmfgndfjaa
