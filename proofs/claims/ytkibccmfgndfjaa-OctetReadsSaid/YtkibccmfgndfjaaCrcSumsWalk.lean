/- Contracts and words that the laws stand on (CrcSumsWalk). -/
import Derived.Test.YtkibccmfgndfjaaCrc
import Derived.Test.YtkibccmfgndfjaaRef1
set_option linter.unusedVariables false
set_option linter.unusedSimpArgs false
namespace Go.Proofs.Ytkibccmfgndfjaa
section
open Go.RowKit Go.Proofs
set_option maxHeartbeats 400000 in
set_option maxRecDepth 100000 in
theorem rsum_any (b : Value) (xs : List UInt8) (w : World) (hb : HB w b xs) (hl : xs.length ≤ 1000000) :
    Calls Try.prog 19 #[b] w fun e w' => e = .returned (.int .u32 (crcOn 0 xs : Nat)) ∧ w = w' := by
  have Hb := Lib.hid hb
  obtain ⟨A, c, rfl, hlc⟩ := hb.shape
  clear hb
  go_enter Try.func19, Try.ntmps19
  go_wp2_with (go_at_call 21; refine (ron_any 0 (by omega) _ xs _ Hb.out hl).mono ?_; rintro e w' ⟨rfl, rfl⟩)
  go_ret
  exact ⟨rfl, rfl⟩

/-- The sum of one slice, as the caller builds it. -/
theorem sum_new (v : Value) (xs : List UInt8) (w : World) (h : HB w v xs) (hl : xs.length ≤ 1000000) :
    Calls Try.prog 18 #[.slice (some ⟨w.heap.size, 0, none⟩) 1 1] (w.alloc (.cells #[v] 29)) fun e w' => e = .returned (.int .u32 (crcOn 0 xs : Nat)) ∧ Below w.heap.size w w' :=
  (sum_one _ xs _ (HParts.one h 29) hl).mono fun e w' h' => ⟨h'.1, ((Below.refl _ _).alloc (Nat.le_refl _) _).trans (h'.2.mono (by simp))⟩

set_option maxHeartbeats 1000000 in
set_option maxRecDepth 100000 in
theorem crcSums_walk (b : Value) (xs : List UInt8) (n : Int) (w : World) (hb : HB w b xs) (hn : 0 ≤ n ∧ n < 4294967296) :
    Calls Try.prog 4 #[b, .int .u32 n] w fun e w' => e = .returned (.bool true) ∧ Below w.heap.size w w' := by
  obtain ⟨m, rfl⟩ := Int.eq_ofNat_of_zero_le hn.1
  have hm : m < 4294967296 := by omega
  have Hb := Lib.hid hb
  have Hm := Lib.hid hm
  obtain ⟨A, c, rfl, hlc⟩ := hb.shape
  clear hb hn hm
  by_cases hx : xs.length ≤ 10000
  · go_enter Try.func4, Try.ntmps4
    go_wp2_with fail
    refine (twin_any _ xs w Hb.out (by omega)).mono ?_
    rintro e w1 ⟨v1, rfl, hown, hb1⟩
    have HO := Lib.hid (HB.of_own hown)
    obtain ⟨A1, c1, rfl⟩ := own_slice hown
    have HB1 := Lib.hid hb1; have Hb1 := Lib.hid (Hb.out.below hb1)
    clear hown hb1
    go_wp2_with fail
    refine (sum_new _ xs _ HO.out (by omega)).mono ?_
    rintro e w2 ⟨rfl, hb2⟩
    have HB2 := Lib.hid (HB1.out.trans (hb2.mono HB1.out.size)); have Hb2 := Lib.hid (Hb1.out.below hb2); have HO2 := Lib.hid (HO.out.below hb2)
    clear hb2
    have hst : ∀ w3, Below w2.heap.size w2 w3 → HB w3 (.slice A1 xs.length c1) xs ∧ HB w3 (.slice A xs.length c) xs := fun w3 h => ⟨HO2.out.below h, Hb2.out.below h⟩
    have HST := Lib.hid hst; clear hst
    go_wp2_with (first
      | (go_at_call 19; refine (rsum_any _ xs _ Hb2.out (by omega)).mono ?_; rintro e w' ⟨rfl, rfl⟩)
      | (go_at_call 20; refine (on_any m Hm.out _ xs _ HO2.out (by omega)).mono ?_; rintro e w3 ⟨rfl, hb3⟩; have Hx := Lib.hid (HST.out _ hb3); have HB3 := Lib.hid (HB2.out.trans (hb3.mono HB2.out.size)); clear hb3; have hs1 := Hx.out.1.string (P := Try.prog) 29 9 5 Try.underlying29 Try.underlying5 Try.underlying9; have hs2 := Hx.out.2.string (P := Try.prog) 29 9 5 Try.underlying29 Try.underlying5 Try.underlying9)
      | (go_at_call 21; refine (ron_any m Hm.out _ xs _ Hx.out.2 (by omega)).mono ?_; rintro e w' ⟨rfl, rfl⟩))
    go_ret
    exact ⟨ret_bool (by simp), HB3.out⟩
  · go_enter Try.func4, Try.ntmps4
    go_wp2_with fail
    go_ret
    exact ⟨rfl, Below.refl _ _⟩
end
end Go.Proofs.Ytkibccmfgndfjaa
