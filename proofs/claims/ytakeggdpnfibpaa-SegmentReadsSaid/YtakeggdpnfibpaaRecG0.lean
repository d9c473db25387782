/- Contracts and words that the laws stand on (RecG0). -/
import Derived.Test.YtakeggdpnfibpaaRecF
set_option linter.unusedVariables false
set_option linter.unusedSimpArgs false
namespace Go.Proofs.Ytakeggdpnfibpaa
section
open Go Go.RowKit Go.Proofs
attribute [local irreducible] Calls
set_option maxHeartbeats 1000000 in
set_option maxRecDepth 100000 in
theorem equal47 (u v : Value) (xs ys : List UInt8) (w : World) (hu : HB w u xs) (hv : HB w v ys) :
    Calls Try.prog 21 #[u, v] w fun e w' => e = .returned (.bool (decide (xs = ys))) ∧ w = w' := by
  have HU := Lib.hid hu; have HV := Lib.hid hv
  obtain ⟨A, c, rfl, hlc⟩ := hu.shape
  obtain ⟨B, d, rfl, hmc⟩ := hv.shape
  clear hu hv
  go_enter Try.func21, Try.ntmps21
  go_wp2_with (first
    | (refine wl (by rfl) (wp_of_run (run_str (by rfl) (by rfl) HU.out) ?_))
    | (refine wl (by rfl) (wp_of_run (run_str (by rfl) (by rfl) HV.out) ?_)))
  go_ret
  have hbd : (xs == ys) = decide (xs = ys) := by by_cases h : xs = ys <;> simp [h]
  exact ⟨by rw [← hbd]; rfl, rfl⟩
set_option maxHeartbeats 1000000 in
set_option maxRecDepth 100000 in
theorem same46 (k k' : Int) (u v : Value) (xs ys : List UInt8) (w : World) (hu : HB w u xs) (hv : HB w v ys) :
    Calls Try.prog 42 #[.agg #[.int .i64 k, u], .agg #[.int .i64 k', v]] w fun e w' => e = .returned (.bool (decide ((k, xs) = (k', ys)))) ∧ Below w.heap.size w w' := by
  have HS := Lib.hid (((St.start w).addF hu.away0).addF hv.away0)
  obtain ⟨A, c, rfl, hlc⟩ := hu.shape
  obtain ⟨B, d, rfl, hmc⟩ := hv.shape
  clear hu hv
  by_cases hk : k = k'
  · subst hk
    have hc : decide ((k, xs) = (k, ys)) = decide (xs = ys) := by simp
    rw [hc]; clear hc
    go_enter Try.func42, Try.ntmps42
    go_wp2_with (first
      | (refine atd 2 (by rfl) ?_; refine wl (by rfl) (s_bx (l := [.int .i64 k, .slice A xs.length c]) HS.out (by rfl) (by rfl) ?_); intro b2 Wn hS; clear HS; have HS := Lib.hid hS; clear hS)
      | (refine wl (by rfl) (s_bx (l := [.int .i64 k, .slice B ys.length d]) HS.out (by rfl) (by rfl) ?_); intro b3 Wn hS; clear HS; have HS := Lib.hid hS; clear hS)
      | (refine atd 6 (by rfl) ?_; refine wl (by rfl) (s_ld HS.out 1 (by rfl) (by rfl) (by rfl) (by kernel_rfl) (by rfl) ?_))
      | (refine atd 12 (by rfl) ?_; refine wl (by rfl) (s_ld HS.out 1 (by rfl) (by rfl) (by rfl) (by kernel_rfl) (by rfl) ?_))
      | (refine wl (by rfl) (s_ld HS.out 0 (by rfl) (by rfl) (by rfl) (by kernel_rfl) (by rfl) ?_))
      | (go_at_call 21; refine (equal47 _ _ xs ys _ (HS.out.fact (i := 1) rfl) (HS.out.fact (i := 0) rfl)).mono ?_; rintro e Wn ⟨rfl, rfl⟩))
    go_ret
    exact ⟨rfl, HS.out.below⟩
  · have hc : decide ((k, xs) = (k', ys)) = false := decide_eq_false (fun e => hk (by injection e))
    rw [hc]; clear hc
    have hkd : decide (k = k') = false := decide_eq_false hk
    have hkb : (k == k') = false := beq_eq_false_iff_ne.2 hk
    go_enter Try.func42, Try.ntmps42
    go_wp2_with (first
      | (refine atd 2 (by rfl) ?_; refine wl (by rfl) (s_bx (l := [.int .i64 k, .slice A xs.length c]) HS.out (by rfl) (by rfl) ?_); intro b2 Wn hS; clear HS; have HS := Lib.hid hS; clear hS)
      | (refine wl (by rfl) (s_bx (l := [.int .i64 k', .slice B ys.length d]) HS.out (by rfl) (by rfl) ?_); intro b3 Wn hS; clear HS; have HS := Lib.hid hS; clear hS)
      | (refine atd 6 (by rfl) ?_; refine wl (by rfl) (s_ld HS.out 1 (by rfl) (by rfl) (by rfl) (by kernel_rfl) (by rfl) ?_))
      | (refine wl (by rfl) (s_ld HS.out 0 (by rfl) (by rfl) (by rfl) (by kernel_rfl) (by rfl) ?_)))
    go_ret
    exact ⟨rfl, HS.out.below⟩
end
end Go.Proofs.Ytakeggdpnfibpaa
