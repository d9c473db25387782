/- Contracts and words that the laws stand on (RecG). -/
import Derived.Test.YtakeggdpnfibpaaRecG0
set_option linter.unusedVariables false
set_option linter.unusedSimpArgs false
namespace Go.Proofs.Ytakeggdpnfibpaa
section
open Go Go.RowKit Go.Proofs
attribute [local irreducible] Calls

theorem range2 {W : World} {b k : Nat} {x y : Value} (h1 : W.cell? ⟨b, k, none⟩ = some x) (h2 : W.cell? ⟨b, k + 1, none⟩ = some y) : W.rangeAt b k [x, y] := by
  intro j v hj
  match j, hj with
  | 0, hj => simp at hj; subst hj; exact h1
  | 1, hj => simp at hj; subst hj; exact h2
  | j + 2, hj => simp at hj
end
section
open Go Go.RowKit Go.Proofs
attribute [local irreducible] Calls
set_option maxHeartbeats 1000000 in
set_option maxRecDepth 100000 in
theorem eqf45 (u v : Value) (l m : List (Int × List UInt8)) (w : World) (hu : RS w u l) (hv : RS w v m) (hl : l.length ≤ 1000000) (hm : m.length ≤ 1000000) :
    Calls Try.prog 41 #[u, v, .func (.func 42) #[] #[]] w fun e w' => e = .returned (.bool (decide (l = m))) ∧ Below w.heap.size w w' := by
  have HU := Lib.hid hu; have HV := Lib.hid hv
  obtain ⟨A, c, rfl, hlc⟩ := hu.shape
  obtain ⟨B, d, rfl, hmc⟩ := hv.shape
  clear hu hv
  by_cases hlen : l.length = m.length
  · have HLEN := Lib.hid hlen
    rw [← hlen] at HV ⊢
    clear hlen
    go_enter Try.func41, Try.ntmps41
    go_wp2_with fail
    go_loopw [17] (fun s17 wr => ∃ i : Nat, i ≤ l.length ∧ s17 = .int .i64 (i : Int) ∧ (∀ j, j < i → l[j]? = m[j]?) ∧ Below w.heap.size w wr) (fun s17 _ => l.length - (intOf s17).toNat)
    case atStart => exact ⟨0, by omega, rfl, fun j hj => by omega, Below.refl _ _⟩
    case round =>
      obtain ⟨i, hi, rfl, hall, hb⟩ := hrel
      have HALL := Lib.hid hall; have HB := Lib.hid hb
      clear hall
      by_cases hlt : i < l.length
      · obtain ⟨ba, oa, pv, rfl, c1, c2, hb1⟩ := (HU.out.below hb).get hlt
        obtain ⟨bb, ob, pv', rfl, c1', c2', hb2⟩ := (HV.out.below hb).get (show i < m.length by have := HLEN.out; omega)
        have hli : l[i]? = some l[i] := List.getElem?_eq_getElem hlt
        have hmi : m[i]? = some (m[i]'(by have := HLEN.out; omega)) := List.getElem?_eq_getElem (by have := HLEN.out; omega)
        generalize l[i] = x at *
        generalize m[i]'(by have := HLEN.out; omega) = y at *
        obtain ⟨k, p⟩ := x
        obtain ⟨k', p'⟩ := y
        dsimp only at c1 c1' hb1 hb2
        have R1 := Lib.hid (range2 c1 c2)
        have hr2 : Away (Keys []) (fun W => W.rangeAt bb (ob + i * 2) [.int .i64 k', pv']) wr := fun V hs => range2 (hs.cell (fun ⟨r, hr, _⟩ => by cases hr) c1') (hs.cell (fun ⟨r, hr, _⟩ => by cases hr) c2')
        have hv1 : pv.oneCell' = true := by obtain ⟨_, _, e, _⟩ := hb1; rw [e]; rfl
        have hv2 : pv'.oneCell' = true := by obtain ⟨_, _, e, _⟩ := hb2; rw [e]; rfl
        have HV1 := Lib.hid hv1; have HV2 := Lib.hid hv2; clear hv1 hv2
        have HS := Lib.hid ((((St.start wr).addF hb2.away0).addF hb1.away0).addF hr2)
        have HLI := Lib.hid hli; have HMI := Lib.hid hmi
        clear hli hmi c1 c2 c1' c2' hb1 hb2 hr2 hb
        have j1 : (i : Int) < (l.length : Int) := by omega
        by_cases he : (k, p) = (k', p')
        · have hd : decide ((k, p) = (k', p')) = true := decide_eq_true he
          go_wp2_with (first
            | (refine wl (by rfl) (wp_of_run (run_lda (n := 2) (cs := [.int .i64 k, pv]) ag25 (by rfl) (by rfl) R1.out (by rfl)) ?_))
            | (refine atd 8 (by rfl) ?_; refine wl (by rfl) (s_al HS.out (by rfl) z25 (by rfl) ?_); intro b8 Wn hS; clear HS; have HS := Lib.hid hS; clear hS)
            | (refine atd 9 (by rfl) ?_; refine wl (by rfl) (s_al HS.out (by rfl) z25 (by rfl) ?_); intro b9 Wn hS; clear HS; have HS := Lib.hid hS; clear hS)
            | (refine wl (by rfl) (s_sta (cs := [.int .i64 k, pv]) HS.out 0 2 (by rfl) (by rfl) (by rfl) ag25 (by rfl) (by rfl) (by intro v hv; simp at hv; rcases hv with rfl | rfl; rfl; exact HV1.out) (by decide) ?_); intro Wn hS; clear HS; have HS := Lib.hid hS; clear hS)
            | (refine wl (by rfl) (wp_of_run (run_lda (n := 2) (cs := [.int .i64 k', pv']) ag25 (by rfl) (by rfl) (HS.out.fact (i := 0) rfl) (by rfl)) ?_))
            | (refine wl (by rfl) (s_sta (cs := [.int .i64 k', pv']) HS.out 0 2 (by rfl) (by rfl) (by rfl) ag25 (by rfl) (by rfl) (by intro v hv; simp at hv; rcases hv with rfl | rfl; rfl; exact HV2.out) (by decide) ?_); intro Wn hS; clear HS; have HS := Lib.hid hS; clear hS)
            | (refine wl (by rfl) (s_lda (cs := [.int .i64 k, pv]) HS.out 1 2 (by rfl) (by rfl) (by rfl) ag25 (by rfl) (by rfl) ?_))
            | (refine wl (by rfl) (s_lda (cs := [.int .i64 k', pv']) HS.out 0 2 (by rfl) (by rfl) (by rfl) ag25 (by rfl) (by rfl) ?_))
            | (go_at_call 42; refine (same46 k k' _ _ p p' _ (HS.out.fact (i := 1) rfl) (HS.out.fact (i := 2) rfl)).mono ?_; rintro e Wn ⟨rfl, hb⟩; have hS := HS.out.call hb; clear hb; clear HS; have HS := Lib.hid hS; clear hS))
          refine ⟨⟨i + 1, by omega, by push_cast; rfl, fun j hj => ?_, HB.out.trans (HS.out.below.mono HB.out.size)⟩, by simp [intOf]; omega⟩
          by_cases hji : j < i
          · exact HALL.out j hji
          · obtain rfl : j = i := by omega
            rw [HLI.out, HMI.out, he]
        · have hd : decide ((k, p) = (k', p')) = false := decide_eq_false he
          have hne : decide (l = m) = false := decide_eq_false (fun e => he (by have h1 := HLI.out; rw [e, HMI.out] at h1; injection h1 with h1; exact h1.symm))
          go_wp2_with (first
            | (refine wl (by rfl) (wp_of_run (run_lda (n := 2) (cs := [.int .i64 k, pv]) ag25 (by rfl) (by rfl) R1.out (by rfl)) ?_))
            | (refine atd 8 (by rfl) ?_; refine wl (by rfl) (s_al HS.out (by rfl) z25 (by rfl) ?_); intro b8 Wn hS; clear HS; have HS := Lib.hid hS; clear hS)
            | (refine atd 9 (by rfl) ?_; refine wl (by rfl) (s_al HS.out (by rfl) z25 (by rfl) ?_); intro b9 Wn hS; clear HS; have HS := Lib.hid hS; clear hS)
            | (refine wl (by rfl) (s_sta (cs := [.int .i64 k, pv]) HS.out 0 2 (by rfl) (by rfl) (by rfl) ag25 (by rfl) (by rfl) (by intro v hv; simp at hv; rcases hv with rfl | rfl; rfl; exact HV1.out) (by decide) ?_); intro Wn hS; clear HS; have HS := Lib.hid hS; clear hS)
            | (refine wl (by rfl) (wp_of_run (run_lda (n := 2) (cs := [.int .i64 k', pv']) ag25 (by rfl) (by rfl) (HS.out.fact (i := 0) rfl) (by rfl)) ?_))
            | (refine wl (by rfl) (s_sta (cs := [.int .i64 k', pv']) HS.out 0 2 (by rfl) (by rfl) (by rfl) ag25 (by rfl) (by rfl) (by intro v hv; simp at hv; rcases hv with rfl | rfl; rfl; exact HV2.out) (by decide) ?_); intro Wn hS; clear HS; have HS := Lib.hid hS; clear hS)
            | (refine wl (by rfl) (s_lda (cs := [.int .i64 k, pv]) HS.out 1 2 (by rfl) (by rfl) (by rfl) ag25 (by rfl) (by rfl) ?_))
            | (refine wl (by rfl) (s_lda (cs := [.int .i64 k', pv']) HS.out 0 2 (by rfl) (by rfl) (by rfl) ag25 (by rfl) (by rfl) ?_))
            | (go_at_call 42; refine (same46 k k' _ _ p p' _ (HS.out.fact (i := 1) rfl) (HS.out.fact (i := 2) rfl)).mono ?_; rintro e Wn ⟨rfl, hb⟩; have hS := HS.out.call hb; clear hb; clear HS; have HS := Lib.hid hS; clear hS))
          go_ret
          exact ⟨by first | rfl | (rw [hne]; rfl), HB.out.trans (HS.out.below.mono HB.out.size)⟩
      · have heq : decide (l = m) = true := decide_eq_true (List.ext_getElem? fun j => by
          by_cases hj : j < i
          · exact HALL.out j hj
          · rw [List.getElem?_eq_none (by omega), List.getElem?_eq_none (by have := HLEN.out; omega)])
        have j1 : ¬ (i : Int) < (l.length : Int) := by omega
        go_wp2_with fail
        go_ret
        exact ⟨by first | rfl | (rw [heq]; rfl), HB.out⟩
  · have hne : decide (l = m) = false := decide_eq_false (fun e => hlen (by rw [e]))
    rw [hne]
    have k1 : ¬ (l.length : Int) = (m.length : Int) := by omega
    clear hne hlen
    go_enter Try.func41, Try.ntmps41
    go_wp2_with fail
    go_ret
    exact ⟨rfl, Below.refl _ _⟩
set_option maxHeartbeats 1000000 in
set_option maxRecDepth 100000 in
theorem same22 (u v : Value) (l m : List (Int × List UInt8)) (w : World) (hu : RS w u l) (hv : RS w v m) (hl : l.length ≤ 1000000) (hm : m.length ≤ 1000000) :
    Calls Try.prog 30 #[u, v] w fun e w' => e = .returned (.bool (decide (l = m))) ∧ Below w.heap.size w w' := by
  have HU := Lib.hid hu; have HV := Lib.hid hv
  obtain ⟨A, c, rfl, hlc⟩ := hu.shape
  obtain ⟨B, d, rfl, hmc⟩ := hv.shape
  clear hu hv
  go_enter Try.func30, Try.ntmps30
  go_wp2_with (first
    | (go_at_call 41; refine (eqf45 _ _ l m _ HU.out HV.out hl hm).mono ?_; rintro e Wn ⟨rfl, hb⟩))
  go_ret
  exact ⟨rfl, hb⟩
end
end Go.Proofs.Ytakeggdpnfibpaa
