/- Contracts and words that the laws stand on (RecG). -/
import Derived.Test.YtlpklbpaknemaaaRecF
set_option linter.unusedVariables false
set_option linter.unusedSimpArgs false
namespace Go.Proofs.Ytlpklbpaknemaaa
section
open Go Go.RowKit Go.Proofs
attribute [local irreducible] Calls
set_option maxHeartbeats 1000000 in
set_option maxRecDepth 100000 in
theorem equal47 (u v : Value) (xs ys : List UInt8) (w : World) (hu : HB w u xs) (hv : HB w v ys) :
    Calls Try.prog 47 #[u, v] w fun e w' => e = .returned (.bool (decide (xs = ys))) ∧ w = w' := by
  have HU := Lib.hid hu; have HV := Lib.hid hv
  obtain ⟨A, c, rfl, hlc⟩ := hu.shape
  obtain ⟨B, d, rfl, hmc⟩ := hv.shape
  clear hu hv
  go_enter Try.func47, Try.ntmps47
  go_wp2_with (first
    | (refine wl (by rfl) (wp_of_run (run_str (by rfl) (by rfl) HU.out) ?_))
    | (refine wl (by rfl) (wp_of_run (run_str (by rfl) (by rfl) HV.out) ?_)))
  go_ret
  have hbd : (xs == ys) = decide (xs = ys) := by by_cases h : xs = ys <;> simp [h]
  exact ⟨by rw [← hbd]; rfl, rfl⟩
set_option maxHeartbeats 1000000 in
set_option maxRecDepth 100000 in
theorem same46 (k k' : Int) (u v : Value) (xs ys : List UInt8) (w : World) (hu : HB w u xs) (hv : HB w v ys) :
    Calls Try.prog 46 #[.agg #[.int .i64 k, u], .agg #[.int .i64 k', v]] w fun e w' => e = .returned (.bool (decide ((k, xs) = (k', ys)))) ∧ Below w.heap.size w w' := by
  have HS := Lib.hid (((St.start w).addF hu.away0).addF hv.away0)
  obtain ⟨A, c, rfl, hlc⟩ := hu.shape
  obtain ⟨B, d, rfl, hmc⟩ := hv.shape
  clear hu hv
  by_cases hk : k = k'
  · subst hk
    have hc : decide ((k, xs) = (k, ys)) = decide (xs = ys) := by simp
    rw [hc]; clear hc
    go_enter Try.func46, Try.ntmps46
    go_wp2_with (first
      | (refine atd 2 (by rfl) ?_; refine wl (by rfl) (s_bx (l := [.int .i64 k, .slice A xs.length c]) HS.out (by rfl) (by rfl) ?_); intro b2 Wn hS; clear HS; have HS := Lib.hid hS; clear hS)
      | (refine wl (by rfl) (s_bx (l := [.int .i64 k, .slice B ys.length d]) HS.out (by rfl) (by rfl) ?_); intro b3 Wn hS; clear HS; have HS := Lib.hid hS; clear hS)
      | (refine atd 6 (by rfl) ?_; refine wl (by rfl) (s_ld HS.out 1 (by rfl) (by rfl) (by rfl) (by kernel_rfl) (by rfl) ?_))
      | (refine atd 12 (by rfl) ?_; refine wl (by rfl) (s_ld HS.out 1 (by rfl) (by rfl) (by rfl) (by kernel_rfl) (by rfl) ?_))
      | (refine wl (by rfl) (s_ld HS.out 0 (by rfl) (by rfl) (by rfl) (by kernel_rfl) (by rfl) ?_))
      | (go_at_call 47; refine (equal47 _ _ xs ys _ (HS.out.fact (i := 1) rfl) (HS.out.fact (i := 0) rfl)).mono ?_; rintro e Wn ⟨rfl, rfl⟩))
    go_ret
    exact ⟨rfl, HS.out.below⟩
  · have hc : decide ((k, xs) = (k', ys)) = false := decide_eq_false (fun e => hk (by injection e))
    rw [hc]; clear hc
    have hkd : decide (k = k') = false := decide_eq_false hk
    have hkb : (k == k') = false := beq_eq_false_iff_ne.2 hk
    go_enter Try.func46, Try.ntmps46
    go_wp2_with (first
      | (refine atd 2 (by rfl) ?_; refine wl (by rfl) (s_bx (l := [.int .i64 k, .slice A xs.length c]) HS.out (by rfl) (by rfl) ?_); intro b2 Wn hS; clear HS; have HS := Lib.hid hS; clear hS)
      | (refine wl (by rfl) (s_bx (l := [.int .i64 k', .slice B ys.length d]) HS.out (by rfl) (by rfl) ?_); intro b3 Wn hS; clear HS; have HS := Lib.hid hS; clear hS)
      | (refine atd 6 (by rfl) ?_; refine wl (by rfl) (s_ld HS.out 1 (by rfl) (by rfl) (by rfl) (by kernel_rfl) (by rfl) ?_))
      | (refine wl (by rfl) (s_ld HS.out 0 (by rfl) (by rfl) (by rfl) (by kernel_rfl) (by rfl) ?_)))
    go_ret
    exact ⟨rfl, HS.out.below⟩
end
section
open Go Go.RowKit Go.Proofs
attribute [local irreducible] Calls

theorem range2 {W : World} {b k : Nat} {x y : Value} (h1 : W.cell? ⟨b, k, none⟩ = some x) (h2 : W.cell? ⟨b, k + 1, none⟩ = some y) : W.rangeAt b k [x, y] := by
  intro j v hj
  match j, hj with
  | 0, hj => simp at hj; subst hj; exact h1
  | 1, hj => simp at hj; subst hj; exact h2
  | j + 2, hj => simp at hj
end
section
open Go Go.RowKit Go.Proofs
attribute [local irreducible] Calls
set_option maxHeartbeats 1000000 in
set_option maxRecDepth 100000 in
theorem eqf45 (u v : Value) (l m : List (Int × List UInt8)) (w : World) (hu : RS w u l) (hv : RS w v m) (hl : l.length ≤ 1000000) (hm : m.length ≤ 1000000) :
    Calls Try.prog 45 #[u, v, .func (.func 46) #[] #[]] w fun e w' => e = .returned (.bool (decide (l = m))) ∧ Below w.heap.size w w' := by
  have HU := Lib.hid hu; have HV := Lib.hid hv
  obtain ⟨A, c, rfl, hlc⟩ := hu.shape
  obtain ⟨B, d, rfl, hmc⟩ := hv.shape
  clear hu hv
  by_cases hlen : l.length = m.length
  · have HLEN := Lib.hid hlen
    rw [← hlen] at HV ⊢
    clear hlen
    go_enter Try.func45, Try.ntmps45
    go_wp2_with fail
    go_loopw [17] (fun s17 wr => ∃ i : Nat, i ≤ l.length ∧ s17 = .int .i64 (i : Int) ∧ (∀ j, j < i → l[j]? = m[j]?) ∧ Below w.heap.size w wr) (fun s17 _ => l.length - (intOf s17).toNat)
    case atStart => exact ⟨0, by omega, rfl, fun j hj => by omega, Below.refl _ _⟩
    case round =>
      obtain ⟨i, hi, rfl, hall, hb⟩ := hrel
      have HALL := Lib.hid hall; have HB := Lib.hid hb
      clear hall
      by_cases hlt : i < l.length
      · obtain ⟨ba, oa, pv, rfl, c1, c2, hb1⟩ := (HU.out.below hb).get hlt
        obtain ⟨bb, ob, pv', rfl, c1', c2', hb2⟩ := (HV.out.below hb).get (show i < m.length by have := HLEN.out; omega)
        have hli : l[i]? = some l[i] := List.getElem?_eq_getElem hlt
        have hmi : m[i]? = some (m[i]'(by have := HLEN.out; omega)) := List.getElem?_eq_getElem (by have := HLEN.out; omega)
        generalize l[i] = x at *
        generalize m[i]'(by have := HLEN.out; omega) = y at *
        obtain ⟨k, p⟩ := x
        obtain ⟨k', p'⟩ := y
        dsimp only at c1 c1' hb1 hb2
        have R1 := Lib.hid (range2 c1 c2)
        have hr2 : Away (Keys []) (fun W => W.rangeAt bb (ob + i * 2) [.int .i64 k', pv']) wr := fun V hs => range2 (hs.cell (fun ⟨r, hr, _⟩ => by cases hr) c1') (hs.cell (fun ⟨r, hr, _⟩ => by cases hr) c2')
        have hv1 : pv.oneCell' = true := by obtain ⟨_, _, e, _⟩ := hb1; rw [e]; rfl
        have hv2 : pv'.oneCell' = true := by obtain ⟨_, _, e, _⟩ := hb2; rw [e]; rfl
        have HV1 := Lib.hid hv1; have HV2 := Lib.hid hv2; clear hv1 hv2
        have HS := Lib.hid ((((St.start wr).addF hb2.away0).addF hb1.away0).addF hr2)
        have HLI := Lib.hid hli; have HMI := Lib.hid hmi
        clear hli hmi c1 c2 c1' c2' hb1 hb2 hr2 hb
        have j1 : (i : Int) < (l.length : Int) := by omega
        by_cases he : (k, p) = (k', p')
        · have hd : decide ((k, p) = (k', p')) = true := decide_eq_true he
          go_wp2_with (first
            | (refine wl (by rfl) (wp_of_run (run_lda (n := 2) (cs := [.int .i64 k, pv]) ag25 (by rfl) (by rfl) R1.out (by rfl)) ?_))
            | (refine atd 8 (by rfl) ?_; refine wl (by rfl) (s_al HS.out (by rfl) z25 (by rfl) ?_); intro b8 Wn hS; clear HS; have HS := Lib.hid hS; clear hS)
            | (refine atd 9 (by rfl) ?_; refine wl (by rfl) (s_al HS.out (by rfl) z25 (by rfl) ?_); intro b9 Wn hS; clear HS; have HS := Lib.hid hS; clear hS)
            | (refine wl (by rfl) (s_sta (cs := [.int .i64 k, pv]) HS.out 0 2 (by rfl) (by rfl) (by rfl) ag25 (by rfl) (by rfl) (by intro v hv; simp at hv; rcases hv with rfl | rfl; rfl; exact HV1.out) (by decide) ?_); intro Wn hS; clear HS; have HS := Lib.hid hS; clear hS)
            | (refine wl (by rfl) (wp_of_run (run_lda (n := 2) (cs := [.int .i64 k', pv']) ag25 (by rfl) (by rfl) (HS.out.fact (i := 0) rfl) (by rfl)) ?_))
            | (refine wl (by rfl) (s_sta (cs := [.int .i64 k', pv']) HS.out 0 2 (by rfl) (by rfl) (by rfl) ag25 (by rfl) (by rfl) (by intro v hv; simp at hv; rcases hv with rfl | rfl; rfl; exact HV2.out) (by decide) ?_); intro Wn hS; clear HS; have HS := Lib.hid hS; clear hS)
            | (refine wl (by rfl) (s_lda (cs := [.int .i64 k, pv]) HS.out 1 2 (by rfl) (by rfl) (by rfl) ag25 (by rfl) (by rfl) ?_))
            | (refine wl (by rfl) (s_lda (cs := [.int .i64 k', pv']) HS.out 0 2 (by rfl) (by rfl) (by rfl) ag25 (by rfl) (by rfl) ?_))
            | (go_at_call 46; refine (same46 k k' _ _ p p' _ (HS.out.fact (i := 1) rfl) (HS.out.fact (i := 2) rfl)).mono ?_; rintro e Wn ⟨rfl, hb⟩; have hS := HS.out.call hb; clear hb; clear HS; have HS := Lib.hid hS; clear hS))
          refine ⟨⟨i + 1, by omega, by push_cast; rfl, fun j hj => ?_, HB.out.trans (HS.out.below.mono HB.out.size)⟩, by simp [intOf]; omega⟩
          by_cases hji : j < i
          · exact HALL.out j hji
          · obtain rfl : j = i := by omega
            rw [HLI.out, HMI.out, he]
        · have hd : decide ((k, p) = (k', p')) = false := decide_eq_false he
          have hne : decide (l = m) = false := decide_eq_false (fun e => he (by have h1 := HLI.out; rw [e, HMI.out] at h1; injection h1 with h1; exact h1.symm))
          go_wp2_with (first
            | (refine wl (by rfl) (wp_of_run (run_lda (n := 2) (cs := [.int .i64 k, pv]) ag25 (by rfl) (by rfl) R1.out (by rfl)) ?_))
            | (refine atd 8 (by rfl) ?_; refine wl (by rfl) (s_al HS.out (by rfl) z25 (by rfl) ?_); intro b8 Wn hS; clear HS; have HS := Lib.hid hS; clear hS)
            | (refine atd 9 (by rfl) ?_; refine wl (by rfl) (s_al HS.out (by rfl) z25 (by rfl) ?_); intro b9 Wn hS; clear HS; have HS := Lib.hid hS; clear hS)
            | (refine wl (by rfl) (s_sta (cs := [.int .i64 k, pv]) HS.out 0 2 (by rfl) (by rfl) (by rfl) ag25 (by rfl) (by rfl) (by intro v hv; simp at hv; rcases hv with rfl | rfl; rfl; exact HV1.out) (by decide) ?_); intro Wn hS; clear HS; have HS := Lib.hid hS; clear hS)
            | (refine wl (by rfl) (wp_of_run (run_lda (n := 2) (cs := [.int .i64 k', pv']) ag25 (by rfl) (by rfl) (HS.out.fact (i := 0) rfl) (by rfl)) ?_))
            | (refine wl (by rfl) (s_sta (cs := [.int .i64 k', pv']) HS.out 0 2 (by rfl) (by rfl) (by rfl) ag25 (by rfl) (by rfl) (by intro v hv; simp at hv; rcases hv with rfl | rfl; rfl; exact HV2.out) (by decide) ?_); intro Wn hS; clear HS; have HS := Lib.hid hS; clear hS)
            | (refine wl (by rfl) (s_lda (cs := [.int .i64 k, pv]) HS.out 1 2 (by rfl) (by rfl) (by rfl) ag25 (by rfl) (by rfl) ?_))
            | (refine wl (by rfl) (s_lda (cs := [.int .i64 k', pv']) HS.out 0 2 (by rfl) (by rfl) (by rfl) ag25 (by rfl) (by rfl) ?_))
            | (go_at_call 46; refine (same46 k k' _ _ p p' _ (HS.out.fact (i := 1) rfl) (HS.out.fact (i := 2) rfl)).mono ?_; rintro e Wn ⟨rfl, hb⟩; have hS := HS.out.call hb; clear hb; clear HS; have HS := Lib.hid hS; clear hS))
          go_ret
          exact ⟨by first | rfl | (rw [hne]; rfl), HB.out.trans (HS.out.below.mono HB.out.size)⟩
      · have heq : decide (l = m) = true := decide_eq_true (List.ext_getElem? fun j => by
          by_cases hj : j < i
          · exact HALL.out j hj
          · rw [List.getElem?_eq_none (by omega), List.getElem?_eq_none (by have := HLEN.out; omega)])
        have j1 : ¬ (i : Int) < (l.length : Int) := by omega
        go_wp2_with fail
        go_ret
        exact ⟨by first | rfl | (rw [heq]; rfl), HB.out⟩
  · have hne : decide (l = m) = false := decide_eq_false (fun e => hlen (by rw [e]))
    rw [hne]
    have k1 : ¬ (l.length : Int) = (m.length : Int) := by omega
    clear hne hlen
    go_enter Try.func45, Try.ntmps45
    go_wp2_with fail
    go_ret
    exact ⟨rfl, Below.refl _ _⟩
set_option maxHeartbeats 1000000 in
set_option maxRecDepth 100000 in
theorem same22 (u v : Value) (l m : List (Int × List UInt8)) (w : World) (hu : RS w u l) (hv : RS w v m) (hl : l.length ≤ 1000000) (hm : m.length ≤ 1000000) :
    Calls Try.prog 22 #[u, v] w fun e w' => e = .returned (.bool (decide (l = m))) ∧ Below w.heap.size w w' := by
  have HU := Lib.hid hu; have HV := Lib.hid hv
  obtain ⟨A, c, rfl, hlc⟩ := hu.shape
  obtain ⟨B, d, rfl, hmc⟩ := hv.shape
  clear hu hv
  go_enter Try.func22, Try.ntmps22
  go_wp2_with (first
    | (go_at_call 45; refine (eqf45 _ _ l m _ HU.out HV.out hl hm).mono ?_; rintro e Wn ⟨rfl, hb⟩))
  go_ret
  exact ⟨rfl, hb⟩
end
end Go.Proofs.Ytlpklbpaknemaaa
