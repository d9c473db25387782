/- Contracts and words that the laws stand on (ExplorerBackWalk). -/
import Derived.Test.YtlpklbpaknemaaaExD
import Derived.Test.YtlpklbpaknemaaaExA
set_option linter.unusedVariables false
set_option linter.unusedSimpArgs false
namespace Go.Proofs.Ytlpklbpaknemaaa
section
open Go Go.RowKit Go.Proofs
attribute [local irreducible] Calls

theorem encQ_len {r : Req} (hr : r.ok) (hc : chkQ r = true) : (encQ r).length ≤ 300000 := by
  obtain ⟨_, _, h2, h3⟩ := chkQ_iff.1 hc
  have hco : compact r.sb.length ≤ 9 := by unfold compact; repeat' split
                                           all_goals simp
  have hk := fldK_cases r.k
  have h1 := hr.tx; have h4 := hr.ha
  unfold encQ
  generalize fldK r.k = f at *
  rcases hk with ⟨rfl, _⟩ | ⟨rfl, _⟩ | ⟨rfl, _⟩ | ⟨rfl, _⟩ | ⟨rfl, _⟩ | ⟨rfl, _⟩ | ⟨rfl, _⟩ | ⟨rfl, _⟩
  all_goals (simp [encF, le_length, csize_length, h1, h4]; try omega)
set_option maxHeartbeats 1000000 in
set_option maxRecDepth 100000 in
theorem back10g (r : Req) (As Ab : Option Addr) (cs' cb' : Nat) (Av : Option Addr) (cv : Nat) (xs : List UInt8) (w : World) (hr : r.ok) (hs : HB w (.slice As r.sb.length cs') r.sb) (hb : HB w (.slice Ab r.bb.length cb') r.bb) (hv : HB w (.slice Av xs.length cv) xs) (hg : 5000 < r.bb.length ∨ 2100 < r.sb.length ∨ 5000 < xs.length) :
    Calls Try.prog 10 #[.agg (rcs r (.slice As r.sb.length cs') (.slice Ab r.bb.length cb')).toArray, .slice Av xs.length cv] w fun e w' => e = .returned (.bool true) ∧ Below w.heap.size w w' := by
  have HS := Lib.hid ((((St.start w).addF hv.away0).addF hb.away0).addF hs.away0)
  have HR := Lib.hid hr
  clear hs hb hv hr
  by_cases g1 : 5000 < r.bb.length
  · have d1 : decide ((5000 : Int) < (r.bb.length : Int)) = true := decide_eq_true (by omega)
    go_enter Try.func10, Try.ntmps10
    go_wp2_with (first
      | (refine atd 2 (by rfl) ?_; refine wl (by rfl) (s_bx (l := rcs r (.slice As r.sb.length cs') (.slice Ab r.bb.length cb')) HS.out (by rfl) (by rfl) ?_); intro b2 Wn hS; clear HS; have HS := Lib.hid hS; clear hS)
      | (go_at_call 34; refine (alive34 _).mono ?_; rintro e Wn ⟨rfl, hb⟩; have hS := HS.out.call hb; clear hb; clear HS; have HS := Lib.hid hS; clear hS)
      | (refine atd 14 (by rfl) ?_; refine wl (by rfl) (s_ld HS.out 0 (by rfl) (by rfl) (by rfl) (by kernel_rfl) (by exact rcs_69 HR.out (.slice As r.sb.length cs') (.slice Ab r.bb.length cb')) ?_))
      | (refine atd 19 (by rfl) ?_; refine wl (by rfl) (s_ld HS.out 0 (by rfl) (by rfl) (by rfl) (by kernel_rfl) (by exact rcs_36 HR.out (.slice As r.sb.length cs') (.slice Ab r.bb.length cb')) ?_)))
    go_ret
    exact ⟨rfl, HS.out.below⟩
  have d1 : decide ((5000 : Int) < (r.bb.length : Int)) = false := decide_eq_false (by omega)
  by_cases g2 : 2100 < r.sb.length
  · have d2 : decide ((2100 : Int) < (r.sb.length : Int)) = true := decide_eq_true (by omega)
    go_enter Try.func10, Try.ntmps10
    go_wp2_with (first
      | (refine atd 2 (by rfl) ?_; refine wl (by rfl) (s_bx (l := rcs r (.slice As r.sb.length cs') (.slice Ab r.bb.length cb')) HS.out (by rfl) (by rfl) ?_); intro b2 Wn hS; clear HS; have HS := Lib.hid hS; clear hS)
      | (go_at_call 34; refine (alive34 _).mono ?_; rintro e Wn ⟨rfl, hb⟩; have hS := HS.out.call hb; clear hb; clear HS; have HS := Lib.hid hS; clear hS)
      | (refine atd 14 (by rfl) ?_; refine wl (by rfl) (s_ld HS.out 0 (by rfl) (by rfl) (by rfl) (by kernel_rfl) (by exact rcs_69 HR.out (.slice As r.sb.length cs') (.slice Ab r.bb.length cb')) ?_))
      | (refine atd 19 (by rfl) ?_; refine wl (by rfl) (s_ld HS.out 0 (by rfl) (by rfl) (by rfl) (by kernel_rfl) (by exact rcs_36 HR.out (.slice As r.sb.length cs') (.slice Ab r.bb.length cb')) ?_)))
    go_ret
    exact ⟨rfl, HS.out.below⟩
  have d2 : decide ((2100 : Int) < (r.sb.length : Int)) = false := decide_eq_false (by omega)
  have d3 : decide ((5000 : Int) < (xs.length : Int)) = true := decide_eq_true (by omega)
  go_enter Try.func10, Try.ntmps10
  go_wp2_with (first
    | (refine atd 2 (by rfl) ?_; refine wl (by rfl) (s_bx (l := rcs r (.slice As r.sb.length cs') (.slice Ab r.bb.length cb')) HS.out (by rfl) (by rfl) ?_); intro b2 Wn hS; clear HS; have HS := Lib.hid hS; clear hS)
    | (go_at_call 34; refine (alive34 _).mono ?_; rintro e Wn ⟨rfl, hb⟩; have hS := HS.out.call hb; clear hb; clear HS; have HS := Lib.hid hS; clear hS)
    | (refine atd 14 (by rfl) ?_; refine wl (by rfl) (s_ld HS.out 0 (by rfl) (by rfl) (by rfl) (by kernel_rfl) (by exact rcs_69 HR.out (.slice As r.sb.length cs') (.slice Ab r.bb.length cb')) ?_))
    | (refine atd 19 (by rfl) ?_; refine wl (by rfl) (s_ld HS.out 0 (by rfl) (by rfl) (by rfl) (by kernel_rfl) (by exact rcs_36 HR.out (.slice As r.sb.length cs') (.slice Ab r.bb.length cb')) ?_)))
  go_ret
  exact ⟨rfl, HS.out.below⟩
set_option maxHeartbeats 2000000 in
set_option maxRecDepth 100000 in
theorem back10y (r : Req) (As Ab : Option Addr) (cs' cb' : Nat) (Av : Option Addr) (cv : Nat) (xs : List UInt8) (w : World) (hr : r.ok) (hs : HB w (.slice As r.sb.length cs') r.sb) (hb : HB w (.slice Ab r.bb.length cb') r.bb) (hv : HB w (.slice Av xs.length cv) xs) (g1 : r.bb.length ≤ 5000) (g2 : r.sb.length ≤ 2100) (g3 : xs.length ≤ 5000) (hc : chkQ r = true) :
    Calls Try.prog 10 #[.agg (rcs r (.slice As r.sb.length cs') (.slice Ab r.bb.length cb')).toArray, .slice Av xs.length cv] w fun e w' => e = .returned (.bool true) ∧ Below w.heap.size w w' := by
  have HS := Lib.hid ((((St.start w).addF hv.away0).addF hb.away0).addF hs.away0)
  have HR := Lib.hid hr
  clear hs hb hv hr
  have d1 : decide ((5000 : Int) < (r.bb.length : Int)) = false := decide_eq_false (by omega)
  have d2 : decide ((2100 : Int) < (r.sb.length : Int)) = false := decide_eq_false (by omega)
  have d3 : decide ((5000 : Int) < (xs.length : Int)) = false := decide_eq_false (by omega)
  have HCI := Lib.hid (show chkI r = 0 by unfold chkI; rw [hc]; rfl)
  have HEO := Lib.hid (show encOQ r = encQ r by unfold encOQ; rw [hc, if_pos rfl])
  have HLE := Lib.hid (Nat.le_trans (encQ_len HR.out hc) (by decide : 300000 ≤ 70368744177664))
  have HDP := Lib.hid (show DecP (encQ r) r 0 from ⟨HR.out, .inl ⟨rfl, hc, rfl⟩⟩)
  clear hc
  go_enter Try.func10, Try.ntmps10
  go_wp2_with (first
    | (refine atd 2 (by rfl) ?_; refine wl (by rfl) (s_bx (l := rcs r (.slice As r.sb.length cs') (.slice Ab r.bb.length cb')) HS.out (by rfl) (by rfl) ?_); intro b2 Wn hS; clear HS; have HS := Lib.hid hS; clear hS)
    | (go_at_call 34; refine (alive34 _).mono ?_; rintro e Wn ⟨rfl, hb⟩; have hS := HS.out.call hb; clear hb; clear HS; have HS := Lib.hid hS; clear hS)
    | (refine atd 14 (by rfl) ?_; refine wl (by rfl) (s_ld HS.out 0 (by rfl) (by rfl) (by rfl) (by kernel_rfl) (by exact rcs_69 HR.out (.slice As r.sb.length cs') (.slice Ab r.bb.length cb')) ?_))
    | (refine atd 19 (by rfl) ?_; refine wl (by rfl) (s_ld HS.out 0 (by rfl) (by rfl) (by rfl) (by kernel_rfl) (by exact rcs_36 HR.out (.slice As r.sb.length cs') (.slice Ab r.bb.length cb')) ?_))
    | (refine atd 34 (by rfl) ?_; refine wl (by rfl) (s_lda (cs := rcs r (.slice As r.sb.length cs') (.slice Ab r.bb.length cb')) HS.out 0 70 (by rfl) (by rfl) (by rfl) ag56 (by exact rcs_all HR.out (.slice As r.sb.length cs') (.slice Ab r.bb.length cb')) (by exact rcs_length HR.out (.slice As r.sb.length cs') (.slice Ab r.bb.length cb')) ?_))
    | (go_at_call 27; refine (enc27 r _ _ _ HR.out (HS.out.fact (i := 0) rfl) (HS.out.fact (i := 1) rfl)).mono ?_; rintro e Wn ⟨v6, rfl, hb⟩; rw [HCI.out]; rw [HEO.out] at hb; have hS := HS.out.take hb; clear hb; clear HS; have HS := Lib.hid hS; clear hS)
    | (go_at_call 29; refine (dec29k _ (encQ r) _ (Row.hb (HS.out.res (i := 0) rfl)) HLE.out r 0 HDP.out).mono ?_; rintro e Wn ⟨A3, n3, p3, A4, n4, p4, rfl, -, -, hb⟩; have hS := HS.out.join hb; clear hb; clear HS; have HS := Lib.hid hS; clear hS)
    | (refine atd 8 (by rfl) ?_; refine wl (by rfl) (s_al (l := rcs (zq 0) (.slice none 0 0) (.slice none 0 0)) HS.out (by rfl) z56 (by rfl) ?_); intro b8 Wn hS; clear HS; have HS := Lib.hid hS; clear hS)
    | (refine sto 8 (by rfl) ?_; refine wl (by rfl) (s_sta (cs := rcs r (.slice A3 n3 p3) (.slice A4 n4 p4)) HS.out 0 70 (by rfl) (by rfl) (by rfl) ag56 (by rfl) (by exact rcs_length HR.out _ _) (by exact cells_rq _ rfl rfl) (by exact Nat.le_of_eq (rcs_length (zq_ok _) _ _).symm) ?_); intro Wn hS; rw [splice_all ((rcs_length HR.out _ _).trans (rcs_length (zq_ok _) _ _).symm)] at hS; clear HS; have HS := Lib.hid hS; clear hS)
    | (refine atd 48 (by rfl) ?_; refine wl (by rfl) (s_lda (cs := rcs r (.slice A3 n3 p3) (.slice A4 n4 p4)) HS.out 0 70 (by rfl) (by rfl) (by rfl) ag56 (by exact rcs_all HR.out (.slice A3 n3 p3) (.slice A4 n4 p4)) (by exact rcs_length HR.out (.slice A3 n3 p3) (.slice A4 n4 p4)) ?_))
    | (refine atd 49 (by rfl) ?_; refine wl (by rfl) (s_lda (cs := rcs r (.slice As r.sb.length cs') (.slice Ab r.bb.length cb')) HS.out 4 70 (by rfl) (by rfl) (by rfl) ag56 (by exact rcs_all HR.out (.slice As r.sb.length cs') (.slice Ab r.bb.length cb')) (by exact rcs_length HR.out (.slice As r.sb.length cs') (.slice Ab r.bb.length cb')) ?_))
    | (go_at_call 31; refine (same31e r _ _ _ _ _ HR.out (Row.hb (HS.out.res (i := 1) rfl)) (Row.hb (HS.out.res (i := 2) rfl)) (HS.out.fact (i := 0) rfl) (HS.out.fact (i := 1) rfl)).mono ?_; rintro e Wn ⟨rfl, hb⟩; have hS := HS.out.call hb; clear hb; clear HS; have HS := Lib.hid hS; clear hS))
  have hS := (((HS.out.sub 0).sub 0).sub 0).sub 0
  clear HS HCI HEO
  have HS := Lib.hid hS
  clear hS
  refine (dec29 _ xs _ (HS.out.fact (i := 2) rfl) (by omega)).mono ?_
  rintro e Wn ⟨r2, s2, t2, c2, rfl, hd, hb⟩
  have hS := HS.out.join hb
  clear hb HS
  have HS := Lib.hid hS
  clear hS
  obtain ⟨A5, p5, rfl⟩ := Row.sl (HS.out.res (i := 0) rfl)
  obtain ⟨A6, p6, rfl⟩ := Row.sl (HS.out.res (i := 1) rfl)
  obtain ⟨ho, ⟨rfl, hc2, he2⟩ | ⟨rfl, rfl, -⟩⟩ := hd
  · have HR2 := Lib.hid ho
    have HCI := Lib.hid (show chkI r2 = 0 by unfold chkI; rw [hc2]; rfl)
    have HEO := Lib.hid (show encOQ r2 = xs by unfold encOQ; rw [hc2, if_pos rfl]; exact he2)
    clear ho hc2 he2
    go_wp2_with (first
      | (refine atd 10 (by rfl) ?_; refine wl (by rfl) (s_al (l := rcs (zq 0) (.slice none 0 0) (.slice none 0 0)) HS.out (by rfl) z56 (by rfl) ?_); intro b10 Wn hS; clear HS; have HS := Lib.hid hS; clear hS)
      | (refine sto 10 (by rfl) ?_; refine wl (by rfl) (s_sta (cs := rcs r2 (.slice A5 r2.sb.length p5) (.slice A6 r2.bb.length p6)) HS.out 0 70 (by rfl) (by rfl) (by rfl) ag56 (by rfl) (by exact rcs_length HR2.out _ _) (by exact cells_rq _ rfl rfl) (by exact Nat.le_of_eq (rcs_length (zq_ok _) _ _).symm) ?_); intro Wn hS; rw [splice_all ((rcs_length HR2.out _ _).trans (rcs_length (zq_ok _) _ _).symm)] at hS; clear HS; have HS := Lib.hid hS; clear hS)
      | (refine atd 71 (by rfl) ?_; refine wl (by rfl) (s_lda (cs := rcs r2 (.slice A5 r2.sb.length p5) (.slice A6 r2.bb.length p6)) HS.out 0 70 (by rfl) (by rfl) (by rfl) ag56 (by exact rcs_all HR2.out (.slice A5 r2.sb.length p5) (.slice A6 r2.bb.length p6)) (by exact rcs_length HR2.out (.slice A5 r2.sb.length p5) (.slice A6 r2.bb.length p6)) ?_))
      | (go_at_call 27; refine (enc27 r2 _ _ _ HR2.out (Row.hb (HS.out.res (i := 1) rfl)) (Row.hb (HS.out.res (i := 2) rfl))).mono ?_; rintro e Wn ⟨v7, rfl, hb⟩; rw [HCI.out]; rw [HEO.out] at hb; have hS := HS.out.take hb; clear hb; clear HS; have HS := Lib.hid hS; clear hS)
      | (refine atd 82 (by rfl) ?_; refine wl (by rfl) (wp_of_run (run_str (by rfl) (by rfl) (Row.hb (HS.out.res (i := 0) rfl))) ?_))
      | (refine atd 84 (by rfl) ?_; refine wl (by rfl) (wp_of_run (run_str (by rfl) (by rfl) (HS.out.fact (i := 2) rfl)) ?_)))
    go_ret
    exact ⟨by simp, HS.out.below⟩
  · skip
    go_wp2_with (first
      | (refine atd 10 (by rfl) ?_; refine wl (by rfl) (s_al (l := rcs (zq 0) (.slice none 0 0) (.slice none 0 0)) HS.out (by rfl) z56 (by rfl) ?_); intro b10 Wn hS; clear HS; have HS := Lib.hid hS; clear hS)
      | (refine sto 10 (by rfl) ?_; refine wl (by rfl) (s_sta (cs := rcs (zq 0) (.slice A5 0 p5) (.slice A6 0 p6)) HS.out 0 70 (by rfl) (by rfl) (by rfl) ag56 (by rfl) (by exact rcs_length (zq_ok 0) _ _) (by exact cells_rq _ rfl rfl) (by exact Nat.le_of_eq (rcs_length (zq_ok _) _ _).symm) ?_); intro Wn hS; rw [splice_all ((rcs_length (zq_ok 0) _ _).trans (rcs_length (zq_ok _) _ _).symm)] at hS; clear HS; have HS := Lib.hid hS; clear hS)
      | (refine atd 67 (by rfl) ?_; refine wl (by rfl) (s_ld (v := .int .i64 0) HS.out 0 (by rfl) (by rfl) (by rfl) (by kernel_rfl) (by exact rcs_0 _ _) ?_)))
    go_ret
    exact ⟨rfl, HS.out.below⟩
set_option maxHeartbeats 2000000 in
set_option maxRecDepth 100000 in
theorem back10n (r : Req) (As Ab : Option Addr) (cs' cb' : Nat) (Av : Option Addr) (cv : Nat) (xs : List UInt8) (w : World) (hr : r.ok) (hs : HB w (.slice As r.sb.length cs') r.sb) (hb : HB w (.slice Ab r.bb.length cb') r.bb) (hv : HB w (.slice Av xs.length cv) xs) (g1 : r.bb.length ≤ 5000) (g2 : r.sb.length ≤ 2100) (g3 : xs.length ≤ 5000) (hc : chkQ r = false) :
    Calls Try.prog 10 #[.agg (rcs r (.slice As r.sb.length cs') (.slice Ab r.bb.length cb')).toArray, .slice Av xs.length cv] w fun e w' => e = .returned (.bool true) ∧ Below w.heap.size w w' := by
  have HS := Lib.hid ((((St.start w).addF hv.away0).addF hb.away0).addF hs.away0)
  have HR := Lib.hid hr
  clear hs hb hv hr
  have d1 : decide ((5000 : Int) < (r.bb.length : Int)) = false := decide_eq_false (by omega)
  have d2 : decide ((2100 : Int) < (r.sb.length : Int)) = false := decide_eq_false (by omega)
  have d3 : decide ((5000 : Int) < (xs.length : Int)) = false := decide_eq_false (by omega)
  have HCI := Lib.hid (show chkI r = 290 by unfold chkI; rw [hc]; rfl)
  have HEO := Lib.hid (show encOQ r = [] by unfold encOQ; rw [hc]; rfl)
  clear hc
  go_enter Try.func10, Try.ntmps10
  go_wp2_with (first
    | (refine atd 2 (by rfl) ?_; refine wl (by rfl) (s_bx (l := rcs r (.slice As r.sb.length cs') (.slice Ab r.bb.length cb')) HS.out (by rfl) (by rfl) ?_); intro b2 Wn hS; clear HS; have HS := Lib.hid hS; clear hS)
    | (go_at_call 34; refine (alive34 _).mono ?_; rintro e Wn ⟨rfl, hb⟩; have hS := HS.out.call hb; clear hb; clear HS; have HS := Lib.hid hS; clear hS)
    | (refine atd 14 (by rfl) ?_; refine wl (by rfl) (s_ld HS.out 0 (by rfl) (by rfl) (by rfl) (by kernel_rfl) (by exact rcs_69 HR.out (.slice As r.sb.length cs') (.slice Ab r.bb.length cb')) ?_))
    | (refine atd 19 (by rfl) ?_; refine wl (by rfl) (s_ld HS.out 0 (by rfl) (by rfl) (by rfl) (by kernel_rfl) (by exact rcs_36 HR.out (.slice As r.sb.length cs') (.slice Ab r.bb.length cb')) ?_))
    | (refine atd 34 (by rfl) ?_; refine wl (by rfl) (s_lda (cs := rcs r (.slice As r.sb.length cs') (.slice Ab r.bb.length cb')) HS.out 0 70 (by rfl) (by rfl) (by rfl) ag56 (by exact rcs_all HR.out (.slice As r.sb.length cs') (.slice Ab r.bb.length cb')) (by exact rcs_length HR.out (.slice As r.sb.length cs') (.slice Ab r.bb.length cb')) ?_))
    | (go_at_call 27; refine (enc27 r _ _ _ HR.out (HS.out.fact (i := 0) rfl) (HS.out.fact (i := 1) rfl)).mono ?_; rintro e Wn ⟨v6, rfl, hb⟩; rw [HCI.out]; rw [HEO.out] at hb; have hS := HS.out.take hb; clear hb; clear HS; have HS := Lib.hid hS; clear hS))
  have hS := HS.out.sub 0
  clear HS HCI HEO
  have HS := Lib.hid hS
  clear hS
  refine (dec29 _ xs _ (HS.out.fact (i := 2) rfl) (by omega)).mono ?_
  rintro e Wn ⟨r2, s2, t2, c2, rfl, hd, hb⟩
  have hS := HS.out.join hb
  clear hb HS
  have HS := Lib.hid hS
  clear hS
  obtain ⟨A5, p5, rfl⟩ := Row.sl (HS.out.res (i := 0) rfl)
  obtain ⟨A6, p6, rfl⟩ := Row.sl (HS.out.res (i := 1) rfl)
  obtain ⟨ho, ⟨rfl, hc2, he2⟩ | ⟨rfl, rfl, -⟩⟩ := hd
  · have HR2 := Lib.hid ho
    have HCI := Lib.hid (show chkI r2 = 0 by unfold chkI; rw [hc2]; rfl)
    have HEO := Lib.hid (show encOQ r2 = xs by unfold encOQ; rw [hc2, if_pos rfl]; exact he2)
    clear ho hc2 he2
    go_wp2_with (first
      | (refine atd 10 (by rfl) ?_; refine wl (by rfl) (s_al (l := rcs (zq 0) (.slice none 0 0) (.slice none 0 0)) HS.out (by rfl) z56 (by rfl) ?_); intro b10 Wn hS; clear HS; have HS := Lib.hid hS; clear hS)
      | (refine sto 10 (by rfl) ?_; refine wl (by rfl) (s_sta (cs := rcs r2 (.slice A5 r2.sb.length p5) (.slice A6 r2.bb.length p6)) HS.out 0 70 (by rfl) (by rfl) (by rfl) ag56 (by rfl) (by exact rcs_length HR2.out _ _) (by exact cells_rq _ rfl rfl) (by exact Nat.le_of_eq (rcs_length (zq_ok _) _ _).symm) ?_); intro Wn hS; rw [splice_all ((rcs_length HR2.out _ _).trans (rcs_length (zq_ok _) _ _).symm)] at hS; clear HS; have HS := Lib.hid hS; clear hS)
      | (refine atd 71 (by rfl) ?_; refine wl (by rfl) (s_lda (cs := rcs r2 (.slice A5 r2.sb.length p5) (.slice A6 r2.bb.length p6)) HS.out 0 70 (by rfl) (by rfl) (by rfl) ag56 (by exact rcs_all HR2.out (.slice A5 r2.sb.length p5) (.slice A6 r2.bb.length p6)) (by exact rcs_length HR2.out (.slice A5 r2.sb.length p5) (.slice A6 r2.bb.length p6)) ?_))
      | (go_at_call 27; refine (enc27 r2 _ _ _ HR2.out (Row.hb (HS.out.res (i := 1) rfl)) (Row.hb (HS.out.res (i := 2) rfl))).mono ?_; rintro e Wn ⟨v7, rfl, hb⟩; rw [HCI.out]; rw [HEO.out] at hb; have hS := HS.out.take hb; clear hb; clear HS; have HS := Lib.hid hS; clear hS)
      | (refine atd 82 (by rfl) ?_; refine wl (by rfl) (wp_of_run (run_str (by rfl) (by rfl) (Row.hb (HS.out.res (i := 0) rfl))) ?_))
      | (refine atd 84 (by rfl) ?_; refine wl (by rfl) (wp_of_run (run_str (by rfl) (by rfl) (HS.out.fact (i := 2) rfl)) ?_)))
    go_ret
    exact ⟨by simp, HS.out.below⟩
  · skip
    go_wp2_with (first
      | (refine atd 10 (by rfl) ?_; refine wl (by rfl) (s_al (l := rcs (zq 0) (.slice none 0 0) (.slice none 0 0)) HS.out (by rfl) z56 (by rfl) ?_); intro b10 Wn hS; clear HS; have HS := Lib.hid hS; clear hS)
      | (refine sto 10 (by rfl) ?_; refine wl (by rfl) (s_sta (cs := rcs (zq 0) (.slice A5 0 p5) (.slice A6 0 p6)) HS.out 0 70 (by rfl) (by rfl) (by rfl) ag56 (by rfl) (by exact rcs_length (zq_ok 0) _ _) (by exact cells_rq _ rfl rfl) (by exact Nat.le_of_eq (rcs_length (zq_ok _) _ _).symm) ?_); intro Wn hS; rw [splice_all ((rcs_length (zq_ok 0) _ _).trans (rcs_length (zq_ok _) _ _).symm)] at hS; clear HS; have HS := Lib.hid hS; clear hS)
      | (refine atd 67 (by rfl) ?_; refine wl (by rfl) (s_ld (v := .int .i64 0) HS.out 0 (by rfl) (by rfl) (by rfl) (by kernel_rfl) (by exact rcs_0 _ _) ?_)))
    go_ret
    exact ⟨rfl, HS.out.below⟩
theorem explorerBack_walk (r : Req) (s b v : Value) (xs : List UInt8) (w : World) (hr : r.ok) (hs : HB w s r.sb) (hb : HB w b r.bb) (hv : HB w v xs) :
    Calls Try.prog 10 #[.agg (rcs r s b).toArray, v] w fun e w' => e = .returned (.bool true) ∧ Below w.heap.size w w' := by
  obtain ⟨As, cs', rfl, _⟩ := hs.shape
  obtain ⟨Ab, cb', rfl, _⟩ := hb.shape
  obtain ⟨Av, cv, rfl, _⟩ := hv.shape
  by_cases hg : 5000 < r.bb.length ∨ 2100 < r.sb.length ∨ 5000 < xs.length
  · exact back10g r As Ab cs' cb' Av cv xs w hr hs hb hv hg
  cases hc : chkQ r with
  | true => exact back10y r As Ab cs' cb' Av cv xs w hr hs hb hv (by omega) (by omega) (by omega) hc
  | false => exact back10n r As Ab cs' cb' Av cv xs w hr hs hb hv (by omega) (by omega) (by omega) hc
end
end Go.Proofs.Ytlpklbpaknemaaa
