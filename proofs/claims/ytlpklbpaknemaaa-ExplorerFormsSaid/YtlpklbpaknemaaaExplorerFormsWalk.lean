/- Contracts and words that the laws stand on (ExplorerFormsWalk). -/
import Derived.Test.YtlpklbpaknemaaaExN
import Derived.Test.YtlpklbpaknemaaaExC
import Derived.Test.YtlpklbpaknemaaaExD
set_option linter.unusedVariables false
set_option linter.unusedSimpArgs false
namespace Go.Proofs.Ytlpklbpaknemaaa
section
open Go Go.RowKit Go.Proofs
attribute [local irreducible] Calls
theorem ba_loop (b : ByteArray) : ∀ (m i : Nat) (r : List UInt8), b.size - i = m → ByteArray.toList.loop b i r = r.reverse ++ b.data.toList.drop i := by
  intro m
  induction m with
  | zero =>
    intro i r h
    unfold ByteArray.toList.loop
    have h' : b.data.size - i = 0 := h
    rw [if_neg (by omega), List.drop_of_length_le (by simp; omega), List.append_nil]
  | succ m ih =>
    intro i r h
    unfold ByteArray.toList.loop
    have hi : i < b.data.size := by have h' : b.data.size - i = m + 1 := h; omega
    rw [if_pos (by have h' : b.data.size - i = m + 1 := h; show i < b.data.size; omega), ih _ _ (by omega)]
    have e : b.get! i = b.data.toList[i]'(by simpa using hi) := by
      show b.data[i]! = _
      rw [getElem!_pos b.data i hi]
      simp
    rw [List.reverse_cons, e, List.append_assoc]
    congr 1
    rw [List.singleton_append, ← List.drop_eq_getElem_cons]
theorem ba_toList (b : ByteArray) : b.toList = b.data.toList := by
  unfold ByteArray.toList
  rw [ba_loop b _ 0 [] rfl]
  simp
theorem ba_seven (xs : List UInt8) : ((⟨xs.toArray⟩ : ByteArray) ++ (⟨#[7]⟩ : ByteArray)).toList = xs ++ [7] := by
  rw [ba_toList]
  simp
theorem DecP.lens {b : List UInt8} {r : Req} {e : Int} (h : DecP b r e) : r.sb.length ≤ 200000 ∧ r.bb.length ≤ 200000 := by
  obtain ⟨_, ⟨_, c, _⟩ | ⟨_, rfl, _⟩⟩ := h
  · have := chkQ_iff.1 c; omega
  · exact ⟨Nat.zero_le _, Nat.zero_le _⟩
set_option maxHeartbeats 1000000 in
set_option maxRecDepth 100000 in
theorem forms9g (r : Req) (As Ab : Option Addr) (cs' cb' : Nat) (Av : Option Addr) (cv : Nat) (xs : List UInt8) (w : World) (hr : r.ok) (hs : HB w (.slice As r.sb.length cs') r.sb) (hb : HB w (.slice Ab r.bb.length cb') r.bb) (hv : HB w (.slice Av xs.length cv) xs) (hg : 5000 < r.bb.length ∨ 2100 < r.sb.length ∨ 5000 < xs.length) :
    Calls Try.prog 9 #[.agg (rcs r (.slice As r.sb.length cs') (.slice Ab r.bb.length cb')).toArray, .slice Av xs.length cv] w fun e w' => e = .returned (.bool true) ∧ Below w.heap.size w w' := by
  have HS := Lib.hid ((((St.start w).addF hv.away0).addF hb.away0).addF hs.away0)
  have HR := Lib.hid hr
  clear hs hb hv hr
  by_cases g1 : 5000 < r.bb.length
  · have d1 : decide ((5000 : Int) < (r.bb.length : Int)) = true := decide_eq_true (by omega)
    go_enter Try.func9, Try.ntmps9
    go_wp2_with (first
      | (refine atd 2 (by rfl) ?_; refine wl (by rfl) (s_bx (l := rcs r (.slice As r.sb.length cs') (.slice Ab r.bb.length cb')) HS.out (by rfl) (by rfl) ?_); intro b2 Wn hS; clear HS; have HS := Lib.hid hS; clear hS)
      | (refine atd 18 (by rfl) ?_; refine wl (by rfl) (s_ld HS.out 0 (by rfl) (by rfl) (by rfl) (by kernel_rfl) (by exact rcs_69 HR.out (.slice As r.sb.length cs') (.slice Ab r.bb.length cb')) ?_))
      | (refine atd 23 (by rfl) ?_; refine wl (by rfl) (s_ld HS.out 0 (by rfl) (by rfl) (by rfl) (by kernel_rfl) (by exact rcs_36 HR.out (.slice As r.sb.length cs') (.slice Ab r.bb.length cb')) ?_)))
    go_ret
    exact ⟨rfl, HS.out.below⟩
  have d1 : decide ((5000 : Int) < (r.bb.length : Int)) = false := decide_eq_false (by omega)
  by_cases g2 : 2100 < r.sb.length
  · have d2 : decide ((2100 : Int) < (r.sb.length : Int)) = true := decide_eq_true (by omega)
    go_enter Try.func9, Try.ntmps9
    go_wp2_with (first
      | (refine atd 2 (by rfl) ?_; refine wl (by rfl) (s_bx (l := rcs r (.slice As r.sb.length cs') (.slice Ab r.bb.length cb')) HS.out (by rfl) (by rfl) ?_); intro b2 Wn hS; clear HS; have HS := Lib.hid hS; clear hS)
      | (refine atd 18 (by rfl) ?_; refine wl (by rfl) (s_ld HS.out 0 (by rfl) (by rfl) (by rfl) (by kernel_rfl) (by exact rcs_69 HR.out (.slice As r.sb.length cs') (.slice Ab r.bb.length cb')) ?_))
      | (refine atd 23 (by rfl) ?_; refine wl (by rfl) (s_ld HS.out 0 (by rfl) (by rfl) (by rfl) (by kernel_rfl) (by exact rcs_36 HR.out (.slice As r.sb.length cs') (.slice Ab r.bb.length cb')) ?_)))
    go_ret
    exact ⟨rfl, HS.out.below⟩
  have d2 : decide ((2100 : Int) < (r.sb.length : Int)) = false := decide_eq_false (by omega)
  have d3 : decide ((5000 : Int) < (xs.length : Int)) = true := decide_eq_true (by omega)
  go_enter Try.func9, Try.ntmps9
  go_wp2_with (first
    | (refine atd 2 (by rfl) ?_; refine wl (by rfl) (s_bx (l := rcs r (.slice As r.sb.length cs') (.slice Ab r.bb.length cb')) HS.out (by rfl) (by rfl) ?_); intro b2 Wn hS; clear HS; have HS := Lib.hid hS; clear hS)
    | (refine atd 18 (by rfl) ?_; refine wl (by rfl) (s_ld HS.out 0 (by rfl) (by rfl) (by rfl) (by kernel_rfl) (by exact rcs_69 HR.out (.slice As r.sb.length cs') (.slice Ab r.bb.length cb')) ?_))
    | (refine atd 23 (by rfl) ?_; refine wl (by rfl) (s_ld HS.out 0 (by rfl) (by rfl) (by rfl) (by kernel_rfl) (by exact rcs_36 HR.out (.slice As r.sb.length cs') (.slice Ab r.bb.length cb')) ?_)))
  go_ret
  exact ⟨rfl, HS.out.below⟩
set_option maxHeartbeats 4000000 in
set_option maxRecDepth 100000 in
theorem forms9m (r : Req) (As Ab : Option Addr) (cs' cb' : Nat) (Av : Option Addr) (cv : Nat) (xs : List UInt8) (w : World) (hr : r.ok) (hs : HB w (.slice As r.sb.length cs') r.sb) (hb : HB w (.slice Ab r.bb.length cb') r.bb) (hv : HB w (.slice Av xs.length cv) xs) (g1 : r.bb.length ≤ 5000) (g2 : r.sb.length ≤ 2100) (g3 : xs.length ≤ 5000) :
    Calls Try.prog 9 #[.agg (rcs r (.slice As r.sb.length cs') (.slice Ab r.bb.length cb')).toArray, .slice Av xs.length cv] w fun e w' => e = .returned (.bool true) ∧ Below w.heap.size w w' := by
  have HS := Lib.hid ((((St.start w).addF hv.away0).addF hb.away0).addF hs.away0)
  have HR := Lib.hid hr
  clear hs hb hv hr
  have d1 : decide ((5000 : Int) < (r.bb.length : Int)) = false := decide_eq_false (by omega)
  have d2 : decide ((2100 : Int) < (r.sb.length : Int)) = false := decide_eq_false (by omega)
  have d3 : decide ((5000 : Int) < (xs.length : Int)) = false := decide_eq_false (by omega)
  obtain ⟨ys, hys⟩ : ∃ ys, xs ++ [7] = ys := ⟨_, rfl⟩
  have HYL := Lib.hid (show ys.length = xs.length + 1 by rw [← hys]; simp)
  have HYT := Lib.hid (show ys.take xs.length = xs by rw [← hys]; simp)
  have HYS := Lib.hid hys
  clear hys
  go_enter Try.func9, Try.ntmps9
  go_wp2_with (first
    | (refine atd 2 (by rfl) ?_; refine wl (by rfl) (s_bx (l := rcs r (.slice As r.sb.length cs') (.slice Ab r.bb.length cb')) HS.out (by rfl) (by rfl) ?_); intro b2 Wn hS; clear HS; have HS := Lib.hid hS; clear hS)
    | (refine atd 18 (by rfl) ?_; refine wl (by rfl) (s_ld HS.out 0 (by rfl) (by rfl) (by rfl) (by kernel_rfl) (by exact rcs_69 HR.out (.slice As r.sb.length cs') (.slice Ab r.bb.length cb')) ?_))
    | (refine atd 23 (by rfl) ?_; refine wl (by rfl) (s_ld HS.out 0 (by rfl) (by rfl) (by rfl) (by kernel_rfl) (by exact rcs_36 HR.out (.slice As r.sb.length cs') (.slice Ab r.bb.length cb')) ?_))
    | (refine atd 32 (by rfl) ?_; refine wl (by rfl) (s_lda (cs := rcs r (.slice As r.sb.length cs') (.slice Ab r.bb.length cb')) HS.out 0 70 (by rfl) (by rfl) (by rfl) ag56 (by exact rcs_all HR.out (.slice As r.sb.length cs') (.slice Ab r.bb.length cb')) (by exact rcs_length HR.out (.slice As r.sb.length cs') (.slice Ab r.bb.length cb')) ?_))
    | (go_at_call 26; refine (twin26 r As Ab cs' cb' _ HR.out (HS.out.fact (i := 0) rfl) (HS.out.fact (i := 1) rfl) (by omega) (by omega)).mono ?_; rintro e Wn ⟨A5, n5, p5, B5, m5, q5, rfl, hb⟩; have hS := HS.out.join hb; clear hb; clear HS; have HS := Lib.hid hS; clear hS)
    | (refine atd 34 (by rfl) ?_; refine wl (by rfl) (s_bs0 (E := 5) HS.out 1 (by rfl) Try.underlying22 (by kernel_rfl) (by rfl) ?_); intro b34 Wn hS; clear HS; have HS := Lib.hid hS; clear hS)
    | (refine atd 36 (by rfl) ?_; refine wl (by rfl) (s_app (xs := []) HS.out 0 (by rfl) Try.underlying22 u8_info (by rfl) (by rfl) (by rfl) (HS.out.fact (i := 2) rfl) (by simp; omega) ?_); intro v36 Wn hS; rw [List.nil_append] at hS; clear HS; have HS := Lib.hid hS; clear hS)
    | (refine atd 37 (by rfl) ?_; refine wl (by rfl) (s_bs (E := 5) (z := (.int .u8 0)) HS.out 1 1 (bs [7]) (by rfl) Try.underlying22 (by kernel_rfl) (by rfl) (by decide) (by decide) (by kernel_rfl) (by rfl) (by decide) ?_); intro b37 Wn hS; clear HS; have HS := Lib.hid hS; clear hS)
    | (refine atd 38 (by rfl) ?_; refine wl (by rfl) (s_app (xs := xs) (ys := [7]) HS.out 1 (by rfl) Try.underlying22 u8_info (by rfl) (by rfl) (by rfl) (row7 (HS.out.res (i := 0) rfl)) (by simp; omega) ?_); intro v38 Wn hS; replace hS := hS.sub 0; rw [HYS.out] at hS; clear HS; have HS := Lib.hid hS; clear hS; obtain ⟨A38, c38, rfl⟩ := Row.sl (HS.out.res (i := 0) rfl))
    | (refine atd 5 (by rfl) ?_; refine wl (by rfl) (s_al (l := rcs (zq 0) (.slice none 0 0) (.slice none 0 0)) HS.out (by rfl) z56 (by rfl) ?_); intro b5 Wn hS; clear HS; have HS := Lib.hid hS; clear hS)
    | (refine sto 5 (by rfl) ?_; refine wl (by rfl) (s_sta (cs := rcs r (.slice A5 n5 p5) (.slice B5 m5 q5)) HS.out 0 70 (by rfl) (by rfl) (by rfl) ag56 (by rfl) (by exact rcs_length HR.out _ _) (by exact cells_rq _ rfl rfl) (by exact Nat.le_of_eq (rcs_length (zq_ok _) _ _).symm) ?_); intro Wn hS; rw [splice_all ((rcs_length HR.out _ _).trans (rcs_length (zq_ok _) _ _).symm)] at hS; clear HS; have HS := Lib.hid hS; clear hS)
    | (refine atd 40 (by rfl) ?_; refine wl (by rfl) (s_lda (cs := rcs r (.slice A5 n5 p5) (.slice B5 m5 q5)) HS.out 0 70 (by rfl) (by rfl) (by rfl) ag56 (by exact rcs_all HR.out (.slice A5 n5 p5) (.slice B5 m5 q5)) (by exact rcs_length HR.out (.slice A5 n5 p5) (.slice B5 m5 q5)) ?_))
    | (go_at_call 27; refine (enc27 r _ _ _ HR.out (Row.hb (HS.out.res (i := 3) rfl)) (Row.hb (HS.out.res (i := 2) rfl))).mono ?_; rintro e Wn ⟨v7, rfl, hb⟩; have hS := HS.out.take hb; clear hb; clear HS; have HS := Lib.hid hS; clear hS)
    | (refine atd 45 (by rfl) ?_; refine wl (by rfl) (s_lda (cs := rcs r (.slice As r.sb.length cs') (.slice Ab r.bb.length cb')) HS.out 5 70 (by rfl) (by rfl) (by rfl) ag56 (by exact rcs_all HR.out (.slice As r.sb.length cs') (.slice Ab r.bb.length cb')) (by exact rcs_length HR.out (.slice As r.sb.length cs') (.slice Ab r.bb.length cb')) ?_))
    | (go_at_call 28; refine (enc28 r _ _ _ HR.out (HS.out.fact (i := 0) rfl) (HS.out.fact (i := 1) rfl) (by omega) (by omega)).mono ?_; rintro e Wn ⟨v9, rfl, hb⟩; have hS := HS.out.take hb; clear hb; clear HS; have HS := Lib.hid hS; clear hS)
    | (refine atd 53 (by rfl) ?_; refine wl (by rfl) (wp_of_run (run_slh xs.length (by rfl) (by rfl) (by rfl) (by have := HYL.out; omega) (hb_cap (Row.hb (HS.out.res (i := 3) rfl)))) ?_))
    | (go_at_call 29; refine (dec29 _ xs _ (by have h := (Row.hb (HS.out.res (i := 3) rfl)).take (b := xs.length) (by have := HYL.out; omega); rw [HYT.out] at h; exact h) (by omega)).mono ?_; rintro e Wn ⟨r2, s6, t6, c2, rfl, hd, hb⟩; have hS := HS.out.join hb; clear hb; clear HS; have HS := Lib.hid hS; clear hS; obtain ⟨A6, p6, rfl⟩ := Row.sl (HS.out.res (i := 0) rfl); obtain ⟨B6, q6, rfl⟩ := Row.sl (HS.out.res (i := 1) rfl); have HD2 := Lib.hid hd; have HR2 := Lib.hid hd.1; obtain ⟨hl6, hl7⟩ := hd.lens; clear hd)
    | (refine atd 11 (by rfl) ?_; refine wl (by rfl) (s_al (l := rcs (zq 0) (.slice none 0 0) (.slice none 0 0)) HS.out (by rfl) z56 (by rfl) ?_); intro b11 Wn hS; clear HS; have HS := Lib.hid hS; clear hS)
    | (refine sto 11 (by rfl) ?_; refine wl (by rfl) (s_sta (cs := rcs r2 (.slice A6 r2.sb.length p6) (.slice B6 r2.bb.length q6)) HS.out 0 70 (by rfl) (by rfl) (by rfl) ag56 (by rfl) (by exact rcs_length HR2.out _ _) (by exact cells_rq _ rfl rfl) (by exact Nat.le_of_eq (rcs_length (zq_ok _) _ _).symm) ?_); intro Wn hS; rw [splice_all ((rcs_length HR2.out _ _).trans (rcs_length (zq_ok _) _ _).symm)] at hS; clear HS; have HS := Lib.hid hS; clear hS)
    | (go_at_call 30; refine (dec30 _ xs _ (HS.out.fact (i := 2) rfl) (by omega)).mono ?_; rintro e Wn ⟨r3, s7, t7, c3, rfl, hd, hb⟩; obtain ⟨hx1, hx2⟩ := HD2.out.uniq hd; subst hx1 hx2; have hS := HS.out.join hb; clear hb hd; clear HS; have HS := Lib.hid hS; clear hS; obtain ⟨A7, p7, rfl⟩ := Row.sl (HS.out.res (i := 0) rfl); obtain ⟨B7, q7, rfl⟩ := Row.sl (HS.out.res (i := 1) rfl))
    | (refine atd 13 (by rfl) ?_; refine wl (by rfl) (s_al (l := rcs (zq 0) (.slice none 0 0) (.slice none 0 0)) HS.out (by rfl) z56 (by rfl) ?_); intro b13 Wn hS; clear HS; have HS := Lib.hid hS; clear hS)
    | (refine sto 13 (by rfl) ?_; refine wl (by rfl) (s_sta (cs := rcs r2 (.slice A7 r2.sb.length p7) (.slice B7 r2.bb.length q7)) HS.out 0 70 (by rfl) (by rfl) (by rfl) ag56 (by rfl) (by exact rcs_length HR2.out _ _) (by exact cells_rq _ rfl rfl) (by exact Nat.le_of_eq (rcs_length (zq_ok _) _ _).symm) ?_); intro Wn hS; rw [splice_all ((rcs_length HR2.out _ _).trans (rcs_length (zq_ok _) _ _).symm)] at hS; clear HS; have HS := Lib.hid hS; clear hS))
  refine wp_region_pi [(0, true), (1, true), (2, true), (3, true), (4, true), (5, true), (6, true), (7, true), (8, true), (9, true), (10, true), (11, true), (12, true), (13, false), (14, true), (15, true), (16, true), (17, true), (18, true), (19, true), (20, true), (21, true), (22, true), (24, true), (23, false), (25, false), (26, true), (27, true), (28, true), (29, true), (30, true), (31, false), (32, true), (33, true)] (by kernel_rfl) (by kernel_rfl) rfl (by kernel_rfl) (fun _ _ _ _ _ h => h) (fun w' => St w w' [Blk b13 (rcs r2 (.slice A7 r2.sb.length p7) (.slice B7 r2.bb.length q7)) 56, Row (.slice A7 r2.sb.length p7) 5 1 r2.sb.length (bs r2.sb), Row (.slice B7 r2.bb.length q7) 5 1 r2.bb.length (bs r2.bb), Blk b11 (rcs r2 (.slice A6 r2.sb.length p6) (.slice B6 r2.bb.length q6)) 56, Row (.slice A6 r2.sb.length p6) 5 1 r2.sb.length (bs r2.sb), Row (.slice B6 r2.bb.length q6) 5 1 r2.bb.length (bs r2.bb), Row v9 5 1 (encOQ r).length (bs (encOQ r)), Row v7 5 1 (encOQ r).length (bs (encOQ r)), Blk b5 (rcs r (.slice A5 n5 p5) (.slice B5 m5 q5)) 56, Row (.slice A38 ys.length c38) 5 1 ys.length (bs ys), Row (.slice B5 m5 q5) 5 1 r.bb.length (bs r.bb), Row (.slice A5 n5 p5) 5 1 r.sb.length (bs r.sb), Blk b2 (rcs r (.slice As r.sb.length cs') (.slice Ab r.bb.length cb')) 56] [fun W => HB W (.slice As r.sb.length cs') r.sb, fun W => HB W (.slice Ab r.bb.length cb') r.bb, fun W => HB W (.slice Av xs.length cv) xs]) HS.out.drew ?_
  intro OPS hops
  have hS := HS.out.drew
  clear HS; have HS := Lib.hid hS; clear hS
  iterate 13
    first | (refine wpPi_yield _ (by rw [hops.out]; simp only [List.getElem?_toArray, List.getElem?_cons_succ, List.getElem?_cons_zero]; rfl) (by first | rfl | (rw [hops.out]; rfl)) (fun w' hS => by first | exact run_str (by rfl) (by rfl) (Row.hb (hS.res (i := 7) rfl)) | exact run_str (by rfl) (by rfl) (Row.hb (hS.res (i := 6) rfl)) | exact run_lda (n := 70) (cs := rcs r2 (.slice A6 r2.sb.length p6) (.slice B6 r2.bb.length q6)) ag56 (by rfl) (by rfl) (hS.range (i := 3) rfl (by rw [rcs_length HR2.out]; exact rcs_all HR2.out (.slice A6 r2.sb.length p6) (.slice B6 r2.bb.length q6))) (rcs_length HR2.out (.slice A6 r2.sb.length p6) (.slice B6 r2.bb.length q6)) | exact run_lda (n := 70) (cs := rcs r2 (.slice A7 r2.sb.length p7) (.slice B7 r2.bb.length q7)) ag56 (by rfl) (by rfl) (hS.range (i := 0) rfl (by rw [rcs_length HR2.out]; exact rcs_all HR2.out (.slice A7 r2.sb.length p7) (.slice B7 r2.bb.length q7))) (rcs_length HR2.out (.slice A7 r2.sb.length p7) (.slice B7 r2.bb.length q7)) | exact run_lda (n := 70) (cs := rcs r (.slice A5 n5 p5) (.slice B5 m5 q5)) ag56 (by rfl) (by rfl) (hS.range (i := 8) rfl (by rw [rcs_length HR.out]; exact rcs_all HR.out (.slice A5 n5 p5) (.slice B5 m5 q5))) (rcs_length HR.out (.slice A5 n5 p5) (.slice B5 m5 q5)) | exact run_lda (n := 70) (cs := rcs r (.slice As r.sb.length cs') (.slice Ab r.bb.length cb')) ag56 (by rfl) (by rfl) (hS.range (i := 12) rfl (by rw [rcs_length HR.out]; exact rcs_all HR.out (.slice As r.sb.length cs') (.slice Ab r.bb.length cb'))) (rcs_length HR.out (.slice As r.sb.length cs') (.slice Ab r.bb.length cb')) | (go_simp; rfl)) ?_; simp only [Act.put, List.setIfInBounds_toArray, List.set_cons_succ, List.set_cons_zero]) | (refine wpPi_skip (by rw [hops.out]; simp only [List.getElem?_toArray, List.getElem?_cons_succ, List.getElem?_cons_zero]; rfl) (by first | rfl | (rw [hops.out]; rfl)) ?_; simp only [Act.put, List.setIfInBounds_toArray, List.set_cons_succ, List.set_cons_zero])
  refine wpPi_act (by rw [hops.out]; simp only [List.getElem?_toArray, List.getElem?_cons_succ, List.getElem?_cons_zero]; rfl) (by first | rfl | (rw [hops.out]; rfl)) ?_
  go_simp
  refine (same31e r2 _ _ _ _ _ HR2.out (Row.hb (HS.out.res (i := 4) rfl)) (Row.hb (HS.out.res (i := 5) rfl)) (Row.hb (HS.out.res (i := 1) rfl)) (Row.hb (HS.out.res (i := 2) rfl))).mono ?_
  rintro e Wn ⟨rfl, hb⟩
  have hS := HS.out.call hb
  clear HS; have HS := Lib.hid hS; clear hS
  clear hb
  refine ⟨HS.out, ?_⟩
  try simp only [Act.put, List.setIfInBounds_toArray, List.set_cons_succ, List.set_cons_zero]
  iterate 10
    first | (refine wpPi_yield _ (by rw [hops.out]; simp only [List.getElem?_toArray, List.getElem?_cons_succ, List.getElem?_cons_zero]; rfl) (by first | rfl | (rw [hops.out]; rfl)) (fun w' hS => by first | exact run_str (by rfl) (by rfl) (Row.hb (hS.res (i := 7) rfl)) | exact run_str (by rfl) (by rfl) (Row.hb (hS.res (i := 6) rfl)) | exact run_lda (n := 70) (cs := rcs r2 (.slice A6 r2.sb.length p6) (.slice B6 r2.bb.length q6)) ag56 (by rfl) (by rfl) (hS.range (i := 3) rfl (by rw [rcs_length HR2.out]; exact rcs_all HR2.out (.slice A6 r2.sb.length p6) (.slice B6 r2.bb.length q6))) (rcs_length HR2.out (.slice A6 r2.sb.length p6) (.slice B6 r2.bb.length q6)) | exact run_lda (n := 70) (cs := rcs r2 (.slice A7 r2.sb.length p7) (.slice B7 r2.bb.length q7)) ag56 (by rfl) (by rfl) (hS.range (i := 0) rfl (by rw [rcs_length HR2.out]; exact rcs_all HR2.out (.slice A7 r2.sb.length p7) (.slice B7 r2.bb.length q7))) (rcs_length HR2.out (.slice A7 r2.sb.length p7) (.slice B7 r2.bb.length q7)) | exact run_lda (n := 70) (cs := rcs r (.slice A5 n5 p5) (.slice B5 m5 q5)) ag56 (by rfl) (by rfl) (hS.range (i := 8) rfl (by rw [rcs_length HR.out]; exact rcs_all HR.out (.slice A5 n5 p5) (.slice B5 m5 q5))) (rcs_length HR.out (.slice A5 n5 p5) (.slice B5 m5 q5)) | exact run_lda (n := 70) (cs := rcs r (.slice As r.sb.length cs') (.slice Ab r.bb.length cb')) ag56 (by rfl) (by rfl) (hS.range (i := 12) rfl (by rw [rcs_length HR.out]; exact rcs_all HR.out (.slice As r.sb.length cs') (.slice Ab r.bb.length cb'))) (rcs_length HR.out (.slice As r.sb.length cs') (.slice Ab r.bb.length cb')) | (go_simp; rfl)) ?_; simp only [Act.put, List.setIfInBounds_toArray, List.set_cons_succ, List.set_cons_zero]) | (refine wpPi_skip (by rw [hops.out]; simp only [List.getElem?_toArray, List.getElem?_cons_succ, List.getElem?_cons_zero]; rfl) (by first | rfl | (rw [hops.out]; rfl)) ?_; simp only [Act.put, List.setIfInBounds_toArray, List.set_cons_succ, List.set_cons_zero])
  refine wpPi_act (by rw [hops.out]; simp only [List.getElem?_toArray, List.getElem?_cons_succ, List.getElem?_cons_zero]; rfl) (by first | rfl | (rw [hops.out]; rfl)) ?_
  go_simp
  refine (check32 r _ _ _ HR.out (Row.hb (HS.out.res (i := 11) rfl)) (Row.hb (HS.out.res (i := 10) rfl))).mono ?_
  rintro e Wn ⟨rfl, hb⟩
  have hS := HS.out.call hb
  clear HS; have HS := Lib.hid hS; clear hS
  clear hb
  refine ⟨HS.out, ?_⟩
  try simp only [Act.put, List.setIfInBounds_toArray, List.set_cons_succ, List.set_cons_zero]
  refine wpPi_act (by rw [hops.out]; simp only [List.getElem?_toArray, List.getElem?_cons_succ, List.getElem?_cons_zero]; rfl) (by first | rfl | (rw [hops.out]; rfl)) ?_
  go_simp
  refine (check33 r _ _ _ HR.out (HS.out.fact (i := 0) rfl) (HS.out.fact (i := 1) rfl) (by omega) (by omega)).mono ?_
  rintro e Wn ⟨rfl, hb⟩
  have hS := HS.out.call hb
  clear HS; have HS := Lib.hid hS; clear hS
  clear hb
  refine ⟨HS.out, ?_⟩
  try simp only [Act.put, List.setIfInBounds_toArray, List.set_cons_succ, List.set_cons_zero]
  iterate 5
    first | (refine wpPi_yield _ (by rw [hops.out]; simp only [List.getElem?_toArray, List.getElem?_cons_succ, List.getElem?_cons_zero]; rfl) (by first | rfl | (rw [hops.out]; rfl)) (fun w' hS => by first | exact run_str (by rfl) (by rfl) (Row.hb (hS.res (i := 7) rfl)) | exact run_str (by rfl) (by rfl) (Row.hb (hS.res (i := 6) rfl)) | exact run_lda (n := 70) (cs := rcs r2 (.slice A6 r2.sb.length p6) (.slice B6 r2.bb.length q6)) ag56 (by rfl) (by rfl) (hS.range (i := 3) rfl (by rw [rcs_length HR2.out]; exact rcs_all HR2.out (.slice A6 r2.sb.length p6) (.slice B6 r2.bb.length q6))) (rcs_length HR2.out (.slice A6 r2.sb.length p6) (.slice B6 r2.bb.length q6)) | exact run_lda (n := 70) (cs := rcs r2 (.slice A7 r2.sb.length p7) (.slice B7 r2.bb.length q7)) ag56 (by rfl) (by rfl) (hS.range (i := 0) rfl (by rw [rcs_length HR2.out]; exact rcs_all HR2.out (.slice A7 r2.sb.length p7) (.slice B7 r2.bb.length q7))) (rcs_length HR2.out (.slice A7 r2.sb.length p7) (.slice B7 r2.bb.length q7)) | exact run_lda (n := 70) (cs := rcs r (.slice A5 n5 p5) (.slice B5 m5 q5)) ag56 (by rfl) (by rfl) (hS.range (i := 8) rfl (by rw [rcs_length HR.out]; exact rcs_all HR.out (.slice A5 n5 p5) (.slice B5 m5 q5))) (rcs_length HR.out (.slice A5 n5 p5) (.slice B5 m5 q5)) | exact run_lda (n := 70) (cs := rcs r (.slice As r.sb.length cs') (.slice Ab r.bb.length cb')) ag56 (by rfl) (by rfl) (hS.range (i := 12) rfl (by rw [rcs_length HR.out]; exact rcs_all HR.out (.slice As r.sb.length cs') (.slice Ab r.bb.length cb'))) (rcs_length HR.out (.slice As r.sb.length cs') (.slice Ab r.bb.length cb')) | (go_simp; rfl)) ?_; simp only [Act.put, List.setIfInBounds_toArray, List.set_cons_succ, List.set_cons_zero]) | (refine wpPi_skip (by rw [hops.out]; simp only [List.getElem?_toArray, List.getElem?_cons_succ, List.getElem?_cons_zero]; rfl) (by first | rfl | (rw [hops.out]; rfl)) ?_; simp only [Act.put, List.setIfInBounds_toArray, List.set_cons_succ, List.set_cons_zero])
  refine wpPi_act (by rw [hops.out]; simp only [List.getElem?_toArray, List.getElem?_cons_succ, List.getElem?_cons_zero]; rfl) (by first | rfl | (rw [hops.out]; rfl)) ?_
  go_simp
  refine (same31e r _ _ _ _ _ HR.out (Row.hb (HS.out.res (i := 11) rfl)) (Row.hb (HS.out.res (i := 10) rfl)) (HS.out.fact (i := 0) rfl) (HS.out.fact (i := 1) rfl)).mono ?_
  rintro e Wn ⟨rfl, hb⟩
  have hS := HS.out.call hb
  clear HS; have HS := Lib.hid hS; clear hS
  clear hb
  refine ⟨HS.out, ?_⟩
  try simp only [Act.put, List.setIfInBounds_toArray, List.set_cons_succ, List.set_cons_zero]
  iterate 2
    first | (refine wpPi_yield _ (by rw [hops.out]; simp only [List.getElem?_toArray, List.getElem?_cons_succ, List.getElem?_cons_zero]; rfl) (by first | rfl | (rw [hops.out]; rfl)) (fun w' hS => by first | exact run_str (by rfl) (by rfl) (Row.hb (hS.res (i := 7) rfl)) | exact run_str (by rfl) (by rfl) (Row.hb (hS.res (i := 6) rfl)) | exact run_lda (n := 70) (cs := rcs r2 (.slice A6 r2.sb.length p6) (.slice B6 r2.bb.length q6)) ag56 (by rfl) (by rfl) (hS.range (i := 3) rfl (by rw [rcs_length HR2.out]; exact rcs_all HR2.out (.slice A6 r2.sb.length p6) (.slice B6 r2.bb.length q6))) (rcs_length HR2.out (.slice A6 r2.sb.length p6) (.slice B6 r2.bb.length q6)) | exact run_lda (n := 70) (cs := rcs r2 (.slice A7 r2.sb.length p7) (.slice B7 r2.bb.length q7)) ag56 (by rfl) (by rfl) (hS.range (i := 0) rfl (by rw [rcs_length HR2.out]; exact rcs_all HR2.out (.slice A7 r2.sb.length p7) (.slice B7 r2.bb.length q7))) (rcs_length HR2.out (.slice A7 r2.sb.length p7) (.slice B7 r2.bb.length q7)) | exact run_lda (n := 70) (cs := rcs r (.slice A5 n5 p5) (.slice B5 m5 q5)) ag56 (by rfl) (by rfl) (hS.range (i := 8) rfl (by rw [rcs_length HR.out]; exact rcs_all HR.out (.slice A5 n5 p5) (.slice B5 m5 q5))) (rcs_length HR.out (.slice A5 n5 p5) (.slice B5 m5 q5)) | exact run_lda (n := 70) (cs := rcs r (.slice As r.sb.length cs') (.slice Ab r.bb.length cb')) ag56 (by rfl) (by rfl) (hS.range (i := 12) rfl (by rw [rcs_length HR.out]; exact rcs_all HR.out (.slice As r.sb.length cs') (.slice Ab r.bb.length cb'))) (rcs_length HR.out (.slice As r.sb.length cs') (.slice Ab r.bb.length cb')) | (go_simp; rfl)) ?_; simp only [Act.put, List.setIfInBounds_toArray, List.set_cons_succ, List.set_cons_zero]) | (refine wpPi_skip (by rw [hops.out]; simp only [List.getElem?_toArray, List.getElem?_cons_succ, List.getElem?_cons_zero]; rfl) (by first | rfl | (rw [hops.out]; rfl)) ?_; simp only [Act.put, List.setIfInBounds_toArray, List.set_cons_succ, List.set_cons_zero])
  simp only [wpPi]
  clear OPS hops
  go_wp2_with (first
    | (refine atd 97 (by rfl) ?_; refine wl (by rfl) (s_ld HS.out 3 (by rfl) (by rfl) (by rfl) (by kernel_rfl) (by exact rcs_36 HR2.out (.slice A6 r2.sb.length p6) (.slice B6 r2.bb.length q6)) ?_)))
  have hS := ((HS.out.sub 0).sub 0).sub 0
  have hS := ((((((hS.sub 3).sub 3).sub 3).sub 4).sub 4).sub 4)
  clear HS HD2 HYT
  have HS := Lib.hid (show St w _ [Blk b11 (rcs r2 (.slice A6 r2.sb.length p6) (.slice B6 r2.bb.length q6)) 56, Row (.slice A6 r2.sb.length p6) 5 1 r2.sb.length (bs r2.sb), Row (.slice B6 r2.bb.length q6) 5 1 r2.bb.length (bs r2.bb), Row (.slice A38 ys.length c38) 5 1 ys.length (bs ys)] [fun W => HB W (.slice As r.sb.length cs') r.sb, fun W => HB W (.slice Ab r.bb.length cb') r.bb, fun W => HB W (.slice Av xs.length cv) xs] from hS)
  clear hS
  go_loopw [99] (fun s1 wr => ∃ (i : Nat) (T1 : List Value), i ≤ r2.sb.length ∧ s1 = .int .i64 (i : Int) ∧ AllU T1 ∧ St w wr [Blk b11 (rcs r2 (.slice A6 r2.sb.length p6) (.slice B6 r2.bb.length q6)) 56, Row (.slice A6 r2.sb.length p6) 5 1 r2.sb.length T1, Row (.slice B6 r2.bb.length q6) 5 1 r2.bb.length (bs r2.bb), Row (.slice A38 ys.length c38) 5 1 ys.length (bs ys)] [fun W => HB W (.slice As r.sb.length cs') r.sb, fun W => HB W (.slice Ab r.bb.length cb') r.bb, fun W => HB W (.slice Av xs.length cv) xs]) (fun s1 _ => r2.sb.length - (intOf s1).toNat)
  case atStart => exact ⟨0, _, by omega, rfl, AllU.bs _, HS.out⟩
  case round =>
    obtain ⟨i, T1, hi, rfl, hT, hs⟩ := hrel
    clear HS
    have HS := Lib.hid hs
    clear hs
    by_cases hlt : i < r2.sb.length
    · have j1 : (i : Int) < (r2.sb.length : Int) := by omega
      obtain ⟨g, hg⟩ := rowV_slice (HS.out.res (i := 1) rfl) (by omega)
      subst hg
      have hlT := rowV_len (HS.out.res (i := 1) rfl)
      have hiT : i < T1.length := by omega
      obtain ⟨z, hz⟩ := hT _ (List.getElem_mem hiT)
      have hz' : T1[i]? = some (.int .u8 z) := by rw [List.getElem?_eq_getElem hiT, hz]
      have HZ := Lib.hid hz'; have HT := Lib.hid hT
      clear hz hz' hT
      go_wp2_with (first
        | (refine atd 103 (by rfl) ?_; refine wl (by rfl) (s_ld HS.out 0 (by rfl) (by rfl) (by rfl) (by kernel_rfl) (by exact rcs_36 HR2.out (.slice (some ⟨g, 0, none⟩) r2.sb.length p6) (.slice B6 r2.bb.length q6)) ?_))
        | (refine atd 106 (by rfl) ?_; refine wl (by rfl) (wp_of_run (run_ld (v := .int .u8 z) (by kernel_rfl) (by rfl) (by rfl) (rowE_cell (HS.out.res (i := 1) rfl) HZ.out)) ?_))
        | (refine sto 108 (by rfl) ?_; refine wl (by rfl) (wp_of_skip (run_stc (by kernel_rfl) (by rfl) (by rfl) (by rfl) (by rfl) (rowE_cell (HS.out.res (i := 1) rfl) HZ.out) (own_setV (HS.out.res (i := 1) rfl) i hlt (.int .u8 0)).2) ?_); have hS := HS.out.setRowV 1 rfl hlt (.int .u8 (IntKind.wrap .u8 (z + 1))); clear HS; have HS := Lib.hid hS; clear hS))
      exact ⟨⟨i + 1, _, by omega, by push_cast; rfl, HT.out.set i _, HS.out⟩, by simp [intOf]; omega⟩
    have j1 : ¬ (i : Int) < (r2.sb.length : Int) := by omega
    go_wp2_with (first
      | (refine atd 111 (by rfl) ?_; refine wl (by rfl) (s_ld HS.out 0 (by rfl) (by rfl) (by rfl) (by kernel_rfl) (by exact rcs_69 HR2.out (.slice A6 r2.sb.length p6) (.slice B6 r2.bb.length q6)) ?_)))
    clear hlt j1 hT hi
    go_loopw [113] (fun s1 wr => ∃ (i : Nat) (T : List Value), i ≤ r2.bb.length ∧ s1 = .int .i64 (i : Int) ∧ AllU T ∧ St w wr [Blk b11 (rcs r2 (.slice A6 r2.sb.length p6) (.slice B6 r2.bb.length q6)) 56, Row (.slice A6 r2.sb.length p6) 5 1 r2.sb.length T1, Row (.slice B6 r2.bb.length q6) 5 1 r2.bb.length T, Row (.slice A38 ys.length c38) 5 1 ys.length (bs ys)] [fun W => HB W (.slice As r.sb.length cs') r.sb, fun W => HB W (.slice Ab r.bb.length cb') r.bb, fun W => HB W (.slice Av xs.length cv) xs]) (fun s1 _ => r2.bb.length - (intOf s1).toNat)
    case atStart => exact ⟨0, _, by omega, rfl, AllU.bs _, HS.out⟩
    case round =>
      obtain ⟨i, T, hi, rfl, hT, hs⟩ := hrel
      clear HS
      have HS := Lib.hid hs
      clear hs
      by_cases hlt : i < r2.bb.length
      · have j1 : (i : Int) < (r2.bb.length : Int) := by omega
        obtain ⟨g, hg⟩ := rowV_slice (HS.out.res (i := 2) rfl) (by omega)
        subst hg
        have hlT := rowV_len (HS.out.res (i := 2) rfl)
        have hiT : i < T.length := by omega
        obtain ⟨z, hz⟩ := hT _ (List.getElem_mem hiT)
        have hz' : T[i]? = some (.int .u8 z) := by rw [List.getElem?_eq_getElem hiT, hz]
        have HZ := Lib.hid hz'; have HT := Lib.hid hT
        clear hz hz' hT
        go_wp2_with (first
          | (refine atd 117 (by rfl) ?_; refine wl (by rfl) (s_ld HS.out 0 (by rfl) (by rfl) (by rfl) (by kernel_rfl) (by exact rcs_69 HR2.out (.slice A6 r2.sb.length p6) (.slice (some ⟨g, 0, none⟩) r2.bb.length q6)) ?_))
          | (refine atd 120 (by rfl) ?_; refine wl (by rfl) (wp_of_run (run_ld (v := .int .u8 z) (by kernel_rfl) (by rfl) (by rfl) (rowE_cell (HS.out.res (i := 2) rfl) HZ.out)) ?_))
          | (refine sto 122 (by rfl) ?_; refine wl (by rfl) (wp_of_skip (run_stc (by kernel_rfl) (by rfl) (by rfl) (by rfl) (by rfl) (rowE_cell (HS.out.res (i := 2) rfl) HZ.out) (own_setV (HS.out.res (i := 2) rfl) i hlt (.int .u8 0)).2) ?_); have hS := HS.out.setRowV 2 rfl hlt (.int .u8 (IntKind.wrap .u8 (z + 1))); clear HS; have HS := Lib.hid hS; clear hS))
        exact ⟨⟨i + 1, _, by omega, by push_cast; rfl, HT.out.set i _, HS.out⟩, by simp [intOf]; omega⟩
      have j1 : ¬ (i : Int) < (r2.bb.length : Int) := by omega
      go_wp2_with (first
        | (refine atd 125 (by rfl) ?_; refine wl (by rfl) (wp_of_run (run_str (by rfl) (by rfl) (Row.hb (HS.out.res (i := 3) rfl))) ?_))
        | (refine atd 127 (by rfl) ?_; refine wl (by rfl) (wp_of_run (run_str (by rfl) (by rfl) (HS.out.fact (i := 2) rfl)) ?_)))
      go_ret
      exact ⟨by rw [← HYS.out]; simp [ba_seven], HS.out.below⟩
theorem explorerForms_walk (r : Req) (s b v : Value) (xs : List UInt8) (w : World) (hr : r.ok) (hs : HB w s r.sb) (hb : HB w b r.bb) (hv : HB w v xs) :
    Calls Try.prog 9 #[.agg (rcs r s b).toArray, v] w fun e w' => e = .returned (.bool true) ∧ Below w.heap.size w w' := by
  obtain ⟨As, cs', rfl, _⟩ := hs.shape
  obtain ⟨Ab, cb', rfl, _⟩ := hb.shape
  obtain ⟨Av, cv, rfl, _⟩ := hv.shape
  by_cases hg : 5000 < r.bb.length ∨ 2100 < r.sb.length ∨ 5000 < xs.length
  · exact forms9g r As Ab cs' cb' Av cv xs w hr hs hb hv hg
  exact forms9m r As Ab cs' cb' Av cv xs w hr hs hb hv (by omega) (by omega) (by omega)
end
end Go.Proofs.Ytlpklbpaknemaaa
