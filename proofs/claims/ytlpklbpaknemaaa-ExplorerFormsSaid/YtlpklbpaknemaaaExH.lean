/- Contracts and words that the laws stand on (ExH). -/
import Derived.Test.YtlpklbpaknemaaaExE
import Derived.Test.YtlpklbpaknemaaaExF
import Derived.Test.YtlpklbpaknemaaaExG
set_option linter.unusedVariables false
set_option linter.unusedSimpArgs false
namespace Go.Proofs.Ytlpklbpaknemaaa
section
open Go Go.RowKit Go.Proofs
attribute [local irreducible] Calls

theorem sameQ_iff {a b : Req} : sameQ a b = true ↔ a = b := by
  obtain ⟨k, tx, n, h, m, sb, ha, bb⟩ := a
  obtain ⟨k', tx', n', h', m', sb', ha', bb'⟩ := b
  unfold sameQ
  simp only [Bool.and_eq_true, beq_iff_eq, decide_eq_true_eq, Req.mk.injEq]
  constructor
  · rintro ⟨h1, h2, h3, h4, h5, h6, h7, h8⟩
    exact ⟨h1, h2, by omega, by omega, by omega, h6, h7, h8⟩
  · rintro ⟨h1, h2, h3, h4, h5, h6, h7, h8⟩
    exact ⟨h1, h2, by omega, by omega, by omega, h6, h7, h8⟩
/-- A request's bytes, whatever it has besides; none: there is no such kind. -/
def formO (r : Req) : List UInt8 := if fldK r.k < 0 then [] else encQ r
theorem chk_ref (r : Req) : (if (!(!decide (fldK r.k < 0)) || !(sameQ r (onlyF (fldK r.k) r))) || decide (2000 < r.sb.length) || decide (200000 < r.bb.length) then (290 : Int) else 0) = chkI r := by
  unfold chkI
  cases hc : chkQ r with
  | true =>
    obtain ⟨h0, h1, h2, h3⟩ := chkQ_iff.1 hc
    have e1 : decide (fldK r.k < 0) = false := decide_eq_false h0
    have e2 : sameQ r (onlyF (fldK r.k) r) = true := sameQ_iff.2 h1.symm
    have e3 : decide (2000 < r.sb.length) = false := decide_eq_false (by omega)
    have e4 : decide (200000 < r.bb.length) = false := decide_eq_false (by omega)
    rw [e1, e2, e3, e4]
    rfl
  | false =>
    by_cases h0 : fldK r.k < 0
    · rw [decide_eq_true h0]; rfl
    by_cases h1 : sameQ r (onlyF (fldK r.k) r) = true
    · by_cases h2 : 2000 < r.sb.length
      · rw [decide_eq_true h2]; simp
      · by_cases h3 : 200000 < r.bb.length
        · rw [decide_eq_true h3]; simp
        · rw [chkQ_iff.2 ⟨h0, (sameQ_iff.1 h1).symm, by omega, by omega⟩] at hc
          cases hc
    · rw [Bool.not_eq_true] at h1
      rw [h1]
      simp
set_option maxHeartbeats 1000000 in
set_option maxRecDepth 100000 in
theorem form50z (r : Req) (As Ab : Option Addr) (cs' cb' : Nat) (w : World) (hr : r.ok) (k : Int) (hk : r.k = k) (hz : k < 1 ∨ 11 < k) :
    Calls Try.prog 50 #[.agg (rcs r (.slice As r.sb.length cs') (.slice Ab r.bb.length cb')).toArray] w fun e w' => e = .returned (.tuple #[.slice none 0 0, .bool false]) ∧ Below w.heap.size w w' := by
  have HS := Lib.hid (St.start w)
  have HK0 := Lib.hid (show ∀ s b, (rcs r s b)[0]? = some (.int .i64 k) from fun s b => by rw [rcs_0, hk])
  clear hr hk
  by_cases h1 : k < 1
  · have d1 : decide (k < 1) = true := decide_eq_true h1
    clear hz
    go_enter Try.func50, Try.ntmps50
    go_wp2_with (first
      | (refine atd 1 (by rfl) ?_; refine wl (by rfl) (s_bx (l := rcs r (.slice As r.sb.length cs') (.slice Ab r.bb.length cb')) HS.out (by rfl) (by rfl) ?_); intro b1 Wn hS; clear HS; have HS := Lib.hid hS; clear hS)
      | (refine atd 6 (by rfl) ?_; refine wl (by rfl) (s_ld (v := .int .i64 k) HS.out 0 (by rfl) (by rfl) (by rfl) (by kernel_rfl) (by exact HK0.out (.slice As r.sb.length cs') (.slice Ab r.bb.length cb')) ?_))
      | (refine atd 10 (by rfl) ?_; refine wl (by rfl) (s_ld (v := .int .i64 k) HS.out 0 (by rfl) (by rfl) (by rfl) (by kernel_rfl) (by exact HK0.out (.slice As r.sb.length cs') (.slice Ab r.bb.length cb')) ?_)))
    go_ret2
    exact ⟨rfl, HS.out.below⟩
  · have d1 : decide (k < 1) = false := decide_eq_false h1
    have h2 : 11 < k := by omega
    have d2 : decide (11 < k) = true := decide_eq_true h2
    clear hz
    go_enter Try.func50, Try.ntmps50
    go_wp2_with (first
      | (refine atd 1 (by rfl) ?_; refine wl (by rfl) (s_bx (l := rcs r (.slice As r.sb.length cs') (.slice Ab r.bb.length cb')) HS.out (by rfl) (by rfl) ?_); intro b1 Wn hS; clear HS; have HS := Lib.hid hS; clear hS)
      | (refine atd 6 (by rfl) ?_; refine wl (by rfl) (s_ld (v := .int .i64 k) HS.out 0 (by rfl) (by rfl) (by rfl) (by kernel_rfl) (by exact HK0.out (.slice As r.sb.length cs') (.slice Ab r.bb.length cb')) ?_))
      | (refine atd 10 (by rfl) ?_; refine wl (by rfl) (s_ld (v := .int .i64 k) HS.out 0 (by rfl) (by rfl) (by rfl) (by kernel_rfl) (by exact HK0.out (.slice As r.sb.length cs') (.slice Ab r.bb.length cb')) ?_)))
    go_ret2
    exact ⟨rfl, HS.out.below⟩
theorem form50 (r : Req) (s b : Value) (w : World) (hr : r.ok) (hs : HB w s r.sb) (hb : HB w b r.bb) (hl1 : r.sb.length ≤ 1000000) (hl2 : r.bb.length ≤ 1000000) :
    Calls Try.prog 50 #[.agg (rcs r s b).toArray] w fun e w' => ∃ v', e = .returned (.tuple #[v', .bool (!decide (fldK r.k < 0))]) ∧ New w w' (Row v' 5 1 (formO r).length (bs (formO r))) := by
  obtain ⟨As, cs', rfl, _⟩ := hs.shape
  obtain ⟨Ab, cb', rfl, _⟩ := hb.shape
  have ok : ¬ fldK r.k < 0 → (Calls Try.prog 50 #[.agg (rcs r (.slice As r.sb.length cs') (.slice Ab r.bb.length cb')).toArray] w fun e w' => ∃ v', e = .returned (.tuple #[v', .bool true]) ∧ New w w' (Row v' 5 1 (encQ r).length (bs (encQ r)))) → Calls Try.prog 50 #[.agg (rcs r (.slice As r.sb.length cs') (.slice Ab r.bb.length cb')).toArray] w fun e w' => ∃ v', e = .returned (.tuple #[v', .bool (!decide (fldK r.k < 0))]) ∧ New w w' (Row v' 5 1 (formO r).length (bs (formO r))) := fun h0 hc => by
    unfold formO
    rw [decide_eq_false h0, if_neg h0]
    exact hc
  rcases fldK_cases r.k with ⟨hf, hk⟩ | ⟨hf, hk | hk⟩ | ⟨hf, hk | hk⟩ | ⟨hf, hk⟩ | ⟨hf, hk⟩ | ⟨hf, hk | hk⟩ | ⟨hf, hk | hk⟩ | ⟨hf, hk⟩
  · exact ok (by rw [hf]; decide) (form50a r As Ab cs' cb' w hr hs hb hk hl1 hl2)
  · exact ok (by rw [hf]; decide) (form50b r As Ab cs' cb' w hr hs hb hk hl1 hl2)
  · exact ok (by rw [hf]; decide) (form50f r As Ab cs' cb' w hr hs hb hk hl1 hl2)
  · exact ok (by rw [hf]; decide) (form50c r As Ab cs' cb' w hr hs hb hk hl1 hl2)
  · exact ok (by rw [hf]; decide) (form50g r As Ab cs' cb' w hr hs hb hk hl1 hl2)
  · exact ok (by rw [hf]; decide) (form50d r As Ab cs' cb' w hr hs hb hk hl1 hl2)
  · exact ok (by rw [hf]; decide) (form50e r As Ab cs' cb' w hr hs hb hk hl1 hl2)
  · exact ok (by rw [hf]; decide) (form50h r As Ab cs' cb' w hr hs hb hk hl1 hl2)
  · exact ok (by rw [hf]; decide) (form50i r As Ab cs' cb' w hr hs hb hk hl1 hl2)
  · exact ok (by rw [hf]; decide) (form50j r As Ab cs' cb' w hr hs hb hk hl1 hl2)
  · exact ok (by rw [hf]; decide) (form50k r As Ab cs' cb' w hr hs hb hk hl1 hl2)
  · refine (form50z r As Ab cs' cb' w hr r.k rfl hk).mono ?_
    rintro e w' ⟨rfl, hbl⟩
    have h0 : fldK r.k < 0 := by rw [hf]; decide
    unfold formO
    rw [decide_eq_true h0, if_pos h0]
    exact ⟨_, rfl, ((St.start w).call hbl).nilRow.give 0 rfl⟩
theorem only58 (r : Req) (s b : Value) (w : World) (hr : r.ok) (hs : HB w s r.sb) (hb : HB w b r.bb) :
    Calls Try.prog 58 #[.agg (rcs r s b).toArray] w fun e w' => ∃ A n p B m q, e = .returned (.agg (rcs (onlyF (fldK r.k) r) (.slice A n p) (.slice B m q)).toArray) ∧ HB w' (.slice A n p) (onlyF (fldK r.k) r).sb ∧ HB w' (.slice B m q) (onlyF (fldK r.k) r).bb ∧ Below w.heap.size w w' := by
  obtain ⟨As, cs', rfl, _⟩ := hs.shape
  obtain ⟨Ab, cb', rfl, _⟩ := hb.shape
  have hkr := hr
  rcases fldK_cases r.k with ⟨hf, hk⟩ | ⟨hf, hk | hk⟩ | ⟨hf, hk | hk⟩ | ⟨hf, hk⟩ | ⟨hf, hk⟩ | ⟨hf, hk | hk⟩ | ⟨hf, hk | hk⟩ | ⟨hf, hk⟩
  · refine (only58a r As Ab cs' cb' w hr hk).mono ?_
    rintro e w' ⟨rfl, hbl⟩
    have e1 : onlyF (fldK r.k) r = onlyF 32 r := by rw [hf]
    rw [e1]
    refine ⟨_, _, _, _, _, _, by unfold onlyF; rw [hk]; rfl, HB.nil _ _ _, hb.below hbl, hbl⟩
  · refine (only58b r As Ab cs' cb' w hr hk).mono ?_
    rintro e w' ⟨rfl, hbl⟩
    have e1 : onlyF (fldK r.k) r = onlyF 3 r := by rw [hf]
    rw [e1]
    refine ⟨_, _, _, _, _, _, by unfold onlyF; rw [hk]; rfl, HB.nil _ _ _, HB.nil _ _ _, hbl⟩
  · refine (only58f r As Ab cs' cb' w hr hk).mono ?_
    rintro e w' ⟨rfl, hbl⟩
    have e1 : onlyF (fldK r.k) r = onlyF 3 r := by rw [hf]
    rw [e1]
    refine ⟨_, _, _, _, _, _, by unfold onlyF; rw [hk]; rfl, HB.nil _ _ _, HB.nil _ _ _, hbl⟩
  · refine (only58c r As Ab cs' cb' w hr hk).mono ?_
    rintro e w' ⟨rfl, hbl⟩
    have e1 : onlyF (fldK r.k) r = onlyF 2 r := by rw [hf]
    rw [e1]
    refine ⟨_, _, _, _, _, _, by unfold onlyF; rw [hk]; rfl, HB.nil _ _ _, HB.nil _ _ _, hbl⟩
  · refine (only58g r As Ab cs' cb' w hr hk).mono ?_
    rintro e w' ⟨rfl, hbl⟩
    have e1 : onlyF (fldK r.k) r = onlyF 2 r := by rw [hf]
    rw [e1]
    refine ⟨_, _, _, _, _, _, by unfold onlyF; rw [hk]; rfl, HB.nil _ _ _, HB.nil _ _ _, hbl⟩
  · refine (only58d r As Ab cs' cb' w hr hk).mono ?_
    rintro e w' ⟨rfl, hbl⟩
    have e1 : onlyF (fldK r.k) r = onlyF 10 r := by rw [hf]
    rw [e1]
    refine ⟨_, _, _, _, _, _, by unfold onlyF; rw [hk]; rfl, hs.below hbl, HB.nil _ _ _, hbl⟩
  · refine (only58e r As Ab cs' cb' w hr hk).mono ?_
    rintro e w' ⟨rfl, hbl⟩
    have e1 : onlyF (fldK r.k) r = onlyF 6 r := by rw [hf]
    rw [e1]
    refine ⟨_, _, _, _, _, _, by unfold onlyF; rw [hk]; rfl, HB.nil _ _ _, HB.nil _ _ _, hbl⟩
  · refine (only58h r As Ab cs' cb' w hr hk).mono ?_
    rintro e w' ⟨rfl, hbl⟩
    have e1 : onlyF (fldK r.k) r = onlyF 16 r := by rw [hf]
    rw [e1]
    refine ⟨_, _, _, _, _, _, by unfold onlyF; rw [hk]; rfl, HB.nil _ _ _, HB.nil _ _ _, hbl⟩
  · refine (only58i r As Ab cs' cb' w hr hk).mono ?_
    rintro e w' ⟨rfl, hbl⟩
    have e1 : onlyF (fldK r.k) r = onlyF 16 r := by rw [hf]
    rw [e1]
    refine ⟨_, _, _, _, _, _, by unfold onlyF; rw [hk]; rfl, HB.nil _ _ _, HB.nil _ _ _, hbl⟩
  · refine (only58j r As Ab cs' cb' w hr hk).mono ?_
    rintro e w' ⟨rfl, hbl⟩
    have e1 : onlyF (fldK r.k) r = onlyF 0 r := by rw [hf]
    rw [e1]
    refine ⟨_, _, _, _, _, _, by unfold onlyF; rw [hk]; rfl, HB.nil _ _ _, HB.nil _ _ _, hbl⟩
  · refine (only58k r As Ab cs' cb' w hr hk).mono ?_
    rintro e w' ⟨rfl, hbl⟩
    have e1 : onlyF (fldK r.k) r = onlyF 0 r := by rw [hf]
    rw [e1]
    refine ⟨_, _, _, _, _, _, by unfold onlyF; rw [hk]; rfl, HB.nil _ _ _, HB.nil _ _ _, hbl⟩
  · refine (only58z r As Ab cs' cb' w hr r.k rfl hk).mono ?_
    rintro e w' ⟨rfl, hbl⟩
    have e1 : onlyF (fldK r.k) r = onlyF (-1) r := by rw [hf]
    rw [e1]
    refine ⟨_, _, _, _, _, _, rfl, HB.nil _ _ _, HB.nil _ _ _, hbl⟩
end
section
open Go Go.RowKit Go.Proofs
attribute [local irreducible] Calls
set_option maxHeartbeats 1000000 in
set_option maxRecDepth 100000 in
theorem check33a (r : Req) (As Ab : Option Addr) (cs' cb' : Nat) (w : World) (hr : r.ok) (hs : HB w (.slice As r.sb.length cs') r.sb) (hb : HB w (.slice Ab r.bb.length cb') r.bb) (i0 q0 : Bool) (RO : Req) (hro : RO.ok) (hFo : ∀ W, HB W (.slice As r.sb.length cs') r.sb → HB W (.slice Ab r.bb.length cb') r.bb → Calls Try.prog 50 #[.agg (rcs r (.slice As r.sb.length cs') (.slice Ab r.bb.length cb')).toArray] W fun e w' => ∃ v', e = .returned (.tuple #[v', .bool i0]) ∧ New W w' (Row v' 5 1 (formO r).length (bs (formO r)))) (hOn : ∀ W, HB W (.slice As r.sb.length cs') r.sb → HB W (.slice Ab r.bb.length cb') r.bb → Calls Try.prog 58 #[.agg (rcs r (.slice As r.sb.length cs') (.slice Ab r.bb.length cb')).toArray] W fun e w' => ∃ A n p B m q, e = .returned (.agg (rcs RO (.slice A n p) (.slice B m q)).toArray) ∧ HB w' (.slice A n p) RO.sb ∧ HB w' (.slice B m q) RO.bb ∧ Below W.heap.size W w') (hq : sameQ r RO = q0) (hi : i0 = false) :
    Calls Try.prog 33 #[.agg (rcs r (.slice As r.sb.length cs') (.slice Ab r.bb.length cb')).toArray] w fun e w' => e = .returned (.int .i64 290) ∧ Below w.heap.size w w' := by
  have HS := Lib.hid (((St.start w).addF hb.away0).addF hs.away0)
  have HR := Lib.hid hr; have HRO := Lib.hid hro; have HFo := Lib.hid hFo; have HOn := Lib.hid hOn; have HQ := Lib.hid hq
  subst hi
  have HD := Lib.hid (show (290 : Int) = 290 from rfl)
  clear hb hs hr hro hFo hOn hq
  go_enter Try.func33, Try.ntmps33
  go_wp2_with (first
    | (refine atd 1 (by rfl) ?_; refine wl (by rfl) (s_bx (l := rcs r (.slice As r.sb.length cs') (.slice Ab r.bb.length cb')) HS.out (by rfl) (by rfl) ?_); intro b1 Wn hS; clear HS; have HS := Lib.hid hS; clear hS)
    | (refine atd 7 (by rfl) ?_; refine wl (by rfl) (s_lda (cs := rcs r (.slice As r.sb.length cs') (.slice Ab r.bb.length cb')) HS.out 0 70 (by rfl) (by rfl) (by rfl) ag56 (by exact rcs_all HR.out (.slice As r.sb.length cs') (.slice Ab r.bb.length cb')) (by exact rcs_length HR.out (.slice As r.sb.length cs') (.slice Ab r.bb.length cb')) ?_))
    | (go_at_call 50; refine (HFo.out _ (HS.out.fact (i := 0) rfl) (HS.out.fact (i := 1) rfl)).mono ?_; rintro e Wn ⟨v50, rfl, hb⟩; have hS := HS.out.take hb; clear hb; clear HS; have HS := Lib.hid hS; clear hS))
  refine wp_region_pi [(0, true), (1, true), (2, false), (3, false), (4, true)] (by kernel_rfl) (by kernel_rfl) rfl (by kernel_rfl) (fun _ _ _ _ _ h => h) (fun w' => St w w' [Blk b1 (rcs r (.slice As r.sb.length cs') (.slice Ab r.bb.length cb')) 56] [fun V => HB V (.slice As r.sb.length cs') r.sb, fun V => HB V (.slice Ab r.bb.length cb') r.bb]) (HS.out.drew.sub 0) ?_
  intro OPS hops
  have hS := HS.out.drew
  clear HS; have HS := Lib.hid hS; clear hS
  iterate 2
    first | (refine wpPi_yield _ (by rw [hops.out]; simp only [List.getElem?_toArray, List.getElem?_cons_succ, List.getElem?_cons_zero]; rfl) (by first | rfl | (rw [hops.out]; rfl)) (fun w' hS => by first | exact run_lda (n := 70) (cs := rcs r (.slice As r.sb.length cs') (.slice Ab r.bb.length cb')) ag56 (by rfl) (by rfl) (hS.range (i := 0) rfl (by rw [rcs_length HR.out]; exact rcs_all HR.out (.slice As r.sb.length cs') (.slice Ab r.bb.length cb'))) (rcs_length HR.out (.slice As r.sb.length cs') (.slice Ab r.bb.length cb')) | (go_simp; rfl)) ?_; simp only [Act.put, List.setIfInBounds_toArray, List.set_cons_succ, List.set_cons_zero]) | (refine wpPi_skip (by rw [hops.out]; simp only [List.getElem?_toArray, List.getElem?_cons_succ, List.getElem?_cons_zero]; rfl) (by first | rfl | (rw [hops.out]; rfl)) ?_; simp only [Act.put, List.setIfInBounds_toArray, List.set_cons_succ, List.set_cons_zero])
  refine wpPi_act (by rw [hops.out]; simp only [List.getElem?_toArray, List.getElem?_cons_succ, List.getElem?_cons_zero]; rfl) (by first | rfl | (rw [hops.out]; rfl)) ?_
  go_simp
  refine (HOn.out _ (HS.out.fact (i := 0) rfl) (HS.out.fact (i := 1) rfl)).mono ?_
  rintro e Wn ⟨A3, n3, p3, B3, m3, q3, rfl, h1, h2, hb⟩
  have hS := HS.out.call hb
  clear HS; have HS := Lib.hid hS; clear hS
  clear hb
  have H1 := Lib.hid h1; have H2 := Lib.hid h2; clear h1 h2
  refine ⟨HS.out.sub 0, ?_⟩
  try simp only [Act.put, List.setIfInBounds_toArray, List.set_cons_succ, List.set_cons_zero]
  refine wpPi_act (by rw [hops.out]; simp only [List.getElem?_toArray, List.getElem?_cons_succ, List.getElem?_cons_zero]; rfl) (by first | rfl | (rw [hops.out]; rfl)) ?_
  go_simp
  refine (same31 r RO _ _ _ _ _ HR.out HRO.out (HS.out.fact (i := 0) rfl) (HS.out.fact (i := 1) rfl) H1.out H2.out).mono ?_
  rintro e Wn ⟨rfl, hb⟩
  rw [HQ.out]
  have hS := HS.out.call hb
  clear HS; have HS := Lib.hid hS; clear hS
  clear hb H1 H2
  refine ⟨HS.out.sub 0, ?_⟩
  try simp only [Act.put, List.setIfInBounds_toArray, List.set_cons_succ, List.set_cons_zero]
  iterate 1
    first | (refine wpPi_yield _ (by rw [hops.out]; simp only [List.getElem?_toArray, List.getElem?_cons_succ, List.getElem?_cons_zero]; rfl) (by first | rfl | (rw [hops.out]; rfl)) (fun w' hS => by first | exact run_lda (n := 70) (cs := rcs r (.slice As r.sb.length cs') (.slice Ab r.bb.length cb')) ag56 (by rfl) (by rfl) (hS.range (i := 0) rfl (by rw [rcs_length HR.out]; exact rcs_all HR.out (.slice As r.sb.length cs') (.slice Ab r.bb.length cb'))) (rcs_length HR.out (.slice As r.sb.length cs') (.slice Ab r.bb.length cb')) | (go_simp; rfl)) ?_; simp only [Act.put, List.setIfInBounds_toArray, List.set_cons_succ, List.set_cons_zero]) | (refine wpPi_skip (by rw [hops.out]; simp only [List.getElem?_toArray, List.getElem?_cons_succ, List.getElem?_cons_zero]; rfl) (by first | rfl | (rw [hops.out]; rfl)) ?_; simp only [Act.put, List.setIfInBounds_toArray, List.set_cons_succ, List.set_cons_zero])
  simp only [wpPi]
  clear OPS hops
  go_wp2_with (first
    | (refine atd 23 (by rfl) ?_; refine wl (by rfl) (s_ld HS.out 1 (by rfl) (by rfl) (by rfl) (by kernel_rfl) (by exact rcs_36 HR.out (.slice As r.sb.length cs') (.slice Ab r.bb.length cb')) ?_))
    | (refine atd 29 (by rfl) ?_; refine wl (by rfl) (s_ld HS.out 1 (by rfl) (by rfl) (by rfl) (by kernel_rfl) (by exact rcs_69 HR.out (.slice As r.sb.length cs') (.slice Ab r.bb.length cb')) ?_)))
  go_ret
  exact ⟨rfl, HS.out.below⟩
set_option maxHeartbeats 1000000 in
set_option maxRecDepth 100000 in
theorem check33b (r : Req) (As Ab : Option Addr) (cs' cb' : Nat) (w : World) (hr : r.ok) (hs : HB w (.slice As r.sb.length cs') r.sb) (hb : HB w (.slice Ab r.bb.length cb') r.bb) (i0 q0 : Bool) (RO : Req) (hro : RO.ok) (hFo : ∀ W, HB W (.slice As r.sb.length cs') r.sb → HB W (.slice Ab r.bb.length cb') r.bb → Calls Try.prog 50 #[.agg (rcs r (.slice As r.sb.length cs') (.slice Ab r.bb.length cb')).toArray] W fun e w' => ∃ v', e = .returned (.tuple #[v', .bool i0]) ∧ New W w' (Row v' 5 1 (formO r).length (bs (formO r)))) (hOn : ∀ W, HB W (.slice As r.sb.length cs') r.sb → HB W (.slice Ab r.bb.length cb') r.bb → Calls Try.prog 58 #[.agg (rcs r (.slice As r.sb.length cs') (.slice Ab r.bb.length cb')).toArray] W fun e w' => ∃ A n p B m q, e = .returned (.agg (rcs RO (.slice A n p) (.slice B m q)).toArray) ∧ HB w' (.slice A n p) RO.sb ∧ HB w' (.slice B m q) RO.bb ∧ Below W.heap.size W w') (hq : sameQ r RO = q0) (hi : i0 = true) (hj : q0 = false) :
    Calls Try.prog 33 #[.agg (rcs r (.slice As r.sb.length cs') (.slice Ab r.bb.length cb')).toArray] w fun e w' => e = .returned (.int .i64 290) ∧ Below w.heap.size w w' := by
  have HS := Lib.hid (((St.start w).addF hb.away0).addF hs.away0)
  have HR := Lib.hid hr; have HRO := Lib.hid hro; have HFo := Lib.hid hFo; have HOn := Lib.hid hOn; have HQ := Lib.hid hq
  subst hi hj
  have HD := Lib.hid (show (290 : Int) = 290 from rfl)
  clear hb hs hr hro hFo hOn hq
  go_enter Try.func33, Try.ntmps33
  go_wp2_with (first
    | (refine atd 1 (by rfl) ?_; refine wl (by rfl) (s_bx (l := rcs r (.slice As r.sb.length cs') (.slice Ab r.bb.length cb')) HS.out (by rfl) (by rfl) ?_); intro b1 Wn hS; clear HS; have HS := Lib.hid hS; clear hS)
    | (refine atd 7 (by rfl) ?_; refine wl (by rfl) (s_lda (cs := rcs r (.slice As r.sb.length cs') (.slice Ab r.bb.length cb')) HS.out 0 70 (by rfl) (by rfl) (by rfl) ag56 (by exact rcs_all HR.out (.slice As r.sb.length cs') (.slice Ab r.bb.length cb')) (by exact rcs_length HR.out (.slice As r.sb.length cs') (.slice Ab r.bb.length cb')) ?_))
    | (go_at_call 50; refine (HFo.out _ (HS.out.fact (i := 0) rfl) (HS.out.fact (i := 1) rfl)).mono ?_; rintro e Wn ⟨v50, rfl, hb⟩; have hS := HS.out.take hb; clear hb; clear HS; have HS := Lib.hid hS; clear hS))
  refine wp_region_pi [(0, true), (1, true), (2, false), (3, false), (4, true)] (by kernel_rfl) (by kernel_rfl) rfl (by kernel_rfl) (fun _ _ _ _ _ h => h) (fun w' => St w w' [Blk b1 (rcs r (.slice As r.sb.length cs') (.slice Ab r.bb.length cb')) 56] [fun V => HB V (.slice As r.sb.length cs') r.sb, fun V => HB V (.slice Ab r.bb.length cb') r.bb]) (HS.out.drew.sub 0) ?_
  intro OPS hops
  have hS := HS.out.drew
  clear HS; have HS := Lib.hid hS; clear hS
  iterate 2
    first | (refine wpPi_yield _ (by rw [hops.out]; simp only [List.getElem?_toArray, List.getElem?_cons_succ, List.getElem?_cons_zero]; rfl) (by first | rfl | (rw [hops.out]; rfl)) (fun w' hS => by first | exact run_lda (n := 70) (cs := rcs r (.slice As r.sb.length cs') (.slice Ab r.bb.length cb')) ag56 (by rfl) (by rfl) (hS.range (i := 0) rfl (by rw [rcs_length HR.out]; exact rcs_all HR.out (.slice As r.sb.length cs') (.slice Ab r.bb.length cb'))) (rcs_length HR.out (.slice As r.sb.length cs') (.slice Ab r.bb.length cb')) | (go_simp; rfl)) ?_; simp only [Act.put, List.setIfInBounds_toArray, List.set_cons_succ, List.set_cons_zero]) | (refine wpPi_skip (by rw [hops.out]; simp only [List.getElem?_toArray, List.getElem?_cons_succ, List.getElem?_cons_zero]; rfl) (by first | rfl | (rw [hops.out]; rfl)) ?_; simp only [Act.put, List.setIfInBounds_toArray, List.set_cons_succ, List.set_cons_zero])
  refine wpPi_act (by rw [hops.out]; simp only [List.getElem?_toArray, List.getElem?_cons_succ, List.getElem?_cons_zero]; rfl) (by first | rfl | (rw [hops.out]; rfl)) ?_
  go_simp
  refine (HOn.out _ (HS.out.fact (i := 0) rfl) (HS.out.fact (i := 1) rfl)).mono ?_
  rintro e Wn ⟨A3, n3, p3, B3, m3, q3, rfl, h1, h2, hb⟩
  have hS := HS.out.call hb
  clear HS; have HS := Lib.hid hS; clear hS
  clear hb
  have H1 := Lib.hid h1; have H2 := Lib.hid h2; clear h1 h2
  refine ⟨HS.out.sub 0, ?_⟩
  try simp only [Act.put, List.setIfInBounds_toArray, List.set_cons_succ, List.set_cons_zero]
  refine wpPi_act (by rw [hops.out]; simp only [List.getElem?_toArray, List.getElem?_cons_succ, List.getElem?_cons_zero]; rfl) (by first | rfl | (rw [hops.out]; rfl)) ?_
  go_simp
  refine (same31 r RO _ _ _ _ _ HR.out HRO.out (HS.out.fact (i := 0) rfl) (HS.out.fact (i := 1) rfl) H1.out H2.out).mono ?_
  rintro e Wn ⟨rfl, hb⟩
  rw [HQ.out]
  have hS := HS.out.call hb
  clear HS; have HS := Lib.hid hS; clear hS
  clear hb H1 H2
  refine ⟨HS.out.sub 0, ?_⟩
  try simp only [Act.put, List.setIfInBounds_toArray, List.set_cons_succ, List.set_cons_zero]
  iterate 1
    first | (refine wpPi_yield _ (by rw [hops.out]; simp only [List.getElem?_toArray, List.getElem?_cons_succ, List.getElem?_cons_zero]; rfl) (by first | rfl | (rw [hops.out]; rfl)) (fun w' hS => by first | exact run_lda (n := 70) (cs := rcs r (.slice As r.sb.length cs') (.slice Ab r.bb.length cb')) ag56 (by rfl) (by rfl) (hS.range (i := 0) rfl (by rw [rcs_length HR.out]; exact rcs_all HR.out (.slice As r.sb.length cs') (.slice Ab r.bb.length cb'))) (rcs_length HR.out (.slice As r.sb.length cs') (.slice Ab r.bb.length cb')) | (go_simp; rfl)) ?_; simp only [Act.put, List.setIfInBounds_toArray, List.set_cons_succ, List.set_cons_zero]) | (refine wpPi_skip (by rw [hops.out]; simp only [List.getElem?_toArray, List.getElem?_cons_succ, List.getElem?_cons_zero]; rfl) (by first | rfl | (rw [hops.out]; rfl)) ?_; simp only [Act.put, List.setIfInBounds_toArray, List.set_cons_succ, List.set_cons_zero])
  simp only [wpPi]
  clear OPS hops
  go_wp2_with (first
    | (refine atd 23 (by rfl) ?_; refine wl (by rfl) (s_ld HS.out 1 (by rfl) (by rfl) (by rfl) (by kernel_rfl) (by exact rcs_36 HR.out (.slice As r.sb.length cs') (.slice Ab r.bb.length cb')) ?_))
    | (refine atd 29 (by rfl) ?_; refine wl (by rfl) (s_ld HS.out 1 (by rfl) (by rfl) (by rfl) (by kernel_rfl) (by exact rcs_69 HR.out (.slice As r.sb.length cs') (.slice Ab r.bb.length cb')) ?_)))
  go_ret
  exact ⟨rfl, HS.out.below⟩
set_option maxHeartbeats 1000000 in
set_option maxRecDepth 100000 in
theorem check33c (r : Req) (As Ab : Option Addr) (cs' cb' : Nat) (w : World) (hr : r.ok) (hs : HB w (.slice As r.sb.length cs') r.sb) (hb : HB w (.slice Ab r.bb.length cb') r.bb) (i0 q0 : Bool) (RO : Req) (hro : RO.ok) (hFo : ∀ W, HB W (.slice As r.sb.length cs') r.sb → HB W (.slice Ab r.bb.length cb') r.bb → Calls Try.prog 50 #[.agg (rcs r (.slice As r.sb.length cs') (.slice Ab r.bb.length cb')).toArray] W fun e w' => ∃ v', e = .returned (.tuple #[v', .bool i0]) ∧ New W w' (Row v' 5 1 (formO r).length (bs (formO r)))) (hOn : ∀ W, HB W (.slice As r.sb.length cs') r.sb → HB W (.slice Ab r.bb.length cb') r.bb → Calls Try.prog 58 #[.agg (rcs r (.slice As r.sb.length cs') (.slice Ab r.bb.length cb')).toArray] W fun e w' => ∃ A n p B m q, e = .returned (.agg (rcs RO (.slice A n p) (.slice B m q)).toArray) ∧ HB w' (.slice A n p) RO.sb ∧ HB w' (.slice B m q) RO.bb ∧ Below W.heap.size W w') (hq : sameQ r RO = q0) (hi : i0 = true) (hj : q0 = true) (h1 : 2000 < r.sb.length) :
    Calls Try.prog 33 #[.agg (rcs r (.slice As r.sb.length cs') (.slice Ab r.bb.length cb')).toArray] w fun e w' => e = .returned (.int .i64 290) ∧ Below w.heap.size w w' := by
  have HS := Lib.hid (((St.start w).addF hb.away0).addF hs.away0)
  have HR := Lib.hid hr; have HRO := Lib.hid hro; have HFo := Lib.hid hFo; have HOn := Lib.hid hOn; have HQ := Lib.hid hq
  subst hi hj
  have d1 : decide ((2000 : Int) < (r.sb.length : Int)) = true := decide_eq_true (by omega)
  have HD := Lib.hid (show (290 : Int) = 290 from rfl)
  clear hb hs hr hro hFo hOn hq
  go_enter Try.func33, Try.ntmps33
  go_wp2_with (first
    | (refine atd 1 (by rfl) ?_; refine wl (by rfl) (s_bx (l := rcs r (.slice As r.sb.length cs') (.slice Ab r.bb.length cb')) HS.out (by rfl) (by rfl) ?_); intro b1 Wn hS; clear HS; have HS := Lib.hid hS; clear hS)
    | (refine atd 7 (by rfl) ?_; refine wl (by rfl) (s_lda (cs := rcs r (.slice As r.sb.length cs') (.slice Ab r.bb.length cb')) HS.out 0 70 (by rfl) (by rfl) (by rfl) ag56 (by exact rcs_all HR.out (.slice As r.sb.length cs') (.slice Ab r.bb.length cb')) (by exact rcs_length HR.out (.slice As r.sb.length cs') (.slice Ab r.bb.length cb')) ?_))
    | (go_at_call 50; refine (HFo.out _ (HS.out.fact (i := 0) rfl) (HS.out.fact (i := 1) rfl)).mono ?_; rintro e Wn ⟨v50, rfl, hb⟩; have hS := HS.out.take hb; clear hb; clear HS; have HS := Lib.hid hS; clear hS))
  refine wp_region_pi [(0, true), (1, true), (2, false), (3, false), (4, true)] (by kernel_rfl) (by kernel_rfl) rfl (by kernel_rfl) (fun _ _ _ _ _ h => h) (fun w' => St w w' [Blk b1 (rcs r (.slice As r.sb.length cs') (.slice Ab r.bb.length cb')) 56] [fun V => HB V (.slice As r.sb.length cs') r.sb, fun V => HB V (.slice Ab r.bb.length cb') r.bb]) (HS.out.drew.sub 0) ?_
  intro OPS hops
  have hS := HS.out.drew
  clear HS; have HS := Lib.hid hS; clear hS
  iterate 2
    first | (refine wpPi_yield _ (by rw [hops.out]; simp only [List.getElem?_toArray, List.getElem?_cons_succ, List.getElem?_cons_zero]; rfl) (by first | rfl | (rw [hops.out]; rfl)) (fun w' hS => by first | exact run_lda (n := 70) (cs := rcs r (.slice As r.sb.length cs') (.slice Ab r.bb.length cb')) ag56 (by rfl) (by rfl) (hS.range (i := 0) rfl (by rw [rcs_length HR.out]; exact rcs_all HR.out (.slice As r.sb.length cs') (.slice Ab r.bb.length cb'))) (rcs_length HR.out (.slice As r.sb.length cs') (.slice Ab r.bb.length cb')) | (go_simp; rfl)) ?_; simp only [Act.put, List.setIfInBounds_toArray, List.set_cons_succ, List.set_cons_zero]) | (refine wpPi_skip (by rw [hops.out]; simp only [List.getElem?_toArray, List.getElem?_cons_succ, List.getElem?_cons_zero]; rfl) (by first | rfl | (rw [hops.out]; rfl)) ?_; simp only [Act.put, List.setIfInBounds_toArray, List.set_cons_succ, List.set_cons_zero])
  refine wpPi_act (by rw [hops.out]; simp only [List.getElem?_toArray, List.getElem?_cons_succ, List.getElem?_cons_zero]; rfl) (by first | rfl | (rw [hops.out]; rfl)) ?_
  go_simp
  refine (HOn.out _ (HS.out.fact (i := 0) rfl) (HS.out.fact (i := 1) rfl)).mono ?_
  rintro e Wn ⟨A3, n3, p3, B3, m3, q3, rfl, h1, h2, hb⟩
  have hS := HS.out.call hb
  clear HS; have HS := Lib.hid hS; clear hS
  clear hb
  have H1 := Lib.hid h1; have H2 := Lib.hid h2; clear h1 h2
  refine ⟨HS.out.sub 0, ?_⟩
  try simp only [Act.put, List.setIfInBounds_toArray, List.set_cons_succ, List.set_cons_zero]
  refine wpPi_act (by rw [hops.out]; simp only [List.getElem?_toArray, List.getElem?_cons_succ, List.getElem?_cons_zero]; rfl) (by first | rfl | (rw [hops.out]; rfl)) ?_
  go_simp
  refine (same31 r RO _ _ _ _ _ HR.out HRO.out (HS.out.fact (i := 0) rfl) (HS.out.fact (i := 1) rfl) H1.out H2.out).mono ?_
  rintro e Wn ⟨rfl, hb⟩
  rw [HQ.out]
  have hS := HS.out.call hb
  clear HS; have HS := Lib.hid hS; clear hS
  clear hb H1 H2
  refine ⟨HS.out.sub 0, ?_⟩
  try simp only [Act.put, List.setIfInBounds_toArray, List.set_cons_succ, List.set_cons_zero]
  iterate 1
    first | (refine wpPi_yield _ (by rw [hops.out]; simp only [List.getElem?_toArray, List.getElem?_cons_succ, List.getElem?_cons_zero]; rfl) (by first | rfl | (rw [hops.out]; rfl)) (fun w' hS => by first | exact run_lda (n := 70) (cs := rcs r (.slice As r.sb.length cs') (.slice Ab r.bb.length cb')) ag56 (by rfl) (by rfl) (hS.range (i := 0) rfl (by rw [rcs_length HR.out]; exact rcs_all HR.out (.slice As r.sb.length cs') (.slice Ab r.bb.length cb'))) (rcs_length HR.out (.slice As r.sb.length cs') (.slice Ab r.bb.length cb')) | (go_simp; rfl)) ?_; simp only [Act.put, List.setIfInBounds_toArray, List.set_cons_succ, List.set_cons_zero]) | (refine wpPi_skip (by rw [hops.out]; simp only [List.getElem?_toArray, List.getElem?_cons_succ, List.getElem?_cons_zero]; rfl) (by first | rfl | (rw [hops.out]; rfl)) ?_; simp only [Act.put, List.setIfInBounds_toArray, List.set_cons_succ, List.set_cons_zero])
  simp only [wpPi]
  clear OPS hops
  go_wp2_with (first
    | (refine atd 23 (by rfl) ?_; refine wl (by rfl) (s_ld HS.out 1 (by rfl) (by rfl) (by rfl) (by kernel_rfl) (by exact rcs_36 HR.out (.slice As r.sb.length cs') (.slice Ab r.bb.length cb')) ?_))
    | (refine atd 29 (by rfl) ?_; refine wl (by rfl) (s_ld HS.out 1 (by rfl) (by rfl) (by rfl) (by kernel_rfl) (by exact rcs_69 HR.out (.slice As r.sb.length cs') (.slice Ab r.bb.length cb')) ?_)))
  go_ret
  exact ⟨rfl, HS.out.below⟩
set_option maxHeartbeats 1000000 in
set_option maxRecDepth 100000 in
theorem check33d (r : Req) (As Ab : Option Addr) (cs' cb' : Nat) (w : World) (hr : r.ok) (hs : HB w (.slice As r.sb.length cs') r.sb) (hb : HB w (.slice Ab r.bb.length cb') r.bb) (i0 q0 : Bool) (RO : Req) (hro : RO.ok) (hFo : ∀ W, HB W (.slice As r.sb.length cs') r.sb → HB W (.slice Ab r.bb.length cb') r.bb → Calls Try.prog 50 #[.agg (rcs r (.slice As r.sb.length cs') (.slice Ab r.bb.length cb')).toArray] W fun e w' => ∃ v', e = .returned (.tuple #[v', .bool i0]) ∧ New W w' (Row v' 5 1 (formO r).length (bs (formO r)))) (hOn : ∀ W, HB W (.slice As r.sb.length cs') r.sb → HB W (.slice Ab r.bb.length cb') r.bb → Calls Try.prog 58 #[.agg (rcs r (.slice As r.sb.length cs') (.slice Ab r.bb.length cb')).toArray] W fun e w' => ∃ A n p B m q, e = .returned (.agg (rcs RO (.slice A n p) (.slice B m q)).toArray) ∧ HB w' (.slice A n p) RO.sb ∧ HB w' (.slice B m q) RO.bb ∧ Below W.heap.size W w') (hq : sameQ r RO = q0) (hi : i0 = true) (hj : q0 = true) (h1 : ¬ 2000 < r.sb.length) (h2 : 200000 < r.bb.length) :
    Calls Try.prog 33 #[.agg (rcs r (.slice As r.sb.length cs') (.slice Ab r.bb.length cb')).toArray] w fun e w' => e = .returned (.int .i64 290) ∧ Below w.heap.size w w' := by
  have HS := Lib.hid (((St.start w).addF hb.away0).addF hs.away0)
  have HR := Lib.hid hr; have HRO := Lib.hid hro; have HFo := Lib.hid hFo; have HOn := Lib.hid hOn; have HQ := Lib.hid hq
  subst hi hj
  have d1 : decide ((2000 : Int) < (r.sb.length : Int)) = false := decide_eq_false (by omega)
  have d2 : decide ((200000 : Int) < (r.bb.length : Int)) = true := decide_eq_true (by omega)
  have HD := Lib.hid (show (290 : Int) = 290 from rfl)
  clear hb hs hr hro hFo hOn hq
  go_enter Try.func33, Try.ntmps33
  go_wp2_with (first
    | (refine atd 1 (by rfl) ?_; refine wl (by rfl) (s_bx (l := rcs r (.slice As r.sb.length cs') (.slice Ab r.bb.length cb')) HS.out (by rfl) (by rfl) ?_); intro b1 Wn hS; clear HS; have HS := Lib.hid hS; clear hS)
    | (refine atd 7 (by rfl) ?_; refine wl (by rfl) (s_lda (cs := rcs r (.slice As r.sb.length cs') (.slice Ab r.bb.length cb')) HS.out 0 70 (by rfl) (by rfl) (by rfl) ag56 (by exact rcs_all HR.out (.slice As r.sb.length cs') (.slice Ab r.bb.length cb')) (by exact rcs_length HR.out (.slice As r.sb.length cs') (.slice Ab r.bb.length cb')) ?_))
    | (go_at_call 50; refine (HFo.out _ (HS.out.fact (i := 0) rfl) (HS.out.fact (i := 1) rfl)).mono ?_; rintro e Wn ⟨v50, rfl, hb⟩; have hS := HS.out.take hb; clear hb; clear HS; have HS := Lib.hid hS; clear hS))
  refine wp_region_pi [(0, true), (1, true), (2, false), (3, false), (4, true)] (by kernel_rfl) (by kernel_rfl) rfl (by kernel_rfl) (fun _ _ _ _ _ h => h) (fun w' => St w w' [Blk b1 (rcs r (.slice As r.sb.length cs') (.slice Ab r.bb.length cb')) 56] [fun V => HB V (.slice As r.sb.length cs') r.sb, fun V => HB V (.slice Ab r.bb.length cb') r.bb]) (HS.out.drew.sub 0) ?_
  intro OPS hops
  have hS := HS.out.drew
  clear HS; have HS := Lib.hid hS; clear hS
  iterate 2
    first | (refine wpPi_yield _ (by rw [hops.out]; simp only [List.getElem?_toArray, List.getElem?_cons_succ, List.getElem?_cons_zero]; rfl) (by first | rfl | (rw [hops.out]; rfl)) (fun w' hS => by first | exact run_lda (n := 70) (cs := rcs r (.slice As r.sb.length cs') (.slice Ab r.bb.length cb')) ag56 (by rfl) (by rfl) (hS.range (i := 0) rfl (by rw [rcs_length HR.out]; exact rcs_all HR.out (.slice As r.sb.length cs') (.slice Ab r.bb.length cb'))) (rcs_length HR.out (.slice As r.sb.length cs') (.slice Ab r.bb.length cb')) | (go_simp; rfl)) ?_; simp only [Act.put, List.setIfInBounds_toArray, List.set_cons_succ, List.set_cons_zero]) | (refine wpPi_skip (by rw [hops.out]; simp only [List.getElem?_toArray, List.getElem?_cons_succ, List.getElem?_cons_zero]; rfl) (by first | rfl | (rw [hops.out]; rfl)) ?_; simp only [Act.put, List.setIfInBounds_toArray, List.set_cons_succ, List.set_cons_zero])
  refine wpPi_act (by rw [hops.out]; simp only [List.getElem?_toArray, List.getElem?_cons_succ, List.getElem?_cons_zero]; rfl) (by first | rfl | (rw [hops.out]; rfl)) ?_
  go_simp
  refine (HOn.out _ (HS.out.fact (i := 0) rfl) (HS.out.fact (i := 1) rfl)).mono ?_
  rintro e Wn ⟨A3, n3, p3, B3, m3, q3, rfl, h1, h2, hb⟩
  have hS := HS.out.call hb
  clear HS; have HS := Lib.hid hS; clear hS
  clear hb
  have H1 := Lib.hid h1; have H2 := Lib.hid h2; clear h1 h2
  refine ⟨HS.out.sub 0, ?_⟩
  try simp only [Act.put, List.setIfInBounds_toArray, List.set_cons_succ, List.set_cons_zero]
  refine wpPi_act (by rw [hops.out]; simp only [List.getElem?_toArray, List.getElem?_cons_succ, List.getElem?_cons_zero]; rfl) (by first | rfl | (rw [hops.out]; rfl)) ?_
  go_simp
  refine (same31 r RO _ _ _ _ _ HR.out HRO.out (HS.out.fact (i := 0) rfl) (HS.out.fact (i := 1) rfl) H1.out H2.out).mono ?_
  rintro e Wn ⟨rfl, hb⟩
  rw [HQ.out]
  have hS := HS.out.call hb
  clear HS; have HS := Lib.hid hS; clear hS
  clear hb H1 H2
  refine ⟨HS.out.sub 0, ?_⟩
  try simp only [Act.put, List.setIfInBounds_toArray, List.set_cons_succ, List.set_cons_zero]
  iterate 1
    first | (refine wpPi_yield _ (by rw [hops.out]; simp only [List.getElem?_toArray, List.getElem?_cons_succ, List.getElem?_cons_zero]; rfl) (by first | rfl | (rw [hops.out]; rfl)) (fun w' hS => by first | exact run_lda (n := 70) (cs := rcs r (.slice As r.sb.length cs') (.slice Ab r.bb.length cb')) ag56 (by rfl) (by rfl) (hS.range (i := 0) rfl (by rw [rcs_length HR.out]; exact rcs_all HR.out (.slice As r.sb.length cs') (.slice Ab r.bb.length cb'))) (rcs_length HR.out (.slice As r.sb.length cs') (.slice Ab r.bb.length cb')) | (go_simp; rfl)) ?_; simp only [Act.put, List.setIfInBounds_toArray, List.set_cons_succ, List.set_cons_zero]) | (refine wpPi_skip (by rw [hops.out]; simp only [List.getElem?_toArray, List.getElem?_cons_succ, List.getElem?_cons_zero]; rfl) (by first | rfl | (rw [hops.out]; rfl)) ?_; simp only [Act.put, List.setIfInBounds_toArray, List.set_cons_succ, List.set_cons_zero])
  simp only [wpPi]
  clear OPS hops
  go_wp2_with (first
    | (refine atd 23 (by rfl) ?_; refine wl (by rfl) (s_ld HS.out 1 (by rfl) (by rfl) (by rfl) (by kernel_rfl) (by exact rcs_36 HR.out (.slice As r.sb.length cs') (.slice Ab r.bb.length cb')) ?_))
    | (refine atd 29 (by rfl) ?_; refine wl (by rfl) (s_ld HS.out 1 (by rfl) (by rfl) (by rfl) (by kernel_rfl) (by exact rcs_69 HR.out (.slice As r.sb.length cs') (.slice Ab r.bb.length cb')) ?_)))
  go_ret
  exact ⟨rfl, HS.out.below⟩
set_option maxHeartbeats 1000000 in
set_option maxRecDepth 100000 in
theorem check33e (r : Req) (As Ab : Option Addr) (cs' cb' : Nat) (w : World) (hr : r.ok) (hs : HB w (.slice As r.sb.length cs') r.sb) (hb : HB w (.slice Ab r.bb.length cb') r.bb) (i0 q0 : Bool) (RO : Req) (hro : RO.ok) (hFo : ∀ W, HB W (.slice As r.sb.length cs') r.sb → HB W (.slice Ab r.bb.length cb') r.bb → Calls Try.prog 50 #[.agg (rcs r (.slice As r.sb.length cs') (.slice Ab r.bb.length cb')).toArray] W fun e w' => ∃ v', e = .returned (.tuple #[v', .bool i0]) ∧ New W w' (Row v' 5 1 (formO r).length (bs (formO r)))) (hOn : ∀ W, HB W (.slice As r.sb.length cs') r.sb → HB W (.slice Ab r.bb.length cb') r.bb → Calls Try.prog 58 #[.agg (rcs r (.slice As r.sb.length cs') (.slice Ab r.bb.length cb')).toArray] W fun e w' => ∃ A n p B m q, e = .returned (.agg (rcs RO (.slice A n p) (.slice B m q)).toArray) ∧ HB w' (.slice A n p) RO.sb ∧ HB w' (.slice B m q) RO.bb ∧ Below W.heap.size W w') (hq : sameQ r RO = q0) (hi : i0 = true) (hj : q0 = true) (h1 : ¬ 2000 < r.sb.length) (h2 : ¬ 200000 < r.bb.length) :
    Calls Try.prog 33 #[.agg (rcs r (.slice As r.sb.length cs') (.slice Ab r.bb.length cb')).toArray] w fun e w' => e = .returned (.int .i64 0) ∧ Below w.heap.size w w' := by
  have HS := Lib.hid (((St.start w).addF hb.away0).addF hs.away0)
  have HR := Lib.hid hr; have HRO := Lib.hid hro; have HFo := Lib.hid hFo; have HOn := Lib.hid hOn; have HQ := Lib.hid hq
  subst hi hj
  have d1 : decide ((2000 : Int) < (r.sb.length : Int)) = false := decide_eq_false (by omega)
  have d2 : decide ((200000 : Int) < (r.bb.length : Int)) = false := decide_eq_false (by omega)
  have HD := Lib.hid (show (0 : Int) = 0 from rfl)
  clear hb hs hr hro hFo hOn hq
  go_enter Try.func33, Try.ntmps33
  go_wp2_with (first
    | (refine atd 1 (by rfl) ?_; refine wl (by rfl) (s_bx (l := rcs r (.slice As r.sb.length cs') (.slice Ab r.bb.length cb')) HS.out (by rfl) (by rfl) ?_); intro b1 Wn hS; clear HS; have HS := Lib.hid hS; clear hS)
    | (refine atd 7 (by rfl) ?_; refine wl (by rfl) (s_lda (cs := rcs r (.slice As r.sb.length cs') (.slice Ab r.bb.length cb')) HS.out 0 70 (by rfl) (by rfl) (by rfl) ag56 (by exact rcs_all HR.out (.slice As r.sb.length cs') (.slice Ab r.bb.length cb')) (by exact rcs_length HR.out (.slice As r.sb.length cs') (.slice Ab r.bb.length cb')) ?_))
    | (go_at_call 50; refine (HFo.out _ (HS.out.fact (i := 0) rfl) (HS.out.fact (i := 1) rfl)).mono ?_; rintro e Wn ⟨v50, rfl, hb⟩; have hS := HS.out.take hb; clear hb; clear HS; have HS := Lib.hid hS; clear hS))
  refine wp_region_pi [(0, true), (1, true), (2, false), (3, false), (4, true)] (by kernel_rfl) (by kernel_rfl) rfl (by kernel_rfl) (fun _ _ _ _ _ h => h) (fun w' => St w w' [Blk b1 (rcs r (.slice As r.sb.length cs') (.slice Ab r.bb.length cb')) 56] [fun V => HB V (.slice As r.sb.length cs') r.sb, fun V => HB V (.slice Ab r.bb.length cb') r.bb]) (HS.out.drew.sub 0) ?_
  intro OPS hops
  have hS := HS.out.drew
  clear HS; have HS := Lib.hid hS; clear hS
  iterate 2
    first | (refine wpPi_yield _ (by rw [hops.out]; simp only [List.getElem?_toArray, List.getElem?_cons_succ, List.getElem?_cons_zero]; rfl) (by first | rfl | (rw [hops.out]; rfl)) (fun w' hS => by first | exact run_lda (n := 70) (cs := rcs r (.slice As r.sb.length cs') (.slice Ab r.bb.length cb')) ag56 (by rfl) (by rfl) (hS.range (i := 0) rfl (by rw [rcs_length HR.out]; exact rcs_all HR.out (.slice As r.sb.length cs') (.slice Ab r.bb.length cb'))) (rcs_length HR.out (.slice As r.sb.length cs') (.slice Ab r.bb.length cb')) | (go_simp; rfl)) ?_; simp only [Act.put, List.setIfInBounds_toArray, List.set_cons_succ, List.set_cons_zero]) | (refine wpPi_skip (by rw [hops.out]; simp only [List.getElem?_toArray, List.getElem?_cons_succ, List.getElem?_cons_zero]; rfl) (by first | rfl | (rw [hops.out]; rfl)) ?_; simp only [Act.put, List.setIfInBounds_toArray, List.set_cons_succ, List.set_cons_zero])
  refine wpPi_act (by rw [hops.out]; simp only [List.getElem?_toArray, List.getElem?_cons_succ, List.getElem?_cons_zero]; rfl) (by first | rfl | (rw [hops.out]; rfl)) ?_
  go_simp
  refine (HOn.out _ (HS.out.fact (i := 0) rfl) (HS.out.fact (i := 1) rfl)).mono ?_
  rintro e Wn ⟨A3, n3, p3, B3, m3, q3, rfl, h1, h2, hb⟩
  have hS := HS.out.call hb
  clear HS; have HS := Lib.hid hS; clear hS
  clear hb
  have H1 := Lib.hid h1; have H2 := Lib.hid h2; clear h1 h2
  refine ⟨HS.out.sub 0, ?_⟩
  try simp only [Act.put, List.setIfInBounds_toArray, List.set_cons_succ, List.set_cons_zero]
  refine wpPi_act (by rw [hops.out]; simp only [List.getElem?_toArray, List.getElem?_cons_succ, List.getElem?_cons_zero]; rfl) (by first | rfl | (rw [hops.out]; rfl)) ?_
  go_simp
  refine (same31 r RO _ _ _ _ _ HR.out HRO.out (HS.out.fact (i := 0) rfl) (HS.out.fact (i := 1) rfl) H1.out H2.out).mono ?_
  rintro e Wn ⟨rfl, hb⟩
  rw [HQ.out]
  have hS := HS.out.call hb
  clear HS; have HS := Lib.hid hS; clear hS
  clear hb H1 H2
  refine ⟨HS.out.sub 0, ?_⟩
  try simp only [Act.put, List.setIfInBounds_toArray, List.set_cons_succ, List.set_cons_zero]
  iterate 1
    first | (refine wpPi_yield _ (by rw [hops.out]; simp only [List.getElem?_toArray, List.getElem?_cons_succ, List.getElem?_cons_zero]; rfl) (by first | rfl | (rw [hops.out]; rfl)) (fun w' hS => by first | exact run_lda (n := 70) (cs := rcs r (.slice As r.sb.length cs') (.slice Ab r.bb.length cb')) ag56 (by rfl) (by rfl) (hS.range (i := 0) rfl (by rw [rcs_length HR.out]; exact rcs_all HR.out (.slice As r.sb.length cs') (.slice Ab r.bb.length cb'))) (rcs_length HR.out (.slice As r.sb.length cs') (.slice Ab r.bb.length cb')) | (go_simp; rfl)) ?_; simp only [Act.put, List.setIfInBounds_toArray, List.set_cons_succ, List.set_cons_zero]) | (refine wpPi_skip (by rw [hops.out]; simp only [List.getElem?_toArray, List.getElem?_cons_succ, List.getElem?_cons_zero]; rfl) (by first | rfl | (rw [hops.out]; rfl)) ?_; simp only [Act.put, List.setIfInBounds_toArray, List.set_cons_succ, List.set_cons_zero])
  simp only [wpPi]
  clear OPS hops
  go_wp2_with (first
    | (refine atd 23 (by rfl) ?_; refine wl (by rfl) (s_ld HS.out 1 (by rfl) (by rfl) (by rfl) (by kernel_rfl) (by exact rcs_36 HR.out (.slice As r.sb.length cs') (.slice Ab r.bb.length cb')) ?_))
    | (refine atd 29 (by rfl) ?_; refine wl (by rfl) (s_ld HS.out 1 (by rfl) (by rfl) (by rfl) (by kernel_rfl) (by exact rcs_69 HR.out (.slice As r.sb.length cs') (.slice Ab r.bb.length cb')) ?_)))
  go_ret
  exact ⟨rfl, HS.out.below⟩
theorem check33 (r : Req) (s b : Value) (w : World) (hr : r.ok) (hs : HB w s r.sb) (hb : HB w b r.bb) (hl1 : r.sb.length ≤ 1000000) (hl2 : r.bb.length ≤ 1000000) :
    Calls Try.prog 33 #[.agg (rcs r s b).toArray] w fun e w' => e = .returned (.int .i64 (chkI r)) ∧ Below w.heap.size w w' := by
  obtain ⟨As, cs', rfl, _⟩ := hs.shape
  obtain ⟨Ab, cb', rfl, _⟩ := hb.shape
  have key := fun hx => @check33a r As Ab cs' cb' w hr hs hb (!decide (fldK r.k < 0)) _ (onlyF (fldK r.k) r) (onlyF_ok hr _) (fun W h1 h2 => form50 r _ _ W hr h1 h2 hl1 hl2) (fun W h1 h2 => only58 r _ _ W hr h1 h2) rfl hx
  have key2 := fun hx hy => @check33b r As Ab cs' cb' w hr hs hb (!decide (fldK r.k < 0)) _ (onlyF (fldK r.k) r) (onlyF_ok hr _) (fun W h1 h2 => form50 r _ _ W hr h1 h2 hl1 hl2) (fun W h1 h2 => only58 r _ _ W hr h1 h2) rfl hx hy
  have key3 := fun hx hy hz => @check33c r As Ab cs' cb' w hr hs hb (!decide (fldK r.k < 0)) _ (onlyF (fldK r.k) r) (onlyF_ok hr _) (fun W h1 h2 => form50 r _ _ W hr h1 h2 hl1 hl2) (fun W h1 h2 => only58 r _ _ W hr h1 h2) rfl hx hy hz
  have key4 := fun hx hy hz hu => @check33d r As Ab cs' cb' w hr hs hb (!decide (fldK r.k < 0)) _ (onlyF (fldK r.k) r) (onlyF_ok hr _) (fun W h1 h2 => form50 r _ _ W hr h1 h2 hl1 hl2) (fun W h1 h2 => only58 r _ _ W hr h1 h2) rfl hx hy hz hu
  have key5 := fun hx hy hz hu => @check33e r As Ab cs' cb' w hr hs hb (!decide (fldK r.k < 0)) _ (onlyF (fldK r.k) r) (onlyF_ok hr _) (fun W h1 h2 => form50 r _ _ W hr h1 h2 hl1 hl2) (fun W h1 h2 => only58 r _ _ W hr h1 h2) rfl hx hy hz hu
  rw [← chk_ref r]
  by_cases h0 : fldK r.k < 0
  · rw [decide_eq_true h0] at *
    exact key rfl
  rw [decide_eq_false h0] at *
  cases hq : sameQ r (onlyF (fldK r.k) r) with
  | false => exact key2 rfl hq
  | true =>
    by_cases h1 : 2000 < r.sb.length
    · rw [decide_eq_true h1]
      exact key3 rfl hq h1
    rw [decide_eq_false h1]
    by_cases h2 : 200000 < r.bb.length
    · rw [decide_eq_true h2]
      exact key4 rfl hq h1 h2
    rw [decide_eq_false h2]
    exact key5 rfl hq h1 h2
set_option maxHeartbeats 1000000 in
set_option maxRecDepth 100000 in
theorem enc28n (r : Req) (As Ab : Option Addr) (cs' cb' : Nat) (w : World) (hr : r.ok) (hs : HB w (.slice As r.sb.length cs') r.sb) (hb : HB w (.slice Ab r.bb.length cb') r.bb) (hl1 : r.sb.length ≤ 1000000) (hl2 : r.bb.length ≤ 1000000) (hc : chkI r = 290) :
    Calls Try.prog 28 #[.agg (rcs r (.slice As r.sb.length cs') (.slice Ab r.bb.length cb')).toArray] w fun e w' => ∃ v', e = .returned (.tuple #[v', .int .i64 290]) ∧ New w w' (Row v' 5 1 0 (bs [])) := by
  have HS := Lib.hid (((St.start w).addF hb.away0).addF hs.away0)
  have HR := Lib.hid hr; have HC := Lib.hid hc; have HL1 := Lib.hid hl1; have HL2 := Lib.hid hl2
  clear hb hs hr hc hl1 hl2
  go_enter Try.func28, Try.ntmps28
  go_wp2_with (first
    | (refine atd 1 (by rfl) ?_; refine wl (by rfl) (s_bx (l := rcs r (.slice As r.sb.length cs') (.slice Ab r.bb.length cb')) HS.out (by rfl) (by rfl) ?_); intro b1 Wn hS; clear HS; have HS := Lib.hid hS; clear hS)
    | (refine atd 6 (by rfl) ?_; refine wl (by rfl) (s_lda (cs := rcs r (.slice As r.sb.length cs') (.slice Ab r.bb.length cb')) HS.out 0 70 (by rfl) (by rfl) (by rfl) ag56 (by exact rcs_all HR.out (.slice As r.sb.length cs') (.slice Ab r.bb.length cb')) (by exact rcs_length HR.out (.slice As r.sb.length cs') (.slice Ab r.bb.length cb')) ?_))
    | (refine atd 10 (by rfl) ?_; refine wl (by rfl) (s_lda (cs := rcs r (.slice As r.sb.length cs') (.slice Ab r.bb.length cb')) HS.out 0 70 (by rfl) (by rfl) (by rfl) ag56 (by exact rcs_all HR.out (.slice As r.sb.length cs') (.slice Ab r.bb.length cb')) (by exact rcs_length HR.out (.slice As r.sb.length cs') (.slice Ab r.bb.length cb')) ?_))
    | (go_at_call 33; refine (check33 r _ _ _ HR.out (HS.out.fact (i := 0) rfl) (HS.out.fact (i := 1) rfl) HL1.out HL2.out).mono ?_; rintro e Wn ⟨rfl, hb⟩; rw [HC.out]; have hS := HS.out.call hb; clear hb; clear HS; have HS := Lib.hid hS; clear hS))
  go_ret2
  exact ⟨_, rfl, HS.out.nilRow.give 0 rfl⟩
set_option maxHeartbeats 1000000 in
set_option maxRecDepth 100000 in
theorem enc28y (r : Req) (As Ab : Option Addr) (cs' cb' : Nat) (w : World) (hr : r.ok) (hs : HB w (.slice As r.sb.length cs') r.sb) (hb : HB w (.slice Ab r.bb.length cb') r.bb) (hl1 : r.sb.length ≤ 1000000) (hl2 : r.bb.length ≤ 1000000) (hc : chkI r = 0) (hf : formO r = encQ r) :
    Calls Try.prog 28 #[.agg (rcs r (.slice As r.sb.length cs') (.slice Ab r.bb.length cb')).toArray] w fun e w' => ∃ v', e = .returned (.tuple #[v', .int .i64 0]) ∧ New w w' (Row v' 5 1 (encQ r).length (bs (encQ r))) := by
  have HS := Lib.hid (((St.start w).addF hb.away0).addF hs.away0)
  have HR := Lib.hid hr; have HC := Lib.hid hc; have HL1 := Lib.hid hl1; have HL2 := Lib.hid hl2
  have HF := Lib.hid hf
  clear hf
  clear hb hs hr hc hl1 hl2
  go_enter Try.func28, Try.ntmps28
  go_wp2_with (first
    | (refine atd 1 (by rfl) ?_; refine wl (by rfl) (s_bx (l := rcs r (.slice As r.sb.length cs') (.slice Ab r.bb.length cb')) HS.out (by rfl) (by rfl) ?_); intro b1 Wn hS; clear HS; have HS := Lib.hid hS; clear hS)
    | (refine atd 6 (by rfl) ?_; refine wl (by rfl) (s_lda (cs := rcs r (.slice As r.sb.length cs') (.slice Ab r.bb.length cb')) HS.out 0 70 (by rfl) (by rfl) (by rfl) ag56 (by exact rcs_all HR.out (.slice As r.sb.length cs') (.slice Ab r.bb.length cb')) (by exact rcs_length HR.out (.slice As r.sb.length cs') (.slice Ab r.bb.length cb')) ?_))
    | (refine atd 10 (by rfl) ?_; refine wl (by rfl) (s_lda (cs := rcs r (.slice As r.sb.length cs') (.slice Ab r.bb.length cb')) HS.out 0 70 (by rfl) (by rfl) (by rfl) ag56 (by exact rcs_all HR.out (.slice As r.sb.length cs') (.slice Ab r.bb.length cb')) (by exact rcs_length HR.out (.slice As r.sb.length cs') (.slice Ab r.bb.length cb')) ?_))
    | (go_at_call 33; refine (check33 r _ _ _ HR.out (HS.out.fact (i := 0) rfl) (HS.out.fact (i := 1) rfl) HL1.out HL2.out).mono ?_; rintro e Wn ⟨rfl, hb⟩; rw [HC.out]; have hS := HS.out.call hb; clear hb; clear HS; have HS := Lib.hid hS; clear hS)
    | (go_at_call 50; refine (form50 r _ _ _ HR.out (HS.out.fact (i := 0) rfl) (HS.out.fact (i := 1) rfl) HL1.out HL2.out).mono ?_; rintro e Wn ⟨v50, rfl, hb⟩; rw [HF.out] at hb; have hS := HS.out.take hb; clear hb; clear HS; have HS := Lib.hid hS; clear hS))
  go_ret2
  exact ⟨_, rfl, HS.out.give 0 rfl⟩
theorem enc28 (r : Req) (s b : Value) (w : World) (hr : r.ok) (hs : HB w s r.sb) (hb : HB w b r.bb) (hl1 : r.sb.length ≤ 1000000) (hl2 : r.bb.length ≤ 1000000) :
    Calls Try.prog 28 #[.agg (rcs r s b).toArray] w fun e w' => ∃ v', e = .returned (.tuple #[v', .int .i64 (chkI r)]) ∧ New w w' (Row v' 5 1 (encOQ r).length (bs (encOQ r))) := by
  obtain ⟨As, cs', rfl, _⟩ := hs.shape
  obtain ⟨Ab, cb', rfl, _⟩ := hb.shape
  unfold encOQ
  cases hc : chkQ r with
  | false =>
    have h1 : chkI r = 290 := by unfold chkI; rw [hc]; rfl
    rw [h1]
    exact enc28n r As Ab cs' cb' w hr hs hb hl1 hl2 h1
  | true =>
    have h1 : chkI r = 0 := by unfold chkI; rw [hc]; rfl
    rw [h1, if_pos rfl]
    exact enc28y r As Ab cs' cb' w hr hs hb hl1 hl2 h1 (by unfold formO; rw [if_neg (chkQ_iff.1 hc).1])
end
end Go.Proofs.Ytlpklbpaknemaaa
