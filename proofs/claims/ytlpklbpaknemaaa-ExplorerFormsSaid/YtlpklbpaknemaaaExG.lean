/- Contracts and words that the laws stand on (ExG). -/
import Derived.Test.YtlpklbpaknemaaaExA
set_option linter.unusedVariables false
set_option linter.unusedSimpArgs false
namespace Go.Proofs.Ytlpklbpaknemaaa
section
open Go Go.RowKit Go.Proofs
attribute [local irreducible] Calls

/-- Whether two requests are the same. -/
def sameQ (a b : Req) : Bool := (a.k == b.k) && ((decide (a.tx = b.tx)) && (((a.n : Int) == (b.n : Int)) && (((a.h : Int) == (b.h : Int)) && (((a.m : Int) == (b.m : Int)) && ((a.sb == b.sb) && ((decide (a.ha = b.ha)) && (a.bb == b.bb)))))))
end
section
open Go Go.RowKit Go.Proofs
attribute [local irreducible] Calls
set_option maxHeartbeats 6000000 in
set_option maxRecDepth 100000 in
theorem same31_a (a b : Req) (A1 A2 A3 A4 : Option Addr) (c1 c2 c3 c4 : Nat) (w : World) (ha : a.ok) (hb : b.ok) (h1 : HB w (.slice A1 a.sb.length c1) a.sb) (h2 : HB w (.slice A2 a.bb.length c2) a.bb) (h3 : HB w (.slice A3 b.sb.length c3) b.sb) (h4 : HB w (.slice A4 b.bb.length c4) b.bb) (q0 : (a.k == b.k) = false) :
    Calls Try.prog 31 #[.agg (rcs a (.slice A1 a.sb.length c1) (.slice A2 a.bb.length c2)).toArray, .agg (rcs b (.slice A3 b.sb.length c3) (.slice A4 b.bb.length c4)).toArray] w fun e w' => e = .returned (.bool false) ∧ Below w.heap.size w w' := by
  have HS := Lib.hid (((((St.start w).addF h4.away0).addF h3.away0).addF h2.away0).addF h1.away0)
  clear h1 h2 h3 h4
  have Ha := Lib.hid ha; have Hb := Lib.hid hb
  have x1 := pt_get ha; have x2 := pt_get hb
  clear ha hb
  go_enter Try.func31, Try.ntmps31
  go_wp2_with (first | (refine atd 2 (by rfl) ?_; refine wl (by rfl) (s_bx (l := rcs a (.slice A1 a.sb.length c1) (.slice A2 a.bb.length c2)) HS.out (by rfl) (by rfl) ?_); intro b2 Wn hS; clear HS; have HS := Lib.hid hS; clear hS) | (refine atd 3 (by rfl) ?_; refine wl (by rfl) (s_bx (l := rcs b (.slice A3 b.sb.length c3) (.slice A4 b.bb.length c4)) HS.out (by rfl) (by rfl) ?_); intro b3 Wn hS; clear HS; have HS := Lib.hid hS; clear hS) | (refine atd 6 (by rfl) ?_; refine wl (by rfl) (s_ld HS.out 1 (by rfl) (by rfl) (by rfl) (by kernel_rfl) (by exact rcs_0 (r := a) (.slice A1 a.sb.length c1) (.slice A2 a.bb.length c2)) ?_)) | (refine atd 8 (by rfl) ?_; refine wl (by rfl) (s_ld HS.out 0 (by rfl) (by rfl) (by rfl) (by kernel_rfl) (by exact rcs_0 (r := b) (.slice A3 b.sb.length c3) (.slice A4 b.bb.length c4)) ?_)) | (refine atd 11 (by rfl) ?_; go_wp2_with fail))
  go_ret
  exact ⟨rfl, HS.out.below⟩
end
section
open Go Go.RowKit Go.Proofs
attribute [local irreducible] Calls
set_option maxHeartbeats 6000000 in
set_option maxRecDepth 100000 in
theorem same31_b (a b : Req) (A1 A2 A3 A4 : Option Addr) (c1 c2 c3 c4 : Nat) (w : World) (ha : a.ok) (hb : b.ok) (h1 : HB w (.slice A1 a.sb.length c1) a.sb) (h2 : HB w (.slice A2 a.bb.length c2) a.bb) (h3 : HB w (.slice A3 b.sb.length c3) b.sb) (h4 : HB w (.slice A4 b.bb.length c4) b.bb) (q0 : (a.k == b.k) = true) (q1 : decide (a.tx = b.tx) = false) :
    Calls Try.prog 31 #[.agg (rcs a (.slice A1 a.sb.length c1) (.slice A2 a.bb.length c2)).toArray, .agg (rcs b (.slice A3 b.sb.length c3) (.slice A4 b.bb.length c4)).toArray] w fun e w' => e = .returned (.bool false) ∧ Below w.heap.size w w' := by
  have HS := Lib.hid (((((St.start w).addF h4.away0).addF h3.away0).addF h2.away0).addF h1.away0)
  clear h1 h2 h3 h4
  have Ha := Lib.hid ha; have Hb := Lib.hid hb
  have x1 := pt_get ha; have x2 := pt_get hb
  have hq : ∀ W, (Op.equalIn 9999 52 (.agg (List.take 32 (bs a.tx ++ [Value.int .u32 (a.n : Int)])).toArray) (.agg (List.take 32 (bs b.tx ++ [Value.int .u32 (b.n : Int)])).toArray)).run Try.prog W = .ok false W := fun W => by
    rw [take_pt _ _ ha.tx, take_pt _ _ hb.tx, ← q1]
    exact eq52 9997 a.tx b.tx ha.tx hb.tx W
  clear ha hb q1
  go_enter Try.func31, Try.ntmps31
  go_wp2_with (first | (refine atd 2 (by rfl) ?_; refine wl (by rfl) (s_bx (l := rcs a (.slice A1 a.sb.length c1) (.slice A2 a.bb.length c2)) HS.out (by rfl) (by rfl) ?_); intro b2 Wn hS; clear HS; have HS := Lib.hid hS; clear hS) | (refine atd 3 (by rfl) ?_; refine wl (by rfl) (s_bx (l := rcs b (.slice A3 b.sb.length c3) (.slice A4 b.bb.length c4)) HS.out (by rfl) (by rfl) ?_); intro b3 Wn hS; clear HS; have HS := Lib.hid hS; clear hS) | (refine atd 6 (by rfl) ?_; refine wl (by rfl) (s_ld HS.out 1 (by rfl) (by rfl) (by rfl) (by kernel_rfl) (by exact rcs_0 (r := a) (.slice A1 a.sb.length c1) (.slice A2 a.bb.length c2)) ?_)) | (refine atd 8 (by rfl) ?_; refine wl (by rfl) (s_ld HS.out 0 (by rfl) (by rfl) (by rfl) (by kernel_rfl) (by exact rcs_0 (r := b) (.slice A3 b.sb.length c3) (.slice A4 b.bb.length c4)) ?_)) | (refine atd 11 (by rfl) ?_; go_wp2_with (first | (refine atd 12 (by rfl) ?_; refine wl (by rfl) (s_lda (cs := bs a.tx ++ [Value.int .u32 (a.n : Int)]) HS.out 1 33 (by rfl) (by rfl) (by rfl) ag54 (by exact rcs_pt Ha.out (.slice A1 a.sb.length c1) (.slice A2 a.bb.length c2)) (by exact pt_len Ha.out) ?_)) | (refine atd 14 (by rfl) ?_; refine wl (by rfl) (s_lda (cs := bs b.tx ++ [Value.int .u32 (b.n : Int)]) HS.out 0 33 (by rfl) (by rfl) (by rfl) ag54 (by exact rcs_pt Hb.out (.slice A3 b.sb.length c3) (.slice A4 b.bb.length c4)) (by exact pt_len Hb.out) ?_)) | (refine atd 18 (by rfl) ?_; go_wp2_with fail))))
  go_ret
  exact ⟨rfl, HS.out.below⟩
end
section
open Go Go.RowKit Go.Proofs
attribute [local irreducible] Calls
set_option maxHeartbeats 6000000 in
set_option maxRecDepth 100000 in
theorem same31_c (a b : Req) (A1 A2 A3 A4 : Option Addr) (c1 c2 c3 c4 : Nat) (w : World) (ha : a.ok) (hb : b.ok) (h1 : HB w (.slice A1 a.sb.length c1) a.sb) (h2 : HB w (.slice A2 a.bb.length c2) a.bb) (h3 : HB w (.slice A3 b.sb.length c3) b.sb) (h4 : HB w (.slice A4 b.bb.length c4) b.bb) (q0 : (a.k == b.k) = true) (q1 : decide (a.tx = b.tx) = true) (q2 : ((a.n : Int) == (b.n : Int)) = false) :
    Calls Try.prog 31 #[.agg (rcs a (.slice A1 a.sb.length c1) (.slice A2 a.bb.length c2)).toArray, .agg (rcs b (.slice A3 b.sb.length c3) (.slice A4 b.bb.length c4)).toArray] w fun e w' => e = .returned (.bool false) ∧ Below w.heap.size w w' := by
  have HS := Lib.hid (((((St.start w).addF h4.away0).addF h3.away0).addF h2.away0).addF h1.away0)
  clear h1 h2 h3 h4
  have Ha := Lib.hid ha; have Hb := Lib.hid hb
  have x1 := pt_get ha; have x2 := pt_get hb
  have hq : ∀ W, (Op.equalIn 9999 52 (.agg (List.take 32 (bs a.tx ++ [Value.int .u32 (a.n : Int)])).toArray) (.agg (List.take 32 (bs b.tx ++ [Value.int .u32 (b.n : Int)])).toArray)).run Try.prog W = .ok true W := fun W => by
    rw [take_pt _ _ ha.tx, take_pt _ _ hb.tx, ← q1]
    exact eq52 9997 a.tx b.tx ha.tx hb.tx W
  clear ha hb q1
  go_enter Try.func31, Try.ntmps31
  go_wp2_with (first | (refine atd 2 (by rfl) ?_; refine wl (by rfl) (s_bx (l := rcs a (.slice A1 a.sb.length c1) (.slice A2 a.bb.length c2)) HS.out (by rfl) (by rfl) ?_); intro b2 Wn hS; clear HS; have HS := Lib.hid hS; clear hS) | (refine atd 3 (by rfl) ?_; refine wl (by rfl) (s_bx (l := rcs b (.slice A3 b.sb.length c3) (.slice A4 b.bb.length c4)) HS.out (by rfl) (by rfl) ?_); intro b3 Wn hS; clear HS; have HS := Lib.hid hS; clear hS) | (refine atd 6 (by rfl) ?_; refine wl (by rfl) (s_ld HS.out 1 (by rfl) (by rfl) (by rfl) (by kernel_rfl) (by exact rcs_0 (r := a) (.slice A1 a.sb.length c1) (.slice A2 a.bb.length c2)) ?_)) | (refine atd 8 (by rfl) ?_; refine wl (by rfl) (s_ld HS.out 0 (by rfl) (by rfl) (by rfl) (by kernel_rfl) (by exact rcs_0 (r := b) (.slice A3 b.sb.length c3) (.slice A4 b.bb.length c4)) ?_)) | (refine atd 11 (by rfl) ?_; go_wp2_with (first | (refine atd 12 (by rfl) ?_; refine wl (by rfl) (s_lda (cs := bs a.tx ++ [Value.int .u32 (a.n : Int)]) HS.out 1 33 (by rfl) (by rfl) (by rfl) ag54 (by exact rcs_pt Ha.out (.slice A1 a.sb.length c1) (.slice A2 a.bb.length c2)) (by exact pt_len Ha.out) ?_)) | (refine atd 14 (by rfl) ?_; refine wl (by rfl) (s_lda (cs := bs b.tx ++ [Value.int .u32 (b.n : Int)]) HS.out 0 33 (by rfl) (by rfl) (by rfl) ag54 (by exact rcs_pt Hb.out (.slice A3 b.sb.length c3) (.slice A4 b.bb.length c4)) (by exact pt_len Hb.out) ?_)) | (refine atd 18 (by rfl) ?_; go_wp2_with fail))))
  go_ret
  exact ⟨rfl, HS.out.below⟩
end
section
open Go Go.RowKit Go.Proofs
attribute [local irreducible] Calls
set_option maxHeartbeats 6000000 in
set_option maxRecDepth 100000 in
theorem same31_d (a b : Req) (A1 A2 A3 A4 : Option Addr) (c1 c2 c3 c4 : Nat) (w : World) (ha : a.ok) (hb : b.ok) (h1 : HB w (.slice A1 a.sb.length c1) a.sb) (h2 : HB w (.slice A2 a.bb.length c2) a.bb) (h3 : HB w (.slice A3 b.sb.length c3) b.sb) (h4 : HB w (.slice A4 b.bb.length c4) b.bb) (q0 : (a.k == b.k) = true) (q1 : decide (a.tx = b.tx) = true) (q2 : ((a.n : Int) == (b.n : Int)) = true) (q3 : ((a.h : Int) == (b.h : Int)) = false) :
    Calls Try.prog 31 #[.agg (rcs a (.slice A1 a.sb.length c1) (.slice A2 a.bb.length c2)).toArray, .agg (rcs b (.slice A3 b.sb.length c3) (.slice A4 b.bb.length c4)).toArray] w fun e w' => e = .returned (.bool false) ∧ Below w.heap.size w w' := by
  have HS := Lib.hid (((((St.start w).addF h4.away0).addF h3.away0).addF h2.away0).addF h1.away0)
  clear h1 h2 h3 h4
  have Ha := Lib.hid ha; have Hb := Lib.hid hb
  have x1 := pt_get ha; have x2 := pt_get hb
  have hq : ∀ W, (Op.equalIn 9999 52 (.agg (List.take 32 (bs a.tx ++ [Value.int .u32 (a.n : Int)])).toArray) (.agg (List.take 32 (bs b.tx ++ [Value.int .u32 (b.n : Int)])).toArray)).run Try.prog W = .ok true W := fun W => by
    rw [take_pt _ _ ha.tx, take_pt _ _ hb.tx, ← q1]
    exact eq52 9997 a.tx b.tx ha.tx hb.tx W
  clear ha hb q1
  go_enter Try.func31, Try.ntmps31
  go_wp2_with (first | (refine atd 2 (by rfl) ?_; refine wl (by rfl) (s_bx (l := rcs a (.slice A1 a.sb.length c1) (.slice A2 a.bb.length c2)) HS.out (by rfl) (by rfl) ?_); intro b2 Wn hS; clear HS; have HS := Lib.hid hS; clear hS) | (refine atd 3 (by rfl) ?_; refine wl (by rfl) (s_bx (l := rcs b (.slice A3 b.sb.length c3) (.slice A4 b.bb.length c4)) HS.out (by rfl) (by rfl) ?_); intro b3 Wn hS; clear HS; have HS := Lib.hid hS; clear hS) | (refine atd 6 (by rfl) ?_; refine wl (by rfl) (s_ld HS.out 1 (by rfl) (by rfl) (by rfl) (by kernel_rfl) (by exact rcs_0 (r := a) (.slice A1 a.sb.length c1) (.slice A2 a.bb.length c2)) ?_)) | (refine atd 8 (by rfl) ?_; refine wl (by rfl) (s_ld HS.out 0 (by rfl) (by rfl) (by rfl) (by kernel_rfl) (by exact rcs_0 (r := b) (.slice A3 b.sb.length c3) (.slice A4 b.bb.length c4)) ?_)) | (refine atd 11 (by rfl) ?_; go_wp2_with (first | (refine atd 12 (by rfl) ?_; refine wl (by rfl) (s_lda (cs := bs a.tx ++ [Value.int .u32 (a.n : Int)]) HS.out 1 33 (by rfl) (by rfl) (by rfl) ag54 (by exact rcs_pt Ha.out (.slice A1 a.sb.length c1) (.slice A2 a.bb.length c2)) (by exact pt_len Ha.out) ?_)) | (refine atd 14 (by rfl) ?_; refine wl (by rfl) (s_lda (cs := bs b.tx ++ [Value.int .u32 (b.n : Int)]) HS.out 0 33 (by rfl) (by rfl) (by rfl) ag54 (by exact rcs_pt Hb.out (.slice A3 b.sb.length c3) (.slice A4 b.bb.length c4)) (by exact pt_len Hb.out) ?_)) | (refine atd 18 (by rfl) ?_; go_wp2_with (first | (refine atd 19 (by rfl) ?_; refine wl (by rfl) (s_ld HS.out 1 (by rfl) (by rfl) (by rfl) (by kernel_rfl) (by exact rcs_34 Ha.out (.slice A1 a.sb.length c1) (.slice A2 a.bb.length c2)) ?_)) | (refine atd 21 (by rfl) ?_; refine wl (by rfl) (s_ld HS.out 0 (by rfl) (by rfl) (by rfl) (by kernel_rfl) (by exact rcs_34 Hb.out (.slice A3 b.sb.length c3) (.slice A4 b.bb.length c4)) ?_)) | (refine atd 25 (by rfl) ?_; go_wp2_with fail))))))
  go_ret
  exact ⟨rfl, HS.out.below⟩
end
section
open Go Go.RowKit Go.Proofs
attribute [local irreducible] Calls
set_option maxHeartbeats 6000000 in
set_option maxRecDepth 100000 in
theorem same31_e (a b : Req) (A1 A2 A3 A4 : Option Addr) (c1 c2 c3 c4 : Nat) (w : World) (ha : a.ok) (hb : b.ok) (h1 : HB w (.slice A1 a.sb.length c1) a.sb) (h2 : HB w (.slice A2 a.bb.length c2) a.bb) (h3 : HB w (.slice A3 b.sb.length c3) b.sb) (h4 : HB w (.slice A4 b.bb.length c4) b.bb) (q0 : (a.k == b.k) = true) (q1 : decide (a.tx = b.tx) = true) (q2 : ((a.n : Int) == (b.n : Int)) = true) (q3 : ((a.h : Int) == (b.h : Int)) = true) (q4 : ((a.m : Int) == (b.m : Int)) = false) :
    Calls Try.prog 31 #[.agg (rcs a (.slice A1 a.sb.length c1) (.slice A2 a.bb.length c2)).toArray, .agg (rcs b (.slice A3 b.sb.length c3) (.slice A4 b.bb.length c4)).toArray] w fun e w' => e = .returned (.bool false) ∧ Below w.heap.size w w' := by
  have HS := Lib.hid (((((St.start w).addF h4.away0).addF h3.away0).addF h2.away0).addF h1.away0)
  clear h1 h2 h3 h4
  have Ha := Lib.hid ha; have Hb := Lib.hid hb
  have x1 := pt_get ha; have x2 := pt_get hb
  have hq : ∀ W, (Op.equalIn 9999 52 (.agg (List.take 32 (bs a.tx ++ [Value.int .u32 (a.n : Int)])).toArray) (.agg (List.take 32 (bs b.tx ++ [Value.int .u32 (b.n : Int)])).toArray)).run Try.prog W = .ok true W := fun W => by
    rw [take_pt _ _ ha.tx, take_pt _ _ hb.tx, ← q1]
    exact eq52 9997 a.tx b.tx ha.tx hb.tx W
  clear ha hb q1
  go_enter Try.func31, Try.ntmps31
  go_wp2_with (first | (refine atd 2 (by rfl) ?_; refine wl (by rfl) (s_bx (l := rcs a (.slice A1 a.sb.length c1) (.slice A2 a.bb.length c2)) HS.out (by rfl) (by rfl) ?_); intro b2 Wn hS; clear HS; have HS := Lib.hid hS; clear hS) | (refine atd 3 (by rfl) ?_; refine wl (by rfl) (s_bx (l := rcs b (.slice A3 b.sb.length c3) (.slice A4 b.bb.length c4)) HS.out (by rfl) (by rfl) ?_); intro b3 Wn hS; clear HS; have HS := Lib.hid hS; clear hS) | (refine atd 6 (by rfl) ?_; refine wl (by rfl) (s_ld HS.out 1 (by rfl) (by rfl) (by rfl) (by kernel_rfl) (by exact rcs_0 (r := a) (.slice A1 a.sb.length c1) (.slice A2 a.bb.length c2)) ?_)) | (refine atd 8 (by rfl) ?_; refine wl (by rfl) (s_ld HS.out 0 (by rfl) (by rfl) (by rfl) (by kernel_rfl) (by exact rcs_0 (r := b) (.slice A3 b.sb.length c3) (.slice A4 b.bb.length c4)) ?_)) | (refine atd 11 (by rfl) ?_; go_wp2_with (first | (refine atd 12 (by rfl) ?_; refine wl (by rfl) (s_lda (cs := bs a.tx ++ [Value.int .u32 (a.n : Int)]) HS.out 1 33 (by rfl) (by rfl) (by rfl) ag54 (by exact rcs_pt Ha.out (.slice A1 a.sb.length c1) (.slice A2 a.bb.length c2)) (by exact pt_len Ha.out) ?_)) | (refine atd 14 (by rfl) ?_; refine wl (by rfl) (s_lda (cs := bs b.tx ++ [Value.int .u32 (b.n : Int)]) HS.out 0 33 (by rfl) (by rfl) (by rfl) ag54 (by exact rcs_pt Hb.out (.slice A3 b.sb.length c3) (.slice A4 b.bb.length c4)) (by exact pt_len Hb.out) ?_)) | (refine atd 18 (by rfl) ?_; go_wp2_with (first | (refine atd 19 (by rfl) ?_; refine wl (by rfl) (s_ld HS.out 1 (by rfl) (by rfl) (by rfl) (by kernel_rfl) (by exact rcs_34 Ha.out (.slice A1 a.sb.length c1) (.slice A2 a.bb.length c2)) ?_)) | (refine atd 21 (by rfl) ?_; refine wl (by rfl) (s_ld HS.out 0 (by rfl) (by rfl) (by rfl) (by kernel_rfl) (by exact rcs_34 Hb.out (.slice A3 b.sb.length c3) (.slice A4 b.bb.length c4)) ?_)) | (refine atd 25 (by rfl) ?_; go_wp2_with (first | (refine atd 26 (by rfl) ?_; refine wl (by rfl) (s_ld HS.out 1 (by rfl) (by rfl) (by rfl) (by kernel_rfl) (by exact rcs_35 Ha.out (.slice A1 a.sb.length c1) (.slice A2 a.bb.length c2)) ?_)) | (refine atd 28 (by rfl) ?_; refine wl (by rfl) (s_ld HS.out 0 (by rfl) (by rfl) (by rfl) (by kernel_rfl) (by exact rcs_35 Hb.out (.slice A3 b.sb.length c3) (.slice A4 b.bb.length c4)) ?_)) | (refine atd 32 (by rfl) ?_; go_wp2_with fail))))))))
  go_ret
  exact ⟨rfl, HS.out.below⟩
end
section
open Go Go.RowKit Go.Proofs
attribute [local irreducible] Calls
set_option maxHeartbeats 6000000 in
set_option maxRecDepth 100000 in
theorem same31_f (a b : Req) (A1 A2 A3 A4 : Option Addr) (c1 c2 c3 c4 : Nat) (w : World) (ha : a.ok) (hb : b.ok) (h1 : HB w (.slice A1 a.sb.length c1) a.sb) (h2 : HB w (.slice A2 a.bb.length c2) a.bb) (h3 : HB w (.slice A3 b.sb.length c3) b.sb) (h4 : HB w (.slice A4 b.bb.length c4) b.bb) (q0 : (a.k == b.k) = true) (q1 : decide (a.tx = b.tx) = true) (q2 : ((a.n : Int) == (b.n : Int)) = true) (q3 : ((a.h : Int) == (b.h : Int)) = true) (q4 : ((a.m : Int) == (b.m : Int)) = true) (q5 : (a.sb == b.sb) = false) :
    Calls Try.prog 31 #[.agg (rcs a (.slice A1 a.sb.length c1) (.slice A2 a.bb.length c2)).toArray, .agg (rcs b (.slice A3 b.sb.length c3) (.slice A4 b.bb.length c4)).toArray] w fun e w' => e = .returned (.bool false) ∧ Below w.heap.size w w' := by
  have HS := Lib.hid (((((St.start w).addF h4.away0).addF h3.away0).addF h2.away0).addF h1.away0)
  clear h1 h2 h3 h4
  have Ha := Lib.hid ha; have Hb := Lib.hid hb
  have x1 := pt_get ha; have x2 := pt_get hb
  have hq : ∀ W, (Op.equalIn 9999 52 (.agg (List.take 32 (bs a.tx ++ [Value.int .u32 (a.n : Int)])).toArray) (.agg (List.take 32 (bs b.tx ++ [Value.int .u32 (b.n : Int)])).toArray)).run Try.prog W = .ok true W := fun W => by
    rw [take_pt _ _ ha.tx, take_pt _ _ hb.tx, ← q1]
    exact eq52 9997 a.tx b.tx ha.tx hb.tx W
  clear ha hb q1
  go_enter Try.func31, Try.ntmps31
  go_wp2_with (first | (refine atd 2 (by rfl) ?_; refine wl (by rfl) (s_bx (l := rcs a (.slice A1 a.sb.length c1) (.slice A2 a.bb.length c2)) HS.out (by rfl) (by rfl) ?_); intro b2 Wn hS; clear HS; have HS := Lib.hid hS; clear hS) | (refine atd 3 (by rfl) ?_; refine wl (by rfl) (s_bx (l := rcs b (.slice A3 b.sb.length c3) (.slice A4 b.bb.length c4)) HS.out (by rfl) (by rfl) ?_); intro b3 Wn hS; clear HS; have HS := Lib.hid hS; clear hS) | (refine atd 6 (by rfl) ?_; refine wl (by rfl) (s_ld HS.out 1 (by rfl) (by rfl) (by rfl) (by kernel_rfl) (by exact rcs_0 (r := a) (.slice A1 a.sb.length c1) (.slice A2 a.bb.length c2)) ?_)) | (refine atd 8 (by rfl) ?_; refine wl (by rfl) (s_ld HS.out 0 (by rfl) (by rfl) (by rfl) (by kernel_rfl) (by exact rcs_0 (r := b) (.slice A3 b.sb.length c3) (.slice A4 b.bb.length c4)) ?_)) | (refine atd 11 (by rfl) ?_; go_wp2_with (first | (refine atd 12 (by rfl) ?_; refine wl (by rfl) (s_lda (cs := bs a.tx ++ [Value.int .u32 (a.n : Int)]) HS.out 1 33 (by rfl) (by rfl) (by rfl) ag54 (by exact rcs_pt Ha.out (.slice A1 a.sb.length c1) (.slice A2 a.bb.length c2)) (by exact pt_len Ha.out) ?_)) | (refine atd 14 (by rfl) ?_; refine wl (by rfl) (s_lda (cs := bs b.tx ++ [Value.int .u32 (b.n : Int)]) HS.out 0 33 (by rfl) (by rfl) (by rfl) ag54 (by exact rcs_pt Hb.out (.slice A3 b.sb.length c3) (.slice A4 b.bb.length c4)) (by exact pt_len Hb.out) ?_)) | (refine atd 18 (by rfl) ?_; go_wp2_with (first | (refine atd 19 (by rfl) ?_; refine wl (by rfl) (s_ld HS.out 1 (by rfl) (by rfl) (by rfl) (by kernel_rfl) (by exact rcs_34 Ha.out (.slice A1 a.sb.length c1) (.slice A2 a.bb.length c2)) ?_)) | (refine atd 21 (by rfl) ?_; refine wl (by rfl) (s_ld HS.out 0 (by rfl) (by rfl) (by rfl) (by kernel_rfl) (by exact rcs_34 Hb.out (.slice A3 b.sb.length c3) (.slice A4 b.bb.length c4)) ?_)) | (refine atd 25 (by rfl) ?_; go_wp2_with (first | (refine atd 26 (by rfl) ?_; refine wl (by rfl) (s_ld HS.out 1 (by rfl) (by rfl) (by rfl) (by kernel_rfl) (by exact rcs_35 Ha.out (.slice A1 a.sb.length c1) (.slice A2 a.bb.length c2)) ?_)) | (refine atd 28 (by rfl) ?_; refine wl (by rfl) (s_ld HS.out 0 (by rfl) (by rfl) (by rfl) (by kernel_rfl) (by exact rcs_35 Hb.out (.slice A3 b.sb.length c3) (.slice A4 b.bb.length c4)) ?_)) | (refine atd 32 (by rfl) ?_; go_wp2_with (first | (refine atd 33 (by rfl) ?_; refine wl (by rfl) (s_ld HS.out 1 (by rfl) (by rfl) (by rfl) (by kernel_rfl) (by exact rcs_36 Ha.out (.slice A1 a.sb.length c1) (.slice A2 a.bb.length c2)) ?_)) | (refine atd 34 (by rfl) ?_; refine wl (by rfl) (wp_of_run (run_str (by rfl) (by rfl) (HS.out.fact (i := 0) rfl)) ?_)) | (refine atd 36 (by rfl) ?_; refine wl (by rfl) (s_ld HS.out 0 (by rfl) (by rfl) (by rfl) (by kernel_rfl) (by exact rcs_36 Hb.out (.slice A3 b.sb.length c3) (.slice A4 b.bb.length c4)) ?_)) | (refine atd 37 (by rfl) ?_; refine wl (by rfl) (wp_of_run (run_str (by rfl) (by rfl) (HS.out.fact (i := 2) rfl)) ?_)) | (refine atd 41 (by rfl) ?_; go_wp2_with fail))))))))))
  go_ret
  exact ⟨rfl, HS.out.below⟩
end
section
open Go Go.RowKit Go.Proofs
attribute [local irreducible] Calls
set_option maxHeartbeats 6000000 in
set_option maxRecDepth 100000 in
theorem same31_g (a b : Req) (A1 A2 A3 A4 : Option Addr) (c1 c2 c3 c4 : Nat) (w : World) (ha : a.ok) (hb : b.ok) (h1 : HB w (.slice A1 a.sb.length c1) a.sb) (h2 : HB w (.slice A2 a.bb.length c2) a.bb) (h3 : HB w (.slice A3 b.sb.length c3) b.sb) (h4 : HB w (.slice A4 b.bb.length c4) b.bb) (q0 : (a.k == b.k) = true) (q1 : decide (a.tx = b.tx) = true) (q2 : ((a.n : Int) == (b.n : Int)) = true) (q3 : ((a.h : Int) == (b.h : Int)) = true) (q4 : ((a.m : Int) == (b.m : Int)) = true) (q5 : (a.sb == b.sb) = true) (q6 : decide (a.ha = b.ha) = false) :
    Calls Try.prog 31 #[.agg (rcs a (.slice A1 a.sb.length c1) (.slice A2 a.bb.length c2)).toArray, .agg (rcs b (.slice A3 b.sb.length c3) (.slice A4 b.bb.length c4)).toArray] w fun e w' => e = .returned (.bool false) ∧ Below w.heap.size w w' := by
  have HS := Lib.hid (((((St.start w).addF h4.away0).addF h3.away0).addF h2.away0).addF h1.away0)
  clear h1 h2 h3 h4
  have Ha := Lib.hid ha; have Hb := Lib.hid hb
  have x1 := pt_get ha; have x2 := pt_get hb
  have hq : ∀ W, (Op.equalIn 9999 52 (.agg (List.take 32 (bs a.tx ++ [Value.int .u32 (a.n : Int)])).toArray) (.agg (List.take 32 (bs b.tx ++ [Value.int .u32 (b.n : Int)])).toArray)).run Try.prog W = .ok true W := fun W => by
    rw [take_pt _ _ ha.tx, take_pt _ _ hb.tx, ← q1]
    exact eq52 9997 a.tx b.tx ha.tx hb.tx W
  have hq2 : ∀ W, (Op.equalIn 10000 52 (.agg (bs a.ha).toArray) (.agg (bs b.ha).toArray)).run Try.prog W = .ok false W := fun W => by
    rw [← q6]
    exact eq52 9998 a.ha b.ha ha.ha hb.ha W
  clear ha hb q1 q6
  go_enter Try.func31, Try.ntmps31
  go_wp2_with (first | (refine atd 2 (by rfl) ?_; refine wl (by rfl) (s_bx (l := rcs a (.slice A1 a.sb.length c1) (.slice A2 a.bb.length c2)) HS.out (by rfl) (by rfl) ?_); intro b2 Wn hS; clear HS; have HS := Lib.hid hS; clear hS) | (refine atd 3 (by rfl) ?_; refine wl (by rfl) (s_bx (l := rcs b (.slice A3 b.sb.length c3) (.slice A4 b.bb.length c4)) HS.out (by rfl) (by rfl) ?_); intro b3 Wn hS; clear HS; have HS := Lib.hid hS; clear hS) | (refine atd 6 (by rfl) ?_; refine wl (by rfl) (s_ld HS.out 1 (by rfl) (by rfl) (by rfl) (by kernel_rfl) (by exact rcs_0 (r := a) (.slice A1 a.sb.length c1) (.slice A2 a.bb.length c2)) ?_)) | (refine atd 8 (by rfl) ?_; refine wl (by rfl) (s_ld HS.out 0 (by rfl) (by rfl) (by rfl) (by kernel_rfl) (by exact rcs_0 (r := b) (.slice A3 b.sb.length c3) (.slice A4 b.bb.length c4)) ?_)) | (refine atd 11 (by rfl) ?_; go_wp2_with (first | (refine atd 12 (by rfl) ?_; refine wl (by rfl) (s_lda (cs := bs a.tx ++ [Value.int .u32 (a.n : Int)]) HS.out 1 33 (by rfl) (by rfl) (by rfl) ag54 (by exact rcs_pt Ha.out (.slice A1 a.sb.length c1) (.slice A2 a.bb.length c2)) (by exact pt_len Ha.out) ?_)) | (refine atd 14 (by rfl) ?_; refine wl (by rfl) (s_lda (cs := bs b.tx ++ [Value.int .u32 (b.n : Int)]) HS.out 0 33 (by rfl) (by rfl) (by rfl) ag54 (by exact rcs_pt Hb.out (.slice A3 b.sb.length c3) (.slice A4 b.bb.length c4)) (by exact pt_len Hb.out) ?_)) | (refine atd 18 (by rfl) ?_; go_wp2_with (first | (refine atd 19 (by rfl) ?_; refine wl (by rfl) (s_ld HS.out 1 (by rfl) (by rfl) (by rfl) (by kernel_rfl) (by exact rcs_34 Ha.out (.slice A1 a.sb.length c1) (.slice A2 a.bb.length c2)) ?_)) | (refine atd 21 (by rfl) ?_; refine wl (by rfl) (s_ld HS.out 0 (by rfl) (by rfl) (by rfl) (by kernel_rfl) (by exact rcs_34 Hb.out (.slice A3 b.sb.length c3) (.slice A4 b.bb.length c4)) ?_)) | (refine atd 25 (by rfl) ?_; go_wp2_with (first | (refine atd 26 (by rfl) ?_; refine wl (by rfl) (s_ld HS.out 1 (by rfl) (by rfl) (by rfl) (by kernel_rfl) (by exact rcs_35 Ha.out (.slice A1 a.sb.length c1) (.slice A2 a.bb.length c2)) ?_)) | (refine atd 28 (by rfl) ?_; refine wl (by rfl) (s_ld HS.out 0 (by rfl) (by rfl) (by rfl) (by kernel_rfl) (by exact rcs_35 Hb.out (.slice A3 b.sb.length c3) (.slice A4 b.bb.length c4)) ?_)) | (refine atd 32 (by rfl) ?_; go_wp2_with (first | (refine atd 33 (by rfl) ?_; refine wl (by rfl) (s_ld HS.out 1 (by rfl) (by rfl) (by rfl) (by kernel_rfl) (by exact rcs_36 Ha.out (.slice A1 a.sb.length c1) (.slice A2 a.bb.length c2)) ?_)) | (refine atd 34 (by rfl) ?_; refine wl (by rfl) (wp_of_run (run_str (by rfl) (by rfl) (HS.out.fact (i := 0) rfl)) ?_)) | (refine atd 36 (by rfl) ?_; refine wl (by rfl) (s_ld HS.out 0 (by rfl) (by rfl) (by rfl) (by kernel_rfl) (by exact rcs_36 Hb.out (.slice A3 b.sb.length c3) (.slice A4 b.bb.length c4)) ?_)) | (refine atd 37 (by rfl) ?_; refine wl (by rfl) (wp_of_run (run_str (by rfl) (by rfl) (HS.out.fact (i := 2) rfl)) ?_)) | (refine atd 41 (by rfl) ?_; go_wp2_with (first | (refine atd 42 (by rfl) ?_; refine wl (by rfl) (s_lda (cs := bs a.ha) HS.out 1 32 (by rfl) (by rfl) (by rfl) ag52 (by exact rcs_ha Ha.out (.slice A1 a.sb.length c1) (.slice A2 a.bb.length c2)) (by exact ha_len Ha.out) ?_)) | (refine atd 44 (by rfl) ?_; refine wl (by rfl) (s_lda (cs := bs b.ha) HS.out 0 32 (by rfl) (by rfl) (by rfl) ag52 (by exact rcs_ha Hb.out (.slice A3 b.sb.length c3) (.slice A4 b.bb.length c4)) (by exact ha_len Hb.out) ?_)) | (refine atd 48 (by rfl) ?_; go_wp2_with fail))))))))))))
  go_ret
  exact ⟨rfl, HS.out.below⟩
end
section
open Go Go.RowKit Go.Proofs
attribute [local irreducible] Calls
set_option maxHeartbeats 6000000 in
set_option maxRecDepth 100000 in
theorem same31_h (a b : Req) (A1 A2 A3 A4 : Option Addr) (c1 c2 c3 c4 : Nat) (w : World) (ha : a.ok) (hb : b.ok) (h1 : HB w (.slice A1 a.sb.length c1) a.sb) (h2 : HB w (.slice A2 a.bb.length c2) a.bb) (h3 : HB w (.slice A3 b.sb.length c3) b.sb) (h4 : HB w (.slice A4 b.bb.length c4) b.bb) (q0 : (a.k == b.k) = true) (q1 : decide (a.tx = b.tx) = true) (q2 : ((a.n : Int) == (b.n : Int)) = true) (q3 : ((a.h : Int) == (b.h : Int)) = true) (q4 : ((a.m : Int) == (b.m : Int)) = true) (q5 : (a.sb == b.sb) = true) (q6 : decide (a.ha = b.ha) = true) (q7 : (a.bb == b.bb) = false) :
    Calls Try.prog 31 #[.agg (rcs a (.slice A1 a.sb.length c1) (.slice A2 a.bb.length c2)).toArray, .agg (rcs b (.slice A3 b.sb.length c3) (.slice A4 b.bb.length c4)).toArray] w fun e w' => e = .returned (.bool false) ∧ Below w.heap.size w w' := by
  have HS := Lib.hid (((((St.start w).addF h4.away0).addF h3.away0).addF h2.away0).addF h1.away0)
  clear h1 h2 h3 h4
  have Ha := Lib.hid ha; have Hb := Lib.hid hb
  have x1 := pt_get ha; have x2 := pt_get hb
  have hq : ∀ W, (Op.equalIn 9999 52 (.agg (List.take 32 (bs a.tx ++ [Value.int .u32 (a.n : Int)])).toArray) (.agg (List.take 32 (bs b.tx ++ [Value.int .u32 (b.n : Int)])).toArray)).run Try.prog W = .ok true W := fun W => by
    rw [take_pt _ _ ha.tx, take_pt _ _ hb.tx, ← q1]
    exact eq52 9997 a.tx b.tx ha.tx hb.tx W
  have hq2 : ∀ W, (Op.equalIn 10000 52 (.agg (bs a.ha).toArray) (.agg (bs b.ha).toArray)).run Try.prog W = .ok true W := fun W => by
    rw [← q6]
    exact eq52 9998 a.ha b.ha ha.ha hb.ha W
  clear ha hb q1 q6
  go_enter Try.func31, Try.ntmps31
  go_wp2_with (first | (refine atd 2 (by rfl) ?_; refine wl (by rfl) (s_bx (l := rcs a (.slice A1 a.sb.length c1) (.slice A2 a.bb.length c2)) HS.out (by rfl) (by rfl) ?_); intro b2 Wn hS; clear HS; have HS := Lib.hid hS; clear hS) | (refine atd 3 (by rfl) ?_; refine wl (by rfl) (s_bx (l := rcs b (.slice A3 b.sb.length c3) (.slice A4 b.bb.length c4)) HS.out (by rfl) (by rfl) ?_); intro b3 Wn hS; clear HS; have HS := Lib.hid hS; clear hS) | (refine atd 6 (by rfl) ?_; refine wl (by rfl) (s_ld HS.out 1 (by rfl) (by rfl) (by rfl) (by kernel_rfl) (by exact rcs_0 (r := a) (.slice A1 a.sb.length c1) (.slice A2 a.bb.length c2)) ?_)) | (refine atd 8 (by rfl) ?_; refine wl (by rfl) (s_ld HS.out 0 (by rfl) (by rfl) (by rfl) (by kernel_rfl) (by exact rcs_0 (r := b) (.slice A3 b.sb.length c3) (.slice A4 b.bb.length c4)) ?_)) | (refine atd 11 (by rfl) ?_; go_wp2_with (first | (refine atd 12 (by rfl) ?_; refine wl (by rfl) (s_lda (cs := bs a.tx ++ [Value.int .u32 (a.n : Int)]) HS.out 1 33 (by rfl) (by rfl) (by rfl) ag54 (by exact rcs_pt Ha.out (.slice A1 a.sb.length c1) (.slice A2 a.bb.length c2)) (by exact pt_len Ha.out) ?_)) | (refine atd 14 (by rfl) ?_; refine wl (by rfl) (s_lda (cs := bs b.tx ++ [Value.int .u32 (b.n : Int)]) HS.out 0 33 (by rfl) (by rfl) (by rfl) ag54 (by exact rcs_pt Hb.out (.slice A3 b.sb.length c3) (.slice A4 b.bb.length c4)) (by exact pt_len Hb.out) ?_)) | (refine atd 18 (by rfl) ?_; go_wp2_with (first | (refine atd 19 (by rfl) ?_; refine wl (by rfl) (s_ld HS.out 1 (by rfl) (by rfl) (by rfl) (by kernel_rfl) (by exact rcs_34 Ha.out (.slice A1 a.sb.length c1) (.slice A2 a.bb.length c2)) ?_)) | (refine atd 21 (by rfl) ?_; refine wl (by rfl) (s_ld HS.out 0 (by rfl) (by rfl) (by rfl) (by kernel_rfl) (by exact rcs_34 Hb.out (.slice A3 b.sb.length c3) (.slice A4 b.bb.length c4)) ?_)) | (refine atd 25 (by rfl) ?_; go_wp2_with (first | (refine atd 26 (by rfl) ?_; refine wl (by rfl) (s_ld HS.out 1 (by rfl) (by rfl) (by rfl) (by kernel_rfl) (by exact rcs_35 Ha.out (.slice A1 a.sb.length c1) (.slice A2 a.bb.length c2)) ?_)) | (refine atd 28 (by rfl) ?_; refine wl (by rfl) (s_ld HS.out 0 (by rfl) (by rfl) (by rfl) (by kernel_rfl) (by exact rcs_35 Hb.out (.slice A3 b.sb.length c3) (.slice A4 b.bb.length c4)) ?_)) | (refine atd 32 (by rfl) ?_; go_wp2_with (first | (refine atd 33 (by rfl) ?_; refine wl (by rfl) (s_ld HS.out 1 (by rfl) (by rfl) (by rfl) (by kernel_rfl) (by exact rcs_36 Ha.out (.slice A1 a.sb.length c1) (.slice A2 a.bb.length c2)) ?_)) | (refine atd 34 (by rfl) ?_; refine wl (by rfl) (wp_of_run (run_str (by rfl) (by rfl) (HS.out.fact (i := 0) rfl)) ?_)) | (refine atd 36 (by rfl) ?_; refine wl (by rfl) (s_ld HS.out 0 (by rfl) (by rfl) (by rfl) (by kernel_rfl) (by exact rcs_36 Hb.out (.slice A3 b.sb.length c3) (.slice A4 b.bb.length c4)) ?_)) | (refine atd 37 (by rfl) ?_; refine wl (by rfl) (wp_of_run (run_str (by rfl) (by rfl) (HS.out.fact (i := 2) rfl)) ?_)) | (refine atd 41 (by rfl) ?_; go_wp2_with (first | (refine atd 42 (by rfl) ?_; refine wl (by rfl) (s_lda (cs := bs a.ha) HS.out 1 32 (by rfl) (by rfl) (by rfl) ag52 (by exact rcs_ha Ha.out (.slice A1 a.sb.length c1) (.slice A2 a.bb.length c2)) (by exact ha_len Ha.out) ?_)) | (refine atd 44 (by rfl) ?_; refine wl (by rfl) (s_lda (cs := bs b.ha) HS.out 0 32 (by rfl) (by rfl) (by rfl) ag52 (by exact rcs_ha Hb.out (.slice A3 b.sb.length c3) (.slice A4 b.bb.length c4)) (by exact ha_len Hb.out) ?_)) | (refine atd 48 (by rfl) ?_; go_wp2_with (first | (refine atd 49 (by rfl) ?_; refine wl (by rfl) (s_ld HS.out 1 (by rfl) (by rfl) (by rfl) (by kernel_rfl) (by exact rcs_69 Ha.out (.slice A1 a.sb.length c1) (.slice A2 a.bb.length c2)) ?_)) | (refine atd 50 (by rfl) ?_; refine wl (by rfl) (wp_of_run (run_str (by rfl) (by rfl) (HS.out.fact (i := 1) rfl)) ?_)) | (refine atd 52 (by rfl) ?_; refine wl (by rfl) (s_ld HS.out 0 (by rfl) (by rfl) (by rfl) (by kernel_rfl) (by exact rcs_69 Hb.out (.slice A3 b.sb.length c3) (.slice A4 b.bb.length c4)) ?_)) | (refine atd 53 (by rfl) ?_; refine wl (by rfl) (wp_of_run (run_str (by rfl) (by rfl) (HS.out.fact (i := 3) rfl)) ?_)))))))))))))))
  go_ret
  exact ⟨rfl, HS.out.below⟩
end
section
open Go Go.RowKit Go.Proofs
attribute [local irreducible] Calls
set_option maxHeartbeats 6000000 in
set_option maxRecDepth 100000 in
theorem same31_i (a b : Req) (A1 A2 A3 A4 : Option Addr) (c1 c2 c3 c4 : Nat) (w : World) (ha : a.ok) (hb : b.ok) (h1 : HB w (.slice A1 a.sb.length c1) a.sb) (h2 : HB w (.slice A2 a.bb.length c2) a.bb) (h3 : HB w (.slice A3 b.sb.length c3) b.sb) (h4 : HB w (.slice A4 b.bb.length c4) b.bb) (q0 : (a.k == b.k) = true) (q1 : decide (a.tx = b.tx) = true) (q2 : ((a.n : Int) == (b.n : Int)) = true) (q3 : ((a.h : Int) == (b.h : Int)) = true) (q4 : ((a.m : Int) == (b.m : Int)) = true) (q5 : (a.sb == b.sb) = true) (q6 : decide (a.ha = b.ha) = true) (q7 : (a.bb == b.bb) = true) :
    Calls Try.prog 31 #[.agg (rcs a (.slice A1 a.sb.length c1) (.slice A2 a.bb.length c2)).toArray, .agg (rcs b (.slice A3 b.sb.length c3) (.slice A4 b.bb.length c4)).toArray] w fun e w' => e = .returned (.bool true) ∧ Below w.heap.size w w' := by
  have HS := Lib.hid (((((St.start w).addF h4.away0).addF h3.away0).addF h2.away0).addF h1.away0)
  clear h1 h2 h3 h4
  have Ha := Lib.hid ha; have Hb := Lib.hid hb
  have x1 := pt_get ha; have x2 := pt_get hb
  have hq : ∀ W, (Op.equalIn 9999 52 (.agg (List.take 32 (bs a.tx ++ [Value.int .u32 (a.n : Int)])).toArray) (.agg (List.take 32 (bs b.tx ++ [Value.int .u32 (b.n : Int)])).toArray)).run Try.prog W = .ok true W := fun W => by
    rw [take_pt _ _ ha.tx, take_pt _ _ hb.tx, ← q1]
    exact eq52 9997 a.tx b.tx ha.tx hb.tx W
  have hq2 : ∀ W, (Op.equalIn 10000 52 (.agg (bs a.ha).toArray) (.agg (bs b.ha).toArray)).run Try.prog W = .ok true W := fun W => by
    rw [← q6]
    exact eq52 9998 a.ha b.ha ha.ha hb.ha W
  clear ha hb q1 q6
  go_enter Try.func31, Try.ntmps31
  go_wp2_with (first | (refine atd 2 (by rfl) ?_; refine wl (by rfl) (s_bx (l := rcs a (.slice A1 a.sb.length c1) (.slice A2 a.bb.length c2)) HS.out (by rfl) (by rfl) ?_); intro b2 Wn hS; clear HS; have HS := Lib.hid hS; clear hS) | (refine atd 3 (by rfl) ?_; refine wl (by rfl) (s_bx (l := rcs b (.slice A3 b.sb.length c3) (.slice A4 b.bb.length c4)) HS.out (by rfl) (by rfl) ?_); intro b3 Wn hS; clear HS; have HS := Lib.hid hS; clear hS) | (refine atd 6 (by rfl) ?_; refine wl (by rfl) (s_ld HS.out 1 (by rfl) (by rfl) (by rfl) (by kernel_rfl) (by exact rcs_0 (r := a) (.slice A1 a.sb.length c1) (.slice A2 a.bb.length c2)) ?_)) | (refine atd 8 (by rfl) ?_; refine wl (by rfl) (s_ld HS.out 0 (by rfl) (by rfl) (by rfl) (by kernel_rfl) (by exact rcs_0 (r := b) (.slice A3 b.sb.length c3) (.slice A4 b.bb.length c4)) ?_)) | (refine atd 11 (by rfl) ?_; go_wp2_with (first | (refine atd 12 (by rfl) ?_; refine wl (by rfl) (s_lda (cs := bs a.tx ++ [Value.int .u32 (a.n : Int)]) HS.out 1 33 (by rfl) (by rfl) (by rfl) ag54 (by exact rcs_pt Ha.out (.slice A1 a.sb.length c1) (.slice A2 a.bb.length c2)) (by exact pt_len Ha.out) ?_)) | (refine atd 14 (by rfl) ?_; refine wl (by rfl) (s_lda (cs := bs b.tx ++ [Value.int .u32 (b.n : Int)]) HS.out 0 33 (by rfl) (by rfl) (by rfl) ag54 (by exact rcs_pt Hb.out (.slice A3 b.sb.length c3) (.slice A4 b.bb.length c4)) (by exact pt_len Hb.out) ?_)) | (refine atd 18 (by rfl) ?_; go_wp2_with (first | (refine atd 19 (by rfl) ?_; refine wl (by rfl) (s_ld HS.out 1 (by rfl) (by rfl) (by rfl) (by kernel_rfl) (by exact rcs_34 Ha.out (.slice A1 a.sb.length c1) (.slice A2 a.bb.length c2)) ?_)) | (refine atd 21 (by rfl) ?_; refine wl (by rfl) (s_ld HS.out 0 (by rfl) (by rfl) (by rfl) (by kernel_rfl) (by exact rcs_34 Hb.out (.slice A3 b.sb.length c3) (.slice A4 b.bb.length c4)) ?_)) | (refine atd 25 (by rfl) ?_; go_wp2_with (first | (refine atd 26 (by rfl) ?_; refine wl (by rfl) (s_ld HS.out 1 (by rfl) (by rfl) (by rfl) (by kernel_rfl) (by exact rcs_35 Ha.out (.slice A1 a.sb.length c1) (.slice A2 a.bb.length c2)) ?_)) | (refine atd 28 (by rfl) ?_; refine wl (by rfl) (s_ld HS.out 0 (by rfl) (by rfl) (by rfl) (by kernel_rfl) (by exact rcs_35 Hb.out (.slice A3 b.sb.length c3) (.slice A4 b.bb.length c4)) ?_)) | (refine atd 32 (by rfl) ?_; go_wp2_with (first | (refine atd 33 (by rfl) ?_; refine wl (by rfl) (s_ld HS.out 1 (by rfl) (by rfl) (by rfl) (by kernel_rfl) (by exact rcs_36 Ha.out (.slice A1 a.sb.length c1) (.slice A2 a.bb.length c2)) ?_)) | (refine atd 34 (by rfl) ?_; refine wl (by rfl) (wp_of_run (run_str (by rfl) (by rfl) (HS.out.fact (i := 0) rfl)) ?_)) | (refine atd 36 (by rfl) ?_; refine wl (by rfl) (s_ld HS.out 0 (by rfl) (by rfl) (by rfl) (by kernel_rfl) (by exact rcs_36 Hb.out (.slice A3 b.sb.length c3) (.slice A4 b.bb.length c4)) ?_)) | (refine atd 37 (by rfl) ?_; refine wl (by rfl) (wp_of_run (run_str (by rfl) (by rfl) (HS.out.fact (i := 2) rfl)) ?_)) | (refine atd 41 (by rfl) ?_; go_wp2_with (first | (refine atd 42 (by rfl) ?_; refine wl (by rfl) (s_lda (cs := bs a.ha) HS.out 1 32 (by rfl) (by rfl) (by rfl) ag52 (by exact rcs_ha Ha.out (.slice A1 a.sb.length c1) (.slice A2 a.bb.length c2)) (by exact ha_len Ha.out) ?_)) | (refine atd 44 (by rfl) ?_; refine wl (by rfl) (s_lda (cs := bs b.ha) HS.out 0 32 (by rfl) (by rfl) (by rfl) ag52 (by exact rcs_ha Hb.out (.slice A3 b.sb.length c3) (.slice A4 b.bb.length c4)) (by exact ha_len Hb.out) ?_)) | (refine atd 48 (by rfl) ?_; go_wp2_with (first | (refine atd 49 (by rfl) ?_; refine wl (by rfl) (s_ld HS.out 1 (by rfl) (by rfl) (by rfl) (by kernel_rfl) (by exact rcs_69 Ha.out (.slice A1 a.sb.length c1) (.slice A2 a.bb.length c2)) ?_)) | (refine atd 50 (by rfl) ?_; refine wl (by rfl) (wp_of_run (run_str (by rfl) (by rfl) (HS.out.fact (i := 1) rfl)) ?_)) | (refine atd 52 (by rfl) ?_; refine wl (by rfl) (s_ld HS.out 0 (by rfl) (by rfl) (by rfl) (by kernel_rfl) (by exact rcs_69 Hb.out (.slice A3 b.sb.length c3) (.slice A4 b.bb.length c4)) ?_)) | (refine atd 53 (by rfl) ?_; refine wl (by rfl) (wp_of_run (run_str (by rfl) (by rfl) (HS.out.fact (i := 3) rfl)) ?_)))))))))))))))
  go_ret
  exact ⟨rfl, HS.out.below⟩
end
section
open Go Go.RowKit Go.Proofs
attribute [local irreducible] Calls
theorem same31 (a b : Req) (s1 b1 s2 b2 : Value) (w : World) (ha : a.ok) (hb : b.ok) (h1 : HB w s1 a.sb) (h2 : HB w b1 a.bb) (h3 : HB w s2 b.sb) (h4 : HB w b2 b.bb) :
    Calls Try.prog 31 #[.agg (rcs a s1 b1).toArray, .agg (rcs b s2 b2).toArray] w fun e w' => e = .returned (.bool (sameQ a b)) ∧ Below w.heap.size w w' := by
  obtain ⟨A1, c1, rfl, _⟩ := h1.shape
  obtain ⟨A2, c2, rfl, _⟩ := h2.shape
  obtain ⟨A3, c3, rfl, _⟩ := h3.shape
  obtain ⟨A4, c4, rfl, _⟩ := h4.shape
  unfold sameQ
  cases q0 : (a.k == b.k) with
  | false =>
    exact same31_a a b A1 A2 A3 A4 c1 c2 c3 c4 w ha hb h1 h2 h3 h4 q0
  | true =>
    cases q1 : decide (a.tx = b.tx) with
    | false =>
      exact same31_b a b A1 A2 A3 A4 c1 c2 c3 c4 w ha hb h1 h2 h3 h4 q0 q1
    | true =>
      cases q2 : ((a.n : Int) == (b.n : Int)) with
      | false =>
        exact same31_c a b A1 A2 A3 A4 c1 c2 c3 c4 w ha hb h1 h2 h3 h4 q0 q1 q2
      | true =>
        cases q3 : ((a.h : Int) == (b.h : Int)) with
        | false =>
          exact same31_d a b A1 A2 A3 A4 c1 c2 c3 c4 w ha hb h1 h2 h3 h4 q0 q1 q2 q3
        | true =>
          cases q4 : ((a.m : Int) == (b.m : Int)) with
          | false =>
            exact same31_e a b A1 A2 A3 A4 c1 c2 c3 c4 w ha hb h1 h2 h3 h4 q0 q1 q2 q3 q4
          | true =>
            cases q5 : (a.sb == b.sb) with
            | false =>
              exact same31_f a b A1 A2 A3 A4 c1 c2 c3 c4 w ha hb h1 h2 h3 h4 q0 q1 q2 q3 q4 q5
            | true =>
              cases q6 : decide (a.ha = b.ha) with
              | false =>
                exact same31_g a b A1 A2 A3 A4 c1 c2 c3 c4 w ha hb h1 h2 h3 h4 q0 q1 q2 q3 q4 q5 q6
              | true =>
                cases q7 : (a.bb == b.bb) with
                | false =>
                  exact same31_h a b A1 A2 A3 A4 c1 c2 c3 c4 w ha hb h1 h2 h3 h4 q0 q1 q2 q3 q4 q5 q6 q7
                | true =>
                  exact same31_i a b A1 A2 A3 A4 c1 c2 c3 c4 w ha hb h1 h2 h3 h4 q0 q1 q2 q3 q4 q5 q6 q7
end
end Go.Proofs.Ytlpklbpaknemaaa
