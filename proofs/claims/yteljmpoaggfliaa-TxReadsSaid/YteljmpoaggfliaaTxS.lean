/- Contracts and words that the laws stand on (TxS). -/
import Derived.Test.YteljmpoaggfliaaTrdC
import Derived.Test.YteljmpoaggfliaaTxQ
import Derived.Test.YteljmpoaggfliaaTxC
import Derived.Test.YteljmpoaggfliaaPenA
set_option linter.unusedVariables false
set_option linter.unusedSimpArgs false
namespace Go.Proofs.Yteljmpoaggfliaa
section
open Go Go.RowKit Go.Proofs
attribute [local go_sem] Oper.semAt_some
attribute [local irreducible] Calls
theorem all_take {l : List Value} {n : Nat} (h : l.length = n) : (l.drop 0).take n = l := by rw [List.drop_zero, List.take_of_length_le (by omega)]
theorem hb_one {W : World} {v : Value} {xs : List UInt8} (h : HB W v xs) : v.oneCell' = true := by obtain ⟨A, c, rfl, _⟩ := h.shape; rfl
/-- A yes or no. -/
def BoolE (P : Prop) (w : World) (e : Ending) (w' : World) : Prop := ∃ b : Bool, e = .returned (.bool b) ∧ (b = true ↔ P) ∧ Below w.heap.size w w'
def sameIB (x y : TIn) : Bool := decide ((x.h = y.h ∧ (x.n : Int) = (y.n : Int)) ∧ x.q = y.q ∧ x.s = y.s)
theorem sameI_iff {x y : TIn} : sameIB x y = true ↔ x = y := by
  unfold sameIB
  rw [decide_eq_true_eq]
  cases x; cases y
  simp only [TIn.mk.injEq, Int.natCast_inj]
  constructor
  · rintro ⟨⟨a, b⟩, c, d⟩; exact ⟨a, b, d, c⟩
  · rintro ⟨a, b, d, c⟩; exact ⟨⟨a, b⟩, c, d⟩
def sameOB (x y : TOut) : Bool := decide (x.v = y.v ∧ x.s = y.s)
theorem sameO_iff {x y : TOut} : sameOB x y = true ↔ x = y := by
  unfold sameOB
  rw [decide_eq_true_eq]
  cases x; cases y
  simp only [TOut.mk.injEq]
theorem outC_len {x : Value × TOut} (_ : x.2.ok) : (outC x).length = 2 := rfl
theorem outC_one {x : Value × TOut} (h : x.1.oneCell' = true) : ∀ v ∈ outC x, v.oneCell' = true := by
  intro v hv; simp [outC] at hv; rcases hv with rfl | rfl
  · rfl
  · exact h
attribute [local irreducible] inC outC
set_option maxHeartbeats 1000000 in
set_option maxRecDepth 100000 in
theorem same114a (x y : Value × TIn) (p q : Int) (w : World) (hx : x.2.ok) (hy : y.2.ok) (hbx : HB w x.1 x.2.s) (hby : HB w y.1 y.2.s) (cx : (inC x)[34]? = some (.int .u32 p)) (cy : (inC y)[34]? = some (.int .u32 q)) (h1 : ¬ (x.2.h = y.2.h ∧ (x.2.n : Int) = (y.2.n : Int))) :
    Calls Try.prog 114 #[.agg (inC x).toArray, .agg (inC y).toArray] w fun e w' => e = .returned (.bool false) ∧ Below w.heap.size w w' := by
  have HS := Lib.hid (((St.start w).addF hby.away0).addF hbx.away0)
  have Hx := Lib.hid hx; have Hy := Lib.hid hy
  have CX := Lib.hid cx; have CY := Lib.hid cy
  have hq : ∀ W, (Op.equalIn 10000 44 (.agg (bs x.2.h ++ [Value.int .u32 (x.2.n : Int)]).toArray) (.agg (bs y.2.h ++ [Value.int .u32 (y.2.n : Int)]).toArray)).run Try.prog W = .ok false W := fun W => by
    have := eqPt 9997 x.2.h y.2.h (x.2.n : Int) (y.2.n : Int) hx.h hy.h W
    rwa [decide_eq_false h1] at this
  clear h1
  clear hx hy hbx hby cx cy
  go_enter Try.func114, Try.ntmps114
  go_wp2_with (first
    | go_skip
    | (refine atd 2 (by rfl) ?_; refine wl (by rfl) (s_bx (l := inC x) HS.out (by rfl) (by rfl) ?_); intro b2 Wn hS; clear HS; have HS := Lib.hid hS; clear hS)
    | (refine atd 3 (by rfl) ?_; refine wl (by rfl) (s_bx (l := inC y) HS.out (by rfl) (by rfl) ?_); intro b3 Wn hS; clear HS; have HS := Lib.hid hS; clear hS)
    | (refine atd 6 (by rfl) ?_; refine wl (by rfl) (s_lda (cs := bs x.2.h ++ [Value.int .u32 (x.2.n : Int)]) HS.out 1 33 (by rfl) (by rfl) (by rfl) ag44 (by exact inC_pt Hx.out) (by exact pt_len _ _ Hx.out.h) ?_))
    | (refine atd 8 (by rfl) ?_; refine wl (by rfl) (s_lda (cs := bs y.2.h ++ [Value.int .u32 (y.2.n : Int)]) HS.out 0 33 (by rfl) (by rfl) (by rfl) ag44 (by exact inC_pt Hy.out) (by exact pt_len _ _ Hy.out.h) ?_))
    | (refine atd 12 (by rfl) ?_; refine wl (by rfl) (s_ld HS.out 1 (by rfl) (by rfl) (by rfl) (by kernel_rfl) (by exact CX.out) ?_))
    | (refine atd 14 (by rfl) ?_; refine wl (by rfl) (s_ld HS.out 0 (by rfl) (by rfl) (by rfl) (by kernel_rfl) (by exact CY.out) ?_))
    | (refine atd 19 (by rfl) ?_; refine wl (by rfl) (s_ld HS.out 1 (by rfl) (by rfl) (by rfl) (by kernel_rfl) (by exact inC_33 Hx.out) ?_))
    | (refine atd 21 (by rfl) ?_; refine wl (by rfl) (s_ld HS.out 0 (by rfl) (by rfl) (by rfl) (by kernel_rfl) (by exact inC_33 Hy.out) ?_))
    | (go_at_call 70; refine (equal47 _ _ _ _ _ (HS.out.fact (i := 0) rfl) (HS.out.fact (i := 1) rfl)).mono ?_; rintro e Wn ⟨rfl, hb⟩; subst hb))
  go_ret
  exact ⟨rfl, HS.out.below⟩
set_option maxHeartbeats 1000000 in
set_option maxRecDepth 100000 in
theorem same114b (x y : Value × TIn) (p q : Int) (w : World) (hx : x.2.ok) (hy : y.2.ok) (hbx : HB w x.1 x.2.s) (hby : HB w y.1 y.2.s) (cx : (inC x)[34]? = some (.int .u32 p)) (cy : (inC y)[34]? = some (.int .u32 q)) (h1 : x.2.h = y.2.h ∧ (x.2.n : Int) = (y.2.n : Int)) (h2 : ¬ p = q) :
    Calls Try.prog 114 #[.agg (inC x).toArray, .agg (inC y).toArray] w fun e w' => e = .returned (.bool false) ∧ Below w.heap.size w w' := by
  have HS := Lib.hid (((St.start w).addF hby.away0).addF hbx.away0)
  have Hx := Lib.hid hx; have Hy := Lib.hid hy
  have CX := Lib.hid cx; have CY := Lib.hid cy
  have hq : ∀ W, (Op.equalIn 10000 44 (.agg (bs x.2.h ++ [Value.int .u32 (x.2.n : Int)]).toArray) (.agg (bs y.2.h ++ [Value.int .u32 (y.2.n : Int)]).toArray)).run Try.prog W = .ok true W := fun W => by
    have := eqPt 9997 x.2.h y.2.h (x.2.n : Int) (y.2.n : Int) hx.h hy.h W
    rwa [decide_eq_true h1] at this
  clear h1
  have k2 : (p == q) = false := by rw [beq_eq_false_iff_ne]; exact h2
  clear h2
  clear hx hy hbx hby cx cy
  go_enter Try.func114, Try.ntmps114
  go_wp2_with (first
    | go_skip
    | (refine atd 2 (by rfl) ?_; refine wl (by rfl) (s_bx (l := inC x) HS.out (by rfl) (by rfl) ?_); intro b2 Wn hS; clear HS; have HS := Lib.hid hS; clear hS)
    | (refine atd 3 (by rfl) ?_; refine wl (by rfl) (s_bx (l := inC y) HS.out (by rfl) (by rfl) ?_); intro b3 Wn hS; clear HS; have HS := Lib.hid hS; clear hS)
    | (refine atd 6 (by rfl) ?_; refine wl (by rfl) (s_lda (cs := bs x.2.h ++ [Value.int .u32 (x.2.n : Int)]) HS.out 1 33 (by rfl) (by rfl) (by rfl) ag44 (by exact inC_pt Hx.out) (by exact pt_len _ _ Hx.out.h) ?_))
    | (refine atd 8 (by rfl) ?_; refine wl (by rfl) (s_lda (cs := bs y.2.h ++ [Value.int .u32 (y.2.n : Int)]) HS.out 0 33 (by rfl) (by rfl) (by rfl) ag44 (by exact inC_pt Hy.out) (by exact pt_len _ _ Hy.out.h) ?_))
    | (refine atd 12 (by rfl) ?_; refine wl (by rfl) (s_ld HS.out 1 (by rfl) (by rfl) (by rfl) (by kernel_rfl) (by exact CX.out) ?_))
    | (refine atd 14 (by rfl) ?_; refine wl (by rfl) (s_ld HS.out 0 (by rfl) (by rfl) (by rfl) (by kernel_rfl) (by exact CY.out) ?_))
    | (refine atd 19 (by rfl) ?_; refine wl (by rfl) (s_ld HS.out 1 (by rfl) (by rfl) (by rfl) (by kernel_rfl) (by exact inC_33 Hx.out) ?_))
    | (refine atd 21 (by rfl) ?_; refine wl (by rfl) (s_ld HS.out 0 (by rfl) (by rfl) (by rfl) (by kernel_rfl) (by exact inC_33 Hy.out) ?_))
    | (go_at_call 70; refine (equal47 _ _ _ _ _ (HS.out.fact (i := 0) rfl) (HS.out.fact (i := 1) rfl)).mono ?_; rintro e Wn ⟨rfl, hb⟩; subst hb))
  go_ret
  exact ⟨rfl, HS.out.below⟩
set_option maxHeartbeats 1000000 in
set_option maxRecDepth 100000 in
theorem same114c (x y : Value × TIn) (p q : Int) (w : World) (hx : x.2.ok) (hy : y.2.ok) (hbx : HB w x.1 x.2.s) (hby : HB w y.1 y.2.s) (cx : (inC x)[34]? = some (.int .u32 p)) (cy : (inC y)[34]? = some (.int .u32 q)) (h1 : x.2.h = y.2.h ∧ (x.2.n : Int) = (y.2.n : Int)) (h2 : p = q) :
    Calls Try.prog 114 #[.agg (inC x).toArray, .agg (inC y).toArray] w fun e w' => e = .returned (.bool (decide (x.2.s = y.2.s))) ∧ Below w.heap.size w w' := by
  have HS := Lib.hid (((St.start w).addF hby.away0).addF hbx.away0)
  have Hx := Lib.hid hx; have Hy := Lib.hid hy
  have CX := Lib.hid cx; have CY := Lib.hid cy
  have hq : ∀ W, (Op.equalIn 10000 44 (.agg (bs x.2.h ++ [Value.int .u32 (x.2.n : Int)]).toArray) (.agg (bs y.2.h ++ [Value.int .u32 (y.2.n : Int)]).toArray)).run Try.prog W = .ok true W := fun W => by
    have := eqPt 9997 x.2.h y.2.h (x.2.n : Int) (y.2.n : Int) hx.h hy.h W
    rwa [decide_eq_true h1] at this
  clear h1
  subst h2
  clear hx hy hbx hby cx cy
  go_enter Try.func114, Try.ntmps114
  go_wp2_with (first
    | go_skip
    | (refine atd 2 (by rfl) ?_; refine wl (by rfl) (s_bx (l := inC x) HS.out (by rfl) (by rfl) ?_); intro b2 Wn hS; clear HS; have HS := Lib.hid hS; clear hS)
    | (refine atd 3 (by rfl) ?_; refine wl (by rfl) (s_bx (l := inC y) HS.out (by rfl) (by rfl) ?_); intro b3 Wn hS; clear HS; have HS := Lib.hid hS; clear hS)
    | (refine atd 6 (by rfl) ?_; refine wl (by rfl) (s_lda (cs := bs x.2.h ++ [Value.int .u32 (x.2.n : Int)]) HS.out 1 33 (by rfl) (by rfl) (by rfl) ag44 (by exact inC_pt Hx.out) (by exact pt_len _ _ Hx.out.h) ?_))
    | (refine atd 8 (by rfl) ?_; refine wl (by rfl) (s_lda (cs := bs y.2.h ++ [Value.int .u32 (y.2.n : Int)]) HS.out 0 33 (by rfl) (by rfl) (by rfl) ag44 (by exact inC_pt Hy.out) (by exact pt_len _ _ Hy.out.h) ?_))
    | (refine atd 12 (by rfl) ?_; refine wl (by rfl) (s_ld HS.out 1 (by rfl) (by rfl) (by rfl) (by kernel_rfl) (by exact CX.out) ?_))
    | (refine atd 14 (by rfl) ?_; refine wl (by rfl) (s_ld HS.out 0 (by rfl) (by rfl) (by rfl) (by kernel_rfl) (by exact CY.out) ?_))
    | (refine atd 19 (by rfl) ?_; refine wl (by rfl) (s_ld HS.out 1 (by rfl) (by rfl) (by rfl) (by kernel_rfl) (by exact inC_33 Hx.out) ?_))
    | (refine atd 21 (by rfl) ?_; refine wl (by rfl) (s_ld HS.out 0 (by rfl) (by rfl) (by rfl) (by kernel_rfl) (by exact inC_33 Hy.out) ?_))
    | (go_at_call 70; refine (equal47 _ _ _ _ _ (HS.out.fact (i := 0) rfl) (HS.out.fact (i := 1) rfl)).mono ?_; rintro e Wn ⟨rfl, hb⟩; subst hb))
  go_ret
  exact ⟨rfl, HS.out.below⟩
theorem sameI (x y : Value × TIn) (w : World) (hx : x.2.ok) (hy : y.2.ok) (hbx : HB w x.1 x.2.s) (hby : HB w y.1 y.2.s) :
    Calls Try.prog 114 #[.agg (inC x).toArray, .agg (inC y).toArray] w fun e w' => e = .returned (.bool (sameIB x.2 y.2)) ∧ Below w.heap.size w w' := by
  unfold sameIB
  by_cases h1 : x.2.h = y.2.h ∧ (x.2.n : Int) = (y.2.n : Int)
  · by_cases h2 : x.2.q = y.2.q
    · have e : decide ((x.2.h = y.2.h ∧ (x.2.n : Int) = (y.2.n : Int)) ∧ x.2.q = y.2.q ∧ x.2.s = y.2.s) = decide (x.2.s = y.2.s) := by simp only [h1, h2, true_and, and_self]
      rw [e]
      exact same114c x y _ _ w hx hy hbx hby (inC_34 hx) (inC_34 hy) h1 (by rw [h2])
    · rw [decide_eq_false (fun h => h2 h.2.1)]
      exact same114b x y _ _ w hx hy hbx hby (inC_34 hx) (inC_34 hy) h1 (fun e => h2 (by omega))
  · rw [decide_eq_false (fun h => h1 h.1)]
    exact same114a x y _ _ w hx hy hbx hby (inC_34 hx) (inC_34 hy) h1
set_option maxHeartbeats 1000000 in
set_option maxRecDepth 100000 in
theorem same115a (x y : Value × TOut) (p q : Int) (w : World) (hbx : HB w x.1 x.2.s) (hby : HB w y.1 y.2.s) (cx : (outC x)[0]? = some (.int .i64 p)) (cy : (outC y)[0]? = some (.int .i64 q)) (dx : (outC x)[1]? = some x.1) (dy : (outC y)[1]? = some y.1) (h2 : ¬ p = q) :
    Calls Try.prog 115 #[.agg (outC x).toArray, .agg (outC y).toArray] w fun e w' => e = .returned (.bool false) ∧ Below w.heap.size w w' := by
  have HS := Lib.hid (((St.start w).addF hby.away0).addF hbx.away0)
  have CX := Lib.hid cx; have CY := Lib.hid cy; have DX := Lib.hid dx; have DY := Lib.hid dy
  have k2 : (p == q) = false := by rw [beq_eq_false_iff_ne]; exact h2
  clear h2
  clear hbx hby cx cy dx dy
  go_enter Try.func115, Try.ntmps115
  go_wp2_with (first
    | go_skip
    | (refine atd 2 (by rfl) ?_; refine wl (by rfl) (s_bx (l := outC x) HS.out (by rfl) (by rfl) ?_); intro b2 Wn hS; clear HS; have HS := Lib.hid hS; clear hS)
    | (refine atd 3 (by rfl) ?_; refine wl (by rfl) (s_bx (l := outC y) HS.out (by rfl) (by rfl) ?_); intro b3 Wn hS; clear HS; have HS := Lib.hid hS; clear hS)
    | (refine atd 6 (by rfl) ?_; refine wl (by rfl) (s_ld HS.out 1 (by rfl) (by rfl) (by rfl) (by kernel_rfl) (by exact CX.out) ?_))
    | (refine atd 8 (by rfl) ?_; refine wl (by rfl) (s_ld HS.out 0 (by rfl) (by rfl) (by rfl) (by kernel_rfl) (by exact CY.out) ?_))
    | (refine atd 12 (by rfl) ?_; refine wl (by rfl) (s_ld HS.out 1 (by rfl) (by rfl) (by rfl) (by kernel_rfl) (by exact DX.out) ?_))
    | (refine atd 14 (by rfl) ?_; refine wl (by rfl) (s_ld HS.out 0 (by rfl) (by rfl) (by rfl) (by kernel_rfl) (by exact DY.out) ?_))
    | (go_at_call 70; refine (equal47 _ _ _ _ _ (HS.out.fact (i := 0) rfl) (HS.out.fact (i := 1) rfl)).mono ?_; rintro e Wn ⟨rfl, hb⟩; subst hb))
  go_ret
  exact ⟨rfl, HS.out.below⟩
set_option maxHeartbeats 1000000 in
set_option maxRecDepth 100000 in
theorem same115b (x y : Value × TOut) (p q : Int) (w : World) (hbx : HB w x.1 x.2.s) (hby : HB w y.1 y.2.s) (cx : (outC x)[0]? = some (.int .i64 p)) (cy : (outC y)[0]? = some (.int .i64 q)) (dx : (outC x)[1]? = some x.1) (dy : (outC y)[1]? = some y.1) (h2 : p = q) :
    Calls Try.prog 115 #[.agg (outC x).toArray, .agg (outC y).toArray] w fun e w' => e = .returned (.bool (decide (x.2.s = y.2.s))) ∧ Below w.heap.size w w' := by
  have HS := Lib.hid (((St.start w).addF hby.away0).addF hbx.away0)
  have CX := Lib.hid cx; have CY := Lib.hid cy; have DX := Lib.hid dx; have DY := Lib.hid dy
  subst h2
  clear hbx hby cx cy dx dy
  go_enter Try.func115, Try.ntmps115
  go_wp2_with (first
    | go_skip
    | (refine atd 2 (by rfl) ?_; refine wl (by rfl) (s_bx (l := outC x) HS.out (by rfl) (by rfl) ?_); intro b2 Wn hS; clear HS; have HS := Lib.hid hS; clear hS)
    | (refine atd 3 (by rfl) ?_; refine wl (by rfl) (s_bx (l := outC y) HS.out (by rfl) (by rfl) ?_); intro b3 Wn hS; clear HS; have HS := Lib.hid hS; clear hS)
    | (refine atd 6 (by rfl) ?_; refine wl (by rfl) (s_ld HS.out 1 (by rfl) (by rfl) (by rfl) (by kernel_rfl) (by exact CX.out) ?_))
    | (refine atd 8 (by rfl) ?_; refine wl (by rfl) (s_ld HS.out 0 (by rfl) (by rfl) (by rfl) (by kernel_rfl) (by exact CY.out) ?_))
    | (refine atd 12 (by rfl) ?_; refine wl (by rfl) (s_ld HS.out 1 (by rfl) (by rfl) (by rfl) (by kernel_rfl) (by exact DX.out) ?_))
    | (refine atd 14 (by rfl) ?_; refine wl (by rfl) (s_ld HS.out 0 (by rfl) (by rfl) (by rfl) (by kernel_rfl) (by exact DY.out) ?_))
    | (go_at_call 70; refine (equal47 _ _ _ _ _ (HS.out.fact (i := 0) rfl) (HS.out.fact (i := 1) rfl)).mono ?_; rintro e Wn ⟨rfl, hb⟩; subst hb))
  go_ret
  exact ⟨rfl, HS.out.below⟩
theorem outC_0 (x : Value × TOut) : (outC x)[0]? = some (.int .i64 x.2.v) := by unfold outC; rfl
theorem outC_1 (x : Value × TOut) : (outC x)[1]? = some x.1 := by unfold outC; rfl
theorem sameO (x y : Value × TOut) (w : World) (_ : x.2.ok) (_ : y.2.ok) (hbx : HB w x.1 x.2.s) (hby : HB w y.1 y.2.s) :
    Calls Try.prog 115 #[.agg (outC x).toArray, .agg (outC y).toArray] w fun e w' => e = .returned (.bool (sameOB x.2 y.2)) ∧ Below w.heap.size w w' := by
  unfold sameOB
  by_cases h2 : x.2.v = y.2.v
  · have e : decide (x.2.v = y.2.v ∧ x.2.s = y.2.s) = decide (x.2.s = y.2.s) := by simp only [h2, true_and]
    rw [e]
    exact same115b x y _ _ w hbx hby (outC_0 x) (outC_0 y) (outC_1 x) (outC_1 y) h2
  · rw [decide_eq_false (fun h => h2 h.1)]
    exact same115a x y _ _ w hbx hby (outC_0 x) (outC_0 y) (outC_1 x) (outC_1 y) h2
set_option maxHeartbeats 2000000 in
set_option maxRecDepth 100000 in
theorem eqf116 (u v : Value) (l m : List (Value × TIn)) (w : World) (hu : SLc w u 35 (l.map inC)) (hv : SLc w v 35 (m.map inC)) (hol : ∀ x ∈ l, x.2.ok) (hom : ∀ x ∈ m, x.2.ok) (hbl : ∀ x ∈ l, HB w x.1 x.2.s) (hbm : ∀ x ∈ m, HB w x.1 x.2.s) (hl : l.length ≤ 1000000) (hm : m.length ≤ 1000000) :
    Calls Try.prog 116 #[u, v, .func (.func 114) #[] #[]] w fun e w' => BoolE (l.map (·.2) = m.map (·.2)) w e w' := by
  have HU := Lib.hid hu; have HV := Lib.hid hv
  have HOL := Lib.hid hol; have HOM := Lib.hid hom; have HBL := Lib.hid hbl; have HBM := Lib.hid hbm
  obtain ⟨A, c, hA, hlc⟩ := hu.shape
  obtain ⟨B, d, hB, hmc⟩ := hv.shape
  rw [List.length_map] at hA hB hlc hmc
  subst hA hB
  clear hu hv hol hom hbl hbm
  by_cases hlen : l.length = m.length
  · have HLEN := Lib.hid hlen
    rw [← hlen] at HV ⊢
    clear hlen
    go_enter Try.func116, Try.ntmps116
    go_wp2_with (first
      | go_skip)
    go_loopw [17] (fun s17 wr => ∃ i : Nat, i ≤ l.length ∧ s17 = .int .i64 (i : Int) ∧ (∀ j, j < i → (l.map (·.2))[j]? = (m.map (·.2))[j]?) ∧ Below w.heap.size w wr) (fun s17 _ => l.length - (intOf s17).toNat)
    case atStart => exact ⟨0, by omega, rfl, fun j hj => by omega, Below.refl _ _⟩
    case round =>
      obtain ⟨i, hi, rfl, hall, hb⟩ := hrel
      have HALL := Lib.hid hall; have HB := Lib.hid hb
      clear hall
      by_cases hlt : i < l.length
      · have him : i < m.length := by have := HLEN.out; omega
        obtain ⟨ba, oa, rfl, hr1⟩ := (HU.out.below hb).get (i := i) (by rw [List.length_map]; exact hlt)
        obtain ⟨bb, ob, rfl, hr2⟩ := (HV.out.below hb).get (i := i) (by rw [List.length_map]; exact him)
        have hli : l[i]? = some l[i] := List.getElem?_eq_getElem hlt
        have hmi : m[i]? = some m[i] := List.getElem?_eq_getElem him
        rw [List.getElem_map] at hr1 hr2
        generalize l[i] = x at *
        generalize m[i] = y at *
        have hxm := List.mem_of_getElem? hli
        have hym := List.mem_of_getElem? hmi
        have R1 := Lib.hid hr1
        have HX := Lib.hid (HOL.out x hxm); have HY := Lib.hid (HOM.out y hym)
        have hb1 := (HBL.out x hxm).below hb
        have hb2 := (HBM.out y hym).below hb
        have HX1 := Lib.hid (hb_one hb1); have HY1 := Lib.hid (hb_one hb2)
        have hr2a : Away (Keys []) (fun W => W.rangeAt bb (ob + i * 35) (inC y)) wr := fun V hs => fun j u hj => hs.cell (fun ⟨r, hr, _⟩ => by cases hr) (hr2 j u hj)
        have HS := Lib.hid ((((St.start wr).addF hb2.away0).addF hb1.away0).addF hr2a)
        have HLI := Lib.hid hli; have HMI := Lib.hid hmi
        clear hli hmi hxm hym hr1 hr2 hb1 hb2 hr2a hb him
        have j1 : (i : Int) < (l.length : Int) := by omega
        by_cases he : x.2 = y.2
        · have hd : sameIB x.2 y.2 = true := sameI_iff.2 he
          go_wp2_with (first
            | go_skip
            | (refine wl (by rfl) (wp_of_run (run_lda (n := 35) (cs := inC x) ag66 (by rfl) (by rfl) R1.out (inC_length (x := x) HX.out)) ?_))
            | (refine wl (by rfl) (wp_of_run (run_lda (n := 35) (cs := inC y) ag66 (by rfl) (by rfl) (HS.out.fact (i := 0) rfl) (inC_length (x := y) HY.out)) ?_))
            | (refine atd 8 (by rfl) ?_; refine wl (by rfl) (s_al (l := z35) HS.out (by rfl) z66 (by rfl) ?_); intro b8 Wn hS; clear HS; have HS := Lib.hid hS; clear hS)
            | (refine atd 9 (by rfl) ?_; refine wl (by rfl) (s_al (l := z35) HS.out (by rfl) z66 (by rfl) ?_); intro b9 Wn hS; clear HS; have HS := Lib.hid hS; clear hS)
            | (refine sto 8 (by rfl) ?_; refine wl (by rfl) (s_sta (cs := inC x) HS.out 0 35 (by rfl) (by rfl) (by rfl) ag66 (by rfl) (inC_length (x := x) HX.out) (inC_one (x := x) HX1.out) (by exact Nat.le_refl _) ?_); intro Wn hS; rw [splice_all (l := z35) (cs := inC x) (inC_length (x := x) HX.out)] at hS; clear HS; have HS := Lib.hid hS; clear hS)
            | (refine sto 9 (by rfl) ?_; refine wl (by rfl) (s_sta (cs := inC y) HS.out 0 35 (by rfl) (by rfl) (by rfl) ag66 (by rfl) (inC_length (x := y) HY.out) (inC_one (x := y) HY1.out) (by exact Nat.le_refl _) ?_); intro Wn hS; rw [splice_all (l := z35) (cs := inC y) (inC_length (x := y) HY.out)] at hS; clear HS; have HS := Lib.hid hS; clear hS)
            | (refine atd 27 (by rfl) ?_; refine wl (by rfl) (s_lda (cs := inC x) HS.out 1 35 (by rfl) (by rfl) (by rfl) ag66 (by exact all_take (inC_length (x := x) HX.out)) (inC_length (x := x) HX.out) ?_))
            | (refine atd 28 (by rfl) ?_; refine wl (by rfl) (s_lda (cs := inC y) HS.out 0 35 (by rfl) (by rfl) (by rfl) ag66 (by exact all_take (inC_length (x := y) HY.out)) (inC_length (x := y) HY.out) ?_))
            | (go_at_call 114; refine (sameI x y _ HX.out HY.out (HS.out.fact (i := 1) rfl) (HS.out.fact (i := 2) rfl)).mono ?_; rw [hd]; rintro e Wn ⟨rfl, hb⟩; have hS := HS.out.call hb; clear hb; clear HS; have HS := Lib.hid hS; clear hS))
          refine ⟨⟨i + 1, by omega, by push_cast; rfl, fun j hj => ?_, HB.out.trans (HS.out.below.mono HB.out.size)⟩, by simp [intOf]; omega⟩
          by_cases hji : j < i
          · exact HALL.out j hji
          · obtain rfl : j = i := by omega
            rw [List.getElem?_map, List.getElem?_map, HLI.out, HMI.out]
            exact congrArg some he
        · have hd : sameIB x.2 y.2 = false := by
            cases hq : sameIB x.2 y.2 with
            | false => rfl
            | true => exact absurd (sameI_iff.1 hq) he
          have HNE := Lib.hid he
          clear he
          go_wp2_with (first
            | go_skip
            | (refine wl (by rfl) (wp_of_run (run_lda (n := 35) (cs := inC x) ag66 (by rfl) (by rfl) R1.out (inC_length (x := x) HX.out)) ?_))
            | (refine wl (by rfl) (wp_of_run (run_lda (n := 35) (cs := inC y) ag66 (by rfl) (by rfl) (HS.out.fact (i := 0) rfl) (inC_length (x := y) HY.out)) ?_))
            | (refine atd 8 (by rfl) ?_; refine wl (by rfl) (s_al (l := z35) HS.out (by rfl) z66 (by rfl) ?_); intro b8 Wn hS; clear HS; have HS := Lib.hid hS; clear hS)
            | (refine atd 9 (by rfl) ?_; refine wl (by rfl) (s_al (l := z35) HS.out (by rfl) z66 (by rfl) ?_); intro b9 Wn hS; clear HS; have HS := Lib.hid hS; clear hS)
            | (refine sto 8 (by rfl) ?_; refine wl (by rfl) (s_sta (cs := inC x) HS.out 0 35 (by rfl) (by rfl) (by rfl) ag66 (by rfl) (inC_length (x := x) HX.out) (inC_one (x := x) HX1.out) (by exact Nat.le_refl _) ?_); intro Wn hS; rw [splice_all (l := z35) (cs := inC x) (inC_length (x := x) HX.out)] at hS; clear HS; have HS := Lib.hid hS; clear hS)
            | (refine sto 9 (by rfl) ?_; refine wl (by rfl) (s_sta (cs := inC y) HS.out 0 35 (by rfl) (by rfl) (by rfl) ag66 (by rfl) (inC_length (x := y) HY.out) (inC_one (x := y) HY1.out) (by exact Nat.le_refl _) ?_); intro Wn hS; rw [splice_all (l := z35) (cs := inC y) (inC_length (x := y) HY.out)] at hS; clear HS; have HS := Lib.hid hS; clear hS)
            | (refine atd 27 (by rfl) ?_; refine wl (by rfl) (s_lda (cs := inC x) HS.out 1 35 (by rfl) (by rfl) (by rfl) ag66 (by exact all_take (inC_length (x := x) HX.out)) (inC_length (x := x) HX.out) ?_))
            | (refine atd 28 (by rfl) ?_; refine wl (by rfl) (s_lda (cs := inC y) HS.out 0 35 (by rfl) (by rfl) (by rfl) ag66 (by exact all_take (inC_length (x := y) HY.out)) (inC_length (x := y) HY.out) ?_))
            | (go_at_call 114; refine (sameI x y _ HX.out HY.out (HS.out.fact (i := 1) rfl) (HS.out.fact (i := 2) rfl)).mono ?_; rw [hd]; rintro e Wn ⟨rfl, hb⟩; have hS := HS.out.call hb; clear hb; clear HS; have HS := Lib.hid hS; clear hS))
          go_ret
          refine ⟨false, rfl, ⟨fun h => (nomatch h), fun e => ?_⟩, HB.out.trans (HS.out.below.mono HB.out.size)⟩
          have h1 : (l.map (·.2))[i]? = some x.2 := by rw [List.getElem?_map, HLI.out]; rfl
          have h2 : (m.map (·.2))[i]? = some y.2 := by rw [List.getElem?_map, HMI.out]; rfl
          rw [e, h2] at h1
          injection h1 with h1
          exact absurd h1.symm HNE.out
      · have heq : l.map (·.2) = m.map (·.2) := List.ext_getElem? fun j => by
          by_cases hj : j < i
          · exact HALL.out j hj
          · rw [List.getElem?_eq_none (by rw [List.length_map]; omega), List.getElem?_eq_none (by rw [List.length_map]; have := HLEN.out; omega)]
        have HEQ := Lib.hid heq
        clear heq
        have j1 : ¬ (i : Int) < (l.length : Int) := by omega
        go_wp2_with (first
          | go_skip)
        go_ret
        exact ⟨true, rfl, ⟨fun _ => HEQ.out, fun _ => rfl⟩, HB.out⟩
  · have HNE := Lib.hid (show ¬ (l.map (·.2) = m.map (·.2)) from fun e => hlen (by have := congrArg List.length e; simpa using this))
    have k1 : ¬ (l.length : Int) = (m.length : Int) := by omega
    clear hlen
    go_enter Try.func116, Try.ntmps116
    go_wp2_with (first
      | go_skip)
    go_ret
    exact ⟨false, rfl, ⟨fun h => (nomatch h), fun e => absurd e HNE.out⟩, Below.refl _ _⟩
set_option maxHeartbeats 2000000 in
set_option maxRecDepth 100000 in
theorem eqf117 (u v : Value) (l m : List (Value × TOut)) (w : World) (hu : SLc w u 2 (l.map outC)) (hv : SLc w v 2 (m.map outC)) (hol : ∀ x ∈ l, x.2.ok) (hom : ∀ x ∈ m, x.2.ok) (hbl : ∀ x ∈ l, HB w x.1 x.2.s) (hbm : ∀ x ∈ m, HB w x.1 x.2.s) (hl : l.length ≤ 1000000) (hm : m.length ≤ 1000000) :
    Calls Try.prog 117 #[u, v, .func (.func 115) #[] #[]] w fun e w' => BoolE (l.map (·.2) = m.map (·.2)) w e w' := by
  have HU := Lib.hid hu; have HV := Lib.hid hv
  have HOL := Lib.hid hol; have HOM := Lib.hid hom; have HBL := Lib.hid hbl; have HBM := Lib.hid hbm
  obtain ⟨A, c, hA, hlc⟩ := hu.shape
  obtain ⟨B, d, hB, hmc⟩ := hv.shape
  rw [List.length_map] at hA hB hlc hmc
  subst hA hB
  clear hu hv hol hom hbl hbm
  by_cases hlen : l.length = m.length
  · have HLEN := Lib.hid hlen
    rw [← hlen] at HV ⊢
    clear hlen
    go_enter Try.func117, Try.ntmps117
    go_wp2_with (first
      | go_skip)
    go_loopw [17] (fun s17 wr => ∃ i : Nat, i ≤ l.length ∧ s17 = .int .i64 (i : Int) ∧ (∀ j, j < i → (l.map (·.2))[j]? = (m.map (·.2))[j]?) ∧ Below w.heap.size w wr) (fun s17 _ => l.length - (intOf s17).toNat)
    case atStart => exact ⟨0, by omega, rfl, fun j hj => by omega, Below.refl _ _⟩
    case round =>
      obtain ⟨i, hi, rfl, hall, hb⟩ := hrel
      have HALL := Lib.hid hall; have HB := Lib.hid hb
      clear hall
      by_cases hlt : i < l.length
      · have him : i < m.length := by have := HLEN.out; omega
        obtain ⟨ba, oa, rfl, hr1⟩ := (HU.out.below hb).get (i := i) (by rw [List.length_map]; exact hlt)
        obtain ⟨bb, ob, rfl, hr2⟩ := (HV.out.below hb).get (i := i) (by rw [List.length_map]; exact him)
        have hli : l[i]? = some l[i] := List.getElem?_eq_getElem hlt
        have hmi : m[i]? = some m[i] := List.getElem?_eq_getElem him
        rw [List.getElem_map] at hr1 hr2
        generalize l[i] = x at *
        generalize m[i] = y at *
        have hxm := List.mem_of_getElem? hli
        have hym := List.mem_of_getElem? hmi
        have R1 := Lib.hid hr1
        have HX := Lib.hid (HOL.out x hxm); have HY := Lib.hid (HOM.out y hym)
        have hb1 := (HBL.out x hxm).below hb
        have hb2 := (HBM.out y hym).below hb
        have HX1 := Lib.hid (hb_one hb1); have HY1 := Lib.hid (hb_one hb2)
        have hr2a : Away (Keys []) (fun W => W.rangeAt bb (ob + i * 2) (outC y)) wr := fun V hs => fun j u hj => hs.cell (fun ⟨r, hr, _⟩ => by cases hr) (hr2 j u hj)
        have HS := Lib.hid ((((St.start wr).addF hb2.away0).addF hb1.away0).addF hr2a)
        have HLI := Lib.hid hli; have HMI := Lib.hid hmi
        clear hli hmi hxm hym hr1 hr2 hb1 hb2 hr2a hb him
        have j1 : (i : Int) < (l.length : Int) := by omega
        by_cases he : x.2 = y.2
        · have hd : sameOB x.2 y.2 = true := sameO_iff.2 he
          go_wp2_with (first
            | go_skip
            | (refine wl (by rfl) (wp_of_run (run_lda (n := 2) (cs := outC x) ag68 (by rfl) (by rfl) R1.out (outC_len (x := x) HX.out)) ?_))
            | (refine wl (by rfl) (wp_of_run (run_lda (n := 2) (cs := outC y) ag68 (by rfl) (by rfl) (HS.out.fact (i := 0) rfl) (outC_len (x := y) HY.out)) ?_))
            | (refine atd 8 (by rfl) ?_; refine wl (by rfl) (s_al (l := [.int .i64 0, .slice none 0 0]) HS.out (by rfl) z68 (by rfl) ?_); intro b8 Wn hS; clear HS; have HS := Lib.hid hS; clear hS)
            | (refine atd 9 (by rfl) ?_; refine wl (by rfl) (s_al (l := [.int .i64 0, .slice none 0 0]) HS.out (by rfl) z68 (by rfl) ?_); intro b9 Wn hS; clear HS; have HS := Lib.hid hS; clear hS)
            | (refine sto 8 (by rfl) ?_; refine wl (by rfl) (s_sta (cs := outC x) HS.out 0 2 (by rfl) (by rfl) (by rfl) ag68 (by rfl) (outC_len (x := x) HX.out) (outC_one (x := x) HX1.out) (by exact Nat.le_refl _) ?_); intro Wn hS; rw [splice_all (l := [.int .i64 0, .slice none 0 0]) (cs := outC x) (outC_len (x := x) HX.out)] at hS; clear HS; have HS := Lib.hid hS; clear hS)
            | (refine sto 9 (by rfl) ?_; refine wl (by rfl) (s_sta (cs := outC y) HS.out 0 2 (by rfl) (by rfl) (by rfl) ag68 (by rfl) (outC_len (x := y) HY.out) (outC_one (x := y) HY1.out) (by exact Nat.le_refl _) ?_); intro Wn hS; rw [splice_all (l := [.int .i64 0, .slice none 0 0]) (cs := outC y) (outC_len (x := y) HY.out)] at hS; clear HS; have HS := Lib.hid hS; clear hS)
            | (refine atd 27 (by rfl) ?_; refine wl (by rfl) (s_lda (cs := outC x) HS.out 1 2 (by rfl) (by rfl) (by rfl) ag68 (by exact all_take (outC_len (x := x) HX.out)) (outC_len (x := x) HX.out) ?_))
            | (refine atd 28 (by rfl) ?_; refine wl (by rfl) (s_lda (cs := outC y) HS.out 0 2 (by rfl) (by rfl) (by rfl) ag68 (by exact all_take (outC_len (x := y) HY.out)) (outC_len (x := y) HY.out) ?_))
            | (go_at_call 115; refine (sameO x y _ HX.out HY.out (HS.out.fact (i := 1) rfl) (HS.out.fact (i := 2) rfl)).mono ?_; rw [hd]; rintro e Wn ⟨rfl, hb⟩; have hS := HS.out.call hb; clear hb; clear HS; have HS := Lib.hid hS; clear hS))
          refine ⟨⟨i + 1, by omega, by push_cast; rfl, fun j hj => ?_, HB.out.trans (HS.out.below.mono HB.out.size)⟩, by simp [intOf]; omega⟩
          by_cases hji : j < i
          · exact HALL.out j hji
          · obtain rfl : j = i := by omega
            rw [List.getElem?_map, List.getElem?_map, HLI.out, HMI.out]
            exact congrArg some he
        · have hd : sameOB x.2 y.2 = false := by
            cases hq : sameOB x.2 y.2 with
            | false => rfl
            | true => exact absurd (sameO_iff.1 hq) he
          have HNE := Lib.hid he
          clear he
          go_wp2_with (first
            | go_skip
            | (refine wl (by rfl) (wp_of_run (run_lda (n := 2) (cs := outC x) ag68 (by rfl) (by rfl) R1.out (outC_len (x := x) HX.out)) ?_))
            | (refine wl (by rfl) (wp_of_run (run_lda (n := 2) (cs := outC y) ag68 (by rfl) (by rfl) (HS.out.fact (i := 0) rfl) (outC_len (x := y) HY.out)) ?_))
            | (refine atd 8 (by rfl) ?_; refine wl (by rfl) (s_al (l := [.int .i64 0, .slice none 0 0]) HS.out (by rfl) z68 (by rfl) ?_); intro b8 Wn hS; clear HS; have HS := Lib.hid hS; clear hS)
            | (refine atd 9 (by rfl) ?_; refine wl (by rfl) (s_al (l := [.int .i64 0, .slice none 0 0]) HS.out (by rfl) z68 (by rfl) ?_); intro b9 Wn hS; clear HS; have HS := Lib.hid hS; clear hS)
            | (refine sto 8 (by rfl) ?_; refine wl (by rfl) (s_sta (cs := outC x) HS.out 0 2 (by rfl) (by rfl) (by rfl) ag68 (by rfl) (outC_len (x := x) HX.out) (outC_one (x := x) HX1.out) (by exact Nat.le_refl _) ?_); intro Wn hS; rw [splice_all (l := [.int .i64 0, .slice none 0 0]) (cs := outC x) (outC_len (x := x) HX.out)] at hS; clear HS; have HS := Lib.hid hS; clear hS)
            | (refine sto 9 (by rfl) ?_; refine wl (by rfl) (s_sta (cs := outC y) HS.out 0 2 (by rfl) (by rfl) (by rfl) ag68 (by rfl) (outC_len (x := y) HY.out) (outC_one (x := y) HY1.out) (by exact Nat.le_refl _) ?_); intro Wn hS; rw [splice_all (l := [.int .i64 0, .slice none 0 0]) (cs := outC y) (outC_len (x := y) HY.out)] at hS; clear HS; have HS := Lib.hid hS; clear hS)
            | (refine atd 27 (by rfl) ?_; refine wl (by rfl) (s_lda (cs := outC x) HS.out 1 2 (by rfl) (by rfl) (by rfl) ag68 (by exact all_take (outC_len (x := x) HX.out)) (outC_len (x := x) HX.out) ?_))
            | (refine atd 28 (by rfl) ?_; refine wl (by rfl) (s_lda (cs := outC y) HS.out 0 2 (by rfl) (by rfl) (by rfl) ag68 (by exact all_take (outC_len (x := y) HY.out)) (outC_len (x := y) HY.out) ?_))
            | (go_at_call 115; refine (sameO x y _ HX.out HY.out (HS.out.fact (i := 1) rfl) (HS.out.fact (i := 2) rfl)).mono ?_; rw [hd]; rintro e Wn ⟨rfl, hb⟩; have hS := HS.out.call hb; clear hb; clear HS; have HS := Lib.hid hS; clear hS))
          go_ret
          refine ⟨false, rfl, ⟨fun h => (nomatch h), fun e => ?_⟩, HB.out.trans (HS.out.below.mono HB.out.size)⟩
          have h1 : (l.map (·.2))[i]? = some x.2 := by rw [List.getElem?_map, HLI.out]; rfl
          have h2 : (m.map (·.2))[i]? = some y.2 := by rw [List.getElem?_map, HMI.out]; rfl
          rw [e, h2] at h1
          injection h1 with h1
          exact absurd h1.symm HNE.out
      · have heq : l.map (·.2) = m.map (·.2) := List.ext_getElem? fun j => by
          by_cases hj : j < i
          · exact HALL.out j hj
          · rw [List.getElem?_eq_none (by rw [List.length_map]; omega), List.getElem?_eq_none (by rw [List.length_map]; have := HLEN.out; omega)]
        have HEQ := Lib.hid heq
        clear heq
        have j1 : ¬ (i : Int) < (l.length : Int) := by omega
        go_wp2_with (first
          | go_skip)
        go_ret
        exact ⟨true, rfl, ⟨fun _ => HEQ.out, fun _ => rfl⟩, HB.out⟩
  · have HNE := Lib.hid (show ¬ (l.map (·.2) = m.map (·.2)) from fun e => hlen (by have := congrArg List.length e; simpa using this))
    have k1 : ¬ (l.length : Int) = (m.length : Int) := by omega
    clear hlen
    go_enter Try.func117, Try.ntmps117
    go_wp2_with (first
      | go_skip)
    go_ret
    exact ⟨false, rfl, ⟨fun h => (nomatch h), fun e => absurd e HNE.out⟩, Below.refl _ _⟩
set_option maxHeartbeats 1000000 in
set_option maxRecDepth 100000 in
theorem same45a (A B C D : Option Addr) (ca cb cc cd vx vy kx ky : Nat) (li mi : List (Value × TIn)) (lo mo : List (Value × TOut)) (w : World) (hx : TxW ⟨vx, .slice A li.length ca, li, .slice B lo.length cb, lo, kx⟩ w) (hy : TxW ⟨vy, .slice C mi.length cc, mi, .slice D mo.length cd, mo, ky⟩ w) (ox : TxP.ok ⟨vx, li.map (·.2), lo.map (·.2), kx⟩) (oy : TxP.ok ⟨vy, mi.map (·.2), mo.map (·.2), ky⟩) (h1 : li.length ≤ 1000000) (h2 : mi.length ≤ 1000000) (h3 : lo.length ≤ 1000000) (h4 : mo.length ≤ 1000000) (hne : ¬ vx = vy) :
    Calls Try.prog 45 #[.agg ([.int .u32 (vx : Int), .slice A li.length ca, .slice B lo.length cb, .int .u32 (kx : Int)]).toArray, .agg ([.int .u32 (vy : Int), .slice C mi.length cc, .slice D mo.length cd, .int .u32 (ky : Int)]).toArray] w fun e w' => BoolE ((vx = vy ∧ kx = ky) ∧ li.map (·.2) = mi.map (·.2) ∧ lo.map (·.2) = mo.map (·.2)) w e w' := by
  have HS := Lib.hid (((St.start w).addF hy.away0).addF hx.away0)
  have OX := Lib.hid ox; have OY := Lib.hid oy
  have HNE := Lib.hid (show ¬ (vx = vy ∧ kx = ky) from fun h => hne h.1)
  have k2 : ((vx : Int) == (vy : Int)) = false := by rw [beq_eq_false_iff_ne]; omega
  clear hne
  clear hx hy ox oy
  go_enter Try.func45, Try.ntmps45
  go_wp2_with (first
    | go_skip
    | (refine atd 2 (by rfl) ?_; refine wl (by rfl) (s_bx (l := [.int .u32 (vx : Int), .slice A li.length ca, .slice B lo.length cb, .int .u32 (kx : Int)]) HS.out (by rfl) (by rfl) ?_); intro b2 Wn hS; clear HS; have HS := Lib.hid hS; clear hS)
    | (refine atd 3 (by rfl) ?_; refine wl (by rfl) (s_bx (l := [.int .u32 (vy : Int), .slice C mi.length cc, .slice D mo.length cd, .int .u32 (ky : Int)]) HS.out (by rfl) (by rfl) ?_); intro b3 Wn hS; clear HS; have HS := Lib.hid hS; clear hS)
    | (refine atd 8 (by rfl) ?_; refine wl (by rfl) (s_ld HS.out 1 (by rfl) (by rfl) (by rfl) (by kernel_rfl) (by exact rfl) ?_))
    | (refine atd 10 (by rfl) ?_; refine wl (by rfl) (s_ld HS.out 0 (by rfl) (by rfl) (by rfl) (by kernel_rfl) (by exact rfl) ?_))
    | (refine atd 14 (by rfl) ?_; refine wl (by rfl) (s_ld HS.out 1 (by rfl) (by rfl) (by rfl) (by kernel_rfl) (by exact rfl) ?_))
    | (refine atd 16 (by rfl) ?_; refine wl (by rfl) (s_ld HS.out 0 (by rfl) (by rfl) (by rfl) (by kernel_rfl) (by exact rfl) ?_))
    | (refine atd 21 (by rfl) ?_; refine wl (by rfl) (s_ld HS.out 1 (by rfl) (by rfl) (by rfl) (by kernel_rfl) (by exact rfl) ?_))
    | (refine atd 23 (by rfl) ?_; refine wl (by rfl) (s_ld HS.out 0 (by rfl) (by rfl) (by rfl) (by kernel_rfl) (by exact rfl) ?_))
    | (refine atd 29 (by rfl) ?_; refine wl (by rfl) (s_ld HS.out 1 (by rfl) (by rfl) (by rfl) (by kernel_rfl) (by exact rfl) ?_))
    | (refine atd 31 (by rfl) ?_; refine wl (by rfl) (s_ld HS.out 0 (by rfl) (by rfl) (by rfl) (by kernel_rfl) (by exact rfl) ?_))
    | (go_at_call 116; refine (eqf116 _ _ li mi _ (HS.out.fact (i := 0) rfl).iv (HS.out.fact (i := 1) rfl).iv (fun x hx => OX.out.ins _ (List.mem_map_of_mem hx)) (fun x hx => OY.out.ins _ (List.mem_map_of_mem hx)) (HS.out.fact (i := 0) rfl).is (HS.out.fact (i := 1) rfl).is h1 h2).mono ?_; rintro e Wn ⟨b6, rfl, hi6, hb⟩; have hS := HS.out.call hb; have HI6 := Lib.hid hi6; clear hb hi6; clear HS; have HS := Lib.hid hS; clear hS; cases b6)
    | (go_at_call 117; refine (eqf117 _ _ lo mo _ (HS.out.fact (i := 0) rfl).ov (HS.out.fact (i := 1) rfl).ov (fun x hx => OX.out.outs _ (List.mem_map_of_mem hx)) (fun x hx => OY.out.outs _ (List.mem_map_of_mem hx)) (HS.out.fact (i := 0) rfl).os (HS.out.fact (i := 1) rfl).os h3 h4).mono ?_; rintro e Wn ⟨b7, rfl, hi7, hb⟩; have hS := HS.out.call hb; have HI7 := Lib.hid hi7; clear hb hi7; clear HS; have HS := Lib.hid hS; clear hS))
  go_ret
  exact ⟨false, rfl, ⟨fun h => (nomatch h), fun e => by first | exact absurd e.1 HNE.out | exact absurd (show True ∧ kx = ky from ⟨trivial, e.1⟩) HNE.out | exact absurd (show True ∧ kx = ky from ⟨trivial, e.1.2⟩) HNE.out⟩, HS.out.below⟩
set_option maxHeartbeats 1000000 in
set_option maxRecDepth 100000 in
theorem same45b (A B C D : Option Addr) (ca cb cc cd vx vy kx ky : Nat) (li mi : List (Value × TIn)) (lo mo : List (Value × TOut)) (w : World) (hx : TxW ⟨vx, .slice A li.length ca, li, .slice B lo.length cb, lo, kx⟩ w) (hy : TxW ⟨vy, .slice C mi.length cc, mi, .slice D mo.length cd, mo, ky⟩ w) (ox : TxP.ok ⟨vx, li.map (·.2), lo.map (·.2), kx⟩) (oy : TxP.ok ⟨vy, mi.map (·.2), mo.map (·.2), ky⟩) (h1 : li.length ≤ 1000000) (h2 : mi.length ≤ 1000000) (h3 : lo.length ≤ 1000000) (h4 : mo.length ≤ 1000000) (he : vx = vy) (hne : ¬ kx = ky) :
    Calls Try.prog 45 #[.agg ([.int .u32 (vx : Int), .slice A li.length ca, .slice B lo.length cb, .int .u32 (kx : Int)]).toArray, .agg ([.int .u32 (vy : Int), .slice C mi.length cc, .slice D mo.length cd, .int .u32 (ky : Int)]).toArray] w fun e w' => BoolE ((vx = vy ∧ kx = ky) ∧ li.map (·.2) = mi.map (·.2) ∧ lo.map (·.2) = mo.map (·.2)) w e w' := by
  have HS := Lib.hid (((St.start w).addF hy.away0).addF hx.away0)
  have OX := Lib.hid ox; have OY := Lib.hid oy
  have HNE := Lib.hid (show ¬ (vx = vy ∧ kx = ky) from fun h => hne h.2)
  subst he
  have k2 : ((kx : Int) == (ky : Int)) = false := by rw [beq_eq_false_iff_ne]; omega
  clear hne
  clear hx hy ox oy
  go_enter Try.func45, Try.ntmps45
  go_wp2_with (first
    | go_skip
    | (refine atd 2 (by rfl) ?_; refine wl (by rfl) (s_bx (l := [.int .u32 (vx : Int), .slice A li.length ca, .slice B lo.length cb, .int .u32 (kx : Int)]) HS.out (by rfl) (by rfl) ?_); intro b2 Wn hS; clear HS; have HS := Lib.hid hS; clear hS)
    | (refine atd 3 (by rfl) ?_; refine wl (by rfl) (s_bx (l := [.int .u32 (vx : Int), .slice C mi.length cc, .slice D mo.length cd, .int .u32 (ky : Int)]) HS.out (by rfl) (by rfl) ?_); intro b3 Wn hS; clear HS; have HS := Lib.hid hS; clear hS)
    | (refine atd 8 (by rfl) ?_; refine wl (by rfl) (s_ld HS.out 1 (by rfl) (by rfl) (by rfl) (by kernel_rfl) (by exact rfl) ?_))
    | (refine atd 10 (by rfl) ?_; refine wl (by rfl) (s_ld HS.out 0 (by rfl) (by rfl) (by rfl) (by kernel_rfl) (by exact rfl) ?_))
    | (refine atd 14 (by rfl) ?_; refine wl (by rfl) (s_ld HS.out 1 (by rfl) (by rfl) (by rfl) (by kernel_rfl) (by exact rfl) ?_))
    | (refine atd 16 (by rfl) ?_; refine wl (by rfl) (s_ld HS.out 0 (by rfl) (by rfl) (by rfl) (by kernel_rfl) (by exact rfl) ?_))
    | (refine atd 21 (by rfl) ?_; refine wl (by rfl) (s_ld HS.out 1 (by rfl) (by rfl) (by rfl) (by kernel_rfl) (by exact rfl) ?_))
    | (refine atd 23 (by rfl) ?_; refine wl (by rfl) (s_ld HS.out 0 (by rfl) (by rfl) (by rfl) (by kernel_rfl) (by exact rfl) ?_))
    | (refine atd 29 (by rfl) ?_; refine wl (by rfl) (s_ld HS.out 1 (by rfl) (by rfl) (by rfl) (by kernel_rfl) (by exact rfl) ?_))
    | (refine atd 31 (by rfl) ?_; refine wl (by rfl) (s_ld HS.out 0 (by rfl) (by rfl) (by rfl) (by kernel_rfl) (by exact rfl) ?_))
    | (go_at_call 116; refine (eqf116 _ _ li mi _ (HS.out.fact (i := 0) rfl).iv (HS.out.fact (i := 1) rfl).iv (fun x hx => OX.out.ins _ (List.mem_map_of_mem hx)) (fun x hx => OY.out.ins _ (List.mem_map_of_mem hx)) (HS.out.fact (i := 0) rfl).is (HS.out.fact (i := 1) rfl).is h1 h2).mono ?_; rintro e Wn ⟨b6, rfl, hi6, hb⟩; have hS := HS.out.call hb; have HI6 := Lib.hid hi6; clear hb hi6; clear HS; have HS := Lib.hid hS; clear hS; cases b6)
    | (go_at_call 117; refine (eqf117 _ _ lo mo _ (HS.out.fact (i := 0) rfl).ov (HS.out.fact (i := 1) rfl).ov (fun x hx => OX.out.outs _ (List.mem_map_of_mem hx)) (fun x hx => OY.out.outs _ (List.mem_map_of_mem hx)) (HS.out.fact (i := 0) rfl).os (HS.out.fact (i := 1) rfl).os h3 h4).mono ?_; rintro e Wn ⟨b7, rfl, hi7, hb⟩; have hS := HS.out.call hb; have HI7 := Lib.hid hi7; clear hb hi7; clear HS; have HS := Lib.hid hS; clear hS))
  go_ret
  exact ⟨false, rfl, ⟨fun h => (nomatch h), fun e => by first | exact absurd e.1 HNE.out | exact absurd (show True ∧ kx = ky from ⟨trivial, e.1⟩) HNE.out | exact absurd (show True ∧ kx = ky from ⟨trivial, e.1.2⟩) HNE.out⟩, HS.out.below⟩
set_option maxHeartbeats 1000000 in
set_option maxRecDepth 100000 in
theorem same45c (A B C D : Option Addr) (ca cb cc cd vx vy kx ky : Nat) (li mi : List (Value × TIn)) (lo mo : List (Value × TOut)) (w : World) (hx : TxW ⟨vx, .slice A li.length ca, li, .slice B lo.length cb, lo, kx⟩ w) (hy : TxW ⟨vy, .slice C mi.length cc, mi, .slice D mo.length cd, mo, ky⟩ w) (ox : TxP.ok ⟨vx, li.map (·.2), lo.map (·.2), kx⟩) (oy : TxP.ok ⟨vy, mi.map (·.2), mo.map (·.2), ky⟩) (h1 : li.length ≤ 1000000) (h2 : mi.length ≤ 1000000) (h3 : lo.length ≤ 1000000) (h4 : mo.length ≤ 1000000) (he : vx = vy) (he2 : kx = ky) :
    Calls Try.prog 45 #[.agg ([.int .u32 (vx : Int), .slice A li.length ca, .slice B lo.length cb, .int .u32 (kx : Int)]).toArray, .agg ([.int .u32 (vy : Int), .slice C mi.length cc, .slice D mo.length cd, .int .u32 (ky : Int)]).toArray] w fun e w' => BoolE ((vx = vy ∧ kx = ky) ∧ li.map (·.2) = mi.map (·.2) ∧ lo.map (·.2) = mo.map (·.2)) w e w' := by
  have HS := Lib.hid (((St.start w).addF hy.away0).addF hx.away0)
  have OX := Lib.hid ox; have OY := Lib.hid oy
  subst he he2
  clear hx hy ox oy
  go_enter Try.func45, Try.ntmps45
  go_wp2_with (first
    | go_skip
    | (refine atd 2 (by rfl) ?_; refine wl (by rfl) (s_bx (l := [.int .u32 (vx : Int), .slice A li.length ca, .slice B lo.length cb, .int .u32 (kx : Int)]) HS.out (by rfl) (by rfl) ?_); intro b2 Wn hS; clear HS; have HS := Lib.hid hS; clear hS)
    | (refine atd 3 (by rfl) ?_; refine wl (by rfl) (s_bx (l := [.int .u32 (vx : Int), .slice C mi.length cc, .slice D mo.length cd, .int .u32 (kx : Int)]) HS.out (by rfl) (by rfl) ?_); intro b3 Wn hS; clear HS; have HS := Lib.hid hS; clear hS)
    | (refine atd 8 (by rfl) ?_; refine wl (by rfl) (s_ld HS.out 1 (by rfl) (by rfl) (by rfl) (by kernel_rfl) (by exact rfl) ?_))
    | (refine atd 10 (by rfl) ?_; refine wl (by rfl) (s_ld HS.out 0 (by rfl) (by rfl) (by rfl) (by kernel_rfl) (by exact rfl) ?_))
    | (refine atd 14 (by rfl) ?_; refine wl (by rfl) (s_ld HS.out 1 (by rfl) (by rfl) (by rfl) (by kernel_rfl) (by exact rfl) ?_))
    | (refine atd 16 (by rfl) ?_; refine wl (by rfl) (s_ld HS.out 0 (by rfl) (by rfl) (by rfl) (by kernel_rfl) (by exact rfl) ?_))
    | (refine atd 21 (by rfl) ?_; refine wl (by rfl) (s_ld HS.out 1 (by rfl) (by rfl) (by rfl) (by kernel_rfl) (by exact rfl) ?_))
    | (refine atd 23 (by rfl) ?_; refine wl (by rfl) (s_ld HS.out 0 (by rfl) (by rfl) (by rfl) (by kernel_rfl) (by exact rfl) ?_))
    | (refine atd 29 (by rfl) ?_; refine wl (by rfl) (s_ld HS.out 1 (by rfl) (by rfl) (by rfl) (by kernel_rfl) (by exact rfl) ?_))
    | (refine atd 31 (by rfl) ?_; refine wl (by rfl) (s_ld HS.out 0 (by rfl) (by rfl) (by rfl) (by kernel_rfl) (by exact rfl) ?_))
    | (go_at_call 116; refine (eqf116 _ _ li mi _ (HS.out.fact (i := 0) rfl).iv (HS.out.fact (i := 1) rfl).iv (fun x hx => OX.out.ins _ (List.mem_map_of_mem hx)) (fun x hx => OY.out.ins _ (List.mem_map_of_mem hx)) (HS.out.fact (i := 0) rfl).is (HS.out.fact (i := 1) rfl).is h1 h2).mono ?_; rintro e Wn ⟨b6, rfl, hi6, hb⟩; have hS := HS.out.call hb; have HI6 := Lib.hid hi6; clear hb hi6; clear HS; have HS := Lib.hid hS; clear hS; cases b6)
    | (go_at_call 117; refine (eqf117 _ _ lo mo _ (HS.out.fact (i := 0) rfl).ov (HS.out.fact (i := 1) rfl).ov (fun x hx => OX.out.outs _ (List.mem_map_of_mem hx)) (fun x hx => OY.out.outs _ (List.mem_map_of_mem hx)) (HS.out.fact (i := 0) rfl).os (HS.out.fact (i := 1) rfl).os h3 h4).mono ?_; rintro e Wn ⟨b7, rfl, hi7, hb⟩; have hS := HS.out.call hb; have HI7 := Lib.hid hi7; clear hb hi7; clear HS; have HS := Lib.hid hS; clear hS))
  · go_ret
    exact ⟨false, rfl, ⟨fun h => (nomatch h), fun e => by have := HI6.out.2 e.2.1; cases this⟩, HS.out.below⟩
  · go_ret
    exact ⟨b7, rfl, ⟨fun h => ⟨⟨by trivial, by trivial⟩, HI6.out.1 (by trivial), HI7.out.1 h⟩, fun h => HI7.out.2 h.2.2⟩, HS.out.below⟩
theorem same45 (m n : TxM) (w : World) (hm : TxW m w) (hn : TxW n w) (om : m.p.ok) (on : n.p.ok) (h1 : m.ins.length ≤ 1000000) (h2 : n.ins.length ≤ 1000000) (h3 : m.outs.length ≤ 1000000) (h4 : n.outs.length ≤ 1000000) :
    Calls Try.prog 45 #[.agg m.cs.toArray, .agg n.cs.toArray] w fun e w' => BoolE (m.p = n.p) w e w' := by
  obtain ⟨vx, iv, li, ov, lo, kx⟩ := m
  obtain ⟨vy, iu, mi, ou, mo, ky⟩ := n
  obtain ⟨A, ca, B, cb, e1, e2, _, _⟩ := hm.shape
  obtain ⟨C, cc, D, cd, e3, e4, _, _⟩ := hn.shape
  dsimp only at e1 e2 e3 e4 h1 h2 h3 h4
  subst e1 e2 e3 e4
  have key : ∀ e w', BoolE ((vx = vy ∧ kx = ky) ∧ li.map (·.2) = mi.map (·.2) ∧ lo.map (·.2) = mo.map (·.2)) w e w' → BoolE (TxM.p ⟨vx, .slice A li.length ca, li, .slice B lo.length cb, lo, kx⟩ = TxM.p ⟨vy, .slice C mi.length cc, mi, .slice D mo.length cd, mo, ky⟩) w e w' := by
    rintro e w' ⟨b, h1, h2, h3⟩
    refine ⟨b, h1, h2.trans ?_, h3⟩
    simp only [TxM.p, TxP.mk.injEq]
    constructor
    · rintro ⟨⟨a, b⟩, c, d⟩; exact ⟨a, c, d, b⟩
    · rintro ⟨a, c, d, b⟩; exact ⟨⟨a, b⟩, c, d⟩
  by_cases he : vx = vy
  · by_cases he2 : kx = ky
    · exact (same45c A B C D ca cb cc cd vx vy kx ky li mi lo mo w hm hn om on h1 h2 h3 h4 he he2).mono key
    · exact (same45b A B C D ca cb cc cd vx vy kx ky li mi lo mo w hm hn om on h1 h2 h3 h4 he he2).mono key
  · exact (same45a A B C D ca cb cc cd vx vy kx ky li mi lo mo w hm hn om on h1 h2 h3 h4 he).mono key
end
end Go.Proofs.Yteljmpoaggfliaa
