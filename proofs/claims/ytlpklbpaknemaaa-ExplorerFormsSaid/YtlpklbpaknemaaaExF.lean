/- Contracts and words that the laws stand on (ExF). -/
import Derived.Test.YtlpklbpaknemaaaExB
set_option linter.unusedVariables false
set_option linter.unusedSimpArgs false
namespace Go.Proofs.Ytlpklbpaknemaaa
section
open Go Go.RowKit Go.Proofs
attribute [local irreducible] Calls

theorem rcs_splPt (k : Int) (tx : List UInt8) (n h m : Nat) (sb ha bb : List UInt8) (s b : Value) (x : List UInt8) (y : Nat) (hx : x.length = 32) (ht : tx.length = 32) : splice (rcs ⟨k, tx, n, h, m, sb, ha, bb⟩ s b) 1 (bs x ++ [.int .u32 (y : Int)]) = rcs ⟨k, x, y, h, m, sb, ha, bb⟩ s b := by
  unfold splice rcs
  have e : 1 + (bs x ++ [Value.int .u32 (y : Int)]).length = ((bs tx).length + 1) + 1 := by simp [hx, ht]
  rw [e, List.drop_succ_cons, List.drop_length_add_append]
  simp
theorem ret_c56 {w : World} {fn : Func} {p : Tmp} (h : fn.results = #[.cell p 56]) (tmps : Array Value) (g : Nat) (cs : Array Value) (t : TypeId) (fr : Nat × Nat) (hp : tmps.getD p undef = .pointer (some ⟨g, 0, none⟩)) (hg : w.heap[g]? = some (.cells cs t fr)) (hz : cs.size = 70) :
    (results fn tmps).run Try.prog w = .ok (.agg cs) w := by
  have hp' : tmps[p]?.getD undef = .pointer (some ⟨g, 0, none⟩) := by simpa using hp
  have hl := load56 g cs t fr hg hz
  simp [results, h, hp', asAddr, hl]
theorem onlyF_ok {r : Req} (hr : r.ok) (f : Int) : (onlyF f r).ok := by
  have h1 := hr.tx; have h2 := hr.ha; have h3 := hr.n; have h4 := hr.h; have h5 := hr.m
  refine ⟨?_, ?_, ?_, ?_, ?_⟩
  all_goals (unfold onlyF; dsimp only; split)
  all_goals first | assumption | rfl | (exact Nat.zero_lt_succ _)
set_option maxHeartbeats 1000000 in
set_option maxRecDepth 100000 in
theorem only58a (r : Req) (As Ab : Option Addr) (cs' cb' : Nat) (w : World) (hr : r.ok) (hk : r.k = 1) :
    Calls Try.prog 58 #[.agg (rcs r (.slice As r.sb.length cs') (.slice Ab r.bb.length cb')).toArray] w fun e w' => e = .returned (.agg (rcs ⟨1, z32, 0, 0, 0, [], z32, r.bb⟩ (.slice none 0 0) (.slice Ab r.bb.length cb')).toArray) ∧ Below w.heap.size w w' := by
  have HS := Lib.hid (St.start w)
  have HR := Lib.hid hr; have HTX := Lib.hid hr.tx; have HHA := Lib.hid hr.ha
  have HPT := Lib.hid (show ∀ v ∈ bs r.tx ++ [Value.int .u32 (r.n : Int)], v.oneCell' = true from fun v hv => by
    rcases List.mem_append.1 hv with hv | hv
    · exact all_bs _ v hv
    · simp at hv; subst hv; rfl)
  have HK0 := Lib.hid (show ∀ s b, (rcs r s b)[0]? = some (.int .i64 1) from fun s b => by rw [rcs_0, hk])
  clear hr hk
  go_enter Try.func58, Try.ntmps58
  go_wp2_with (first
    | (refine atd 1 (by rfl) ?_; refine wl (by rfl) (s_bx (l := rcs r (.slice As r.sb.length cs') (.slice Ab r.bb.length cb')) HS.out (by rfl) (by rfl) ?_); intro b1 Wn hS; clear HS; have HS := Lib.hid hS; clear hS)
    | (refine atd 2 (by rfl) ?_; refine wl (by rfl) (s_al (l := rcs (zq 0) (.slice none 0 0) (.slice none 0 0)) HS.out (by rfl) z56 (by rfl) ?_); intro b2 Wn hS; clear HS; have HS := Lib.hid hS; clear hS)
    | (refine atd 5 (by rfl) ?_; refine wl (by rfl) (s_ld (v := .int .i64 1) HS.out 1 (by rfl) (by rfl) (by rfl) (by kernel_rfl) (by exact HK0.out (.slice As r.sb.length cs') (.slice Ab r.bb.length cb')) ?_))
    | (refine atd 6 (by rfl) ?_; refine wl (by rfl) (wp_of_run (run_b56 (k := 1) (by rfl) (by rfl)) ?_))
    | (refine atd 3 (by rfl) ?_; refine wl (by rfl) (s_al (l := rcs (zq 0) (.slice none 0 0) (.slice none 0 0)) HS.out (by rfl) z56 (by rfl) ?_); intro b3 Wn hS; clear HS; have HS := Lib.hid hS; clear hS)
    | (refine sto 3 (by rfl) ?_; refine wl (by rfl) (s_sta (cs := rcs (zq 1) (.slice none 0 0) (.slice none 0 0)) HS.out 0 70 (by rfl) (by rfl) (by rfl) ag56 (by rfl) (by exact rcs_length (zq_ok _) _ _) (by exact cells_rq _ rfl rfl) (by exact Nat.le_of_eq (rcs_length (zq_ok _) _ _).symm) ?_); intro Wn hS; rw [splice_all ((rcs_length (zq_ok _) _ _).trans (rcs_length (zq_ok _) _ _).symm)] at hS; have hS : St w Wn [Blk b3 (rcs ⟨1, z32, 0, 0, 0, [], z32, []⟩ (.slice none 0 0) (.slice none 0 0)) 56, Blk b2 (rcs (zq 0) (.slice none 0 0) (.slice none 0 0)) 56, Blk b1 (rcs r (.slice As r.sb.length cs') (.slice Ab r.bb.length cb')) 56] _ := hS; clear HS; have HS := Lib.hid hS; clear hS)
    | (refine atd 8 (by rfl) ?_; refine wl (by rfl) (s_ld (v := .int .i64 1) HS.out 2 (by rfl) (by rfl) (by rfl) (by kernel_rfl) (by exact HK0.out (.slice As r.sb.length cs') (.slice Ab r.bb.length cb')) ?_))
    | (refine atd 12 (by rfl) ?_; refine wl (by rfl) (s_ld (v := .int .i64 1) HS.out 2 (by rfl) (by rfl) (by rfl) (by kernel_rfl) (by exact HK0.out (.slice As r.sb.length cs') (.slice Ab r.bb.length cb')) ?_))
    | (refine atd 19 (by rfl) ?_; refine wl (by rfl) (s_ld (v := .int .i64 1) HS.out 2 (by rfl) (by rfl) (by rfl) (by kernel_rfl) (by exact HK0.out (.slice As r.sb.length cs') (.slice Ab r.bb.length cb')) ?_))
    | (refine atd 23 (by rfl) ?_; refine wl (by rfl) (s_ld (v := .int .i64 1) HS.out 2 (by rfl) (by rfl) (by rfl) (by kernel_rfl) (by exact HK0.out (.slice As r.sb.length cs') (.slice Ab r.bb.length cb')) ?_))
    | (refine atd 30 (by rfl) ?_; refine wl (by rfl) (s_ld (v := .int .i64 1) HS.out 2 (by rfl) (by rfl) (by rfl) (by kernel_rfl) (by exact HK0.out (.slice As r.sb.length cs') (.slice Ab r.bb.length cb')) ?_))
    | (refine atd 34 (by rfl) ?_; refine wl (by rfl) (s_ld HS.out 2 (by rfl) (by rfl) (by rfl) (by kernel_rfl) (by exact rcs_69 HR.out (.slice As r.sb.length cs') (.slice Ab r.bb.length cb')) ?_))
    | (refine sto 35 (by rfl) ?_; refine wl (by rfl) (s_st (v := .slice Ab r.bb.length cb') HS.out 0 (by rfl) (by rfl) (by rfl) (by kernel_rfl) (by rfl) (by rfl) (by rw [rcs_length (⟨rfl, rfl, Nat.zero_lt_succ _, Nat.zero_lt_succ _, Nat.zero_lt_succ _⟩ : Req.ok ⟨1, z32, 0, 0, 0, [], z32, []⟩)]; decide) ?_); intro Wn hS; rw [rcs_setB (hx := rfl) (hh := rfl) (bb' := r.bb)] at hS; clear HS; have HS := Lib.hid hS; clear hS)
    | (refine atd 52 (by rfl) ?_; refine wl (by rfl) (s_lda (cs := rcs ⟨1, z32, 0, 0, 0, [], z32, r.bb⟩ (.slice none 0 0) (.slice Ab r.bb.length cb')) HS.out 0 70 (by rfl) (by rfl) (by rfl) ag56 (by exact rcs_all (⟨rfl, rfl, Nat.zero_lt_succ _, Nat.zero_lt_succ _, Nat.zero_lt_succ _⟩ : Req.ok ⟨1, z32, 0, 0, 0, [], z32, r.bb⟩) _ _) (by exact rcs_length (⟨rfl, rfl, Nat.zero_lt_succ _, Nat.zero_lt_succ _, Nat.zero_lt_succ _⟩ : Req.ok ⟨1, z32, 0, 0, 0, [], z32, r.bb⟩) _ _) ?_))
    | (refine sto 2 (by rfl) ?_; refine wl (by rfl) (s_sta (cs := rcs ⟨1, z32, 0, 0, 0, [], z32, r.bb⟩ (.slice none 0 0) (.slice Ab r.bb.length cb')) HS.out 1 70 (by rfl) (by rfl) (by rfl) ag56 (by rfl) (by exact rcs_length (⟨rfl, rfl, Nat.zero_lt_succ _, Nat.zero_lt_succ _, Nat.zero_lt_succ _⟩ : Req.ok ⟨1, z32, 0, 0, 0, [], z32, r.bb⟩) _ _) (by exact cells_rq _ rfl rfl) (by exact Nat.le_of_eq (rcs_length (zq_ok _) _ _).symm) ?_); intro Wn hS; rw [splice_all ((rcs_length (⟨rfl, rfl, Nat.zero_lt_succ _, Nat.zero_lt_succ _, Nat.zero_lt_succ _⟩ : Req.ok ⟨1, z32, 0, 0, 0, [], z32, r.bb⟩) _ _).trans (rcs_length (zq_ok _) _ _).symm)] at hS; clear HS; have HS := Lib.hid hS; clear hS))
  exact bodyPost_ret (ret_c56 (p := 2) rfl _ b2 _ 56 (0, 0) (by rfl) (HS.out.blk (i := 1) rfl) (by rw [List.size_toArray]; exact rcs_length (⟨rfl, rfl, Nat.zero_lt_succ _, Nat.zero_lt_succ _, Nat.zero_lt_succ _⟩ : Req.ok ⟨1, z32, 0, 0, 0, [], z32, r.bb⟩) _ _)) rfl ⟨rfl, HS.out.below⟩
end
section
open Go Go.RowKit Go.Proofs
attribute [local irreducible] Calls
set_option maxHeartbeats 1000000 in
set_option maxRecDepth 100000 in
theorem only58b (r : Req) (As Ab : Option Addr) (cs' cb' : Nat) (w : World) (hr : r.ok) (hk : r.k = 2) :
    Calls Try.prog 58 #[.agg (rcs r (.slice As r.sb.length cs') (.slice Ab r.bb.length cb')).toArray] w fun e w' => e = .returned (.agg (rcs ⟨2, r.tx, r.n, r.h, 0, [], z32, []⟩ (.slice none 0 0) (.slice none 0 0)).toArray) ∧ Below w.heap.size w w' := by
  have HS := Lib.hid (St.start w)
  have HR := Lib.hid hr; have HTX := Lib.hid hr.tx; have HHA := Lib.hid hr.ha
  have HPT := Lib.hid (show ∀ v ∈ bs r.tx ++ [Value.int .u32 (r.n : Int)], v.oneCell' = true from fun v hv => by
    rcases List.mem_append.1 hv with hv | hv
    · exact all_bs _ v hv
    · simp at hv; subst hv; rfl)
  have HK0 := Lib.hid (show ∀ s b, (rcs r s b)[0]? = some (.int .i64 2) from fun s b => by rw [rcs_0, hk])
  clear hr hk
  go_enter Try.func58, Try.ntmps58
  go_wp2_with (first
    | (refine atd 1 (by rfl) ?_; refine wl (by rfl) (s_bx (l := rcs r (.slice As r.sb.length cs') (.slice Ab r.bb.length cb')) HS.out (by rfl) (by rfl) ?_); intro b1 Wn hS; clear HS; have HS := Lib.hid hS; clear hS)
    | (refine atd 2 (by rfl) ?_; refine wl (by rfl) (s_al (l := rcs (zq 0) (.slice none 0 0) (.slice none 0 0)) HS.out (by rfl) z56 (by rfl) ?_); intro b2 Wn hS; clear HS; have HS := Lib.hid hS; clear hS)
    | (refine atd 5 (by rfl) ?_; refine wl (by rfl) (s_ld (v := .int .i64 2) HS.out 1 (by rfl) (by rfl) (by rfl) (by kernel_rfl) (by exact HK0.out (.slice As r.sb.length cs') (.slice Ab r.bb.length cb')) ?_))
    | (refine atd 6 (by rfl) ?_; refine wl (by rfl) (wp_of_run (run_b56 (k := 2) (by rfl) (by rfl)) ?_))
    | (refine atd 3 (by rfl) ?_; refine wl (by rfl) (s_al (l := rcs (zq 0) (.slice none 0 0) (.slice none 0 0)) HS.out (by rfl) z56 (by rfl) ?_); intro b3 Wn hS; clear HS; have HS := Lib.hid hS; clear hS)
    | (refine sto 3 (by rfl) ?_; refine wl (by rfl) (s_sta (cs := rcs (zq 2) (.slice none 0 0) (.slice none 0 0)) HS.out 0 70 (by rfl) (by rfl) (by rfl) ag56 (by rfl) (by exact rcs_length (zq_ok _) _ _) (by exact cells_rq _ rfl rfl) (by exact Nat.le_of_eq (rcs_length (zq_ok _) _ _).symm) ?_); intro Wn hS; rw [splice_all ((rcs_length (zq_ok _) _ _).trans (rcs_length (zq_ok _) _ _).symm)] at hS; have hS : St w Wn [Blk b3 (rcs ⟨2, z32, 0, 0, 0, [], z32, []⟩ (.slice none 0 0) (.slice none 0 0)) 56, Blk b2 (rcs (zq 0) (.slice none 0 0) (.slice none 0 0)) 56, Blk b1 (rcs r (.slice As r.sb.length cs') (.slice Ab r.bb.length cb')) 56] _ := hS; clear HS; have HS := Lib.hid hS; clear hS)
    | (refine atd 8 (by rfl) ?_; refine wl (by rfl) (s_ld (v := .int .i64 2) HS.out 2 (by rfl) (by rfl) (by rfl) (by kernel_rfl) (by exact HK0.out (.slice As r.sb.length cs') (.slice Ab r.bb.length cb')) ?_))
    | (refine atd 12 (by rfl) ?_; refine wl (by rfl) (s_ld (v := .int .i64 2) HS.out 2 (by rfl) (by rfl) (by rfl) (by kernel_rfl) (by exact HK0.out (.slice As r.sb.length cs') (.slice Ab r.bb.length cb')) ?_))
    | (refine atd 19 (by rfl) ?_; refine wl (by rfl) (s_ld (v := .int .i64 2) HS.out 2 (by rfl) (by rfl) (by rfl) (by kernel_rfl) (by exact HK0.out (.slice As r.sb.length cs') (.slice Ab r.bb.length cb')) ?_))
    | (refine atd 23 (by rfl) ?_; refine wl (by rfl) (s_ld (v := .int .i64 2) HS.out 2 (by rfl) (by rfl) (by rfl) (by kernel_rfl) (by exact HK0.out (.slice As r.sb.length cs') (.slice Ab r.bb.length cb')) ?_))
    | (refine atd 30 (by rfl) ?_; refine wl (by rfl) (s_ld (v := .int .i64 2) HS.out 2 (by rfl) (by rfl) (by rfl) (by kernel_rfl) (by exact HK0.out (.slice As r.sb.length cs') (.slice Ab r.bb.length cb')) ?_))
    | (refine atd 16 (by rfl) ?_; refine wl (by rfl) (s_lda (cs := bs r.tx ++ [Value.int .u32 (r.n : Int)]) HS.out 2 33 (by rfl) (by rfl) (by rfl) ag54 (by exact rcs_pt HR.out (.slice As r.sb.length cs') (.slice Ab r.bb.length cb')) (by exact pt_len HR.out) ?_))
    | (refine sto 17 (by rfl) ?_; refine wl (by rfl) (s_sta (cs := bs r.tx ++ [Value.int .u32 (r.n : Int)]) HS.out 0 33 (by rfl) (by rfl) (by rfl) ag54 (by rfl) (by exact pt_len HR.out) (by exact HPT.out) (by rw [rcs_length (⟨rfl, rfl, Nat.zero_lt_succ _, Nat.zero_lt_succ _, Nat.zero_lt_succ _⟩ : Req.ok ⟨2, z32, 0, 0, 0, [], z32, []⟩)]; decide) ?_); intro Wn hS; rw [rcs_splPt (hx := HTX.out) (ht := rfl)] at hS; clear HS; have HS := Lib.hid hS; clear hS)
    | (refine atd 27 (by rfl) ?_; refine wl (by rfl) (s_ld HS.out 2 (by rfl) (by rfl) (by rfl) (by kernel_rfl) (by exact rcs_34 HR.out (.slice As r.sb.length cs') (.slice Ab r.bb.length cb')) ?_))
    | (refine sto 28 (by rfl) ?_; refine wl (by rfl) (s_st (v := .int .u32 (r.h : Int)) HS.out 0 (by rfl) (by rfl) (by rfl) (by kernel_rfl) (by rfl) (by rfl) (by rw [rcs_length (⟨HTX.out, rfl, HR.out.n, Nat.zero_lt_succ _, Nat.zero_lt_succ _⟩ : Req.ok ⟨2, r.tx, r.n, 0, 0, [], z32, []⟩)]; decide) ?_); intro Wn hS; rw [rcs_setH (hx := HTX.out)] at hS; clear HS; have HS := Lib.hid hS; clear hS)
    | (refine atd 52 (by rfl) ?_; refine wl (by rfl) (s_lda (cs := rcs ⟨2, r.tx, r.n, r.h, 0, [], z32, []⟩ (.slice none 0 0) (.slice none 0 0)) HS.out 0 70 (by rfl) (by rfl) (by rfl) ag56 (by exact rcs_all (⟨HTX.out, rfl, HR.out.n, HR.out.h, Nat.zero_lt_succ _⟩ : Req.ok ⟨2, r.tx, r.n, r.h, 0, [], z32, []⟩) _ _) (by exact rcs_length (⟨HTX.out, rfl, HR.out.n, HR.out.h, Nat.zero_lt_succ _⟩ : Req.ok ⟨2, r.tx, r.n, r.h, 0, [], z32, []⟩) _ _) ?_))
    | (refine sto 2 (by rfl) ?_; refine wl (by rfl) (s_sta (cs := rcs ⟨2, r.tx, r.n, r.h, 0, [], z32, []⟩ (.slice none 0 0) (.slice none 0 0)) HS.out 1 70 (by rfl) (by rfl) (by rfl) ag56 (by rfl) (by exact rcs_length (⟨HTX.out, rfl, HR.out.n, HR.out.h, Nat.zero_lt_succ _⟩ : Req.ok ⟨2, r.tx, r.n, r.h, 0, [], z32, []⟩) _ _) (by exact cells_rq _ rfl rfl) (by exact Nat.le_of_eq (rcs_length (zq_ok _) _ _).symm) ?_); intro Wn hS; rw [splice_all ((rcs_length (⟨HTX.out, rfl, HR.out.n, HR.out.h, Nat.zero_lt_succ _⟩ : Req.ok ⟨2, r.tx, r.n, r.h, 0, [], z32, []⟩) _ _).trans (rcs_length (zq_ok _) _ _).symm)] at hS; clear HS; have HS := Lib.hid hS; clear hS))
  exact bodyPost_ret (ret_c56 (p := 2) rfl _ b2 _ 56 (0, 0) (by rfl) (HS.out.blk (i := 1) rfl) (by rw [List.size_toArray]; exact rcs_length (⟨HTX.out, rfl, HR.out.n, HR.out.h, Nat.zero_lt_succ _⟩ : Req.ok ⟨2, r.tx, r.n, r.h, 0, [], z32, []⟩) _ _)) rfl ⟨rfl, HS.out.below⟩
end
section
open Go Go.RowKit Go.Proofs
attribute [local irreducible] Calls
set_option maxHeartbeats 1000000 in
set_option maxRecDepth 100000 in
theorem only58c (r : Req) (As Ab : Option Addr) (cs' cb' : Nat) (w : World) (hr : r.ok) (hk : r.k = 3) :
    Calls Try.prog 58 #[.agg (rcs r (.slice As r.sb.length cs') (.slice Ab r.bb.length cb')).toArray] w fun e w' => e = .returned (.agg (rcs ⟨3, z32, 0, r.h, 0, [], z32, []⟩ (.slice none 0 0) (.slice none 0 0)).toArray) ∧ Below w.heap.size w w' := by
  have HS := Lib.hid (St.start w)
  have HR := Lib.hid hr; have HTX := Lib.hid hr.tx; have HHA := Lib.hid hr.ha
  have HPT := Lib.hid (show ∀ v ∈ bs r.tx ++ [Value.int .u32 (r.n : Int)], v.oneCell' = true from fun v hv => by
    rcases List.mem_append.1 hv with hv | hv
    · exact all_bs _ v hv
    · simp at hv; subst hv; rfl)
  have HK0 := Lib.hid (show ∀ s b, (rcs r s b)[0]? = some (.int .i64 3) from fun s b => by rw [rcs_0, hk])
  clear hr hk
  go_enter Try.func58, Try.ntmps58
  go_wp2_with (first
    | (refine atd 1 (by rfl) ?_; refine wl (by rfl) (s_bx (l := rcs r (.slice As r.sb.length cs') (.slice Ab r.bb.length cb')) HS.out (by rfl) (by rfl) ?_); intro b1 Wn hS; clear HS; have HS := Lib.hid hS; clear hS)
    | (refine atd 2 (by rfl) ?_; refine wl (by rfl) (s_al (l := rcs (zq 0) (.slice none 0 0) (.slice none 0 0)) HS.out (by rfl) z56 (by rfl) ?_); intro b2 Wn hS; clear HS; have HS := Lib.hid hS; clear hS)
    | (refine atd 5 (by rfl) ?_; refine wl (by rfl) (s_ld (v := .int .i64 3) HS.out 1 (by rfl) (by rfl) (by rfl) (by kernel_rfl) (by exact HK0.out (.slice As r.sb.length cs') (.slice Ab r.bb.length cb')) ?_))
    | (refine atd 6 (by rfl) ?_; refine wl (by rfl) (wp_of_run (run_b56 (k := 3) (by rfl) (by rfl)) ?_))
    | (refine atd 3 (by rfl) ?_; refine wl (by rfl) (s_al (l := rcs (zq 0) (.slice none 0 0) (.slice none 0 0)) HS.out (by rfl) z56 (by rfl) ?_); intro b3 Wn hS; clear HS; have HS := Lib.hid hS; clear hS)
    | (refine sto 3 (by rfl) ?_; refine wl (by rfl) (s_sta (cs := rcs (zq 3) (.slice none 0 0) (.slice none 0 0)) HS.out 0 70 (by rfl) (by rfl) (by rfl) ag56 (by rfl) (by exact rcs_length (zq_ok _) _ _) (by exact cells_rq _ rfl rfl) (by exact Nat.le_of_eq (rcs_length (zq_ok _) _ _).symm) ?_); intro Wn hS; rw [splice_all ((rcs_length (zq_ok _) _ _).trans (rcs_length (zq_ok _) _ _).symm)] at hS; have hS : St w Wn [Blk b3 (rcs ⟨3, z32, 0, 0, 0, [], z32, []⟩ (.slice none 0 0) (.slice none 0 0)) 56, Blk b2 (rcs (zq 0) (.slice none 0 0) (.slice none 0 0)) 56, Blk b1 (rcs r (.slice As r.sb.length cs') (.slice Ab r.bb.length cb')) 56] _ := hS; clear HS; have HS := Lib.hid hS; clear hS)
    | (refine atd 8 (by rfl) ?_; refine wl (by rfl) (s_ld (v := .int .i64 3) HS.out 2 (by rfl) (by rfl) (by rfl) (by kernel_rfl) (by exact HK0.out (.slice As r.sb.length cs') (.slice Ab r.bb.length cb')) ?_))
    | (refine atd 12 (by rfl) ?_; refine wl (by rfl) (s_ld (v := .int .i64 3) HS.out 2 (by rfl) (by rfl) (by rfl) (by kernel_rfl) (by exact HK0.out (.slice As r.sb.length cs') (.slice Ab r.bb.length cb')) ?_))
    | (refine atd 19 (by rfl) ?_; refine wl (by rfl) (s_ld (v := .int .i64 3) HS.out 2 (by rfl) (by rfl) (by rfl) (by kernel_rfl) (by exact HK0.out (.slice As r.sb.length cs') (.slice Ab r.bb.length cb')) ?_))
    | (refine atd 23 (by rfl) ?_; refine wl (by rfl) (s_ld (v := .int .i64 3) HS.out 2 (by rfl) (by rfl) (by rfl) (by kernel_rfl) (by exact HK0.out (.slice As r.sb.length cs') (.slice Ab r.bb.length cb')) ?_))
    | (refine atd 30 (by rfl) ?_; refine wl (by rfl) (s_ld (v := .int .i64 3) HS.out 2 (by rfl) (by rfl) (by rfl) (by kernel_rfl) (by exact HK0.out (.slice As r.sb.length cs') (.slice Ab r.bb.length cb')) ?_))
    | (refine atd 27 (by rfl) ?_; refine wl (by rfl) (s_ld HS.out 2 (by rfl) (by rfl) (by rfl) (by kernel_rfl) (by exact rcs_34 HR.out (.slice As r.sb.length cs') (.slice Ab r.bb.length cb')) ?_))
    | (refine sto 28 (by rfl) ?_; refine wl (by rfl) (s_st (v := .int .u32 (r.h : Int)) HS.out 0 (by rfl) (by rfl) (by rfl) (by kernel_rfl) (by rfl) (by rfl) (by rw [rcs_length (⟨rfl, rfl, Nat.zero_lt_succ _, Nat.zero_lt_succ _, Nat.zero_lt_succ _⟩ : Req.ok ⟨3, z32, 0, 0, 0, [], z32, []⟩)]; decide) ?_); intro Wn hS; rw [rcs_setH (hx := rfl)] at hS; clear HS; have HS := Lib.hid hS; clear hS)
    | (refine atd 52 (by rfl) ?_; refine wl (by rfl) (s_lda (cs := rcs ⟨3, z32, 0, r.h, 0, [], z32, []⟩ (.slice none 0 0) (.slice none 0 0)) HS.out 0 70 (by rfl) (by rfl) (by rfl) ag56 (by exact rcs_all (⟨rfl, rfl, Nat.zero_lt_succ _, HR.out.h, Nat.zero_lt_succ _⟩ : Req.ok ⟨3, z32, 0, r.h, 0, [], z32, []⟩) _ _) (by exact rcs_length (⟨rfl, rfl, Nat.zero_lt_succ _, HR.out.h, Nat.zero_lt_succ _⟩ : Req.ok ⟨3, z32, 0, r.h, 0, [], z32, []⟩) _ _) ?_))
    | (refine sto 2 (by rfl) ?_; refine wl (by rfl) (s_sta (cs := rcs ⟨3, z32, 0, r.h, 0, [], z32, []⟩ (.slice none 0 0) (.slice none 0 0)) HS.out 1 70 (by rfl) (by rfl) (by rfl) ag56 (by rfl) (by exact rcs_length (⟨rfl, rfl, Nat.zero_lt_succ _, HR.out.h, Nat.zero_lt_succ _⟩ : Req.ok ⟨3, z32, 0, r.h, 0, [], z32, []⟩) _ _) (by exact cells_rq _ rfl rfl) (by exact Nat.le_of_eq (rcs_length (zq_ok _) _ _).symm) ?_); intro Wn hS; rw [splice_all ((rcs_length (⟨rfl, rfl, Nat.zero_lt_succ _, HR.out.h, Nat.zero_lt_succ _⟩ : Req.ok ⟨3, z32, 0, r.h, 0, [], z32, []⟩) _ _).trans (rcs_length (zq_ok _) _ _).symm)] at hS; clear HS; have HS := Lib.hid hS; clear hS))
  exact bodyPost_ret (ret_c56 (p := 2) rfl _ b2 _ 56 (0, 0) (by rfl) (HS.out.blk (i := 1) rfl) (by rw [List.size_toArray]; exact rcs_length (⟨rfl, rfl, Nat.zero_lt_succ _, HR.out.h, Nat.zero_lt_succ _⟩ : Req.ok ⟨3, z32, 0, r.h, 0, [], z32, []⟩) _ _)) rfl ⟨rfl, HS.out.below⟩
end
section
open Go Go.RowKit Go.Proofs
attribute [local irreducible] Calls
set_option maxHeartbeats 1000000 in
set_option maxRecDepth 100000 in
theorem only58d (r : Req) (As Ab : Option Addr) (cs' cb' : Nat) (w : World) (hr : r.ok) (hk : r.k = 4) :
    Calls Try.prog 58 #[.agg (rcs r (.slice As r.sb.length cs') (.slice Ab r.bb.length cb')).toArray] w fun e w' => e = .returned (.agg (rcs ⟨4, z32, 0, r.h, 0, r.sb, z32, []⟩ (.slice As r.sb.length cs') (.slice none 0 0)).toArray) ∧ Below w.heap.size w w' := by
  have HS := Lib.hid (St.start w)
  have HR := Lib.hid hr; have HTX := Lib.hid hr.tx; have HHA := Lib.hid hr.ha
  have HPT := Lib.hid (show ∀ v ∈ bs r.tx ++ [Value.int .u32 (r.n : Int)], v.oneCell' = true from fun v hv => by
    rcases List.mem_append.1 hv with hv | hv
    · exact all_bs _ v hv
    · simp at hv; subst hv; rfl)
  have HK0 := Lib.hid (show ∀ s b, (rcs r s b)[0]? = some (.int .i64 4) from fun s b => by rw [rcs_0, hk])
  clear hr hk
  go_enter Try.func58, Try.ntmps58
  go_wp2_with (first
    | (refine atd 1 (by rfl) ?_; refine wl (by rfl) (s_bx (l := rcs r (.slice As r.sb.length cs') (.slice Ab r.bb.length cb')) HS.out (by rfl) (by rfl) ?_); intro b1 Wn hS; clear HS; have HS := Lib.hid hS; clear hS)
    | (refine atd 2 (by rfl) ?_; refine wl (by rfl) (s_al (l := rcs (zq 0) (.slice none 0 0) (.slice none 0 0)) HS.out (by rfl) z56 (by rfl) ?_); intro b2 Wn hS; clear HS; have HS := Lib.hid hS; clear hS)
    | (refine atd 5 (by rfl) ?_; refine wl (by rfl) (s_ld (v := .int .i64 4) HS.out 1 (by rfl) (by rfl) (by rfl) (by kernel_rfl) (by exact HK0.out (.slice As r.sb.length cs') (.slice Ab r.bb.length cb')) ?_))
    | (refine atd 6 (by rfl) ?_; refine wl (by rfl) (wp_of_run (run_b56 (k := 4) (by rfl) (by rfl)) ?_))
    | (refine atd 3 (by rfl) ?_; refine wl (by rfl) (s_al (l := rcs (zq 0) (.slice none 0 0) (.slice none 0 0)) HS.out (by rfl) z56 (by rfl) ?_); intro b3 Wn hS; clear HS; have HS := Lib.hid hS; clear hS)
    | (refine sto 3 (by rfl) ?_; refine wl (by rfl) (s_sta (cs := rcs (zq 4) (.slice none 0 0) (.slice none 0 0)) HS.out 0 70 (by rfl) (by rfl) (by rfl) ag56 (by rfl) (by exact rcs_length (zq_ok _) _ _) (by exact cells_rq _ rfl rfl) (by exact Nat.le_of_eq (rcs_length (zq_ok _) _ _).symm) ?_); intro Wn hS; rw [splice_all ((rcs_length (zq_ok _) _ _).trans (rcs_length (zq_ok _) _ _).symm)] at hS; have hS : St w Wn [Blk b3 (rcs ⟨4, z32, 0, 0, 0, [], z32, []⟩ (.slice none 0 0) (.slice none 0 0)) 56, Blk b2 (rcs (zq 0) (.slice none 0 0) (.slice none 0 0)) 56, Blk b1 (rcs r (.slice As r.sb.length cs') (.slice Ab r.bb.length cb')) 56] _ := hS; clear HS; have HS := Lib.hid hS; clear hS)
    | (refine atd 8 (by rfl) ?_; refine wl (by rfl) (s_ld (v := .int .i64 4) HS.out 2 (by rfl) (by rfl) (by rfl) (by kernel_rfl) (by exact HK0.out (.slice As r.sb.length cs') (.slice Ab r.bb.length cb')) ?_))
    | (refine atd 12 (by rfl) ?_; refine wl (by rfl) (s_ld (v := .int .i64 4) HS.out 2 (by rfl) (by rfl) (by rfl) (by kernel_rfl) (by exact HK0.out (.slice As r.sb.length cs') (.slice Ab r.bb.length cb')) ?_))
    | (refine atd 19 (by rfl) ?_; refine wl (by rfl) (s_ld (v := .int .i64 4) HS.out 2 (by rfl) (by rfl) (by rfl) (by kernel_rfl) (by exact HK0.out (.slice As r.sb.length cs') (.slice Ab r.bb.length cb')) ?_))
    | (refine atd 23 (by rfl) ?_; refine wl (by rfl) (s_ld (v := .int .i64 4) HS.out 2 (by rfl) (by rfl) (by rfl) (by kernel_rfl) (by exact HK0.out (.slice As r.sb.length cs') (.slice Ab r.bb.length cb')) ?_))
    | (refine atd 30 (by rfl) ?_; refine wl (by rfl) (s_ld (v := .int .i64 4) HS.out 2 (by rfl) (by rfl) (by rfl) (by kernel_rfl) (by exact HK0.out (.slice As r.sb.length cs') (.slice Ab r.bb.length cb')) ?_))
    | (refine atd 27 (by rfl) ?_; refine wl (by rfl) (s_ld HS.out 2 (by rfl) (by rfl) (by rfl) (by kernel_rfl) (by exact rcs_34 HR.out (.slice As r.sb.length cs') (.slice Ab r.bb.length cb')) ?_))
    | (refine sto 28 (by rfl) ?_; refine wl (by rfl) (s_st (v := .int .u32 (r.h : Int)) HS.out 0 (by rfl) (by rfl) (by rfl) (by kernel_rfl) (by rfl) (by rfl) (by rw [rcs_length (⟨rfl, rfl, Nat.zero_lt_succ _, Nat.zero_lt_succ _, Nat.zero_lt_succ _⟩ : Req.ok ⟨4, z32, 0, 0, 0, [], z32, []⟩)]; decide) ?_); intro Wn hS; rw [rcs_setH (hx := rfl)] at hS; clear HS; have HS := Lib.hid hS; clear hS)
    | (refine atd 39 (by rfl) ?_; refine wl (by rfl) (s_ld HS.out 2 (by rfl) (by rfl) (by rfl) (by kernel_rfl) (by exact rcs_36 HR.out (.slice As r.sb.length cs') (.slice Ab r.bb.length cb')) ?_))
    | (refine sto 40 (by rfl) ?_; refine wl (by rfl) (s_st (v := .slice As r.sb.length cs') HS.out 0 (by rfl) (by rfl) (by rfl) (by kernel_rfl) (by rfl) (by rfl) (by rw [rcs_length (⟨rfl, rfl, Nat.zero_lt_succ _, HR.out.h, Nat.zero_lt_succ _⟩ : Req.ok ⟨4, z32, 0, r.h, 0, [], z32, []⟩)]; decide) ?_); intro Wn hS; rw [rcs_setS (hx := rfl) (sb' := r.sb)] at hS; clear HS; have HS := Lib.hid hS; clear hS)
    | (refine atd 52 (by rfl) ?_; refine wl (by rfl) (s_lda (cs := rcs ⟨4, z32, 0, r.h, 0, r.sb, z32, []⟩ (.slice As r.sb.length cs') (.slice none 0 0)) HS.out 0 70 (by rfl) (by rfl) (by rfl) ag56 (by exact rcs_all (⟨rfl, rfl, Nat.zero_lt_succ _, HR.out.h, Nat.zero_lt_succ _⟩ : Req.ok ⟨4, z32, 0, r.h, 0, r.sb, z32, []⟩) _ _) (by exact rcs_length (⟨rfl, rfl, Nat.zero_lt_succ _, HR.out.h, Nat.zero_lt_succ _⟩ : Req.ok ⟨4, z32, 0, r.h, 0, r.sb, z32, []⟩) _ _) ?_))
    | (refine sto 2 (by rfl) ?_; refine wl (by rfl) (s_sta (cs := rcs ⟨4, z32, 0, r.h, 0, r.sb, z32, []⟩ (.slice As r.sb.length cs') (.slice none 0 0)) HS.out 1 70 (by rfl) (by rfl) (by rfl) ag56 (by rfl) (by exact rcs_length (⟨rfl, rfl, Nat.zero_lt_succ _, HR.out.h, Nat.zero_lt_succ _⟩ : Req.ok ⟨4, z32, 0, r.h, 0, r.sb, z32, []⟩) _ _) (by exact cells_rq _ rfl rfl) (by exact Nat.le_of_eq (rcs_length (zq_ok _) _ _).symm) ?_); intro Wn hS; rw [splice_all ((rcs_length (⟨rfl, rfl, Nat.zero_lt_succ _, HR.out.h, Nat.zero_lt_succ _⟩ : Req.ok ⟨4, z32, 0, r.h, 0, r.sb, z32, []⟩) _ _).trans (rcs_length (zq_ok _) _ _).symm)] at hS; clear HS; have HS := Lib.hid hS; clear hS))
  exact bodyPost_ret (ret_c56 (p := 2) rfl _ b2 _ 56 (0, 0) (by rfl) (HS.out.blk (i := 1) rfl) (by rw [List.size_toArray]; exact rcs_length (⟨rfl, rfl, Nat.zero_lt_succ _, HR.out.h, Nat.zero_lt_succ _⟩ : Req.ok ⟨4, z32, 0, r.h, 0, r.sb, z32, []⟩) _ _)) rfl ⟨rfl, HS.out.below⟩
end
section
open Go Go.RowKit Go.Proofs
attribute [local irreducible] Calls
set_option maxHeartbeats 1000000 in
set_option maxRecDepth 100000 in
theorem only58e (r : Req) (As Ab : Option Addr) (cs' cb' : Nat) (w : World) (hr : r.ok) (hk : r.k = 5) :
    Calls Try.prog 58 #[.agg (rcs r (.slice As r.sb.length cs') (.slice Ab r.bb.length cb')).toArray] w fun e w' => e = .returned (.agg (rcs ⟨5, z32, 0, r.h, r.m, [], z32, []⟩ (.slice none 0 0) (.slice none 0 0)).toArray) ∧ Below w.heap.size w w' := by
  have HS := Lib.hid (St.start w)
  have HR := Lib.hid hr; have HTX := Lib.hid hr.tx; have HHA := Lib.hid hr.ha
  have HPT := Lib.hid (show ∀ v ∈ bs r.tx ++ [Value.int .u32 (r.n : Int)], v.oneCell' = true from fun v hv => by
    rcases List.mem_append.1 hv with hv | hv
    · exact all_bs _ v hv
    · simp at hv; subst hv; rfl)
  have HK0 := Lib.hid (show ∀ s b, (rcs r s b)[0]? = some (.int .i64 5) from fun s b => by rw [rcs_0, hk])
  clear hr hk
  go_enter Try.func58, Try.ntmps58
  go_wp2_with (first
    | (refine atd 1 (by rfl) ?_; refine wl (by rfl) (s_bx (l := rcs r (.slice As r.sb.length cs') (.slice Ab r.bb.length cb')) HS.out (by rfl) (by rfl) ?_); intro b1 Wn hS; clear HS; have HS := Lib.hid hS; clear hS)
    | (refine atd 2 (by rfl) ?_; refine wl (by rfl) (s_al (l := rcs (zq 0) (.slice none 0 0) (.slice none 0 0)) HS.out (by rfl) z56 (by rfl) ?_); intro b2 Wn hS; clear HS; have HS := Lib.hid hS; clear hS)
    | (refine atd 5 (by rfl) ?_; refine wl (by rfl) (s_ld (v := .int .i64 5) HS.out 1 (by rfl) (by rfl) (by rfl) (by kernel_rfl) (by exact HK0.out (.slice As r.sb.length cs') (.slice Ab r.bb.length cb')) ?_))
    | (refine atd 6 (by rfl) ?_; refine wl (by rfl) (wp_of_run (run_b56 (k := 5) (by rfl) (by rfl)) ?_))
    | (refine atd 3 (by rfl) ?_; refine wl (by rfl) (s_al (l := rcs (zq 0) (.slice none 0 0) (.slice none 0 0)) HS.out (by rfl) z56 (by rfl) ?_); intro b3 Wn hS; clear HS; have HS := Lib.hid hS; clear hS)
    | (refine sto 3 (by rfl) ?_; refine wl (by rfl) (s_sta (cs := rcs (zq 5) (.slice none 0 0) (.slice none 0 0)) HS.out 0 70 (by rfl) (by rfl) (by rfl) ag56 (by rfl) (by exact rcs_length (zq_ok _) _ _) (by exact cells_rq _ rfl rfl) (by exact Nat.le_of_eq (rcs_length (zq_ok _) _ _).symm) ?_); intro Wn hS; rw [splice_all ((rcs_length (zq_ok _) _ _).trans (rcs_length (zq_ok _) _ _).symm)] at hS; have hS : St w Wn [Blk b3 (rcs ⟨5, z32, 0, 0, 0, [], z32, []⟩ (.slice none 0 0) (.slice none 0 0)) 56, Blk b2 (rcs (zq 0) (.slice none 0 0) (.slice none 0 0)) 56, Blk b1 (rcs r (.slice As r.sb.length cs') (.slice Ab r.bb.length cb')) 56] _ := hS; clear HS; have HS := Lib.hid hS; clear hS)
    | (refine atd 8 (by rfl) ?_; refine wl (by rfl) (s_ld (v := .int .i64 5) HS.out 2 (by rfl) (by rfl) (by rfl) (by kernel_rfl) (by exact HK0.out (.slice As r.sb.length cs') (.slice Ab r.bb.length cb')) ?_))
    | (refine atd 12 (by rfl) ?_; refine wl (by rfl) (s_ld (v := .int .i64 5) HS.out 2 (by rfl) (by rfl) (by rfl) (by kernel_rfl) (by exact HK0.out (.slice As r.sb.length cs') (.slice Ab r.bb.length cb')) ?_))
    | (refine atd 19 (by rfl) ?_; refine wl (by rfl) (s_ld (v := .int .i64 5) HS.out 2 (by rfl) (by rfl) (by rfl) (by kernel_rfl) (by exact HK0.out (.slice As r.sb.length cs') (.slice Ab r.bb.length cb')) ?_))
    | (refine atd 23 (by rfl) ?_; refine wl (by rfl) (s_ld (v := .int .i64 5) HS.out 2 (by rfl) (by rfl) (by rfl) (by kernel_rfl) (by exact HK0.out (.slice As r.sb.length cs') (.slice Ab r.bb.length cb')) ?_))
    | (refine atd 30 (by rfl) ?_; refine wl (by rfl) (s_ld (v := .int .i64 5) HS.out 2 (by rfl) (by rfl) (by rfl) (by kernel_rfl) (by exact HK0.out (.slice As r.sb.length cs') (.slice Ab r.bb.length cb')) ?_))
    | (refine atd 27 (by rfl) ?_; refine wl (by rfl) (s_ld HS.out 2 (by rfl) (by rfl) (by rfl) (by kernel_rfl) (by exact rcs_34 HR.out (.slice As r.sb.length cs') (.slice Ab r.bb.length cb')) ?_))
    | (refine sto 28 (by rfl) ?_; refine wl (by rfl) (s_st (v := .int .u32 (r.h : Int)) HS.out 0 (by rfl) (by rfl) (by rfl) (by kernel_rfl) (by rfl) (by rfl) (by rw [rcs_length (⟨rfl, rfl, Nat.zero_lt_succ _, Nat.zero_lt_succ _, Nat.zero_lt_succ _⟩ : Req.ok ⟨5, z32, 0, 0, 0, [], z32, []⟩)]; decide) ?_); intro Wn hS; rw [rcs_setH (hx := rfl)] at hS; clear HS; have HS := Lib.hid hS; clear hS)
    | (refine atd 44 (by rfl) ?_; refine wl (by rfl) (s_ld HS.out 2 (by rfl) (by rfl) (by rfl) (by kernel_rfl) (by exact rcs_35 HR.out (.slice As r.sb.length cs') (.slice Ab r.bb.length cb')) ?_))
    | (refine sto 45 (by rfl) ?_; refine wl (by rfl) (s_st (v := .int .u32 (r.m : Int)) HS.out 0 (by rfl) (by rfl) (by rfl) (by kernel_rfl) (by rfl) (by rfl) (by rw [rcs_length (⟨rfl, rfl, Nat.zero_lt_succ _, HR.out.h, Nat.zero_lt_succ _⟩ : Req.ok ⟨5, z32, 0, r.h, 0, [], z32, []⟩)]; decide) ?_); intro Wn hS; rw [rcs_setM (hx := rfl)] at hS; clear HS; have HS := Lib.hid hS; clear hS)
    | (refine atd 52 (by rfl) ?_; refine wl (by rfl) (s_lda (cs := rcs ⟨5, z32, 0, r.h, r.m, [], z32, []⟩ (.slice none 0 0) (.slice none 0 0)) HS.out 0 70 (by rfl) (by rfl) (by rfl) ag56 (by exact rcs_all (⟨rfl, rfl, Nat.zero_lt_succ _, HR.out.h, HR.out.m⟩ : Req.ok ⟨5, z32, 0, r.h, r.m, [], z32, []⟩) _ _) (by exact rcs_length (⟨rfl, rfl, Nat.zero_lt_succ _, HR.out.h, HR.out.m⟩ : Req.ok ⟨5, z32, 0, r.h, r.m, [], z32, []⟩) _ _) ?_))
    | (refine sto 2 (by rfl) ?_; refine wl (by rfl) (s_sta (cs := rcs ⟨5, z32, 0, r.h, r.m, [], z32, []⟩ (.slice none 0 0) (.slice none 0 0)) HS.out 1 70 (by rfl) (by rfl) (by rfl) ag56 (by rfl) (by exact rcs_length (⟨rfl, rfl, Nat.zero_lt_succ _, HR.out.h, HR.out.m⟩ : Req.ok ⟨5, z32, 0, r.h, r.m, [], z32, []⟩) _ _) (by exact cells_rq _ rfl rfl) (by exact Nat.le_of_eq (rcs_length (zq_ok _) _ _).symm) ?_); intro Wn hS; rw [splice_all ((rcs_length (⟨rfl, rfl, Nat.zero_lt_succ _, HR.out.h, HR.out.m⟩ : Req.ok ⟨5, z32, 0, r.h, r.m, [], z32, []⟩) _ _).trans (rcs_length (zq_ok _) _ _).symm)] at hS; clear HS; have HS := Lib.hid hS; clear hS))
  exact bodyPost_ret (ret_c56 (p := 2) rfl _ b2 _ 56 (0, 0) (by rfl) (HS.out.blk (i := 1) rfl) (by rw [List.size_toArray]; exact rcs_length (⟨rfl, rfl, Nat.zero_lt_succ _, HR.out.h, HR.out.m⟩ : Req.ok ⟨5, z32, 0, r.h, r.m, [], z32, []⟩) _ _)) rfl ⟨rfl, HS.out.below⟩
end
section
open Go Go.RowKit Go.Proofs
attribute [local irreducible] Calls
set_option maxHeartbeats 1000000 in
set_option maxRecDepth 100000 in
theorem only58f (r : Req) (As Ab : Option Addr) (cs' cb' : Nat) (w : World) (hr : r.ok) (hk : r.k = 6) :
    Calls Try.prog 58 #[.agg (rcs r (.slice As r.sb.length cs') (.slice Ab r.bb.length cb')).toArray] w fun e w' => e = .returned (.agg (rcs ⟨6, r.tx, r.n, r.h, 0, [], z32, []⟩ (.slice none 0 0) (.slice none 0 0)).toArray) ∧ Below w.heap.size w w' := by
  have HS := Lib.hid (St.start w)
  have HR := Lib.hid hr; have HTX := Lib.hid hr.tx; have HHA := Lib.hid hr.ha
  have HPT := Lib.hid (show ∀ v ∈ bs r.tx ++ [Value.int .u32 (r.n : Int)], v.oneCell' = true from fun v hv => by
    rcases List.mem_append.1 hv with hv | hv
    · exact all_bs _ v hv
    · simp at hv; subst hv; rfl)
  have HK0 := Lib.hid (show ∀ s b, (rcs r s b)[0]? = some (.int .i64 6) from fun s b => by rw [rcs_0, hk])
  clear hr hk
  go_enter Try.func58, Try.ntmps58
  go_wp2_with (first
    | (refine atd 1 (by rfl) ?_; refine wl (by rfl) (s_bx (l := rcs r (.slice As r.sb.length cs') (.slice Ab r.bb.length cb')) HS.out (by rfl) (by rfl) ?_); intro b1 Wn hS; clear HS; have HS := Lib.hid hS; clear hS)
    | (refine atd 2 (by rfl) ?_; refine wl (by rfl) (s_al (l := rcs (zq 0) (.slice none 0 0) (.slice none 0 0)) HS.out (by rfl) z56 (by rfl) ?_); intro b2 Wn hS; clear HS; have HS := Lib.hid hS; clear hS)
    | (refine atd 5 (by rfl) ?_; refine wl (by rfl) (s_ld (v := .int .i64 6) HS.out 1 (by rfl) (by rfl) (by rfl) (by kernel_rfl) (by exact HK0.out (.slice As r.sb.length cs') (.slice Ab r.bb.length cb')) ?_))
    | (refine atd 6 (by rfl) ?_; refine wl (by rfl) (wp_of_run (run_b56 (k := 6) (by rfl) (by rfl)) ?_))
    | (refine atd 3 (by rfl) ?_; refine wl (by rfl) (s_al (l := rcs (zq 0) (.slice none 0 0) (.slice none 0 0)) HS.out (by rfl) z56 (by rfl) ?_); intro b3 Wn hS; clear HS; have HS := Lib.hid hS; clear hS)
    | (refine sto 3 (by rfl) ?_; refine wl (by rfl) (s_sta (cs := rcs (zq 6) (.slice none 0 0) (.slice none 0 0)) HS.out 0 70 (by rfl) (by rfl) (by rfl) ag56 (by rfl) (by exact rcs_length (zq_ok _) _ _) (by exact cells_rq _ rfl rfl) (by exact Nat.le_of_eq (rcs_length (zq_ok _) _ _).symm) ?_); intro Wn hS; rw [splice_all ((rcs_length (zq_ok _) _ _).trans (rcs_length (zq_ok _) _ _).symm)] at hS; have hS : St w Wn [Blk b3 (rcs ⟨6, z32, 0, 0, 0, [], z32, []⟩ (.slice none 0 0) (.slice none 0 0)) 56, Blk b2 (rcs (zq 0) (.slice none 0 0) (.slice none 0 0)) 56, Blk b1 (rcs r (.slice As r.sb.length cs') (.slice Ab r.bb.length cb')) 56] _ := hS; clear HS; have HS := Lib.hid hS; clear hS)
    | (refine atd 8 (by rfl) ?_; refine wl (by rfl) (s_ld (v := .int .i64 6) HS.out 2 (by rfl) (by rfl) (by rfl) (by kernel_rfl) (by exact HK0.out (.slice As r.sb.length cs') (.slice Ab r.bb.length cb')) ?_))
    | (refine atd 12 (by rfl) ?_; refine wl (by rfl) (s_ld (v := .int .i64 6) HS.out 2 (by rfl) (by rfl) (by rfl) (by kernel_rfl) (by exact HK0.out (.slice As r.sb.length cs') (.slice Ab r.bb.length cb')) ?_))
    | (refine atd 19 (by rfl) ?_; refine wl (by rfl) (s_ld (v := .int .i64 6) HS.out 2 (by rfl) (by rfl) (by rfl) (by kernel_rfl) (by exact HK0.out (.slice As r.sb.length cs') (.slice Ab r.bb.length cb')) ?_))
    | (refine atd 23 (by rfl) ?_; refine wl (by rfl) (s_ld (v := .int .i64 6) HS.out 2 (by rfl) (by rfl) (by rfl) (by kernel_rfl) (by exact HK0.out (.slice As r.sb.length cs') (.slice Ab r.bb.length cb')) ?_))
    | (refine atd 30 (by rfl) ?_; refine wl (by rfl) (s_ld (v := .int .i64 6) HS.out 2 (by rfl) (by rfl) (by rfl) (by kernel_rfl) (by exact HK0.out (.slice As r.sb.length cs') (.slice Ab r.bb.length cb')) ?_))
    | (refine atd 16 (by rfl) ?_; refine wl (by rfl) (s_lda (cs := bs r.tx ++ [Value.int .u32 (r.n : Int)]) HS.out 2 33 (by rfl) (by rfl) (by rfl) ag54 (by exact rcs_pt HR.out (.slice As r.sb.length cs') (.slice Ab r.bb.length cb')) (by exact pt_len HR.out) ?_))
    | (refine sto 17 (by rfl) ?_; refine wl (by rfl) (s_sta (cs := bs r.tx ++ [Value.int .u32 (r.n : Int)]) HS.out 0 33 (by rfl) (by rfl) (by rfl) ag54 (by rfl) (by exact pt_len HR.out) (by exact HPT.out) (by rw [rcs_length (⟨rfl, rfl, Nat.zero_lt_succ _, Nat.zero_lt_succ _, Nat.zero_lt_succ _⟩ : Req.ok ⟨6, z32, 0, 0, 0, [], z32, []⟩)]; decide) ?_); intro Wn hS; rw [rcs_splPt (hx := HTX.out) (ht := rfl)] at hS; clear HS; have HS := Lib.hid hS; clear hS)
    | (refine atd 27 (by rfl) ?_; refine wl (by rfl) (s_ld HS.out 2 (by rfl) (by rfl) (by rfl) (by kernel_rfl) (by exact rcs_34 HR.out (.slice As r.sb.length cs') (.slice Ab r.bb.length cb')) ?_))
    | (refine sto 28 (by rfl) ?_; refine wl (by rfl) (s_st (v := .int .u32 (r.h : Int)) HS.out 0 (by rfl) (by rfl) (by rfl) (by kernel_rfl) (by rfl) (by rfl) (by rw [rcs_length (⟨HTX.out, rfl, HR.out.n, Nat.zero_lt_succ _, Nat.zero_lt_succ _⟩ : Req.ok ⟨6, r.tx, r.n, 0, 0, [], z32, []⟩)]; decide) ?_); intro Wn hS; rw [rcs_setH (hx := HTX.out)] at hS; clear HS; have HS := Lib.hid hS; clear hS)
    | (refine atd 52 (by rfl) ?_; refine wl (by rfl) (s_lda (cs := rcs ⟨6, r.tx, r.n, r.h, 0, [], z32, []⟩ (.slice none 0 0) (.slice none 0 0)) HS.out 0 70 (by rfl) (by rfl) (by rfl) ag56 (by exact rcs_all (⟨HTX.out, rfl, HR.out.n, HR.out.h, Nat.zero_lt_succ _⟩ : Req.ok ⟨6, r.tx, r.n, r.h, 0, [], z32, []⟩) _ _) (by exact rcs_length (⟨HTX.out, rfl, HR.out.n, HR.out.h, Nat.zero_lt_succ _⟩ : Req.ok ⟨6, r.tx, r.n, r.h, 0, [], z32, []⟩) _ _) ?_))
    | (refine sto 2 (by rfl) ?_; refine wl (by rfl) (s_sta (cs := rcs ⟨6, r.tx, r.n, r.h, 0, [], z32, []⟩ (.slice none 0 0) (.slice none 0 0)) HS.out 1 70 (by rfl) (by rfl) (by rfl) ag56 (by rfl) (by exact rcs_length (⟨HTX.out, rfl, HR.out.n, HR.out.h, Nat.zero_lt_succ _⟩ : Req.ok ⟨6, r.tx, r.n, r.h, 0, [], z32, []⟩) _ _) (by exact cells_rq _ rfl rfl) (by exact Nat.le_of_eq (rcs_length (zq_ok _) _ _).symm) ?_); intro Wn hS; rw [splice_all ((rcs_length (⟨HTX.out, rfl, HR.out.n, HR.out.h, Nat.zero_lt_succ _⟩ : Req.ok ⟨6, r.tx, r.n, r.h, 0, [], z32, []⟩) _ _).trans (rcs_length (zq_ok _) _ _).symm)] at hS; clear HS; have HS := Lib.hid hS; clear hS))
  exact bodyPost_ret (ret_c56 (p := 2) rfl _ b2 _ 56 (0, 0) (by rfl) (HS.out.blk (i := 1) rfl) (by rw [List.size_toArray]; exact rcs_length (⟨HTX.out, rfl, HR.out.n, HR.out.h, Nat.zero_lt_succ _⟩ : Req.ok ⟨6, r.tx, r.n, r.h, 0, [], z32, []⟩) _ _)) rfl ⟨rfl, HS.out.below⟩
end
section
open Go Go.RowKit Go.Proofs
attribute [local irreducible] Calls
set_option maxHeartbeats 1000000 in
set_option maxRecDepth 100000 in
theorem only58g (r : Req) (As Ab : Option Addr) (cs' cb' : Nat) (w : World) (hr : r.ok) (hk : r.k = 7) :
    Calls Try.prog 58 #[.agg (rcs r (.slice As r.sb.length cs') (.slice Ab r.bb.length cb')).toArray] w fun e w' => e = .returned (.agg (rcs ⟨7, z32, 0, r.h, 0, [], z32, []⟩ (.slice none 0 0) (.slice none 0 0)).toArray) ∧ Below w.heap.size w w' := by
  have HS := Lib.hid (St.start w)
  have HR := Lib.hid hr; have HTX := Lib.hid hr.tx; have HHA := Lib.hid hr.ha
  have HPT := Lib.hid (show ∀ v ∈ bs r.tx ++ [Value.int .u32 (r.n : Int)], v.oneCell' = true from fun v hv => by
    rcases List.mem_append.1 hv with hv | hv
    · exact all_bs _ v hv
    · simp at hv; subst hv; rfl)
  have HK0 := Lib.hid (show ∀ s b, (rcs r s b)[0]? = some (.int .i64 7) from fun s b => by rw [rcs_0, hk])
  clear hr hk
  go_enter Try.func58, Try.ntmps58
  go_wp2_with (first
    | (refine atd 1 (by rfl) ?_; refine wl (by rfl) (s_bx (l := rcs r (.slice As r.sb.length cs') (.slice Ab r.bb.length cb')) HS.out (by rfl) (by rfl) ?_); intro b1 Wn hS; clear HS; have HS := Lib.hid hS; clear hS)
    | (refine atd 2 (by rfl) ?_; refine wl (by rfl) (s_al (l := rcs (zq 0) (.slice none 0 0) (.slice none 0 0)) HS.out (by rfl) z56 (by rfl) ?_); intro b2 Wn hS; clear HS; have HS := Lib.hid hS; clear hS)
    | (refine atd 5 (by rfl) ?_; refine wl (by rfl) (s_ld (v := .int .i64 7) HS.out 1 (by rfl) (by rfl) (by rfl) (by kernel_rfl) (by exact HK0.out (.slice As r.sb.length cs') (.slice Ab r.bb.length cb')) ?_))
    | (refine atd 6 (by rfl) ?_; refine wl (by rfl) (wp_of_run (run_b56 (k := 7) (by rfl) (by rfl)) ?_))
    | (refine atd 3 (by rfl) ?_; refine wl (by rfl) (s_al (l := rcs (zq 0) (.slice none 0 0) (.slice none 0 0)) HS.out (by rfl) z56 (by rfl) ?_); intro b3 Wn hS; clear HS; have HS := Lib.hid hS; clear hS)
    | (refine sto 3 (by rfl) ?_; refine wl (by rfl) (s_sta (cs := rcs (zq 7) (.slice none 0 0) (.slice none 0 0)) HS.out 0 70 (by rfl) (by rfl) (by rfl) ag56 (by rfl) (by exact rcs_length (zq_ok _) _ _) (by exact cells_rq _ rfl rfl) (by exact Nat.le_of_eq (rcs_length (zq_ok _) _ _).symm) ?_); intro Wn hS; rw [splice_all ((rcs_length (zq_ok _) _ _).trans (rcs_length (zq_ok _) _ _).symm)] at hS; have hS : St w Wn [Blk b3 (rcs ⟨7, z32, 0, 0, 0, [], z32, []⟩ (.slice none 0 0) (.slice none 0 0)) 56, Blk b2 (rcs (zq 0) (.slice none 0 0) (.slice none 0 0)) 56, Blk b1 (rcs r (.slice As r.sb.length cs') (.slice Ab r.bb.length cb')) 56] _ := hS; clear HS; have HS := Lib.hid hS; clear hS)
    | (refine atd 8 (by rfl) ?_; refine wl (by rfl) (s_ld (v := .int .i64 7) HS.out 2 (by rfl) (by rfl) (by rfl) (by kernel_rfl) (by exact HK0.out (.slice As r.sb.length cs') (.slice Ab r.bb.length cb')) ?_))
    | (refine atd 12 (by rfl) ?_; refine wl (by rfl) (s_ld (v := .int .i64 7) HS.out 2 (by rfl) (by rfl) (by rfl) (by kernel_rfl) (by exact HK0.out (.slice As r.sb.length cs') (.slice Ab r.bb.length cb')) ?_))
    | (refine atd 19 (by rfl) ?_; refine wl (by rfl) (s_ld (v := .int .i64 7) HS.out 2 (by rfl) (by rfl) (by rfl) (by kernel_rfl) (by exact HK0.out (.slice As r.sb.length cs') (.slice Ab r.bb.length cb')) ?_))
    | (refine atd 23 (by rfl) ?_; refine wl (by rfl) (s_ld (v := .int .i64 7) HS.out 2 (by rfl) (by rfl) (by rfl) (by kernel_rfl) (by exact HK0.out (.slice As r.sb.length cs') (.slice Ab r.bb.length cb')) ?_))
    | (refine atd 30 (by rfl) ?_; refine wl (by rfl) (s_ld (v := .int .i64 7) HS.out 2 (by rfl) (by rfl) (by rfl) (by kernel_rfl) (by exact HK0.out (.slice As r.sb.length cs') (.slice Ab r.bb.length cb')) ?_))
    | (refine atd 27 (by rfl) ?_; refine wl (by rfl) (s_ld HS.out 2 (by rfl) (by rfl) (by rfl) (by kernel_rfl) (by exact rcs_34 HR.out (.slice As r.sb.length cs') (.slice Ab r.bb.length cb')) ?_))
    | (refine sto 28 (by rfl) ?_; refine wl (by rfl) (s_st (v := .int .u32 (r.h : Int)) HS.out 0 (by rfl) (by rfl) (by rfl) (by kernel_rfl) (by rfl) (by rfl) (by rw [rcs_length (⟨rfl, rfl, Nat.zero_lt_succ _, Nat.zero_lt_succ _, Nat.zero_lt_succ _⟩ : Req.ok ⟨7, z32, 0, 0, 0, [], z32, []⟩)]; decide) ?_); intro Wn hS; rw [rcs_setH (hx := rfl)] at hS; clear HS; have HS := Lib.hid hS; clear hS)
    | (refine atd 52 (by rfl) ?_; refine wl (by rfl) (s_lda (cs := rcs ⟨7, z32, 0, r.h, 0, [], z32, []⟩ (.slice none 0 0) (.slice none 0 0)) HS.out 0 70 (by rfl) (by rfl) (by rfl) ag56 (by exact rcs_all (⟨rfl, rfl, Nat.zero_lt_succ _, HR.out.h, Nat.zero_lt_succ _⟩ : Req.ok ⟨7, z32, 0, r.h, 0, [], z32, []⟩) _ _) (by exact rcs_length (⟨rfl, rfl, Nat.zero_lt_succ _, HR.out.h, Nat.zero_lt_succ _⟩ : Req.ok ⟨7, z32, 0, r.h, 0, [], z32, []⟩) _ _) ?_))
    | (refine sto 2 (by rfl) ?_; refine wl (by rfl) (s_sta (cs := rcs ⟨7, z32, 0, r.h, 0, [], z32, []⟩ (.slice none 0 0) (.slice none 0 0)) HS.out 1 70 (by rfl) (by rfl) (by rfl) ag56 (by rfl) (by exact rcs_length (⟨rfl, rfl, Nat.zero_lt_succ _, HR.out.h, Nat.zero_lt_succ _⟩ : Req.ok ⟨7, z32, 0, r.h, 0, [], z32, []⟩) _ _) (by exact cells_rq _ rfl rfl) (by exact Nat.le_of_eq (rcs_length (zq_ok _) _ _).symm) ?_); intro Wn hS; rw [splice_all ((rcs_length (⟨rfl, rfl, Nat.zero_lt_succ _, HR.out.h, Nat.zero_lt_succ _⟩ : Req.ok ⟨7, z32, 0, r.h, 0, [], z32, []⟩) _ _).trans (rcs_length (zq_ok _) _ _).symm)] at hS; clear HS; have HS := Lib.hid hS; clear hS))
  exact bodyPost_ret (ret_c56 (p := 2) rfl _ b2 _ 56 (0, 0) (by rfl) (HS.out.blk (i := 1) rfl) (by rw [List.size_toArray]; exact rcs_length (⟨rfl, rfl, Nat.zero_lt_succ _, HR.out.h, Nat.zero_lt_succ _⟩ : Req.ok ⟨7, z32, 0, r.h, 0, [], z32, []⟩) _ _)) rfl ⟨rfl, HS.out.below⟩
end
section
open Go Go.RowKit Go.Proofs
attribute [local irreducible] Calls
set_option maxHeartbeats 1000000 in
set_option maxRecDepth 100000 in
theorem only58h (r : Req) (As Ab : Option Addr) (cs' cb' : Nat) (w : World) (hr : r.ok) (hk : r.k = 8) :
    Calls Try.prog 58 #[.agg (rcs r (.slice As r.sb.length cs') (.slice Ab r.bb.length cb')).toArray] w fun e w' => e = .returned (.agg (rcs ⟨8, z32, 0, 0, 0, [], r.ha, []⟩ (.slice none 0 0) (.slice none 0 0)).toArray) ∧ Below w.heap.size w w' := by
  have HS := Lib.hid (St.start w)
  have HR := Lib.hid hr; have HTX := Lib.hid hr.tx; have HHA := Lib.hid hr.ha
  have HPT := Lib.hid (show ∀ v ∈ bs r.tx ++ [Value.int .u32 (r.n : Int)], v.oneCell' = true from fun v hv => by
    rcases List.mem_append.1 hv with hv | hv
    · exact all_bs _ v hv
    · simp at hv; subst hv; rfl)
  have HK0 := Lib.hid (show ∀ s b, (rcs r s b)[0]? = some (.int .i64 8) from fun s b => by rw [rcs_0, hk])
  clear hr hk
  go_enter Try.func58, Try.ntmps58
  go_wp2_with (first
    | (refine atd 1 (by rfl) ?_; refine wl (by rfl) (s_bx (l := rcs r (.slice As r.sb.length cs') (.slice Ab r.bb.length cb')) HS.out (by rfl) (by rfl) ?_); intro b1 Wn hS; clear HS; have HS := Lib.hid hS; clear hS)
    | (refine atd 2 (by rfl) ?_; refine wl (by rfl) (s_al (l := rcs (zq 0) (.slice none 0 0) (.slice none 0 0)) HS.out (by rfl) z56 (by rfl) ?_); intro b2 Wn hS; clear HS; have HS := Lib.hid hS; clear hS)
    | (refine atd 5 (by rfl) ?_; refine wl (by rfl) (s_ld (v := .int .i64 8) HS.out 1 (by rfl) (by rfl) (by rfl) (by kernel_rfl) (by exact HK0.out (.slice As r.sb.length cs') (.slice Ab r.bb.length cb')) ?_))
    | (refine atd 6 (by rfl) ?_; refine wl (by rfl) (wp_of_run (run_b56 (k := 8) (by rfl) (by rfl)) ?_))
    | (refine atd 3 (by rfl) ?_; refine wl (by rfl) (s_al (l := rcs (zq 0) (.slice none 0 0) (.slice none 0 0)) HS.out (by rfl) z56 (by rfl) ?_); intro b3 Wn hS; clear HS; have HS := Lib.hid hS; clear hS)
    | (refine sto 3 (by rfl) ?_; refine wl (by rfl) (s_sta (cs := rcs (zq 8) (.slice none 0 0) (.slice none 0 0)) HS.out 0 70 (by rfl) (by rfl) (by rfl) ag56 (by rfl) (by exact rcs_length (zq_ok _) _ _) (by exact cells_rq _ rfl rfl) (by exact Nat.le_of_eq (rcs_length (zq_ok _) _ _).symm) ?_); intro Wn hS; rw [splice_all ((rcs_length (zq_ok _) _ _).trans (rcs_length (zq_ok _) _ _).symm)] at hS; have hS : St w Wn [Blk b3 (rcs ⟨8, z32, 0, 0, 0, [], z32, []⟩ (.slice none 0 0) (.slice none 0 0)) 56, Blk b2 (rcs (zq 0) (.slice none 0 0) (.slice none 0 0)) 56, Blk b1 (rcs r (.slice As r.sb.length cs') (.slice Ab r.bb.length cb')) 56] _ := hS; clear HS; have HS := Lib.hid hS; clear hS)
    | (refine atd 8 (by rfl) ?_; refine wl (by rfl) (s_ld (v := .int .i64 8) HS.out 2 (by rfl) (by rfl) (by rfl) (by kernel_rfl) (by exact HK0.out (.slice As r.sb.length cs') (.slice Ab r.bb.length cb')) ?_))
    | (refine atd 12 (by rfl) ?_; refine wl (by rfl) (s_ld (v := .int .i64 8) HS.out 2 (by rfl) (by rfl) (by rfl) (by kernel_rfl) (by exact HK0.out (.slice As r.sb.length cs') (.slice Ab r.bb.length cb')) ?_))
    | (refine atd 19 (by rfl) ?_; refine wl (by rfl) (s_ld (v := .int .i64 8) HS.out 2 (by rfl) (by rfl) (by rfl) (by kernel_rfl) (by exact HK0.out (.slice As r.sb.length cs') (.slice Ab r.bb.length cb')) ?_))
    | (refine atd 23 (by rfl) ?_; refine wl (by rfl) (s_ld (v := .int .i64 8) HS.out 2 (by rfl) (by rfl) (by rfl) (by kernel_rfl) (by exact HK0.out (.slice As r.sb.length cs') (.slice Ab r.bb.length cb')) ?_))
    | (refine atd 30 (by rfl) ?_; refine wl (by rfl) (s_ld (v := .int .i64 8) HS.out 2 (by rfl) (by rfl) (by rfl) (by kernel_rfl) (by exact HK0.out (.slice As r.sb.length cs') (.slice Ab r.bb.length cb')) ?_))
    | (refine atd 50 (by rfl) ?_; refine wl (by rfl) (s_lda (cs := bs r.ha) HS.out 2 32 (by rfl) (by rfl) (by rfl) ag52 (by exact rcs_ha HR.out (.slice As r.sb.length cs') (.slice Ab r.bb.length cb')) (by exact ha_len HR.out) ?_))
    | (refine sto 51 (by rfl) ?_; refine wl (by rfl) (s_sta (cs := bs r.ha) HS.out 0 32 (by rfl) (by rfl) (by rfl) ag52 (by rfl) (by exact ha_len HR.out) (by exact all_bs _) (by rw [rcs_length (⟨rfl, rfl, Nat.zero_lt_succ _, Nat.zero_lt_succ _, Nat.zero_lt_succ _⟩ : Req.ok ⟨8, z32, 0, 0, 0, [], z32, []⟩)]; decide) ?_); intro Wn hS; rw [rcs_splHa (hx := HHA.out) (ht := rfl) (hh := rfl)] at hS; clear HS; have HS := Lib.hid hS; clear hS)
    | (refine atd 52 (by rfl) ?_; refine wl (by rfl) (s_lda (cs := rcs ⟨8, z32, 0, 0, 0, [], r.ha, []⟩ (.slice none 0 0) (.slice none 0 0)) HS.out 0 70 (by rfl) (by rfl) (by rfl) ag56 (by exact rcs_all (⟨rfl, HHA.out, Nat.zero_lt_succ _, Nat.zero_lt_succ _, Nat.zero_lt_succ _⟩ : Req.ok ⟨8, z32, 0, 0, 0, [], r.ha, []⟩) _ _) (by exact rcs_length (⟨rfl, HHA.out, Nat.zero_lt_succ _, Nat.zero_lt_succ _, Nat.zero_lt_succ _⟩ : Req.ok ⟨8, z32, 0, 0, 0, [], r.ha, []⟩) _ _) ?_))
    | (refine sto 2 (by rfl) ?_; refine wl (by rfl) (s_sta (cs := rcs ⟨8, z32, 0, 0, 0, [], r.ha, []⟩ (.slice none 0 0) (.slice none 0 0)) HS.out 1 70 (by rfl) (by rfl) (by rfl) ag56 (by rfl) (by exact rcs_length (⟨rfl, HHA.out, Nat.zero_lt_succ _, Nat.zero_lt_succ _, Nat.zero_lt_succ _⟩ : Req.ok ⟨8, z32, 0, 0, 0, [], r.ha, []⟩) _ _) (by exact cells_rq _ rfl rfl) (by exact Nat.le_of_eq (rcs_length (zq_ok _) _ _).symm) ?_); intro Wn hS; rw [splice_all ((rcs_length (⟨rfl, HHA.out, Nat.zero_lt_succ _, Nat.zero_lt_succ _, Nat.zero_lt_succ _⟩ : Req.ok ⟨8, z32, 0, 0, 0, [], r.ha, []⟩) _ _).trans (rcs_length (zq_ok _) _ _).symm)] at hS; clear HS; have HS := Lib.hid hS; clear hS))
  exact bodyPost_ret (ret_c56 (p := 2) rfl _ b2 _ 56 (0, 0) (by rfl) (HS.out.blk (i := 1) rfl) (by rw [List.size_toArray]; exact rcs_length (⟨rfl, HHA.out, Nat.zero_lt_succ _, Nat.zero_lt_succ _, Nat.zero_lt_succ _⟩ : Req.ok ⟨8, z32, 0, 0, 0, [], r.ha, []⟩) _ _)) rfl ⟨rfl, HS.out.below⟩
end
section
open Go Go.RowKit Go.Proofs
attribute [local irreducible] Calls
set_option maxHeartbeats 1000000 in
set_option maxRecDepth 100000 in
theorem only58i (r : Req) (As Ab : Option Addr) (cs' cb' : Nat) (w : World) (hr : r.ok) (hk : r.k = 9) :
    Calls Try.prog 58 #[.agg (rcs r (.slice As r.sb.length cs') (.slice Ab r.bb.length cb')).toArray] w fun e w' => e = .returned (.agg (rcs ⟨9, z32, 0, 0, 0, [], r.ha, []⟩ (.slice none 0 0) (.slice none 0 0)).toArray) ∧ Below w.heap.size w w' := by
  have HS := Lib.hid (St.start w)
  have HR := Lib.hid hr; have HTX := Lib.hid hr.tx; have HHA := Lib.hid hr.ha
  have HPT := Lib.hid (show ∀ v ∈ bs r.tx ++ [Value.int .u32 (r.n : Int)], v.oneCell' = true from fun v hv => by
    rcases List.mem_append.1 hv with hv | hv
    · exact all_bs _ v hv
    · simp at hv; subst hv; rfl)
  have HK0 := Lib.hid (show ∀ s b, (rcs r s b)[0]? = some (.int .i64 9) from fun s b => by rw [rcs_0, hk])
  clear hr hk
  go_enter Try.func58, Try.ntmps58
  go_wp2_with (first
    | (refine atd 1 (by rfl) ?_; refine wl (by rfl) (s_bx (l := rcs r (.slice As r.sb.length cs') (.slice Ab r.bb.length cb')) HS.out (by rfl) (by rfl) ?_); intro b1 Wn hS; clear HS; have HS := Lib.hid hS; clear hS)
    | (refine atd 2 (by rfl) ?_; refine wl (by rfl) (s_al (l := rcs (zq 0) (.slice none 0 0) (.slice none 0 0)) HS.out (by rfl) z56 (by rfl) ?_); intro b2 Wn hS; clear HS; have HS := Lib.hid hS; clear hS)
    | (refine atd 5 (by rfl) ?_; refine wl (by rfl) (s_ld (v := .int .i64 9) HS.out 1 (by rfl) (by rfl) (by rfl) (by kernel_rfl) (by exact HK0.out (.slice As r.sb.length cs') (.slice Ab r.bb.length cb')) ?_))
    | (refine atd 6 (by rfl) ?_; refine wl (by rfl) (wp_of_run (run_b56 (k := 9) (by rfl) (by rfl)) ?_))
    | (refine atd 3 (by rfl) ?_; refine wl (by rfl) (s_al (l := rcs (zq 0) (.slice none 0 0) (.slice none 0 0)) HS.out (by rfl) z56 (by rfl) ?_); intro b3 Wn hS; clear HS; have HS := Lib.hid hS; clear hS)
    | (refine sto 3 (by rfl) ?_; refine wl (by rfl) (s_sta (cs := rcs (zq 9) (.slice none 0 0) (.slice none 0 0)) HS.out 0 70 (by rfl) (by rfl) (by rfl) ag56 (by rfl) (by exact rcs_length (zq_ok _) _ _) (by exact cells_rq _ rfl rfl) (by exact Nat.le_of_eq (rcs_length (zq_ok _) _ _).symm) ?_); intro Wn hS; rw [splice_all ((rcs_length (zq_ok _) _ _).trans (rcs_length (zq_ok _) _ _).symm)] at hS; have hS : St w Wn [Blk b3 (rcs ⟨9, z32, 0, 0, 0, [], z32, []⟩ (.slice none 0 0) (.slice none 0 0)) 56, Blk b2 (rcs (zq 0) (.slice none 0 0) (.slice none 0 0)) 56, Blk b1 (rcs r (.slice As r.sb.length cs') (.slice Ab r.bb.length cb')) 56] _ := hS; clear HS; have HS := Lib.hid hS; clear hS)
    | (refine atd 8 (by rfl) ?_; refine wl (by rfl) (s_ld (v := .int .i64 9) HS.out 2 (by rfl) (by rfl) (by rfl) (by kernel_rfl) (by exact HK0.out (.slice As r.sb.length cs') (.slice Ab r.bb.length cb')) ?_))
    | (refine atd 12 (by rfl) ?_; refine wl (by rfl) (s_ld (v := .int .i64 9) HS.out 2 (by rfl) (by rfl) (by rfl) (by kernel_rfl) (by exact HK0.out (.slice As r.sb.length cs') (.slice Ab r.bb.length cb')) ?_))
    | (refine atd 19 (by rfl) ?_; refine wl (by rfl) (s_ld (v := .int .i64 9) HS.out 2 (by rfl) (by rfl) (by rfl) (by kernel_rfl) (by exact HK0.out (.slice As r.sb.length cs') (.slice Ab r.bb.length cb')) ?_))
    | (refine atd 23 (by rfl) ?_; refine wl (by rfl) (s_ld (v := .int .i64 9) HS.out 2 (by rfl) (by rfl) (by rfl) (by kernel_rfl) (by exact HK0.out (.slice As r.sb.length cs') (.slice Ab r.bb.length cb')) ?_))
    | (refine atd 30 (by rfl) ?_; refine wl (by rfl) (s_ld (v := .int .i64 9) HS.out 2 (by rfl) (by rfl) (by rfl) (by kernel_rfl) (by exact HK0.out (.slice As r.sb.length cs') (.slice Ab r.bb.length cb')) ?_))
    | (refine atd 50 (by rfl) ?_; refine wl (by rfl) (s_lda (cs := bs r.ha) HS.out 2 32 (by rfl) (by rfl) (by rfl) ag52 (by exact rcs_ha HR.out (.slice As r.sb.length cs') (.slice Ab r.bb.length cb')) (by exact ha_len HR.out) ?_))
    | (refine sto 51 (by rfl) ?_; refine wl (by rfl) (s_sta (cs := bs r.ha) HS.out 0 32 (by rfl) (by rfl) (by rfl) ag52 (by rfl) (by exact ha_len HR.out) (by exact all_bs _) (by rw [rcs_length (⟨rfl, rfl, Nat.zero_lt_succ _, Nat.zero_lt_succ _, Nat.zero_lt_succ _⟩ : Req.ok ⟨9, z32, 0, 0, 0, [], z32, []⟩)]; decide) ?_); intro Wn hS; rw [rcs_splHa (hx := HHA.out) (ht := rfl) (hh := rfl)] at hS; clear HS; have HS := Lib.hid hS; clear hS)
    | (refine atd 52 (by rfl) ?_; refine wl (by rfl) (s_lda (cs := rcs ⟨9, z32, 0, 0, 0, [], r.ha, []⟩ (.slice none 0 0) (.slice none 0 0)) HS.out 0 70 (by rfl) (by rfl) (by rfl) ag56 (by exact rcs_all (⟨rfl, HHA.out, Nat.zero_lt_succ _, Nat.zero_lt_succ _, Nat.zero_lt_succ _⟩ : Req.ok ⟨9, z32, 0, 0, 0, [], r.ha, []⟩) _ _) (by exact rcs_length (⟨rfl, HHA.out, Nat.zero_lt_succ _, Nat.zero_lt_succ _, Nat.zero_lt_succ _⟩ : Req.ok ⟨9, z32, 0, 0, 0, [], r.ha, []⟩) _ _) ?_))
    | (refine sto 2 (by rfl) ?_; refine wl (by rfl) (s_sta (cs := rcs ⟨9, z32, 0, 0, 0, [], r.ha, []⟩ (.slice none 0 0) (.slice none 0 0)) HS.out 1 70 (by rfl) (by rfl) (by rfl) ag56 (by rfl) (by exact rcs_length (⟨rfl, HHA.out, Nat.zero_lt_succ _, Nat.zero_lt_succ _, Nat.zero_lt_succ _⟩ : Req.ok ⟨9, z32, 0, 0, 0, [], r.ha, []⟩) _ _) (by exact cells_rq _ rfl rfl) (by exact Nat.le_of_eq (rcs_length (zq_ok _) _ _).symm) ?_); intro Wn hS; rw [splice_all ((rcs_length (⟨rfl, HHA.out, Nat.zero_lt_succ _, Nat.zero_lt_succ _, Nat.zero_lt_succ _⟩ : Req.ok ⟨9, z32, 0, 0, 0, [], r.ha, []⟩) _ _).trans (rcs_length (zq_ok _) _ _).symm)] at hS; clear HS; have HS := Lib.hid hS; clear hS))
  exact bodyPost_ret (ret_c56 (p := 2) rfl _ b2 _ 56 (0, 0) (by rfl) (HS.out.blk (i := 1) rfl) (by rw [List.size_toArray]; exact rcs_length (⟨rfl, HHA.out, Nat.zero_lt_succ _, Nat.zero_lt_succ _, Nat.zero_lt_succ _⟩ : Req.ok ⟨9, z32, 0, 0, 0, [], r.ha, []⟩) _ _)) rfl ⟨rfl, HS.out.below⟩
end
section
open Go Go.RowKit Go.Proofs
attribute [local irreducible] Calls
set_option maxHeartbeats 1000000 in
set_option maxRecDepth 100000 in
theorem only58j (r : Req) (As Ab : Option Addr) (cs' cb' : Nat) (w : World) (hr : r.ok) (hk : r.k = 10) :
    Calls Try.prog 58 #[.agg (rcs r (.slice As r.sb.length cs') (.slice Ab r.bb.length cb')).toArray] w fun e w' => e = .returned (.agg (rcs ⟨10, z32, 0, 0, 0, [], z32, []⟩ (.slice none 0 0) (.slice none 0 0)).toArray) ∧ Below w.heap.size w w' := by
  have HS := Lib.hid (St.start w)
  have HR := Lib.hid hr; have HTX := Lib.hid hr.tx; have HHA := Lib.hid hr.ha
  have HPT := Lib.hid (show ∀ v ∈ bs r.tx ++ [Value.int .u32 (r.n : Int)], v.oneCell' = true from fun v hv => by
    rcases List.mem_append.1 hv with hv | hv
    · exact all_bs _ v hv
    · simp at hv; subst hv; rfl)
  have HK0 := Lib.hid (show ∀ s b, (rcs r s b)[0]? = some (.int .i64 10) from fun s b => by rw [rcs_0, hk])
  clear hr hk
  go_enter Try.func58, Try.ntmps58
  go_wp2_with (first
    | (refine atd 1 (by rfl) ?_; refine wl (by rfl) (s_bx (l := rcs r (.slice As r.sb.length cs') (.slice Ab r.bb.length cb')) HS.out (by rfl) (by rfl) ?_); intro b1 Wn hS; clear HS; have HS := Lib.hid hS; clear hS)
    | (refine atd 2 (by rfl) ?_; refine wl (by rfl) (s_al (l := rcs (zq 0) (.slice none 0 0) (.slice none 0 0)) HS.out (by rfl) z56 (by rfl) ?_); intro b2 Wn hS; clear HS; have HS := Lib.hid hS; clear hS)
    | (refine atd 5 (by rfl) ?_; refine wl (by rfl) (s_ld (v := .int .i64 10) HS.out 1 (by rfl) (by rfl) (by rfl) (by kernel_rfl) (by exact HK0.out (.slice As r.sb.length cs') (.slice Ab r.bb.length cb')) ?_))
    | (refine atd 6 (by rfl) ?_; refine wl (by rfl) (wp_of_run (run_b56 (k := 10) (by rfl) (by rfl)) ?_))
    | (refine atd 3 (by rfl) ?_; refine wl (by rfl) (s_al (l := rcs (zq 0) (.slice none 0 0) (.slice none 0 0)) HS.out (by rfl) z56 (by rfl) ?_); intro b3 Wn hS; clear HS; have HS := Lib.hid hS; clear hS)
    | (refine sto 3 (by rfl) ?_; refine wl (by rfl) (s_sta (cs := rcs (zq 10) (.slice none 0 0) (.slice none 0 0)) HS.out 0 70 (by rfl) (by rfl) (by rfl) ag56 (by rfl) (by exact rcs_length (zq_ok _) _ _) (by exact cells_rq _ rfl rfl) (by exact Nat.le_of_eq (rcs_length (zq_ok _) _ _).symm) ?_); intro Wn hS; rw [splice_all ((rcs_length (zq_ok _) _ _).trans (rcs_length (zq_ok _) _ _).symm)] at hS; have hS : St w Wn [Blk b3 (rcs ⟨10, z32, 0, 0, 0, [], z32, []⟩ (.slice none 0 0) (.slice none 0 0)) 56, Blk b2 (rcs (zq 0) (.slice none 0 0) (.slice none 0 0)) 56, Blk b1 (rcs r (.slice As r.sb.length cs') (.slice Ab r.bb.length cb')) 56] _ := hS; clear HS; have HS := Lib.hid hS; clear hS)
    | (refine atd 8 (by rfl) ?_; refine wl (by rfl) (s_ld (v := .int .i64 10) HS.out 2 (by rfl) (by rfl) (by rfl) (by kernel_rfl) (by exact HK0.out (.slice As r.sb.length cs') (.slice Ab r.bb.length cb')) ?_))
    | (refine atd 12 (by rfl) ?_; refine wl (by rfl) (s_ld (v := .int .i64 10) HS.out 2 (by rfl) (by rfl) (by rfl) (by kernel_rfl) (by exact HK0.out (.slice As r.sb.length cs') (.slice Ab r.bb.length cb')) ?_))
    | (refine atd 19 (by rfl) ?_; refine wl (by rfl) (s_ld (v := .int .i64 10) HS.out 2 (by rfl) (by rfl) (by rfl) (by kernel_rfl) (by exact HK0.out (.slice As r.sb.length cs') (.slice Ab r.bb.length cb')) ?_))
    | (refine atd 23 (by rfl) ?_; refine wl (by rfl) (s_ld (v := .int .i64 10) HS.out 2 (by rfl) (by rfl) (by rfl) (by kernel_rfl) (by exact HK0.out (.slice As r.sb.length cs') (.slice Ab r.bb.length cb')) ?_))
    | (refine atd 30 (by rfl) ?_; refine wl (by rfl) (s_ld (v := .int .i64 10) HS.out 2 (by rfl) (by rfl) (by rfl) (by kernel_rfl) (by exact HK0.out (.slice As r.sb.length cs') (.slice Ab r.bb.length cb')) ?_))
    | (refine atd 52 (by rfl) ?_; refine wl (by rfl) (s_lda (cs := rcs ⟨10, z32, 0, 0, 0, [], z32, []⟩ (.slice none 0 0) (.slice none 0 0)) HS.out 0 70 (by rfl) (by rfl) (by rfl) ag56 (by exact rcs_all (⟨rfl, rfl, Nat.zero_lt_succ _, Nat.zero_lt_succ _, Nat.zero_lt_succ _⟩ : Req.ok ⟨10, z32, 0, 0, 0, [], z32, []⟩) _ _) (by exact rcs_length (⟨rfl, rfl, Nat.zero_lt_succ _, Nat.zero_lt_succ _, Nat.zero_lt_succ _⟩ : Req.ok ⟨10, z32, 0, 0, 0, [], z32, []⟩) _ _) ?_))
    | (refine sto 2 (by rfl) ?_; refine wl (by rfl) (s_sta (cs := rcs ⟨10, z32, 0, 0, 0, [], z32, []⟩ (.slice none 0 0) (.slice none 0 0)) HS.out 1 70 (by rfl) (by rfl) (by rfl) ag56 (by rfl) (by exact rcs_length (⟨rfl, rfl, Nat.zero_lt_succ _, Nat.zero_lt_succ _, Nat.zero_lt_succ _⟩ : Req.ok ⟨10, z32, 0, 0, 0, [], z32, []⟩) _ _) (by exact cells_rq _ rfl rfl) (by exact Nat.le_of_eq (rcs_length (zq_ok _) _ _).symm) ?_); intro Wn hS; rw [splice_all ((rcs_length (⟨rfl, rfl, Nat.zero_lt_succ _, Nat.zero_lt_succ _, Nat.zero_lt_succ _⟩ : Req.ok ⟨10, z32, 0, 0, 0, [], z32, []⟩) _ _).trans (rcs_length (zq_ok _) _ _).symm)] at hS; clear HS; have HS := Lib.hid hS; clear hS))
  exact bodyPost_ret (ret_c56 (p := 2) rfl _ b2 _ 56 (0, 0) (by rfl) (HS.out.blk (i := 1) rfl) (by rw [List.size_toArray]; exact rcs_length (⟨rfl, rfl, Nat.zero_lt_succ _, Nat.zero_lt_succ _, Nat.zero_lt_succ _⟩ : Req.ok ⟨10, z32, 0, 0, 0, [], z32, []⟩) _ _)) rfl ⟨rfl, HS.out.below⟩
end
section
open Go Go.RowKit Go.Proofs
attribute [local irreducible] Calls
set_option maxHeartbeats 1000000 in
set_option maxRecDepth 100000 in
theorem only58k (r : Req) (As Ab : Option Addr) (cs' cb' : Nat) (w : World) (hr : r.ok) (hk : r.k = 11) :
    Calls Try.prog 58 #[.agg (rcs r (.slice As r.sb.length cs') (.slice Ab r.bb.length cb')).toArray] w fun e w' => e = .returned (.agg (rcs ⟨11, z32, 0, 0, 0, [], z32, []⟩ (.slice none 0 0) (.slice none 0 0)).toArray) ∧ Below w.heap.size w w' := by
  have HS := Lib.hid (St.start w)
  have HR := Lib.hid hr; have HTX := Lib.hid hr.tx; have HHA := Lib.hid hr.ha
  have HPT := Lib.hid (show ∀ v ∈ bs r.tx ++ [Value.int .u32 (r.n : Int)], v.oneCell' = true from fun v hv => by
    rcases List.mem_append.1 hv with hv | hv
    · exact all_bs _ v hv
    · simp at hv; subst hv; rfl)
  have HK0 := Lib.hid (show ∀ s b, (rcs r s b)[0]? = some (.int .i64 11) from fun s b => by rw [rcs_0, hk])
  clear hr hk
  go_enter Try.func58, Try.ntmps58
  go_wp2_with (first
    | (refine atd 1 (by rfl) ?_; refine wl (by rfl) (s_bx (l := rcs r (.slice As r.sb.length cs') (.slice Ab r.bb.length cb')) HS.out (by rfl) (by rfl) ?_); intro b1 Wn hS; clear HS; have HS := Lib.hid hS; clear hS)
    | (refine atd 2 (by rfl) ?_; refine wl (by rfl) (s_al (l := rcs (zq 0) (.slice none 0 0) (.slice none 0 0)) HS.out (by rfl) z56 (by rfl) ?_); intro b2 Wn hS; clear HS; have HS := Lib.hid hS; clear hS)
    | (refine atd 5 (by rfl) ?_; refine wl (by rfl) (s_ld (v := .int .i64 11) HS.out 1 (by rfl) (by rfl) (by rfl) (by kernel_rfl) (by exact HK0.out (.slice As r.sb.length cs') (.slice Ab r.bb.length cb')) ?_))
    | (refine atd 6 (by rfl) ?_; refine wl (by rfl) (wp_of_run (run_b56 (k := 11) (by rfl) (by rfl)) ?_))
    | (refine atd 3 (by rfl) ?_; refine wl (by rfl) (s_al (l := rcs (zq 0) (.slice none 0 0) (.slice none 0 0)) HS.out (by rfl) z56 (by rfl) ?_); intro b3 Wn hS; clear HS; have HS := Lib.hid hS; clear hS)
    | (refine sto 3 (by rfl) ?_; refine wl (by rfl) (s_sta (cs := rcs (zq 11) (.slice none 0 0) (.slice none 0 0)) HS.out 0 70 (by rfl) (by rfl) (by rfl) ag56 (by rfl) (by exact rcs_length (zq_ok _) _ _) (by exact cells_rq _ rfl rfl) (by exact Nat.le_of_eq (rcs_length (zq_ok _) _ _).symm) ?_); intro Wn hS; rw [splice_all ((rcs_length (zq_ok _) _ _).trans (rcs_length (zq_ok _) _ _).symm)] at hS; have hS : St w Wn [Blk b3 (rcs ⟨11, z32, 0, 0, 0, [], z32, []⟩ (.slice none 0 0) (.slice none 0 0)) 56, Blk b2 (rcs (zq 0) (.slice none 0 0) (.slice none 0 0)) 56, Blk b1 (rcs r (.slice As r.sb.length cs') (.slice Ab r.bb.length cb')) 56] _ := hS; clear HS; have HS := Lib.hid hS; clear hS)
    | (refine atd 8 (by rfl) ?_; refine wl (by rfl) (s_ld (v := .int .i64 11) HS.out 2 (by rfl) (by rfl) (by rfl) (by kernel_rfl) (by exact HK0.out (.slice As r.sb.length cs') (.slice Ab r.bb.length cb')) ?_))
    | (refine atd 12 (by rfl) ?_; refine wl (by rfl) (s_ld (v := .int .i64 11) HS.out 2 (by rfl) (by rfl) (by rfl) (by kernel_rfl) (by exact HK0.out (.slice As r.sb.length cs') (.slice Ab r.bb.length cb')) ?_))
    | (refine atd 19 (by rfl) ?_; refine wl (by rfl) (s_ld (v := .int .i64 11) HS.out 2 (by rfl) (by rfl) (by rfl) (by kernel_rfl) (by exact HK0.out (.slice As r.sb.length cs') (.slice Ab r.bb.length cb')) ?_))
    | (refine atd 23 (by rfl) ?_; refine wl (by rfl) (s_ld (v := .int .i64 11) HS.out 2 (by rfl) (by rfl) (by rfl) (by kernel_rfl) (by exact HK0.out (.slice As r.sb.length cs') (.slice Ab r.bb.length cb')) ?_))
    | (refine atd 30 (by rfl) ?_; refine wl (by rfl) (s_ld (v := .int .i64 11) HS.out 2 (by rfl) (by rfl) (by rfl) (by kernel_rfl) (by exact HK0.out (.slice As r.sb.length cs') (.slice Ab r.bb.length cb')) ?_))
    | (refine atd 52 (by rfl) ?_; refine wl (by rfl) (s_lda (cs := rcs ⟨11, z32, 0, 0, 0, [], z32, []⟩ (.slice none 0 0) (.slice none 0 0)) HS.out 0 70 (by rfl) (by rfl) (by rfl) ag56 (by exact rcs_all (⟨rfl, rfl, Nat.zero_lt_succ _, Nat.zero_lt_succ _, Nat.zero_lt_succ _⟩ : Req.ok ⟨11, z32, 0, 0, 0, [], z32, []⟩) _ _) (by exact rcs_length (⟨rfl, rfl, Nat.zero_lt_succ _, Nat.zero_lt_succ _, Nat.zero_lt_succ _⟩ : Req.ok ⟨11, z32, 0, 0, 0, [], z32, []⟩) _ _) ?_))
    | (refine sto 2 (by rfl) ?_; refine wl (by rfl) (s_sta (cs := rcs ⟨11, z32, 0, 0, 0, [], z32, []⟩ (.slice none 0 0) (.slice none 0 0)) HS.out 1 70 (by rfl) (by rfl) (by rfl) ag56 (by rfl) (by exact rcs_length (⟨rfl, rfl, Nat.zero_lt_succ _, Nat.zero_lt_succ _, Nat.zero_lt_succ _⟩ : Req.ok ⟨11, z32, 0, 0, 0, [], z32, []⟩) _ _) (by exact cells_rq _ rfl rfl) (by exact Nat.le_of_eq (rcs_length (zq_ok _) _ _).symm) ?_); intro Wn hS; rw [splice_all ((rcs_length (⟨rfl, rfl, Nat.zero_lt_succ _, Nat.zero_lt_succ _, Nat.zero_lt_succ _⟩ : Req.ok ⟨11, z32, 0, 0, 0, [], z32, []⟩) _ _).trans (rcs_length (zq_ok _) _ _).symm)] at hS; clear HS; have HS := Lib.hid hS; clear hS))
  exact bodyPost_ret (ret_c56 (p := 2) rfl _ b2 _ 56 (0, 0) (by rfl) (HS.out.blk (i := 1) rfl) (by rw [List.size_toArray]; exact rcs_length (⟨rfl, rfl, Nat.zero_lt_succ _, Nat.zero_lt_succ _, Nat.zero_lt_succ _⟩ : Req.ok ⟨11, z32, 0, 0, 0, [], z32, []⟩) _ _)) rfl ⟨rfl, HS.out.below⟩
end
section
open Go Go.RowKit Go.Proofs
attribute [local irreducible] Calls
set_option maxHeartbeats 1000000 in
set_option maxRecDepth 100000 in
theorem only58z (r : Req) (As Ab : Option Addr) (cs' cb' : Nat) (w : World) (hr : r.ok) (k : Int) (hk : r.k = k) (hz : k < 1 ∨ 11 < k) :
    Calls Try.prog 58 #[.agg (rcs r (.slice As r.sb.length cs') (.slice Ab r.bb.length cb')).toArray] w fun e w' => e = .returned (.agg (rcs ⟨k, z32, 0, 0, 0, [], z32, []⟩ (.slice none 0 0) (.slice none 0 0)).toArray) ∧ Below w.heap.size w w' := by
  have HS := Lib.hid (St.start w)
  have HR := Lib.hid hr; have HTX := Lib.hid hr.tx; have HHA := Lib.hid hr.ha
  have HPT := Lib.hid (show ∀ v ∈ bs r.tx ++ [Value.int .u32 (r.n : Int)], v.oneCell' = true from fun v hv => by
    rcases List.mem_append.1 hv with hv | hv
    · exact all_bs _ v hv
    · simp at hv; subst hv; rfl)
  have HK0 := Lib.hid (show ∀ s b, (rcs r s b)[0]? = some (.int .i64 k) from fun s b => by rw [rcs_0, hk])
  clear hr hk
  have b1 : (k == 1) = false := beq_eq_false_iff_ne.2 (by omega)
  have b2 : (k == 2) = false := beq_eq_false_iff_ne.2 (by omega)
  have b3 : (k == 3) = false := beq_eq_false_iff_ne.2 (by omega)
  have b4 : (k == 4) = false := beq_eq_false_iff_ne.2 (by omega)
  have b5 : (k == 5) = false := beq_eq_false_iff_ne.2 (by omega)
  have b6 : (k == 6) = false := beq_eq_false_iff_ne.2 (by omega)
  have b7 : (k == 7) = false := beq_eq_false_iff_ne.2 (by omega)
  have b8 : (k == 8) = false := beq_eq_false_iff_ne.2 (by omega)
  have b9 : (k == 9) = false := beq_eq_false_iff_ne.2 (by omega)
  have b10 : (k == 10) = false := beq_eq_false_iff_ne.2 (by omega)
  have b11 : (k == 11) = false := beq_eq_false_iff_ne.2 (by omega)
  have g7 : (decide (k ≥ 2) && decide (k ≤ 7)) = false := by simp; omega
  by_cases h2 : 2 ≤ k
  · have d1 : decide (2 ≤ k) = true := decide_eq_true h2
    have d2 : decide (k ≤ 7) = false := decide_eq_false (by omega)
    go_enter Try.func58, Try.ntmps58
    go_wp2_with (first
      | (refine atd 1 (by rfl) ?_; refine wl (by rfl) (s_bx (l := rcs r (.slice As r.sb.length cs') (.slice Ab r.bb.length cb')) HS.out (by rfl) (by rfl) ?_); intro b1 Wn hS; clear HS; have HS := Lib.hid hS; clear hS)
      | (refine atd 2 (by rfl) ?_; refine wl (by rfl) (s_al (l := rcs (zq 0) (.slice none 0 0) (.slice none 0 0)) HS.out (by rfl) z56 (by rfl) ?_); intro b2 Wn hS; clear HS; have HS := Lib.hid hS; clear hS)
      | (refine atd 5 (by rfl) ?_; refine wl (by rfl) (s_ld (v := .int .i64 k) HS.out 1 (by rfl) (by rfl) (by rfl) (by kernel_rfl) (by exact HK0.out (.slice As r.sb.length cs') (.slice Ab r.bb.length cb')) ?_))
      | (refine atd 6 (by rfl) ?_; refine wl (by rfl) (wp_of_run (run_b56 (k := k) (by rfl) (by rfl)) ?_))
      | (refine atd 3 (by rfl) ?_; refine wl (by rfl) (s_al (l := rcs (zq 0) (.slice none 0 0) (.slice none 0 0)) HS.out (by rfl) z56 (by rfl) ?_); intro b3 Wn hS; clear HS; have HS := Lib.hid hS; clear hS)
      | (refine sto 3 (by rfl) ?_; refine wl (by rfl) (s_sta (cs := rcs (zq k) (.slice none 0 0) (.slice none 0 0)) HS.out 0 70 (by rfl) (by rfl) (by rfl) ag56 (by rfl) (by exact rcs_length (zq_ok _) _ _) (by exact cells_rq _ rfl rfl) (by exact Nat.le_of_eq (rcs_length (zq_ok _) _ _).symm) ?_); intro Wn hS; rw [splice_all ((rcs_length (zq_ok _) _ _).trans (rcs_length (zq_ok _) _ _).symm)] at hS; have hS : St w Wn [Blk b3 (rcs ⟨k, z32, 0, 0, 0, [], z32, []⟩ (.slice none 0 0) (.slice none 0 0)) 56, Blk b2 (rcs (zq 0) (.slice none 0 0) (.slice none 0 0)) 56, Blk b1 (rcs r (.slice As r.sb.length cs') (.slice Ab r.bb.length cb')) 56] _ := hS; clear HS; have HS := Lib.hid hS; clear hS)
      | (refine atd 8 (by rfl) ?_; refine wl (by rfl) (s_ld (v := .int .i64 k) HS.out 2 (by rfl) (by rfl) (by rfl) (by kernel_rfl) (by exact HK0.out (.slice As r.sb.length cs') (.slice Ab r.bb.length cb')) ?_))
      | (refine atd 12 (by rfl) ?_; refine wl (by rfl) (s_ld (v := .int .i64 k) HS.out 2 (by rfl) (by rfl) (by rfl) (by kernel_rfl) (by exact HK0.out (.slice As r.sb.length cs') (.slice Ab r.bb.length cb')) ?_))
      | (refine atd 19 (by rfl) ?_; refine wl (by rfl) (s_ld (v := .int .i64 k) HS.out 2 (by rfl) (by rfl) (by rfl) (by kernel_rfl) (by exact HK0.out (.slice As r.sb.length cs') (.slice Ab r.bb.length cb')) ?_))
      | (refine atd 23 (by rfl) ?_; refine wl (by rfl) (s_ld (v := .int .i64 k) HS.out 2 (by rfl) (by rfl) (by rfl) (by kernel_rfl) (by exact HK0.out (.slice As r.sb.length cs') (.slice Ab r.bb.length cb')) ?_))
      | (refine atd 30 (by rfl) ?_; refine wl (by rfl) (s_ld (v := .int .i64 k) HS.out 2 (by rfl) (by rfl) (by rfl) (by kernel_rfl) (by exact HK0.out (.slice As r.sb.length cs') (.slice Ab r.bb.length cb')) ?_))
      | (refine atd 52 (by rfl) ?_; refine wl (by rfl) (s_lda (cs := rcs ⟨k, z32, 0, 0, 0, [], z32, []⟩ (.slice none 0 0) (.slice none 0 0)) HS.out 0 70 (by rfl) (by rfl) (by rfl) ag56 (by exact rcs_all (⟨rfl, rfl, Nat.zero_lt_succ _, Nat.zero_lt_succ _, Nat.zero_lt_succ _⟩ : Req.ok ⟨k, z32, 0, 0, 0, [], z32, []⟩) _ _) (by exact rcs_length (⟨rfl, rfl, Nat.zero_lt_succ _, Nat.zero_lt_succ _, Nat.zero_lt_succ _⟩ : Req.ok ⟨k, z32, 0, 0, 0, [], z32, []⟩) _ _) ?_))
      | (refine sto 2 (by rfl) ?_; refine wl (by rfl) (s_sta (cs := rcs ⟨k, z32, 0, 0, 0, [], z32, []⟩ (.slice none 0 0) (.slice none 0 0)) HS.out 1 70 (by rfl) (by rfl) (by rfl) ag56 (by rfl) (by exact rcs_length (⟨rfl, rfl, Nat.zero_lt_succ _, Nat.zero_lt_succ _, Nat.zero_lt_succ _⟩ : Req.ok ⟨k, z32, 0, 0, 0, [], z32, []⟩) _ _) (by exact cells_rq _ rfl rfl) (by exact Nat.le_of_eq (rcs_length (zq_ok _) _ _).symm) ?_); intro Wn hS; rw [splice_all ((rcs_length (⟨rfl, rfl, Nat.zero_lt_succ _, Nat.zero_lt_succ _, Nat.zero_lt_succ _⟩ : Req.ok ⟨k, z32, 0, 0, 0, [], z32, []⟩) _ _).trans (rcs_length (zq_ok _) _ _).symm)] at hS; clear HS; have HS := Lib.hid hS; clear hS))
    exact bodyPost_ret (ret_c56 (p := 2) rfl _ b2 _ 56 (0, 0) (by rfl) (HS.out.blk (i := 1) rfl) (by rw [List.size_toArray]; exact rcs_length (⟨rfl, rfl, Nat.zero_lt_succ _, Nat.zero_lt_succ _, Nat.zero_lt_succ _⟩ : Req.ok ⟨k, z32, 0, 0, 0, [], z32, []⟩) _ _)) rfl ⟨rfl, HS.out.below⟩
  · have d1 : decide (2 ≤ k) = false := decide_eq_false h2
    go_enter Try.func58, Try.ntmps58
    go_wp2_with (first
      | (refine atd 1 (by rfl) ?_; refine wl (by rfl) (s_bx (l := rcs r (.slice As r.sb.length cs') (.slice Ab r.bb.length cb')) HS.out (by rfl) (by rfl) ?_); intro b1 Wn hS; clear HS; have HS := Lib.hid hS; clear hS)
      | (refine atd 2 (by rfl) ?_; refine wl (by rfl) (s_al (l := rcs (zq 0) (.slice none 0 0) (.slice none 0 0)) HS.out (by rfl) z56 (by rfl) ?_); intro b2 Wn hS; clear HS; have HS := Lib.hid hS; clear hS)
      | (refine atd 5 (by rfl) ?_; refine wl (by rfl) (s_ld (v := .int .i64 k) HS.out 1 (by rfl) (by rfl) (by rfl) (by kernel_rfl) (by exact HK0.out (.slice As r.sb.length cs') (.slice Ab r.bb.length cb')) ?_))
      | (refine atd 6 (by rfl) ?_; refine wl (by rfl) (wp_of_run (run_b56 (k := k) (by rfl) (by rfl)) ?_))
      | (refine atd 3 (by rfl) ?_; refine wl (by rfl) (s_al (l := rcs (zq 0) (.slice none 0 0) (.slice none 0 0)) HS.out (by rfl) z56 (by rfl) ?_); intro b3 Wn hS; clear HS; have HS := Lib.hid hS; clear hS)
      | (refine sto 3 (by rfl) ?_; refine wl (by rfl) (s_sta (cs := rcs (zq k) (.slice none 0 0) (.slice none 0 0)) HS.out 0 70 (by rfl) (by rfl) (by rfl) ag56 (by rfl) (by exact rcs_length (zq_ok _) _ _) (by exact cells_rq _ rfl rfl) (by exact Nat.le_of_eq (rcs_length (zq_ok _) _ _).symm) ?_); intro Wn hS; rw [splice_all ((rcs_length (zq_ok _) _ _).trans (rcs_length (zq_ok _) _ _).symm)] at hS; have hS : St w Wn [Blk b3 (rcs ⟨k, z32, 0, 0, 0, [], z32, []⟩ (.slice none 0 0) (.slice none 0 0)) 56, Blk b2 (rcs (zq 0) (.slice none 0 0) (.slice none 0 0)) 56, Blk b1 (rcs r (.slice As r.sb.length cs') (.slice Ab r.bb.length cb')) 56] _ := hS; clear HS; have HS := Lib.hid hS; clear hS)
      | (refine atd 8 (by rfl) ?_; refine wl (by rfl) (s_ld (v := .int .i64 k) HS.out 2 (by rfl) (by rfl) (by rfl) (by kernel_rfl) (by exact HK0.out (.slice As r.sb.length cs') (.slice Ab r.bb.length cb')) ?_))
      | (refine atd 12 (by rfl) ?_; refine wl (by rfl) (s_ld (v := .int .i64 k) HS.out 2 (by rfl) (by rfl) (by rfl) (by kernel_rfl) (by exact HK0.out (.slice As r.sb.length cs') (.slice Ab r.bb.length cb')) ?_))
      | (refine atd 19 (by rfl) ?_; refine wl (by rfl) (s_ld (v := .int .i64 k) HS.out 2 (by rfl) (by rfl) (by rfl) (by kernel_rfl) (by exact HK0.out (.slice As r.sb.length cs') (.slice Ab r.bb.length cb')) ?_))
      | (refine atd 23 (by rfl) ?_; refine wl (by rfl) (s_ld (v := .int .i64 k) HS.out 2 (by rfl) (by rfl) (by rfl) (by kernel_rfl) (by exact HK0.out (.slice As r.sb.length cs') (.slice Ab r.bb.length cb')) ?_))
      | (refine atd 30 (by rfl) ?_; refine wl (by rfl) (s_ld (v := .int .i64 k) HS.out 2 (by rfl) (by rfl) (by rfl) (by kernel_rfl) (by exact HK0.out (.slice As r.sb.length cs') (.slice Ab r.bb.length cb')) ?_))
      | (refine atd 52 (by rfl) ?_; refine wl (by rfl) (s_lda (cs := rcs ⟨k, z32, 0, 0, 0, [], z32, []⟩ (.slice none 0 0) (.slice none 0 0)) HS.out 0 70 (by rfl) (by rfl) (by rfl) ag56 (by exact rcs_all (⟨rfl, rfl, Nat.zero_lt_succ _, Nat.zero_lt_succ _, Nat.zero_lt_succ _⟩ : Req.ok ⟨k, z32, 0, 0, 0, [], z32, []⟩) _ _) (by exact rcs_length (⟨rfl, rfl, Nat.zero_lt_succ _, Nat.zero_lt_succ _, Nat.zero_lt_succ _⟩ : Req.ok ⟨k, z32, 0, 0, 0, [], z32, []⟩) _ _) ?_))
      | (refine sto 2 (by rfl) ?_; refine wl (by rfl) (s_sta (cs := rcs ⟨k, z32, 0, 0, 0, [], z32, []⟩ (.slice none 0 0) (.slice none 0 0)) HS.out 1 70 (by rfl) (by rfl) (by rfl) ag56 (by rfl) (by exact rcs_length (⟨rfl, rfl, Nat.zero_lt_succ _, Nat.zero_lt_succ _, Nat.zero_lt_succ _⟩ : Req.ok ⟨k, z32, 0, 0, 0, [], z32, []⟩) _ _) (by exact cells_rq _ rfl rfl) (by exact Nat.le_of_eq (rcs_length (zq_ok _) _ _).symm) ?_); intro Wn hS; rw [splice_all ((rcs_length (⟨rfl, rfl, Nat.zero_lt_succ _, Nat.zero_lt_succ _, Nat.zero_lt_succ _⟩ : Req.ok ⟨k, z32, 0, 0, 0, [], z32, []⟩) _ _).trans (rcs_length (zq_ok _) _ _).symm)] at hS; clear HS; have HS := Lib.hid hS; clear hS))
    exact bodyPost_ret (ret_c56 (p := 2) rfl _ b2 _ 56 (0, 0) (by rfl) (HS.out.blk (i := 1) rfl) (by rw [List.size_toArray]; exact rcs_length (⟨rfl, rfl, Nat.zero_lt_succ _, Nat.zero_lt_succ _, Nat.zero_lt_succ _⟩ : Req.ok ⟨k, z32, 0, 0, 0, [], z32, []⟩) _ _)) rfl ⟨rfl, HS.out.below⟩
end
end Go.Proofs.Ytlpklbpaknemaaa
