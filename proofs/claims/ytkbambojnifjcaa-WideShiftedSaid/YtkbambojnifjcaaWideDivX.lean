/- Contracts and words that the laws stand on (WideDivX). -/
import Derived.Test.YtkbambojnifjcaaDown
import Derived.Test.YtkbambojnifjcaaLaw
set_option linter.unusedVariables false
set_option linter.unusedSimpArgs false
namespace Go.Proofs.Ytkbambojnifjcaa
section
open Go Go.RowKit Go.Proofs
attribute [local irreducible] wc pw bl bitN fl shlW shrW Calls cmpW dfold
theorem run_ne24 (n m : Nat) (hn : n < M4) (hm : m < M4) (w : World) : (binOp .neq 24 (.agg (wc n)) (.agg (wc m))).run Try.prog w = .ok (.bool (!decide (n = m))) w := by
  rw [run_neq_struct, eq24 n m hn hm]
  rfl
theorem ne_self (n : Nat) (w : World) : (binOp .neq 24 (.agg (wc n)) (.agg (wc n))).run Try.prog w = .ok (.bool false) w := by
  rw [wc_mod n, run_ne24 _ _ (Nat.mod_lt _ (by decide)) (Nat.mod_lt _ (by decide))]
  simp
theorem atd' {P : Program} {ops : Array Oper} {Q : Exit → Act → World → Prop} {a : Act} {W : World} {rest : List Oper} {o : Oper} (d : Nat) {t : TypeId} {x : Operand} (_h : o.op = .store t x (.tmp d)) (h : wpList P ops Q (o :: rest) a W) : wpList P ops Q (o :: rest) a W := h
set_option maxHeartbeats 1000000 in
set_option maxRecDepth 100000 in
theorem wideDivided_walk0 (a c : Nat) (w : World) : Calls Try.prog 7 #[.agg (wc a), .agg (wc 0), .agg (wc c)] w fun e w' => e = .returned (.bool true) ∧ Below w.heap.size w w' := by
  have HS := Lib.hid (St.start w)
  have h1 := fun w => alive9 w
  have h2 := fun w => div16z a w
  have H1 := Lib.hid h1; have H2 := Lib.hid h2
  have hg := guard24; have he := eq_self; have hz := eq_zero
  clear h1 h2
  go_enter Try.func7, Try.ntmps7
  go_wp2_with (first
    | (refine atd 3 (by rfl) ?_; refine wl (by rfl) (bx24 HS.out a (by rfl) (by rfl) ?_); intro b3 Wn hS; clear HS; have HS := Lib.hid hS; clear hS)
    | (refine atd 4 (by rfl) ?_; refine wl (by rfl) (bx24 HS.out 0 (by rfl) (by rfl) ?_); intro b4 Wn hS; clear HS; have HS := Lib.hid hS; clear hS)
    | (refine atd 5 (by rfl) ?_; refine wl (by rfl) (bx24 HS.out c (by rfl) (by rfl) ?_); intro b5 Wn hS; clear HS; have HS := Lib.hid hS; clear hS)
    | (go_at_call 9; (first | refine (H1.out _).mono ?_); rintro e Wn ⟨rfl, hb⟩; have hS := HS.out.call hb; clear hb; clear HS; have HS := Lib.hid hS; clear hS)
    | (refine atd 24 (by rfl) ?_; refine wl (by rfl) (ld24 HS.out 2 (by rfl) (by rfl) (by rfl) ?_))
    | (refine atd 25 (by rfl) ?_; refine wl (by rfl) (ld24 HS.out 1 (by rfl) (by rfl) (by rfl) ?_))
    | (go_at_call 16; (first | refine (H2.out _).mono ?_); rintro e Wn ⟨rfl, hb⟩; have hS := HS.out.call hb; clear hb; clear HS; have HS := Lib.hid hS; clear hS)
    | (refine atd 8 (by rfl) ?_; refine wl (by rfl) (s_al HS.out (by rfl) z24 (by rfl) ?_); intro b8 Wn hS; replace hS := al24 hS; clear HS; have HS := Lib.hid hS; clear hS)
    | (refine atd 9 (by rfl) ?_; refine wl (by rfl) (s_al HS.out (by rfl) z24 (by rfl) ?_); intro b9 Wn hS; replace hS := al24 hS; clear HS; have HS := Lib.hid hS; clear hS)
    | (refine sto 8 (by rfl) ?_; refine wl (by rfl) (st24 HS.out 1 0 (by rfl) (by rfl) (by rfl) (by rfl) ?_); intro Wn hS; clear HS; have HS := Lib.hid hS; clear hS)
    | (refine sto 9 (by rfl) ?_; refine wl (by rfl) (st24 HS.out 0 0 (by rfl) (by rfl) (by rfl) (by rfl) ?_); intro Wn hS; clear HS; have HS := Lib.hid hS; clear hS)
    | (refine atd 30 (by rfl) ?_; refine wl (by rfl) (ld24 HS.out 3 (by rfl) (by rfl) (by rfl) ?_))
    | (refine atd 39 (by rfl) ?_; refine wl (by rfl) (ld24 HS.out 1 (by rfl) (by rfl) (by rfl) ?_))
    | (refine atd 40 (by rfl) ?_; refine wl (by rfl) (ld24 HS.out 3 (by rfl) (by rfl) (by rfl) ?_))
    | (refine atd 44 (by rfl) ?_; refine wl (by rfl) (ld24 HS.out 0 (by rfl) (by rfl) (by rfl) ?_))
    | (refine atd 45 (by rfl) ?_; refine wl (by rfl) (ld24 HS.out 3 (by rfl) (by rfl) (by rfl) ?_)))
  go_ret
  exact ⟨rfl, HS.out.below⟩
end
section
open Go Go.RowKit Go.Proofs
attribute [local irreducible] wc pw bl bitN fl shlW shrW Calls cmpW dfold
set_option maxHeartbeats 8000000 in
set_option maxRecDepth 100000 in
theorem divd_X (a b c : Nat) (q r qb cq cr hi lo sm : Nat) (ov : Bool) (w : World) (h1 : (∀ w, Calls Try.prog 9 #[] w fun e' w' => e' = .returned (.bool true) ∧ Below w.heap.size w w')) (h2 : (∀ w, Calls Try.prog 16 #[.agg (wc a), .agg (wc b)] w fun e' w' => e' = .returned (.tuple #[.agg (wc q), .agg (wc r), .int .i64 0]) ∧ Below w.heap.size w w')) (h3 : (∀ w, Calls Try.prog 10 #[.agg (wc q), .agg (wc b)] w fun e' w' => e' = .returned (.tuple #[.agg (wc qb), .agg (wc 0)]) ∧ Below w.heap.size w w')) (h4 : (∀ w, Calls Try.prog 11 #[.agg (wc qb), .agg (wc r)] w fun e' w' => e' = .returned (.tuple #[.agg (wc a), .bool false]) ∧ Below w.heap.size w w')) (h5 : (∀ w, Calls Try.prog 15 #[.agg (wc r), .agg (wc b)] w fun e' w' => e' = .returned (.int .i64 (-1)) ∧ Below w.heap.size w w')) (h6 : (∀ w, Calls Try.prog 16 #[.agg (wc c), .agg (wc b)] w fun e' w' => e' = .returned (.tuple #[.agg (wc cq), .agg (wc cr), .int .i64 0]) ∧ Below w.heap.size w w')) (h7 : (∀ w, Calls Try.prog 10 #[.agg (wc a), .agg (wc b)] w fun e' w' => e' = .returned (.tuple #[.agg (wc lo), .agg (wc hi)]) ∧ Below w.heap.size w w')) (h8 : (∀ w, Calls Try.prog 11 #[.agg (wc lo), .agg (wc cr)] w fun e' w' => e' = .returned (.tuple #[.agg (wc sm), .bool ov]) ∧ Below w.heap.size w w')) (hbz : ∀ w, (binOp .eql 24 (.agg (wc b)) (.agg #[.int .u64 0, .int .u64 0, .int .u64 0, .int .u64 0])).run Try.prog w = .ok (.bool false) w) (hnz : ∀ w, (binOp .neq 24 (.agg (wc 0)) (.agg #[.int .u64 0, .int .u64 0, .int .u64 0, .int .u64 0])).run Try.prog w = .ok (.bool false) w) (hne : ∀ w, (binOp .neq 24 (.agg (wc hi)) (.agg #[.int .u64 0, .int .u64 0, .int .u64 0, .int .u64 0])).run Try.prog w = .ok (.bool (!false)) w) : Calls Try.prog 7 #[.agg (wc a), .agg (wc b), .agg (wc c)] w fun e w' => e = .returned (.bool true) ∧ Below w.heap.size w w' := by
  have HS := Lib.hid (St.start w)
  have H1 := Lib.hid h1
  have H2 := Lib.hid h2
  have H3 := Lib.hid h3
  have H4 := Lib.hid h4
  have H5 := Lib.hid h5
  have H6 := Lib.hid h6
  have H7 := Lib.hid h7
  have H8 := Lib.hid h8
  clear h1 h2 h3 h4 h5 h6 h7 h8
  have hg := guard24; have he := eq_self; have hns := ne_self a
  have hne2 := hne
  simp only [Bool.not_false] at hne2
  clear hne
  go_enter Try.func7, Try.ntmps7
  go_wp2_with (first
    | (refine atd 3 (by rfl) ?_; refine wl (by rfl) (bx24 HS.out a (by rfl) (by rfl) ?_); intro b3 Wn hS; clear HS; have HS := Lib.hid hS; clear hS)
    | (refine atd 4 (by rfl) ?_; refine wl (by rfl) (bx24 HS.out b (by rfl) (by rfl) ?_); intro b4 Wn hS; clear HS; have HS := Lib.hid hS; clear hS)
    | (refine atd 5 (by rfl) ?_; refine wl (by rfl) (bx24 HS.out c (by rfl) (by rfl) ?_); intro b5 Wn hS; clear HS; have HS := Lib.hid hS; clear hS)
    | (go_at_call 9; (first | refine (H1.out _).mono ?_); rintro e Wn ⟨rfl, hb⟩; have hS := HS.out.call hb; clear hb; clear HS; have HS := Lib.hid hS; clear hS)
    | (refine atd 24 (by rfl) ?_; refine wl (by rfl) (ld24 HS.out 2 (by rfl) (by rfl) (by rfl) ?_))
    | (refine atd 25 (by rfl) ?_; refine wl (by rfl) (ld24 HS.out 1 (by rfl) (by rfl) (by rfl) ?_))
    | (go_at_call 16; (first | refine (H2.out _).mono ?_ | refine (H6.out _).mono ?_); rintro e Wn ⟨rfl, hb⟩; have hS := HS.out.call hb; clear hb; clear HS; have HS := Lib.hid hS; clear hS)
    | (refine atd 8 (by rfl) ?_; refine wl (by rfl) (s_al HS.out (by rfl) z24 (by rfl) ?_); intro b8 Wn hS; replace hS := al24 hS; clear HS; have HS := Lib.hid hS; clear hS)
    | (refine atd 9 (by rfl) ?_; refine wl (by rfl) (s_al HS.out (by rfl) z24 (by rfl) ?_); intro b9 Wn hS; replace hS := al24 hS; clear HS; have HS := Lib.hid hS; clear hS)
    | (refine sto 8 (by rfl) ?_; refine wl (by rfl) (st24 HS.out 1 q (by rfl) (by rfl) (by rfl) (by rfl) ?_); intro Wn hS; clear HS; have HS := Lib.hid hS; clear hS)
    | (refine sto 9 (by rfl) ?_; refine wl (by rfl) (st24 HS.out 0 r (by rfl) (by rfl) (by rfl) (by rfl) ?_); intro Wn hS; clear HS; have HS := Lib.hid hS; clear hS)
    | (refine atd 30 (by rfl) ?_; refine wl (by rfl) (ld24 HS.out 3 (by rfl) (by rfl) (by rfl) ?_))
    | (refine atd 49 (by rfl) ?_; refine wl (by rfl) (ld24 HS.out 1 (by rfl) (by rfl) (by rfl) ?_))
    | (refine atd 50 (by rfl) ?_; refine wl (by rfl) (ld24 HS.out 3 (by rfl) (by rfl) (by rfl) ?_))
    | (go_at_call 10; (first | refine (H3.out _).mono ?_ | refine (H7.out _).mono ?_); rintro e Wn ⟨rfl, hb⟩; have hS := HS.out.call hb; clear hb; clear HS; have HS := Lib.hid hS; clear hS)
    | (refine atd 11 (by rfl) ?_; refine wl (by rfl) (s_al HS.out (by rfl) z24 (by rfl) ?_); intro b11 Wn hS; replace hS := al24 hS; clear HS; have HS := Lib.hid hS; clear hS)
    | (refine atd 12 (by rfl) ?_; refine wl (by rfl) (s_al HS.out (by rfl) z24 (by rfl) ?_); intro b12 Wn hS; replace hS := al24 hS; clear HS; have HS := Lib.hid hS; clear hS)
    | (refine sto 11 (by rfl) ?_; refine atd' 52 (by rfl) ?_; refine wl (by rfl) (st24 HS.out 1 qb (by rfl) (by rfl) (by rfl) (by rfl) ?_); intro Wn hS; clear HS; have HS := Lib.hid hS; clear hS)
    | (refine sto 12 (by rfl) ?_; refine atd' 53 (by rfl) ?_; refine wl (by rfl) (st24 HS.out 0 0 (by rfl) (by rfl) (by rfl) (by rfl) ?_); intro Wn hS; clear HS; have HS := Lib.hid hS; clear hS)
    | (refine atd 55 (by rfl) ?_; refine wl (by rfl) (ld24 HS.out 1 (by rfl) (by rfl) (by rfl) ?_))
    | (refine atd 56 (by rfl) ?_; refine wl (by rfl) (ld24 HS.out 2 (by rfl) (by rfl) (by rfl) ?_))
    | (go_at_call 11; (first | refine (H4.out _).mono ?_ | refine (H8.out _).mono ?_); rintro e Wn ⟨rfl, hb⟩; have hS := HS.out.call hb; clear hb; clear HS; have HS := Lib.hid hS; clear hS)
    | (refine atd 13 (by rfl) ?_; refine wl (by rfl) (s_al HS.out (by rfl) z24 (by rfl) ?_); intro b13 Wn hS; replace hS := al24 hS; clear HS; have HS := Lib.hid hS; clear hS)
    | (refine sto 13 (by rfl) ?_; refine wl (by rfl) (st24 HS.out 0 a (by rfl) (by rfl) (by rfl) (by rfl) ?_); intro Wn hS; clear HS; have HS := Lib.hid hS; clear hS)
    | (refine atd 63 (by rfl) ?_; refine wl (by rfl) (ld24 HS.out 1 (by rfl) (by rfl) (by rfl) ?_))
    | (refine atd 71 (by rfl) ?_; refine wl (by rfl) (ld24 HS.out 0 (by rfl) (by rfl) (by rfl) ?_))
    | (refine atd 72 (by rfl) ?_; refine wl (by rfl) (ld24 HS.out 7 (by rfl) (by rfl) (by rfl) ?_))
    | (refine atd 76 (by rfl) ?_; refine wl (by rfl) (ld24 HS.out 3 (by rfl) (by rfl) (by rfl) ?_))
    | (refine atd 77 (by rfl) ?_; refine wl (by rfl) (ld24 HS.out 6 (by rfl) (by rfl) (by rfl) ?_))
    | (go_at_call 15; (first | refine (H5.out _).mono ?_); rintro e Wn ⟨rfl, hb⟩; have hS := HS.out.call hb; clear hb; clear HS; have HS := Lib.hid hS; clear hS)
    | (refine atd 82 (by rfl) ?_; refine wl (by rfl) (ld24 HS.out 5 (by rfl) (by rfl) (by rfl) ?_))
    | (refine atd 83 (by rfl) ?_; refine wl (by rfl) (ld24 HS.out 6 (by rfl) (by rfl) (by rfl) ?_))
    | (refine atd 15 (by rfl) ?_; refine wl (by rfl) (s_al HS.out (by rfl) z24 (by rfl) ?_); intro b15 Wn hS; replace hS := al24 hS; clear HS; have HS := Lib.hid hS; clear hS)
    | (refine atd 16 (by rfl) ?_; refine wl (by rfl) (s_al HS.out (by rfl) z24 (by rfl) ?_); intro b16 Wn hS; replace hS := al24 hS; clear HS; have HS := Lib.hid hS; clear hS)
    | (refine sto 15 (by rfl) ?_; refine wl (by rfl) (st24 HS.out 1 cq (by rfl) (by rfl) (by rfl) (by rfl) ?_); intro Wn hS; clear HS; have HS := Lib.hid hS; clear hS)
    | (refine sto 16 (by rfl) ?_; refine wl (by rfl) (st24 HS.out 0 cr (by rfl) (by rfl) (by rfl) (by rfl) ?_); intro Wn hS; clear HS; have HS := Lib.hid hS; clear hS)
    | (refine atd 89 (by rfl) ?_; refine wl (by rfl) (ld24 HS.out 9 (by rfl) (by rfl) (by rfl) ?_))
    | (refine atd 90 (by rfl) ?_; refine wl (by rfl) (ld24 HS.out 8 (by rfl) (by rfl) (by rfl) ?_))
    | (refine sto 11 (by rfl) ?_; refine atd' 92 (by rfl) ?_; refine wl (by rfl) (st24 HS.out 4 lo (by rfl) (by rfl) (by rfl) (by rfl) ?_); intro Wn hS; clear HS; have HS := Lib.hid hS; clear hS)
    | (refine sto 12 (by rfl) ?_; refine atd' 93 (by rfl) ?_; refine wl (by rfl) (st24 HS.out 3 hi (by rfl) (by rfl) (by rfl) (by rfl) ?_); intro Wn hS; clear HS; have HS := Lib.hid hS; clear hS)
    | (refine atd 95 (by rfl) ?_; refine wl (by rfl) (ld24 HS.out 4 (by rfl) (by rfl) (by rfl) ?_))
    | (refine atd 96 (by rfl) ?_; refine wl (by rfl) (ld24 HS.out 0 (by rfl) (by rfl) (by rfl) ?_))
    | (refine atd 18 (by rfl) ?_; refine wl (by rfl) (s_al HS.out (by rfl) z24 (by rfl) ?_); intro b18 Wn hS; replace hS := al24 hS; clear HS; have HS := Lib.hid hS; clear hS)
    | (refine sto 18 (by rfl) ?_; refine wl (by rfl) (st24 HS.out 0 sm (by rfl) (by rfl) (by rfl) (by rfl) ?_); intro Wn hS; clear HS; have HS := Lib.hid hS; clear hS)
    | (refine atd 103 (by rfl) ?_; refine wl (by rfl) (ld24 HS.out 4 (by rfl) (by rfl) (by rfl) ?_)))
  go_ret
  exact ⟨rfl, HS.out.below⟩
end
end Go.Proofs.Ytkbambojnifjcaa
