/- Contracts and words that the laws stand on (WideQuotientsWalk). -/
import Derived.Test.YtkbambojnifjcaaDown
import Derived.Test.YtkbambojnifjcaaRefC
import Derived.Test.YtkbambojnifjcaaLaw
set_option linter.unusedVariables false
set_option linter.unusedSimpArgs false
namespace Go.Proofs.Ytkbambojnifjcaa
section
open Go Go.RowKit Go.Proofs
attribute [local irreducible] wc pw bl bitN fl shlW shrW Calls cmpW dfold
set_option maxHeartbeats 1000000 in
set_option maxRecDepth 100000 in
theorem wideQuotients_walk (a b : Nat) (ha : a < M4) (hb : b < M4) (w : World) : Calls Try.prog 5 #[.agg (wc a), .agg (wc b)] w fun e w' => e = .returned (.bool true) ∧ Below w.heap.size w w' := by
  have HS := Lib.hid (St.start w)
  have hc : ∃ (q r : Nat) (e : Int), (∀ w, Calls Try.prog 16 #[.agg (wc a), .agg (wc b)] w fun e' w' => e' = .returned (.tuple #[.agg (wc q), .agg (wc r), .int .i64 e]) ∧ Below w.heap.size w w') ∧ (∀ w, Calls Try.prog 17 #[.agg (wc a), .agg (wc b)] w fun e' w' => e' = .returned (.tuple #[.agg (wc q), .agg (wc r), .int .i64 e]) ∧ Below w.heap.size w w') := by
    by_cases h : b = 0
    · subst h; exact ⟨0, 0, 30, fun w => div16z a w, fun w => rdiv17z a w⟩
    · exact ⟨a / b, a % b, 0, fun w => div16 a b ha (by omega) hb w, fun w => rdiv17 a b ha (by omega) hb w⟩
  obtain ⟨q, r, e0, h1, h2⟩ := hc
  have H1 := Lib.hid h1; have H2 := Lib.hid h2
  have hg := guard24; have he := eq_self
  clear h1 h2 ha hb
  go_enter Try.func5, Try.ntmps5
  go_wp2_with (first
    | (refine atd 2 (by rfl) ?_; refine wl (by rfl) (bx24 HS.out a (by rfl) (by rfl) ?_); intro b2 Wn hS; clear HS; have HS := Lib.hid hS; clear hS)
    | (refine atd 3 (by rfl) ?_; refine wl (by rfl) (bx24 HS.out b (by rfl) (by rfl) ?_); intro b3 Wn hS; clear HS; have HS := Lib.hid hS; clear hS)
    | (refine atd 12 (by rfl) ?_; refine wl (by rfl) (ld24 HS.out 1 (by rfl) (by rfl) (by rfl) ?_))
    | (refine atd 13 (by rfl) ?_; refine wl (by rfl) (ld24 HS.out 0 (by rfl) (by rfl) (by rfl) ?_))
    | (go_at_call 16; (first | refine (H1.out _).mono ?_); rintro e Wn ⟨rfl, hb⟩; have hS := HS.out.call hb; clear hb; clear HS; have HS := Lib.hid hS; clear hS)
    | (refine atd 5 (by rfl) ?_; refine wl (by rfl) (s_al HS.out (by rfl) z24 (by rfl) ?_); intro b5 Wn hS; replace hS := al24 hS; clear HS; have HS := Lib.hid hS; clear hS)
    | (refine atd 6 (by rfl) ?_; refine wl (by rfl) (s_al HS.out (by rfl) z24 (by rfl) ?_); intro b6 Wn hS; replace hS := al24 hS; clear HS; have HS := Lib.hid hS; clear hS)
    | (refine sto 5 (by rfl) ?_; refine wl (by rfl) (st24 HS.out 1 q (by rfl) (by rfl) (by rfl) (by rfl) ?_); intro Wn hS; clear HS; have HS := Lib.hid hS; clear hS)
    | (refine sto 6 (by rfl) ?_; refine wl (by rfl) (st24 HS.out 0 r (by rfl) (by rfl) (by rfl) (by rfl) ?_); intro Wn hS; clear HS; have HS := Lib.hid hS; clear hS)
    | (refine atd 19 (by rfl) ?_; refine wl (by rfl) (ld24 HS.out 3 (by rfl) (by rfl) (by rfl) ?_))
    | (refine atd 20 (by rfl) ?_; refine wl (by rfl) (ld24 HS.out 2 (by rfl) (by rfl) (by rfl) ?_))
    | (go_at_call 17; (first | refine (H2.out _).mono ?_); rintro e Wn ⟨rfl, hb⟩; have hS := HS.out.call hb; clear hb; clear HS; have HS := Lib.hid hS; clear hS)
    | (refine atd 8 (by rfl) ?_; refine wl (by rfl) (s_al HS.out (by rfl) z24 (by rfl) ?_); intro b8 Wn hS; replace hS := al24 hS; clear HS; have HS := Lib.hid hS; clear hS)
    | (refine atd 9 (by rfl) ?_; refine wl (by rfl) (s_al HS.out (by rfl) z24 (by rfl) ?_); intro b9 Wn hS; replace hS := al24 hS; clear HS; have HS := Lib.hid hS; clear hS)
    | (refine sto 8 (by rfl) ?_; refine wl (by rfl) (st24 HS.out 1 q (by rfl) (by rfl) (by rfl) (by rfl) ?_); intro Wn hS; clear HS; have HS := Lib.hid hS; clear hS)
    | (refine sto 9 (by rfl) ?_; refine wl (by rfl) (st24 HS.out 0 r (by rfl) (by rfl) (by rfl) (by rfl) ?_); intro Wn hS; clear HS; have HS := Lib.hid hS; clear hS)
    | (refine atd 25 (by rfl) ?_; refine wl (by rfl) (ld24 HS.out 3 (by rfl) (by rfl) (by rfl) ?_))
    | (refine atd 26 (by rfl) ?_; refine wl (by rfl) (ld24 HS.out 1 (by rfl) (by rfl) (by rfl) ?_))
    | (refine atd 29 (by rfl) ?_; refine wl (by rfl) (ld24 HS.out 2 (by rfl) (by rfl) (by rfl) ?_))
    | (refine atd 30 (by rfl) ?_; refine wl (by rfl) (ld24 HS.out 0 (by rfl) (by rfl) (by rfl) ?_)))
  go_ret
  exact ⟨rfl, HS.out.below⟩
end
end Go.Proofs.Ytkbambojnifjcaa
