/- Contracts and words that the laws stand on (TrdC). -/
import Derived.Test.YteljmpoaggfliaaTrdB
import Derived.Test.YteljmpoaggfliaaTxD
import Derived.Test.YteljmpoaggfliaaTxC
set_option linter.unusedVariables false
set_option linter.unusedSimpArgs false
namespace Go.Proofs.Yteljmpoaggfliaa
section
open Go Go.RowKit Go.Proofs
/-- Two parts as one. -/
def Res.pair (r q : Res) : Res where
  fp := r.fp ++ q.fp
  ok := fun W => r.ok W ∧ q.ok W
  loc := fun W W' h ho => ⟨r.loc W W' (fun k hk => h k (List.mem_append_left _ hk)) ho.1, q.loc W W' (fun k hk => h k (List.mem_append_right _ hk)) ho.2⟩
  cel := fun W ho k hk => by
    rcases List.mem_append.1 hk with hk | hk
    · exact r.cel W ho.1 k hk
    · exact q.cel W ho.2 k hk
theorem St.pair {w W : World} {r q : Res} {L : List Res} {Fs : List (World → Prop)} (h : St w W (r :: q :: L) Fs) : St w W (Res.pair r q :: L) Fs :=
  h.join2 (i := 0) rfl ⟨(h.own r (by simp)).1, (h.own q (by simp)).1⟩ (fun _ hk => List.mem_append.1 hk)
/-- A transaction in new memory: its lists and scripts. -/
def TxR (m : TxM) : Res := Res.pair (Res.pair (ScrR (m.ins.map fun x => (x.1, x.2.s))) (Row m.iv 66 35 m.ins.length (m.ins.map inC).flatten)) (Res.pair (Row m.ov 68 2 m.outs.length (m.outs.map outC).flatten) (ScrR (m.outs.map fun x => (x.1, x.2.s))))
theorem TxR.tw {m : TxM} {W : World} (hm : m.p.ok) (h : (TxR m).ok W) : TxW m W := by
  obtain ⟨⟨h1, h2⟩, h3, h4⟩ := h
  have i1 : SLc W m.iv 35 (m.ins.map inC) := SLc.of_row (B := 0) (E := 66) (by rw [List.length_map]; exact h2) (fun x hx => by obtain ⟨y, hy, rfl⟩ := List.mem_map.1 hx; exact inC_length (hm.ins _ (List.mem_map_of_mem hy)))
  have i2 : SLc W m.ov 2 (m.outs.map outC) := SLc.of_row (B := 0) (E := 68) (by rw [List.length_map]; exact h3) (fun x hx => by obtain ⟨y, hy, rfl⟩ := List.mem_map.1 hx; rfl)
  exact ⟨i1, i2, fun x hx => Row.hb (h1 _ (List.mem_map_of_mem (f := fun x : Value × TIn => (x.1, x.2.s)) hx)), fun x hx => Row.hb (h4 _ (List.mem_map_of_mem (f := fun x : Value × TOut => (x.1, x.2.s)) hx))⟩
theorem St.txr {w W : World} {m : TxM} {L : List Res} {Fs : List (World → Prop)} (h : St w W (Row m.ov 68 2 m.outs.length (m.outs.map outC).flatten :: ScrR (m.outs.map fun x => (x.1, x.2.s)) :: Row m.iv 66 35 m.ins.length (m.ins.map inC).flatten :: ScrR (m.ins.map fun x => (x.1, x.2.s)) :: L) Fs) : St w W (TxR m :: L) Fs := by
  have h1 := h.pair
  have h2 := h1.front (i := 1) rfl
  have h3 := h2.front (i := 2) rfl
  exact St.pair (St.pair h3)
/-! what First finds -/
theorem pTx_bad {xs y7 y8 : List UInt8} {l7 : List TIn} {l8 : List TOut} {b7 b8 : Bool} (hg7 : b7 = false → (false || !decide (4 ≤ xs.length)) = false ∧ pMany rInV rInM rInB (numM 4 xs) = some (l7, y7)) (hb7 : b7 = true → (false || !decide (4 ≤ xs.length)) = true ∨ pMany rInV rInM rInB (numM 4 xs) = none)
    (hg8 : b8 = false → b7 = false ∧ pMany rOutV rOutM rOutB y7 = some (l8, y8)) (hb8 : b8 = true → b7 = true ∨ pMany rOutV rOutM rOutB y7 = none) (h9 : (b8 || !decide (4 ≤ y8.length)) = true) : pTx xs = none := by
  unfold pTx
  by_cases h4 : 4 ≤ xs.length
  · rw [if_pos h4]
    cases b7 with
    | true =>
      rcases hb7 rfl with h | h
      · simp [h4] at h
      · rw [h]
    | false =>
      rw [(hg7 rfl).2]
      simp only
      cases b8 with
      | true =>
        rcases hb8 rfl with h | h
        · cases h
        · rw [h]
      | false =>
        rw [(hg8 rfl).2]
        simp only
        rw [if_neg (by simpa using h9)]
  · rw [if_neg h4]
theorem pTx_mid {xs y7 y8 : List UInt8} {l7 : List TIn} {l8 : List TOut} {b7 b8 : Bool} (hg7 : b7 = false → (false || !decide (4 ≤ xs.length)) = false ∧ pMany rInV rInM rInB (numM 4 xs) = some (l7, y7))
    (hg8 : b8 = false → b7 = false ∧ pMany rOutV rOutM rOutB y7 = some (l8, y8)) (h9 : (b8 || !decide (4 ≤ y8.length)) = false) :
    pTx xs = (if chkT ⟨numN 4 xs, l7, l8, numN 4 y8⟩ then some (⟨numN 4 xs, l7, l8, numN 4 y8⟩, numM 4 y8) else none) ∧ TxP.ok ⟨numN 4 xs, l7, l8, numN 4 y8⟩ ∧ l7.length ≤ 50 ∧ l8.length ≤ 50 := by
  simp only [Bool.or_eq_false_iff, Bool.not_eq_false', decide_eq_true_eq] at h9
  obtain ⟨h80, h4⟩ := h9
  obtain ⟨h70, e8⟩ := hg8 h80
  obtain ⟨h0, e7⟩ := hg7 h70
  simp only [Bool.or_eq_false_iff, Bool.not_eq_false', decide_eq_true_eq, true_and] at h0
  obtain ⟨_, c1, o1⟩ := pMany_back (E := inB) (p := fun y => y.ok) (fun xs hB => ⟨(rIn_back hB).1, rInV_ok xs⟩) e7
  obtain ⟨_, c2, o2⟩ := pMany_back (E := outB) (p := fun y => y.ok) (fun xs hB => ⟨(rOut_back hB).1, rOutV_ok xs⟩) e8
  refine ⟨?_, ⟨numN_lt 4 _ (by decide), numN_lt 4 _ (by decide), o1, o2⟩, c1, c2⟩
  unfold pTx
  rw [if_pos h0, e7]
  simp only
  rw [e8]
  simp only
  rw [if_pos h4]
theorem ret_c55tt {w : World} {fn : Func} {p u q : Tmp} (h : fn.results = #[.cell p 55, .tmp u, .tmp q]) (tmps : Array Value) (g : Nat) (cs : Array Value) (t : TypeId) (fr : Nat × Nat) (v x : Value) (hp : tmps.getD p undef = .pointer (some ⟨g, 0, none⟩)) (hv : tmps.getD u undef = v) (hx : tmps.getD q undef = x) (hg : w.heap[g]? = some (.cells cs t fr)) (hz : cs.size = 4) :
    (results fn tmps).run Try.prog w = .ok (.tuple #[.agg cs, v, x]) w := by
  have hp' : tmps[p]?.getD undef = .pointer (some ⟨g, 0, none⟩) := by simpa using hp
  have hv' : tmps[u]?.getD undef = v := by simpa using hv
  have hx' : tmps[q]?.getD undef = x := by simpa using hx
  simp [results, h, hp', hv', hx', asAddr, load55 g cs t fr hg hz]
theorem ret_c55t {w : World} {fn : Func} {p u : Tmp} (h : fn.results = #[.cell p 55, .tmp u]) (tmps : Array Value) (g : Nat) (cs : Array Value) (t : TypeId) (fr : Nat × Nat) (v : Value) (hp : tmps.getD p undef = .pointer (some ⟨g, 0, none⟩)) (hv : tmps.getD u undef = v) (hg : w.heap[g]? = some (.cells cs t fr)) (hz : cs.size = 4) :
    (results fn tmps).run Try.prog w = .ok (.tuple #[.agg cs, v]) w := by
  have hp' : tmps[p]?.getD undef = .pointer (some ⟨g, 0, none⟩) := by simpa using hp
  have hv' : tmps[u]?.getD undef = v := by simpa using hv
  simp [results, h, hp', hv', asAddr, load55 g cs t fr hg hz]
end
section
open Go Go.RowKit Go.Proofs
attribute [local go_sem] Oper.semAt_some
attribute [local irreducible] Calls
theorem build120 (g : Nat) (W : World) : (Instr.build 120 #[(0, .pointer (some ⟨g, 0, none⟩))]).run Try.prog W = .ok (.agg #[.pointer (some ⟨g, 0, none⟩), .bool false]) W := by kernel_rfl
theorem run_b120 {W : World} {ev : Operand → Value} {o : Oper} {x : Operand} {g : Nat} (ho : o.op = .build 120 #[(0, x)]) (hx : ev x = .pointer (some ⟨g, 0, none⟩)) : (execOp ev o).run Try.prog W = .ok (.value (.agg #[.pointer (some ⟨g, 0, none⟩), .bool false])) W := by
  unfold execOp
  simp only [ho, List.map_toArray, List.map_cons, List.map_nil, hx, Sem.run_bind, build120 g W, Result.andThen_ok, Sem.run_pure]
def Z4 : List Value := [.int .u32 0, .slice none 0 0, .slice none 0 0, .int .u32 0]
theorem build55z (W : World) : (Instr.build 55 #[]).run Try.prog W = .ok (.agg Z4.toArray) W := by kernel_rfl
theorem run_b55z {W : World} {ev : Operand → Value} {o : Oper} (ho : o.op = .build 55 #[]) : (execOp ev o).run Try.prog W = .ok (.value (.agg Z4.toArray)) W := by
  unfold execOp
  simp only [ho, List.map_toArray, List.map_nil, Sem.run_bind, build55z W, Result.andThen_ok, Sem.run_pure]
theorem Z4_one : ∀ v ∈ Z4, v.oneCell' = true := by intro v hv; simp [Z4] at hv; rcases hv with rfl | rfl | rfl | rfl <;> rfl
theorem first_split {xs y7 y8 : List UInt8} {l7 : List TIn} {l8 : List TOut} {b7 b8 b9 : Bool} (hg7 : b7 = false → (false || !decide (4 ≤ xs.length)) = false ∧ pMany rInV rInM rInB (numM 4 xs) = some (l7, y7)) (hb7 : b7 = true → (false || !decide (4 ≤ xs.length)) = true ∨ pMany rInV rInM rInB (numM 4 xs) = none)
    (hg8 : b8 = false → b7 = false ∧ pMany rOutV rOutM rOutB y7 = some (l8, y8)) (hb8 : b8 = true → b7 = true ∨ pMany rOutV rOutM rOutB y7 = none) (h9 : (b8 || !decide (4 ≤ y8.length)) = b9) :
    (b9 = true ∧ pTx xs = none) ∨ (b9 = false ∧ TxP.ok ⟨numN 4 xs, l7, l8, numN 4 y8⟩ ∧ l7.length ≤ 50 ∧ l8.length ≤ 50 ∧ chkTI ⟨numN 4 xs, l7, l8, numN 4 y8⟩ = 60 ∧ pTx xs = none) ∨ (b9 = false ∧ TxP.ok ⟨numN 4 xs, l7, l8, numN 4 y8⟩ ∧ l7.length ≤ 50 ∧ l8.length ≤ 50 ∧ chkTI ⟨numN 4 xs, l7, l8, numN 4 y8⟩ = 0 ∧ pTx xs = some (⟨numN 4 xs, l7, l8, numN 4 y8⟩, numM 4 y8)) := by
  cases b9 with
  | true => exact .inl ⟨rfl, pTx_bad hg7 hb7 hg8 hb8 h9⟩
  | false =>
    obtain ⟨hp, hok, c1, c2⟩ := pTx_mid hg7 hg8 h9
    cases hc : chkT ⟨numN 4 xs, l7, l8, numN 4 y8⟩ with
    | true => exact .inr (.inr ⟨rfl, hok, c1, c2, by unfold chkTI; rw [hc]; rfl, by rw [hp, if_pos hc]⟩)
    | false => exact .inr (.inl ⟨rfl, hok, c1, c2, by unfold chkTI; rw [hc]; rfl, by rw [hp, hc]; rfl⟩)
/-- What First answers. -/
def FirP (xs : List UInt8) (w : World) (e : Ending) (w' : World) : Prop :=
  (pTx xs = none ∧ e = .returned (.tuple #[.agg Z4.toArray, .int .i64 0, .int .i64 60]) ∧ Below w.heap.size w w') ∨
  (∃ (m : TxM) (r : List UInt8), pTx xs = some (m.p, r) ∧ r.length ≤ xs.length ∧ e = .returned (.tuple #[.agg m.cs.toArray, .int .i64 ((xs.length - r.length : Nat) : Int), .int .i64 0]) ∧ St w w' [TxR m] [])
set_option maxHeartbeats 4000000 in
set_option maxRecDepth 100000 in
theorem first28 (v : Value) (xs : List UInt8) (w : World) (hv : HB w v xs) (hl : xs.length ≤ 1000000) :
    Calls Try.prog 28 #[v] w fun e w' => FirP xs w e w' := by
  have HS := Lib.hid ((St.start w).addF hv.away0)
  obtain ⟨Av, cv, rfl, _⟩ := hv.shape
  clear hv
  go_enter Try.func28, Try.ntmps28
  go_wp2_with (first
    | go_skip
    | (refine atd 2 (by rfl) ?_; refine wl (by rfl) (s_al (l := Z4) HS.out (by rfl) z55 (by rfl) ?_); intro b2 Wn hS; clear HS; have HS := Lib.hid hS; clear hS)
    | (go_at_call 63; refine (look_new _ xs _ (HS.out.fact (i := 0) rfl) (by omega)).mono ?_; rintro e Wn ⟨g, u0, rfl, hb⟩; have hS := HS.out.take hb; clear hb; clear HS; have HS := Lib.hid hS; clear hS)
    | (refine atd 10 (by rfl) ?_; refine wl (by rfl) (wp_of_run (run_b120 (by rfl) (by rfl)) ?_))
    | (refine atd 11 (by rfl) ?_; refine wl (by rfl) (s_bx (l := [.pointer (some ⟨g, 0, none⟩), .bool false]) HS.out (by rfl) (by rfl) ?_); intro r Wn hS; replace hS := hS.front (i := 1) rfl; clear HS; have HS := Lib.hid hS; clear hS)
    | (go_at_call 79; refine (HS.out.four79 (u := u8) (i := 0) (j := 1) (by rfl) (by rfl) (by decide)).mono ?_; rintro e Wn ⟨u9, rfl, hS⟩; obtain ⟨b9, hb9⟩ : ∃ b, (b8 || !decide (4 ≤ y8.length)) = b := ⟨_, rfl⟩; rw [hb9] at hS; have HB9 := Lib.hid hb9; clear hb9; clear HS; have HS := Lib.hid hS; clear hS)
    | (go_at_call 79; refine (HS.out.four79 (u := u0) (i := 0) (j := 1) (by rfl) (by rfl) (by decide)).mono ?_; rintro e Wn ⟨u1, rfl, hS⟩; clear HS; have HS := Lib.hid hS; clear hS)
    | (refine sto 14 (by rfl) ?_; refine wl (by rfl) (s_st (v := .int .u32 ((numN 4 xs : Nat) : Int)) HS.out 2 (by rfl) (by rfl) (by rfl) (by kernel_rfl) (by rfl) (by rfl) (by exact (by decide : 0 < 4)) ?_); intro Wn hS; clear HS; have HS := Lib.hid hS; clear hS)
    | (go_at_call 82; refine (HS.out.sev82 (Nat.le_trans (numM_len _ _) hl)).mono ?_; rintro e Wn ⟨A7, c7, l7, u7, y7, rfl, hy7, b7, hS, hg7, hb7⟩; have HG7 := Lib.hid hg7; have HB7 := Lib.hid hb7; have HY7 := Lib.hid (Nat.le_trans hy7 (numM_len _ _)); clear hg7 hb7 hy7; clear HS; have HS := Lib.hid hS; clear hS)
    | (refine sto 22 (by rfl) ?_; refine wl (by rfl) (s_st (v := .slice A7 l7.length c7) HS.out 4 (by rfl) (by rfl) (by rfl) (by kernel_rfl) (by rfl) (by rfl) (by exact (by decide : 1 < 4)) ?_); intro Wn hS; clear HS; have HS := Lib.hid hS; clear hS)
    | (go_at_call 83; refine (HS.out.sev83 (Nat.le_trans HY7.out hl)).mono ?_; rintro e Wn ⟨A8, c8, l8, u8, y8, rfl, hy8, b8, hS, hg8, hb8⟩; have HG8 := Lib.hid hg8; have HB8 := Lib.hid hb8; have HY8 := Lib.hid (Nat.le_trans hy8 HY7.out); clear hg8 hb8 hy8; clear HS; have HS := Lib.hid hS; clear hS)
    | (refine sto 26 (by rfl) ?_; refine wl (by rfl) (s_st (v := .slice A8 l8.length c8) HS.out 6 (by rfl) (by rfl) (by rfl) (by kernel_rfl) (by rfl) (by rfl) (by exact (by decide : 2 < 4)) ?_); intro Wn hS; clear HS; have HS := Lib.hid hS; clear hS)
    | (refine sto 29 (by rfl) ?_; refine wl (by rfl) (s_st (v := .int .u32 ((numN 4 y8 : Nat) : Int)) HS.out 6 (by rfl) (by rfl) (by rfl) (by kernel_rfl) (by rfl) (by rfl) (by exact (by decide : 3 < 4)) ?_); intro Wn hS; clear HS; have HS := Lib.hid hS; clear hS; rcases first_split HG7.out HB7.out HG8.out HB8.out HB9.out with ⟨rfl, hp⟩ | ⟨rfl, hok, hc1, hc2, hci, hp⟩ | ⟨rfl, hok, hc1, hc2, hci, hp⟩ <;> have HP := Lib.hid hp <;> clear hp; all_goals (try (have HOK := Lib.hid hok; have HC1 := Lib.hid (show l7.length ≤ 1000000 by rw [List.length_map] at hc1; omega); have HC2 := Lib.hid (show l8.length ≤ 1000000 by rw [List.length_map] at hc2; omega); have HCI := Lib.hid hci; clear hok hc1 hc2 hci)))
    | (refine atd 33 (by rfl) ?_; refine wl (by rfl) (s_ld HS.out 1 (by rfl) (by rfl) (by rfl) (by kernel_rfl) (by rfl) ?_))
    | (refine atd 35 (by rfl) ?_; refine wl (by rfl) (s_lda (cs := [.int .u32 ((numN 4 xs : Nat) : Int), .slice A7 l7.length c7, .slice A8 l8.length c8, .int .u32 ((numN 4 y8 : Nat) : Int)]) HS.out 6 4 (by rfl) (by rfl) (by rfl) ag55 (by rfl) (by rfl) ?_))
    | (go_at_call 84; refine (check84 (⟨numN 4 xs, .slice A7 l7.length c7, l7, .slice A8 l8.length c8, l8, numN 4 y8⟩ : TxM) _ (show ((⟨numN 4 xs, .slice A7 l7.length c7, l7, .slice A8 l8.length c8, l8, numN 4 y8⟩ : TxM)).p.ok from HOK.out) (TxR.tw (m := (⟨numN 4 xs, .slice A7 l7.length c7, l7, .slice A8 l8.length c8, l8, numN 4 y8⟩ : TxM)) (show ((⟨numN 4 xs, .slice A7 l7.length c7, l7, .slice A8 l8.length c8, l8, numN 4 y8⟩ : TxM)).p.ok from HOK.out) ⟨⟨HS.out.res (i := 5) rfl, HS.out.res (i := 4) rfl⟩, HS.out.res (i := 2) rfl, HS.out.res (i := 3) rfl⟩) HC1.out HC2.out).mono ?_; rw [show chkTI ((⟨numN 4 xs, .slice A7 l7.length c7, l7, .slice A8 l8.length c8, l8, numN 4 y8⟩ : TxM)).p = _ from HCI.out]; rintro e Wn ⟨rfl, hb⟩; have hS := HS.out.call hb; clear hb; clear HS; have HS := Lib.hid hS; clear hS)
    | (refine atd 39 (by rfl) ?_; refine wl (by rfl) (wp_of_run (run_b55z (by rfl)) ?_))
    | (refine sto 2 (by rfl) ?_; refine wl (by rfl) (s_sta (cs := Z4) HS.out 6 4 (by rfl) (by rfl) (by rfl) ag55 (by rfl) (by rfl) Z4_one (by exact Nat.le_refl _) ?_); intro Wn hS; clear HS; have HS := Lib.hid hS; clear hS))
  · skip
    exact bodyPost_ret (ret_c55tt (p := 2) (u := 3) (q := 4) rfl _ b2 _ 55 (0, 0) (.int .i64 0) (.int .i64 60) (by rfl) (by rfl) (by rfl) (HS.out.blk (i := 6) rfl) (by rfl)) rfl (.inl ⟨HP.out, rfl, HS.out.below⟩)
  · skip
    exact bodyPost_ret (ret_c55tt (p := 2) (u := 3) (q := 4) rfl _ b2 _ 55 (0, 0) (.int .i64 0) (.int .i64 60) (by rfl) (by rfl) (by rfl) (HS.out.blk (i := 6) rfl) (by rfl)) rfl (.inl ⟨HP.out, rfl, HS.out.below⟩)
  · have hlen : (numM 4 y8).length ≤ xs.length := Nat.le_trans (numM_len _ _) HY8.out
    have hw : IntKind.i64.wrap ((xs.length : Int) - ((numM 4 y8).length : Int)) = ((xs.length - (numM 4 y8).length : Nat) : Int) := by rw [IntKind.wrap_i64]; omega
    have HLE := Lib.hid hlen
    clear hlen
    refine wp_region_pi [(0, true), (1, true), (2, true), (3, true), (4, true), (5, true), (6, true), (7, false), (8, true), (9, false), (10, true), (11, true)] (by kernel_rfl) (by kernel_rfl) rfl (by kernel_rfl) (fun _ _ _ _ _ h => h) (fun w' => St w w' [EyeR g u9 (numM 4 y8), Blk r [.pointer (some ⟨g, 0, none⟩), .bool false] 120, Row (.slice A8 l8.length c8) 68 2 l8.length (l8.map outC).flatten, ScrR (l8.map fun x : Value × TOut => (x.1, x.2.s)), Row (.slice A7 l7.length c7) 66 35 l7.length (l7.map inC).flatten, ScrR (l7.map fun x : Value × TIn => (x.1, x.2.s)), Blk b2 [.int .u32 ((numN 4 xs : Nat) : Int), .slice A7 l7.length c7, .slice A8 l8.length c8, .int .u32 ((numN 4 y8 : Nat) : Int)] 55] [fun W => HB W (.slice Av xs.length cv) xs]) HS.out.drew ?_
    intro OPS hops
    have hS := HS.out.drew
    clear HS; have HS := Lib.hid hS; clear hS
    iterate 7
      first | (refine wpPi_yield _ (by rw [hops.out]; simp only [List.getElem?_toArray, List.getElem?_cons_succ, List.getElem?_cons_zero]; rfl) (by first | rfl | (rw [hops.out]; rfl)) (fun w' hS => by first | exact run_lda (n := 4) (cs := [.int .u32 ((numN 4 xs : Nat) : Int), .slice A7 l7.length c7, .slice A8 l8.length c8, .int .u32 ((numN 4 y8 : Nat) : Int)]) ag55 (by rfl) (by rfl) (hS.range (i := 6) rfl (by rfl)) (by rfl) | exact run_ld (by kernel_rfl) (by rfl) (by rfl) (hS.cell (i := 1) rfl rfl) | (go_simp; rfl)) ?_; simp only [Act.put, List.setIfInBounds_toArray, List.set_cons_succ, List.set_cons_zero]) | (refine wpPi_skip (by rw [hops.out]; simp only [List.getElem?_toArray, List.getElem?_cons_succ, List.getElem?_cons_zero]; rfl) (by first | rfl | (rw [hops.out]; rfl)) ?_; simp only [Act.put, List.setIfInBounds_toArray, List.set_cons_succ, List.set_cons_zero])
    refine wpPi_act (by rw [hops.out]; simp only [List.getElem?_toArray, List.getElem?_cons_succ, List.getElem?_cons_zero]; rfl) (by first | rfl | (rw [hops.out]; rfl)) ?_
    go_simp
    refine (left_any g _ _ _ (HS.out.eyeAt (i := 0) rfl)).mono ?_
    rintro e Wn ⟨rfl, rfl⟩
    refine ⟨HS.out, ?_⟩
    try simp only [Act.put, List.setIfInBounds_toArray, List.set_cons_succ, List.set_cons_zero]
    iterate 1
      first | (refine wpPi_yield _ (by rw [hops.out]; simp only [List.getElem?_toArray, List.getElem?_cons_succ, List.getElem?_cons_zero]; rfl) (by first | rfl | (rw [hops.out]; rfl)) (fun w' hS => by first | exact run_lda (n := 4) (cs := [.int .u32 ((numN 4 xs : Nat) : Int), .slice A7 l7.length c7, .slice A8 l8.length c8, .int .u32 ((numN 4 y8 : Nat) : Int)]) ag55 (by rfl) (by rfl) (hS.range (i := 6) rfl (by rfl)) (by rfl) | exact run_ld (by kernel_rfl) (by rfl) (by rfl) (hS.cell (i := 1) rfl rfl) | (go_simp; rfl)) ?_; simp only [Act.put, List.setIfInBounds_toArray, List.set_cons_succ, List.set_cons_zero]) | (refine wpPi_skip (by rw [hops.out]; simp only [List.getElem?_toArray, List.getElem?_cons_succ, List.getElem?_cons_zero]; rfl) (by first | rfl | (rw [hops.out]; rfl)) ?_; simp only [Act.put, List.setIfInBounds_toArray, List.set_cons_succ, List.set_cons_zero])
    refine wpPi_act (by rw [hops.out]; simp only [List.getElem?_toArray, List.getElem?_cons_succ, List.getElem?_cons_zero]; rfl) (by first | rfl | (rw [hops.out]; rfl)) ?_
    refine s_sta (cs := [.int .u32 ((numN 4 xs : Nat) : Int), .slice A7 l7.length c7, .slice A8 l8.length c8, .int .u32 ((numN 4 y8 : Nat) : Int)]) HS.out 6 4 (by rfl) (by rfl) (by rfl) ag55 (by rfl) (by rfl) (by intro v hv; simp at hv; rcases hv with rfl | rfl | rfl | rfl <;> rfl) (by exact Nat.le_refl _) ?_
    intro Wn hS
    clear HS; have HS := Lib.hid hS; clear hS
    refine ⟨HS.out, ?_⟩
    try simp only [Act.put, List.setIfInBounds_toArray, List.set_cons_succ, List.set_cons_zero]
    iterate 2
      first | (refine wpPi_yield _ (by rw [hops.out]; simp only [List.getElem?_toArray, List.getElem?_cons_succ, List.getElem?_cons_zero]; rfl) (by first | rfl | (rw [hops.out]; rfl)) (fun w' hS => by first | exact run_lda (n := 4) (cs := [.int .u32 ((numN 4 xs : Nat) : Int), .slice A7 l7.length c7, .slice A8 l8.length c8, .int .u32 ((numN 4 y8 : Nat) : Int)]) ag55 (by rfl) (by rfl) (hS.range (i := 6) rfl (by rfl)) (by rfl) | exact run_ld (by kernel_rfl) (by rfl) (by rfl) (hS.cell (i := 1) rfl rfl) | (go_simp; rfl)) ?_; simp only [Act.put, List.setIfInBounds_toArray, List.set_cons_succ, List.set_cons_zero]) | (refine wpPi_skip (by rw [hops.out]; simp only [List.getElem?_toArray, List.getElem?_cons_succ, List.getElem?_cons_zero]; rfl) (by first | rfl | (rw [hops.out]; rfl)) ?_; simp only [Act.put, List.setIfInBounds_toArray, List.set_cons_succ, List.set_cons_zero])
    simp only [wpPi]
    clear OPS hops
    go_wp2_with (first
      | go_skip)
    have hf := HS.out.dropF (Gs := []) (fun G hG => by cases hG)
    have hq := ((hf.sub 6).sub 0).sub 0
    exact bodyPost_ret (ret_c55tt (p := 2) (u := 3) (q := 4) rfl _ b2 _ 55 (0, 0) (.int .i64 ((xs.length - (numM 4 y8).length : Nat) : Int)) (.int .i64 0) (by rfl) (by rfl) (by rfl) (HS.out.blk (i := 6) rfl) (by rfl)) rfl (.inr ⟨(⟨numN 4 xs, .slice A7 l7.length c7, l7, .slice A8 l8.length c8, l8, numN 4 y8⟩ : TxM), _, HP.out, HLE.out, rfl, St.txr (m := (⟨numN 4 xs, .slice A7 l7.length c7, l7, .slice A8 l8.length c8, l8, numN 4 y8⟩ : TxM)) hq⟩)
end
section
open Go Go.RowKit Go.Proofs
attribute [local go_sem] Oper.semAt_some
attribute [local irreducible] Calls
/-- The transaction that bytes are. -/
def pDec (xs : List UInt8) : Option TxP := match pTx xs with
  | some (t, []) => some t
  | _ => none
def DecP (xs : List UInt8) (w : World) (e : Ending) (w' : World) : Prop :=
  (pDec xs = none ∧ e = .returned (.tuple #[.agg Z4.toArray, .int .i64 60]) ∧ Below w.heap.size w w') ∨
  (∃ m : TxM, pDec xs = some m.p ∧ e = .returned (.tuple #[.agg m.cs.toArray, .int .i64 0]) ∧ St w w' [TxR m] [])
theorem cs_one {m : TxM} {W : World} (h : (TxR m).ok W) : ∀ v ∈ m.cs, v.oneCell' = true := by
  obtain ⟨⟨_, h2⟩, h3, _⟩ := h
  intro v hv
  simp only [TxM.cs, List.mem_cons, List.not_mem_nil, or_false] at hv
  have key : ∀ {u : Value} {E : TypeId} {s n : Nat} {l : List Value}, (Row u E s n l).ok W → u.oneCell' = true := fun h => by
    rcases h.2 with ⟨rfl, _⟩ | ⟨g, cap, cur, rfl, _⟩ <;> rfl
  rcases hv with rfl | rfl | rfl | rfl
  · rfl
  · exact key h2
  · exact key h3
  · rfl
theorem csall (m : TxM) : (m.cs.drop 0).take 4 = m.cs := rfl
set_option maxHeartbeats 4000000 in
set_option maxRecDepth 100000 in
theorem dec30 (v : Value) (xs : List UInt8) (w : World) (hv : HB w v xs) (hl : xs.length ≤ 1000000) :
    Calls Try.prog 30 #[v] w fun e w' => DecP xs w e w' := by
  have HS := Lib.hid ((St.start w).addF hv.away0)
  obtain ⟨Av, cv, rfl, _⟩ := hv.shape
  clear hv
  go_enter Try.func30, Try.ntmps30
  go_wp2_with (first
    | go_skip
    | (refine atd 2 (by rfl) ?_; refine wl (by rfl) (s_al (l := Z4) HS.out (by rfl) z55 (by rfl) ?_); intro b2 Wn hS; clear HS; have HS := Lib.hid hS; clear hS)
    | (refine atd 4 (by rfl) ?_; refine wl (by rfl) (s_al (l := Z4) HS.out (by rfl) z55 (by rfl) ?_); intro b4 Wn hS; clear HS; have HS := Lib.hid hS; clear hS)
    | (go_at_call 28; refine (first28 _ xs _ (HS.out.fact (i := 0) rfl) hl).mono ?_; rintro e Wn (⟨hp, rfl, hb⟩ | ⟨m, r, hp, hr, rfl, hs⟩); (case' inl => (have hS := HS.out.call hb; have HP := Lib.hid (show pDec xs = none by unfold pDec; rw [hp]); clear hb hp; clear HS; have HS := Lib.hid hS; clear hS)); (case' inr => (have hS := HS.out.join hs; clear hs; clear HS; have HS := Lib.hid hS; clear hS; rcases r with _ | ⟨r0, rs⟩)); (case' nil => (have HP := Lib.hid (show pDec xs = some m.p by unfold pDec; rw [hp]); rw [show xs.length - ([] : List UInt8).length = xs.length from rfl]; clear hp hr)); (case' cons => (have HP := Lib.hid (show pDec xs = none by unfold pDec; rw [hp]); obtain ⟨K, hK⟩ : ∃ K, xs.length - (r0 :: rs).length = K := ⟨_, rfl⟩; rw [hK]; have hne : ((K : Int) == (xs.length : Int)) = false := (by rw [beq_eq_false_iff_ne]; rw [List.length_cons] at hK hr; omega); clear hp hr hK)))
    | (refine sto 4 (by rfl) ?_; refine wl (by rfl) (s_sta (cs := m.cs) HS.out 0 4 (by rfl) (by rfl) (by rfl) ag55 (by rfl) (by rfl) (cs_one (HS.out.res (i := 1) rfl)) (by exact Nat.le_refl _) ?_); intro Wn hS; clear HS; have HS := Lib.hid hS; clear hS)
    | (refine sto 4 (by rfl) ?_; refine wl (by rfl) (s_sta (cs := Z4) HS.out 0 4 (by rfl) (by rfl) (by rfl) ag55 (by rfl) (by rfl) (Z4_one) (by exact Nat.le_refl _) ?_); intro Wn hS; clear HS; have HS := Lib.hid hS; clear hS)
    | (refine atd 21 (by rfl) ?_; refine wl (by rfl) (wp_of_run (run_b55z (by rfl)) ?_))
    | (refine sto 2 (by rfl) ?_; refine wl (by rfl) (s_sta (cs := Z4) HS.out 1 4 (by rfl) (by rfl) (by rfl) ag55 (by rfl) (by rfl) (Z4_one) (by exact Nat.le_refl _) ?_); intro Wn hS; clear HS; have HS := Lib.hid hS; clear hS)
    | (refine sto 2 (by rfl) ?_; refine wl (by rfl) (s_sta (cs := Z4) HS.out 2 4 (by rfl) (by rfl) (by rfl) ag55 (by rfl) (by rfl) (Z4_one) (by exact Nat.le_refl _) ?_); intro Wn hS; clear HS; have HS := Lib.hid hS; clear hS)
    | (refine atd 22 (by rfl) ?_; refine wl (by rfl) (s_lda (cs := m.cs) HS.out 0 4 (by rfl) (by rfl) (by rfl) ag55 (by rfl) (by rfl) ?_))
    | (refine sto 2 (by rfl) ?_; refine wl (by rfl) (s_sta (cs := m.cs) HS.out 2 4 (by rfl) (by rfl) (by rfl) ag55 (by rfl) (by rfl) (cs_one (HS.out.res (i := 1) rfl)) (by exact Nat.le_refl _) ?_); intro Wn hS; clear HS; have HS := Lib.hid hS; clear hS))
  · exact bodyPost_ret (ret_c55t (p := 2) (u := 3) rfl _ b2 _ 55 (0, 0) (.int .i64 60) (by rfl) (by rfl) (HS.out.blk (i := 2) rfl) (by rfl)) rfl (.inl ⟨HP.out, rfl, HS.out.below⟩)
  · have hq := ((HS.out.dropF (Gs := []) (fun G hG => by cases hG)).sub 2).sub 0
    exact bodyPost_ret (ret_c55t (p := 2) (u := 3) rfl _ b2 _ 55 (0, 0) (.int .i64 0) (by rfl) (by rfl) (HS.out.blk (i := 2) rfl) (by rfl)) rfl (.inr ⟨m, HP.out, rfl, hq⟩)
  · exact bodyPost_ret (ret_c55t (p := 2) (u := 3) rfl _ b2 _ 55 (0, 0) (.int .i64 60) (by rfl) (by rfl) (HS.out.blk (i := 1) rfl) (by rfl)) rfl (.inl ⟨HP.out, rfl, HS.out.below⟩)
end
end Go.Proofs.Yteljmpoaggfliaa
