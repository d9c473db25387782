/- Contracts and words that the laws stand on (RfA). -/
import Derived.Test.YteljmpoaggfliaaRexR
import Derived.Test.YteljmpoaggfliaaTrdA
import Derived.Test.YteljmpoaggfliaaTrdB
import Derived.Test.YteljmpoaggfliaaTrdC
set_option linter.unusedVariables false
set_option linter.unusedSimpArgs false
namespace Go.Proofs.Yteljmpoaggfliaa
section
open Go Go.RowKit Go.Proofs
attribute [local irreducible] Calls
set_option maxHeartbeats 1000000 in
set_option maxRecDepth 100000 in
theorem rgetraw_ok (b : Value) (zs : List UInt8) (i k : Nat) (w : World) (hb : HB w b zs) (hl : zs.length ≤ 20000) (hk : i + k ≤ zs.length) :
    Calls Try.prog 131 #[b, .int .i64 (i : Int), .int .i64 (k : Int)] w fun e w' => ∃ v', e = .returned (.tuple #[v', .int .i64 ((i + k : Nat) : Int), .int .i64 0]) ∧ w'.ownsRow w.heap.size 5 1 v' k (bs ((zs.drop i).take k)) ∧ Below w.heap.size w w' := by
  have Hb := Lib.hid hb
  obtain ⟨A, c, rfl, hlc⟩ := hb.shape
  clear hb
  have HC := Lib.hid (cut_at Hb.out i k hk)
  have hlk : ((zs.drop i).take k).length = k := by simp; omega
  have hs := run_cut_lh 28 5 Try.underlying28 size5 A zs.length c i (i + k) (by omega) hk hlc
  rw [Nat.add_sub_cancel_left, Int.natCast_add] at hs
  rw [Int.natCast_add]
  have hsub : (zs.length : Int) - (i : Int) = ((zs.length - i : Nat) : Int) := by omega
  generalize hl2 : (zs.drop i).take k = l2 at *
  have HLK := Lib.hid hlk
  clear hlk hl2
  go_enter Try.func131, Try.ntmps131
  go_wp2_with fail
  refine (twin_any _ l2 _ HC.out (by have := HLK.out; omega)).mono ?_
  rintro e w1 ⟨v1, rfl, hown, hb1⟩
  rw [HLK.out] at hown
  have HO := Lib.hid hown; have HX := Lib.hid hb1
  obtain ⟨A1, c1, rfl⟩ := own_slice hown
  clear hown hb1
  go_wp2_with fail
  go_ret3
  exact ⟨_, rfl, HO.out, HX.out⟩
set_option maxHeartbeats 1000000 in
set_option maxRecDepth 100000 in
theorem rgetraw_bad (b : Value) (zs : List UInt8) (i : Nat) (k : Int) (w : World) (hb : HB w b zs) (hl : zs.length ≤ 20000) (hi : i ≤ zs.length) (hf : k < 0 ∨ ((zs.length - i : Nat) : Int) < k) :
    Calls Try.prog 131 #[b, .int .i64 (i : Int), .int .i64 k] w fun e w' => e = .returned (.tuple #[.slice none 0 0, .int .i64 (i : Int), .int .i64 (rawE k (zs.length - i))]) ∧ w = w' := by
  obtain ⟨A, c, rfl, hlc⟩ := hb.shape
  clear hb
  by_cases h0 : k < 0
  · have hE : rawE k (zs.length - i) = 2 := by rw [rawE, if_pos h0]
    rw [hE]
    clear hf hE
    go_enter Try.func131, Try.ntmps131
    go_wp2_with fail
    go_ret3
    exact ⟨rfl, rfl⟩
  · have hlt : ((zs.length - i : Nat) : Int) < k := by omega
    have hE : rawE k (zs.length - i) = 10 := by rw [rawE, if_neg h0, if_pos hlt]
    rw [hE]
    have hlt2 : (zs.length : Int) - (i : Int) < k := by omega
    clear hf hE hlt
    go_enter Try.func131, Try.ntmps131
    go_wp2_with fail
    go_ret3
    exact ⟨rfl, rfl⟩

/-! the reference's readers, by places -/
section
variable {b : Value} {zs : List UInt8} {j : Nat} {w : World}
theorem rslice {v : Value} {n : Nat} {l : List UInt8} {w' : World} (hn : n = l.length) (ho : w'.ownsRow w.heap.size 5 1 v n (bs l)) (hb : Below w.heap.size w w') : ∃ A c, v = .slice A l.length c ∧ New w w' (Row v 5 1 l.length (bs l)) := by
  subst hn
  obtain ⟨A, c, rfl⟩ := own_slice ho
  exact ⟨A, c, rfl, New.row ho hb⟩
theorem rraw_ok {p : Nat} (hp : j + 32 = p) (hb : HB w b zs) (hl : zs.length ≤ 20000) (hk : p ≤ zs.length) : Calls Try.prog 131 #[b, .int .i64 (j : Int), .int .i64 32] w fun e w' => ∃ A c, e = .returned (.tuple #[.slice A ((zs.drop j).take 32).length c, .int .i64 (p : Int), .int .i64 0]) ∧ New w w' (Row (.slice A ((zs.drop j).take 32).length c) 5 1 ((zs.drop j).take 32).length (bs ((zs.drop j).take 32))) := by
  subst hp
  refine (rgetraw_ok b zs j 32 w hb hl hk).mono ?_
  rintro e w' ⟨v', rfl, ho, hbl⟩
  obtain ⟨A, c, rfl, h⟩ := rslice (l := (zs.drop j).take 32) (by simp; omega) ho hbl
  exact ⟨A, c, rfl, h⟩
theorem rraw_no (hb : HB w b zs) (hl : zs.length ≤ 20000) (hj : j ≤ zs.length) (hk : zs.length < j + 32) : Calls Try.prog 131 #[b, .int .i64 (j : Int), .int .i64 32] w fun e w' => e = .returned (.tuple #[.slice none 0 0, .int .i64 (j : Int), .int .i64 10]) ∧ w = w' := by
  refine (rgetraw_bad b zs j 32 w hb hl hj (.inr (by omega))).mono ?_
  rintro e w' ⟨rfl, rfl⟩
  rw [show rawE 32 (zs.length - j) = 10 by unfold rawE; rw [if_neg (by omega), if_pos (by omega)]]
  exact ⟨rfl, rfl⟩
theorem rfix_ok (k : Nat) {p : Nat} (hp : j + k = p) (hw : wideB (k : Int) = true) (hb : HB w b zs) (hl : zs.length ≤ 20000) (hk : p ≤ zs.length) : Calls Try.prog 85 #[b, .int .i64 (j : Int), .int .i64 (k : Int)] w fun e w' => e = .returned (.tuple #[.int .u64 ((numN k (zs.drop j) : Nat) : Int), .int .i64 (p : Int), .int .i64 0]) ∧ Below w.heap.size w w' := by
  subst hp
  rw [show numN k (zs.drop j) = leNum ((zs.drop j).take k) by unfold numN; rw [if_pos (by rw [List.length_drop]; omega)]]
  exact rgetfix_ok b zs j k w hb hl hw hk
theorem rfix_no (k : Nat) (hw : wideB (k : Int) = true) (hb : HB w b zs) (hl : zs.length ≤ 20000) (hj : j ≤ zs.length) (hk : zs.length < j + k) : Calls Try.prog 85 #[b, .int .i64 (j : Int), .int .i64 (k : Int)] w fun e w' => e = .returned (.tuple #[.int .u64 0, .int .i64 (j : Int), .int .i64 10]) ∧ w = w' := by
  have he : efixE (k : Int) (zs.length - j) = 10 := by unfold efixE; rw [if_neg (by rw [hw]; decide), if_pos (by omega)]
  refine (rgetfix_bad b zs j k w hb hl hj (by rw [he]; decide)).mono ?_
  rw [he]
  exact fun e w' h => h
theorem rbyt_ok {s : List UInt8} {m p : Nat} (hp : j + m = p) (hb : HB w b zs) (hl : zs.length ≤ 20000) (hj : j ≤ zs.length) (hg : getBytes 2000 (zs.drop j) = some (s, m)) : Calls Try.prog 132 #[b, .int .i64 (j : Int), .int .i64 2000] w fun e w' => ∃ A c, e = .returned (.tuple #[.slice A s.length c, .int .i64 (p : Int), .int .i64 0]) ∧ New w w' (Row (.slice A s.length c) 5 1 s.length (bs s)) := by
  subst hp
  obtain ⟨n, k, h1, rfl, rfl, h0, h2, h3⟩ := getBytes_some hg
  rw [List.length_drop] at h3
  refine (rgetbytes_ok b zs j n k 2000 w hb hl h1 h0 h2 (by omega) (by omega)).mono ?_
  rintro e w' ⟨v', rfl, ho, hbl⟩
  rw [List.drop_drop]
  obtain ⟨A, c, rfl, h⟩ := rslice (l := (zs.drop (j + k)).take n) (by simp; omega) ho hbl
  exact ⟨A, c, by rw [Nat.add_assoc], h⟩
theorem rbyt_no (hb : HB w b zs) (hl : zs.length ≤ 20000) (hj : j ≤ zs.length) (hg : getBytes 2000 (zs.drop j) = none) : Calls Try.prog 132 #[b, .int .i64 (j : Int), .int .i64 2000] w fun e w' => e = .returned (.tuple #[.slice none 0 0, .int .i64 (j : Int), .int .i64 10]) ∧ Below w.heap.size w w' := by
  cases hs : getSize (zs.drop j) with
  | none => exact rgetbytes_none b zs j 2000 w hb hl hj hs
  | some p =>
    obtain ⟨n, k⟩ := p
    have h2 := getSize_some hs
    rw [List.length_drop] at h2
    unfold getBytes at hg
    rw [hs] at hg
    simp only at hg
    split at hg
    · rename_i hc
      rw [List.length_drop] at hc
      exact rgetbytes_bad b zs j n k 2000 w hb hl (by omega) hs (by omega) (by omega) (by omega)
    · cases hg
theorem rsiz_ok {n k p : Nat} (hp : j + k = p) (hb : HB w b zs) (hl : zs.length ≤ 20000) (hj : j ≤ zs.length) (hg : getSize (zs.drop j) = some (n, k)) : Calls Try.prog 86 #[b, .int .i64 (j : Int)] w fun e w' => e = .returned (.tuple #[.int .u64 (n : Int), .int .i64 (p : Int), .int .i64 0]) ∧ Below w.heap.size w w' := by
  subst hp
  refine (rgetsize_any b zs j w hb hl hj).mono ?_
  rw [hg, gszV]
  exact fun e w' h => h
theorem rsiz_no (hb : HB w b zs) (hl : zs.length ≤ 20000) (hj : j ≤ zs.length) (hg : getSize (zs.drop j) = none) : Calls Try.prog 86 #[b, .int .i64 (j : Int)] w fun e w' => e = .returned (.tuple #[.int .u64 0, .int .i64 (j : Int), .int .i64 10]) ∧ Below w.heap.size w w' := by
  refine (rgetsize_any b zs j w hb hl hj).mono ?_
  rw [hg, gszV]
  exact fun e w' h => h
end
end
section
open Go Go.RowKit Go.Proofs
attribute [local go_sem] Oper.semAt_some
attribute [local irreducible] Calls
theorem build66z (W : World) : (Instr.build 66 #[]).run Try.prog W = .ok (.agg z35.toArray) W := by kernel_rfl
theorem run_b66z {W : World} {ev : Operand → Value} {o : Oper} (ho : o.op = .build 66 #[]) : (execOp ev o).run Try.prog W = .ok (.value (.agg z35.toArray)) W := by
  unfold execOp
  simp only [ho, List.map_toArray, List.map_nil, Sem.run_bind, build66z W, Result.andThen_ok, Sem.run_pure]
theorem build68z (W : World) : (Instr.build 68 #[]).run Try.prog W = .ok (.agg #[.int .i64 0, .slice none 0 0]) W := by kernel_rfl
theorem run_b68z {W : World} {ev : Operand → Value} {o : Oper} (ho : o.op = .build 68 #[]) : (execOp ev o).run Try.prog W = .ok (.value (.agg #[.int .i64 0, .slice none 0 0])) W := by
  unfold execOp
  simp only [ho, List.map_toArray, List.map_nil, Sem.run_bind, build68z W, Result.andThen_ok, Sem.run_pure]

theorem all_tk {l : List Value} {n : Nat} (h : l.length = n) : (l.drop 0).take n = l := by rw [List.drop_zero, List.take_of_length_le (by omega)]
theorem z35_one : ∀ v ∈ z35, v.oneCell' = true := by
  intro v hv
  simp only [z35, List.mem_append, List.mem_cons, List.not_mem_nil, or_false] at hv
  rcases hv with h | rfl | rfl | rfl
  · rw [(List.mem_replicate.1 h).2]; rfl
  all_goals rfl
theorem row_at {W : World} {A : Option Addr} {n c s : Nat} {E : TypeId} {l : List Value} (h : (Row (.slice A n c) E s n l).ok W) (hn : 0 < n) : ∃ g, A = some ⟨g, 0, none⟩ := by
  rcases h.2 with ⟨he, _⟩ | ⟨g, cap, cur, he, _⟩
  · injection he with _ h2; omega
  · injection he with h1; exact ⟨g, h1⟩
theorem HB.cellAt {W : World} {g o n c i : Nat} {xs : List UInt8} {x : UInt8} (h : HB W (.slice (some ⟨g, o, none⟩) n c) xs) (hi : xs[i]? = some x) : W.cell? ⟨g, o + i, none⟩ = some (.int .u8 (x.toNat : Int)) := by
  obtain ⟨A, c', e, h1, h2, h3⟩ := h
  injection e with e1 e2
  subst e1
  have := h3 _ rfl i x hi
  unfold Addr.add at this
  split at this
  · rename_i h0
    have : i = 0 := by simpa using h0
    subst this
    assumption
  · exact this
/-- The first j bytes of a hash are laid in. -/
def hlay (h : List UInt8) (j : Nat) : List Value := bs (h.take j) ++ z35.drop j
theorem hlay_0 (h : List UInt8) : hlay h 0 = z35 := rfl
theorem hlay_len {h : List UInt8} {j : Nat} (hh : h.length = 32) (hj : j ≤ 32) : (hlay h j).length = 35 := by
  simp only [hlay, List.length_append, bs_length, List.length_take, List.length_drop, z35_len, hh]; omega
theorem hlay_set {h : List UInt8} {j : Nat} {x : UInt8} (hh : h.length = 32) (hx : h[j]? = some x) : (hlay h j).set j (.int .u8 (x.toNat : Int)) = hlay h (j + 1) := by
  have hj : j < h.length := (List.getElem?_eq_some_iff.1 hx).1
  have hl : (bs (h.take j)).length = j := by rw [bs_length, List.length_take]; omega
  unfold hlay
  rw [List.set_append_right _ _ (by omega), hl, Nat.sub_self, List.drop_eq_getElem_cons (by rw [z35_len]; omega), List.set_cons_zero]
  have e : h.take (j + 1) = h.take j ++ [x] := by rw [List.take_add_one, hx]; rfl
  rw [e]
  simp [bs]
theorem hlay_32 {h : List UInt8} (hh : h.length = 32) : hlay h 32 = bs h ++ z3c := by
  unfold hlay
  rw [List.take_of_length_le (by omega)]
  rfl
theorem hlay_one (h : List UInt8) (j : Nat) : ∀ v ∈ hlay h j, v.oneCell' = true := by
  intro v hv
  rcases List.mem_append.1 hv with hv | hv
  · obtain ⟨x, _, rfl⟩ := List.mem_map.1 hv; rfl
  · exact z35_one v (List.mem_of_mem_drop hv)
theorem ret_c66t {w : World} {fn : Func} {p u : Tmp} (h : fn.results = #[.cell p 66, .tmp u]) (tmps : Array Value) (g : Nat) (cs : Array Value) (t : TypeId) (fr : Nat × Nat) (v : Value) (hp : tmps.getD p undef = .pointer (some ⟨g, 0, none⟩)) (hv : tmps.getD u undef = v) (hg : w.heap[g]? = some (.cells cs t fr)) (hz : cs.size = 35) :
    (results fn tmps).run Try.prog w = .ok (.tuple #[.agg cs, v]) w := by
  have hp' : tmps[p]?.getD undef = .pointer (some ⟨g, 0, none⟩) := by simpa using hp
  have hv' : tmps[u]?.getD undef = v := by simpa using hv
  simp [results, h, hp', hv', asAddr, load66 g cs t fr hg hz]
theorem ret_c68t {w : World} {fn : Func} {p u : Tmp} (h : fn.results = #[.cell p 68, .tmp u]) (tmps : Array Value) (g : Nat) (cs : Array Value) (t : TypeId) (fr : Nat × Nat) (v : Value) (hp : tmps.getD p undef = .pointer (some ⟨g, 0, none⟩)) (hv : tmps.getD u undef = v) (hg : w.heap[g]? = some (.cells cs t fr)) (hz : cs.size = 2) :
    (results fn tmps).run Try.prog w = .ok (.tuple #[.agg cs, v]) w := by
  have hp' : tmps[p]?.getD undef = .pointer (some ⟨g, 0, none⟩) := by simpa using hp
  have hv' : tmps[u]?.getD undef = v := by simpa using hv
  simp [results, h, hp', hv', asAddr, load68 g cs t fr hg hz]
/-- What reading a thing by its place answers (nothing, or the thing, its script new memory). -/
def RdE (n : Nat) (good : Prop) (cs : Value → List Value) (s : List UInt8) (en : Nat) (w : World) (e : Ending) (w' : World) : Prop :=
  (¬ good ∧ ∃ l : List Value, l.length = n ∧ (∀ v ∈ l, v.oneCell' = true) ∧ e = .returned (.tuple #[.agg l.toArray, .int .i64 (-1)]) ∧ Below w.heap.size w w') ∨
  (good ∧ ∃ A c, e = .returned (.tuple #[.agg (cs (.slice A s.length c)).toArray, .int .i64 (en : Int)]) ∧ New w w' (Row (.slice A s.length c) 5 1 s.length (bs s)))
attribute [local irreducible] hlay z35
set_option maxHeartbeats 1000000 in
set_option maxRecDepth 100000 in
theorem rin_a (b : Value) (zs : List UInt8) (j : Nat) (w : World) (hb : HB w b zs) (hl : zs.length ≤ 20000) (hj : j ≤ zs.length) (hk : zs.length < j + 32) :
    Calls Try.prog 87 #[b, .int .i64 (j : Int)] w fun e w' => e = .returned (.tuple #[.agg z35.toArray, .int .i64 (-1)]) ∧ Below w.heap.size w w' := by
  obtain ⟨A1, c1, rfl, _⟩ := hb.shape
  have HS := Lib.hid ((St.start w).addF hb.away0)
  clear hb
  go_enter Try.func87, Try.ntmps87
  go_wp2_with (first
    | go_skip
    | (refine atd 4 (by rfl) ?_; refine wl (by rfl) (s_al (l := z35) HS.out (by rfl) z66 (by rfl) ?_); intro b4 Wn hS; clear HS; have HS := Lib.hid hS; clear hS)
    | (refine atd 6 (by rfl) ?_; refine wl (by rfl) (s_al (l := z35) HS.out (by rfl) z66 (by rfl) ?_); intro b6 Wn hS; clear HS; have HS := Lib.hid hS; clear hS)
    | (refine atd 13 (by rfl) ?_; refine wl (by rfl) (wp_of_run (run_b66z (by rfl)) ?_))
    | (refine sto 6 (by rfl) ?_; refine wl (by rfl) (s_sta (cs := z35) HS.out 0 35 (by rfl) (by rfl) (by rfl) ag66 (by rfl) (z35_len) (z35_one) (by first | exact Nat.le_of_eq z35_len.symm | (rw [z35_len])) ?_); intro Wn hS; rw [splice_all (l := z35) (cs := z35) (Eq.trans (z35_len) (Eq.symm (z35_len)))] at hS; clear HS; have HS := Lib.hid hS; clear hS)
    | (go_at_call 131; refine (rraw_no (HS.out.fact (i := 0) rfl) hl hj hk).mono ?_; rintro e Wn ⟨rfl, hb⟩; subst hb)
    | (refine atd 23 (by rfl) ?_; refine wl (by rfl) (s_lda (cs := z35) HS.out 0 35 (by rfl) (by rfl) (by rfl) ag66 (by exact all_tk (z35_len)) (by exact z35_len) ?_))
    | (refine sto 4 (by rfl) ?_; refine wl (by rfl) (s_sta (cs := z35) HS.out 1 35 (by rfl) (by rfl) (by rfl) ag66 (by rfl) (z35_len) (z35_one) (by first | exact Nat.le_of_eq z35_len.symm | (rw [z35_len])) ?_); intro Wn hS; rw [splice_all (l := z35) (cs := z35) (Eq.trans (z35_len) (Eq.symm (z35_len)))] at hS; clear HS; have HS := Lib.hid hS; clear hS))
  exact bodyPost_ret (ret_c66t (p := 4) (u := 5) rfl _ b4 _ 66 (0, 0) (.int .i64 (-1)) (by rfl) (by rfl) (HS.out.blk (i := 1) rfl) (by simpa using z35_len)) rfl ⟨rfl, HS.out.below⟩
theorem hb_rowN {W : World} {v : Value} {l : List UInt8} {N : Nat} (hN : l.length = N) (h : (Row v 5 1 N (bs l)).ok W) : HB W v l := by subst hN; exact Row.hb h
theorem HB.cellAt0 {W : World} {g n c i : Nat} {xs : List UInt8} {x : UInt8} (h : HB W (.slice (some ⟨g, 0, none⟩) n c) xs) (hi : xs[i]? = some x) : W.cell? ⟨g, i, none⟩ = some (.int .u8 (x.toNat : Int)) := by
  have := h.cellAt hi
  rwa [Nat.zero_add] at this
theorem u32_fit {n : Nat} (h : n < 256 ^ 4) : (n : Int) % 4294967296 = (n : Int) := by omega
set_option maxHeartbeats 2000000 in
set_option maxRecDepth 100000 in
theorem rin_b (b : Value) (zs : List UInt8) (j : Nat) (w : World) (hb : HB w b zs) (hl : zs.length ≤ 20000) {p1 : Nat} (hp1 : j + 32 = p1) (h1 : p1 ≤ zs.length) (hk : zs.length < p1 + 4) : Calls Try.prog 87 #[b, .int .i64 (j : Int)] w fun e w' => ∃ l : List Value, l.length = 35 ∧ (∀ v ∈ l, v.oneCell' = true) ∧ e = .returned (.tuple #[.agg l.toArray, .int .i64 (-1)]) ∧ Below w.heap.size w w' := by
  obtain ⟨A1, c1, rfl, _⟩ := hb.shape
  have HS := Lib.hid ((St.start w).addF hb.away0)
  have hh : ((zs.drop j).take 32).length = 32 := by simp; omega
  have HH := Lib.hid hh
  have HP1 := Lib.hid hp1
  obtain ⟨hs, hhs⟩ : ∃ hs, (zs.drop j).take 32 = hs := ⟨_, rfl⟩
  rw [hhs] at HH hh
  have HHS := Lib.hid hhs
  clear hb hh hhs hp1
  go_enter Try.func87, Try.ntmps87
  go_wp2_with (first
    | go_skip
    | (refine atd 4 (by rfl) ?_; refine wl (by rfl) (s_al (l := z35) HS.out (by rfl) z66 (by rfl) ?_); intro b4 Wn hS; clear HS; have HS := Lib.hid hS; clear hS)
    | (refine atd 6 (by rfl) ?_; refine wl (by rfl) (s_al (l := z35) HS.out (by rfl) z66 (by rfl) ?_); intro b6 Wn hS; clear HS; have HS := Lib.hid hS; clear hS)
    | (refine atd 13 (by rfl) ?_; refine wl (by rfl) (wp_of_run (run_b66z (by rfl)) ?_))
    | (refine sto 6 (by rfl) ?_; refine wl (by rfl) (s_sta (cs := z35) HS.out 0 35 (by rfl) (by rfl) (by rfl) ag66 (by rfl) (z35_len) (z35_one) (by first | exact Nat.le_of_eq z35_len.symm | (rw [z35_len])) ?_); intro Wn hS; rw [splice_all (l := z35) (cs := z35) (Eq.trans (z35_len) (Eq.symm (z35_len)))] at hS; clear HS; have HS := Lib.hid hS; clear hS)
    | (go_at_call 131; refine (rraw_ok HP1.out (HS.out.fact (i := 0) rfl) hl h1).mono ?_; rintro e Wn ⟨A7, c7, rfl, hb⟩; rw [HHS.out] at hb ⊢; rw [HH.out] at hb ⊢; have hS := HS.out.take hb; clear hb; clear HS; have HS := Lib.hid hS; clear hS))
  obtain ⟨g7, rfl⟩ := row_at (HS.out.res (i := 0) rfl) (by decide)
  have hs0 := HS.out
  rw [← hlay_0 hs] at hs0
  go_loopw [9] (fun s9 W' => ∃ i : Nat, i ≤ 32 ∧ s9 = .int .i64 (i : Int) ∧ St w W' [Row (.slice (some ⟨g7, 0, none⟩) 32 c7) 5 1 32 (bs hs), Blk b6 (hlay hs i) 66, Blk b4 (hlay hs 0) 66] [fun W => HB W (.slice A1 zs.length c1) zs]) (fun s9 _ => 32 - (intOf s9).toNat)
  case atStart => exact ⟨0, by omega, rfl, hs0⟩
  case round =>
    obtain ⟨i, hi, rfl, hsi⟩ := hrel
    have HS := Lib.hid hsi
    clear hsi hs0
    by_cases hlt : i < 32
    · have j1 : (i : Int) < 32 := by omega
      obtain ⟨x, hx⟩ : ∃ x, hs[i]? = some x := ⟨_, List.getElem?_eq_getElem (by have := HH.out; omega)⟩
      have HX := Lib.hid hx
      clear hx
      go_wp2_with (first
        | go_skip
        | (refine atd 32 (by rfl) ?_; refine wl (by rfl) (wp_of_run (run_ld (by kernel_rfl) (by rfl) (by rfl) (HB.cellAt0 (hb_rowN HH.out (HS.out.res (i := 0) rfl)) HX.out)) ?_))
        | (refine sto 35 (by rfl) ?_; refine wl (by rfl) (s_st (v := .int .u8 (x.toNat : Int)) HS.out 1 (by rfl) (by rfl) (by rfl) (by kernel_rfl) (by rfl) (by rfl) (by rw [hlay_len HH.out hi]; omega) ?_); intro Wn hS; rw [hlay_set HH.out HX.out] at hS; clear HS; have HS := Lib.hid hS; clear hS))
      exact ⟨⟨i + 1, by omega, by push_cast; rfl, HS.out⟩, by simp [intOf]; omega⟩
    · obtain rfl : i = 32 := by omega
      have HL := Lib.hid (hlay_len HH.out (Nat.le_refl 32))
      go_wp2_with (first
        | go_skip
        | (go_at_call 85; refine (rfix_no 4 (by decide) (HS.out.fact (i := 0) rfl) hl h1 hk).mono ?_; rintro e Wn ⟨rfl, hb⟩; subst hb)
        | (refine atd 45 (by rfl) ?_; refine wl (by rfl) (s_lda (cs := hlay hs 32) HS.out 1 35 (by rfl) (by rfl) (by rfl) ag66 (by exact all_tk (HL.out)) (by exact HL.out) ?_))
        | (refine sto 4 (by rfl) ?_; refine wl (by rfl) (s_sta (cs := hlay hs 32) HS.out 2 35 (by rfl) (by rfl) (by rfl) ag66 (by rfl) (HL.out) (hlay_one hs 32) (by rw [hlay_len HH.out (Nat.zero_le _)]; decide) ?_); intro Wn hS; rw [splice_all (l := hlay hs 0) (cs := hlay hs 32) (Eq.trans (HL.out) (Eq.symm (hlay_len HH.out (Nat.zero_le _))))] at hS; clear HS; have HS := Lib.hid hS; clear hS))
      exact bodyPost_ret (ret_c66t (p := 4) (u := 5) rfl _ b4 _ 66 (0, 0) (.int .i64 (-1)) (by rfl) (by rfl) (HS.out.blk (i := 2) rfl) (by simpa using HL.out)) rfl ⟨hlay hs 32, HL.out, hlay_one hs 32, rfl, HS.out.below⟩
set_option maxHeartbeats 2000000 in
set_option maxRecDepth 100000 in
theorem rin_c (b : Value) (zs : List UInt8) (j : Nat) (w : World) (hb : HB w b zs) (hl : zs.length ≤ 20000) {p1 : Nat} (hp1 : j + 32 = p1) (h1 : p1 ≤ zs.length) {p2 : Nat} (hp2 : p1 + 4 = p2) (h2 : p2 ≤ zs.length) (hg : getBytes 2000 (zs.drop p2) = none) : Calls Try.prog 87 #[b, .int .i64 (j : Int)] w fun e w' => ∃ l : List Value, l.length = 35 ∧ (∀ v ∈ l, v.oneCell' = true) ∧ e = .returned (.tuple #[.agg l.toArray, .int .i64 (-1)]) ∧ Below w.heap.size w w' := by
  obtain ⟨A1, c1, rfl, _⟩ := hb.shape
  have HS := Lib.hid ((St.start w).addF hb.away0)
  have hh : ((zs.drop j).take 32).length = 32 := by simp; omega
  have HH := Lib.hid hh
  have HP1 := Lib.hid hp1
  have HP2 := Lib.hid hp2
  clear hp2
  have HG := Lib.hid hg
  clear hg
  obtain ⟨hs, hhs⟩ : ∃ hs, (zs.drop j).take 32 = hs := ⟨_, rfl⟩
  rw [hhs] at HH hh
  have HHS := Lib.hid hhs
  clear hb hh hhs hp1
  go_enter Try.func87, Try.ntmps87
  go_wp2_with (first
    | go_skip
    | (refine atd 4 (by rfl) ?_; refine wl (by rfl) (s_al (l := z35) HS.out (by rfl) z66 (by rfl) ?_); intro b4 Wn hS; clear HS; have HS := Lib.hid hS; clear hS)
    | (refine atd 6 (by rfl) ?_; refine wl (by rfl) (s_al (l := z35) HS.out (by rfl) z66 (by rfl) ?_); intro b6 Wn hS; clear HS; have HS := Lib.hid hS; clear hS)
    | (refine atd 13 (by rfl) ?_; refine wl (by rfl) (wp_of_run (run_b66z (by rfl)) ?_))
    | (refine sto 6 (by rfl) ?_; refine wl (by rfl) (s_sta (cs := z35) HS.out 0 35 (by rfl) (by rfl) (by rfl) ag66 (by rfl) (z35_len) (z35_one) (by first | exact Nat.le_of_eq z35_len.symm | (rw [z35_len])) ?_); intro Wn hS; rw [splice_all (l := z35) (cs := z35) (Eq.trans (z35_len) (Eq.symm (z35_len)))] at hS; clear HS; have HS := Lib.hid hS; clear hS)
    | (go_at_call 131; refine (rraw_ok HP1.out (HS.out.fact (i := 0) rfl) hl h1).mono ?_; rintro e Wn ⟨A7, c7, rfl, hb⟩; rw [HHS.out] at hb ⊢; rw [HH.out] at hb ⊢; have hS := HS.out.take hb; clear hb; clear HS; have HS := Lib.hid hS; clear hS))
  obtain ⟨g7, rfl⟩ := row_at (HS.out.res (i := 0) rfl) (by decide)
  have hs0 := HS.out
  rw [← hlay_0 hs] at hs0
  go_loopw [9] (fun s9 W' => ∃ i : Nat, i ≤ 32 ∧ s9 = .int .i64 (i : Int) ∧ St w W' [Row (.slice (some ⟨g7, 0, none⟩) 32 c7) 5 1 32 (bs hs), Blk b6 (hlay hs i) 66, Blk b4 (hlay hs 0) 66] [fun W => HB W (.slice A1 zs.length c1) zs]) (fun s9 _ => 32 - (intOf s9).toNat)
  case atStart => exact ⟨0, by omega, rfl, hs0⟩
  case round =>
    obtain ⟨i, hi, rfl, hsi⟩ := hrel
    have HS := Lib.hid hsi
    clear hsi hs0
    by_cases hlt : i < 32
    · have j1 : (i : Int) < 32 := by omega
      obtain ⟨x, hx⟩ : ∃ x, hs[i]? = some x := ⟨_, List.getElem?_eq_getElem (by have := HH.out; omega)⟩
      have HX := Lib.hid hx
      clear hx
      go_wp2_with (first
        | go_skip
        | (refine atd 32 (by rfl) ?_; refine wl (by rfl) (wp_of_run (run_ld (by kernel_rfl) (by rfl) (by rfl) (HB.cellAt0 (hb_rowN HH.out (HS.out.res (i := 0) rfl)) HX.out)) ?_))
        | (refine sto 35 (by rfl) ?_; refine wl (by rfl) (s_st (v := .int .u8 (x.toNat : Int)) HS.out 1 (by rfl) (by rfl) (by rfl) (by kernel_rfl) (by rfl) (by rfl) (by rw [hlay_len HH.out hi]; omega) ?_); intro Wn hS; rw [hlay_set HH.out HX.out] at hS; clear HS; have HS := Lib.hid hS; clear hS))
      exact ⟨⟨i + 1, by omega, by push_cast; rfl, HS.out⟩, by simp [intOf]; omega⟩
    · obtain rfl : i = 32 := by omega
      have HL := Lib.hid (hlay_len HH.out (Nat.le_refl 32))
      go_wp2_with (first
        | go_skip
        | (go_at_call 85; refine (rfix_ok 4 HP2.out (by decide) (HS.out.fact (i := 0) rfl) hl h2).mono ?_; rintro e Wn ⟨rfl, hb⟩; have hS := HS.out.call hb; clear hb; clear HS; have HS := Lib.hid hS; clear hS)
        | (go_at_call 132; refine (rbyt_no (HS.out.fact (i := 0) rfl) hl h2 HG.out).mono ?_; rintro e Wn ⟨rfl, hb⟩; have hS := HS.out.call hb; clear hb; clear HS; have HS := Lib.hid hS; clear hS)
        | (refine atd 55 (by rfl) ?_; refine wl (by rfl) (s_lda (cs := hlay hs 32) HS.out 1 35 (by rfl) (by rfl) (by rfl) ag66 (by exact all_tk (HL.out)) (by exact HL.out) ?_))
        | (refine sto 4 (by rfl) ?_; refine wl (by rfl) (s_sta (cs := hlay hs 32) HS.out 2 35 (by rfl) (by rfl) (by rfl) ag66 (by rfl) (HL.out) (hlay_one hs 32) (by rw [hlay_len HH.out (Nat.zero_le _)]; decide) ?_); intro Wn hS; rw [splice_all (l := hlay hs 0) (cs := hlay hs 32) (Eq.trans (HL.out) (Eq.symm (hlay_len HH.out (Nat.zero_le _))))] at hS; clear HS; have HS := Lib.hid hS; clear hS))
      exact bodyPost_ret (ret_c66t (p := 4) (u := 5) rfl _ b4 _ 66 (0, 0) (.int .i64 (-1)) (by rfl) (by rfl) (HS.out.blk (i := 2) rfl) (by simpa using HL.out)) rfl ⟨hlay hs 32, HL.out, hlay_one hs 32, rfl, HS.out.below⟩
set_option maxHeartbeats 2000000 in
set_option maxRecDepth 100000 in
theorem rin_d (b : Value) (zs : List UInt8) (j : Nat) (w : World) (hb : HB w b zs) (hl : zs.length ≤ 20000) {p1 : Nat} (hp1 : j + 32 = p1) (h1 : p1 ≤ zs.length) {p2 : Nat} (hp2 : p1 + 4 = p2) (h2 : p2 ≤ zs.length) {s : List UInt8} {m p3 : Nat} (hg : getBytes 2000 (zs.drop p2) = some (s, m)) (hp3 : p2 + m = p3) (h3 : p3 ≤ zs.length) (hk : zs.length < p3 + 4) : Calls Try.prog 87 #[b, .int .i64 (j : Int)] w fun e w' => ∃ l : List Value, l.length = 35 ∧ (∀ v ∈ l, v.oneCell' = true) ∧ e = .returned (.tuple #[.agg l.toArray, .int .i64 (-1)]) ∧ Below w.heap.size w w' := by
  obtain ⟨A1, c1, rfl, _⟩ := hb.shape
  have HS := Lib.hid ((St.start w).addF hb.away0)
  have hh : ((zs.drop j).take 32).length = 32 := by simp; omega
  have HH := Lib.hid hh
  have HP1 := Lib.hid hp1
  have HP2 := Lib.hid hp2
  clear hp2
  have HP3 := Lib.hid hp3
  have HG := Lib.hid hg
  clear hg hp3
  obtain ⟨hs, hhs⟩ : ∃ hs, (zs.drop j).take 32 = hs := ⟨_, rfl⟩
  rw [hhs] at HH hh
  have HHS := Lib.hid hhs
  clear hb hh hhs hp1
  go_enter Try.func87, Try.ntmps87
  go_wp2_with (first
    | go_skip
    | (refine atd 4 (by rfl) ?_; refine wl (by rfl) (s_al (l := z35) HS.out (by rfl) z66 (by rfl) ?_); intro b4 Wn hS; clear HS; have HS := Lib.hid hS; clear hS)
    | (refine atd 6 (by rfl) ?_; refine wl (by rfl) (s_al (l := z35) HS.out (by rfl) z66 (by rfl) ?_); intro b6 Wn hS; clear HS; have HS := Lib.hid hS; clear hS)
    | (refine atd 13 (by rfl) ?_; refine wl (by rfl) (wp_of_run (run_b66z (by rfl)) ?_))
    | (refine sto 6 (by rfl) ?_; refine wl (by rfl) (s_sta (cs := z35) HS.out 0 35 (by rfl) (by rfl) (by rfl) ag66 (by rfl) (z35_len) (z35_one) (by first | exact Nat.le_of_eq z35_len.symm | (rw [z35_len])) ?_); intro Wn hS; rw [splice_all (l := z35) (cs := z35) (Eq.trans (z35_len) (Eq.symm (z35_len)))] at hS; clear HS; have HS := Lib.hid hS; clear hS)
    | (go_at_call 131; refine (rraw_ok HP1.out (HS.out.fact (i := 0) rfl) hl h1).mono ?_; rintro e Wn ⟨A7, c7, rfl, hb⟩; rw [HHS.out] at hb ⊢; rw [HH.out] at hb ⊢; have hS := HS.out.take hb; clear hb; clear HS; have HS := Lib.hid hS; clear hS))
  obtain ⟨g7, rfl⟩ := row_at (HS.out.res (i := 0) rfl) (by decide)
  have hs0 := HS.out
  rw [← hlay_0 hs] at hs0
  go_loopw [9] (fun s9 W' => ∃ i : Nat, i ≤ 32 ∧ s9 = .int .i64 (i : Int) ∧ St w W' [Row (.slice (some ⟨g7, 0, none⟩) 32 c7) 5 1 32 (bs hs), Blk b6 (hlay hs i) 66, Blk b4 (hlay hs 0) 66] [fun W => HB W (.slice A1 zs.length c1) zs]) (fun s9 _ => 32 - (intOf s9).toNat)
  case atStart => exact ⟨0, by omega, rfl, hs0⟩
  case round =>
    obtain ⟨i, hi, rfl, hsi⟩ := hrel
    have HS := Lib.hid hsi
    clear hsi hs0
    by_cases hlt : i < 32
    · have j1 : (i : Int) < 32 := by omega
      obtain ⟨x, hx⟩ : ∃ x, hs[i]? = some x := ⟨_, List.getElem?_eq_getElem (by have := HH.out; omega)⟩
      have HX := Lib.hid hx
      clear hx
      go_wp2_with (first
        | go_skip
        | (refine atd 32 (by rfl) ?_; refine wl (by rfl) (wp_of_run (run_ld (by kernel_rfl) (by rfl) (by rfl) (HB.cellAt0 (hb_rowN HH.out (HS.out.res (i := 0) rfl)) HX.out)) ?_))
        | (refine sto 35 (by rfl) ?_; refine wl (by rfl) (s_st (v := .int .u8 (x.toNat : Int)) HS.out 1 (by rfl) (by rfl) (by rfl) (by kernel_rfl) (by rfl) (by rfl) (by rw [hlay_len HH.out hi]; omega) ?_); intro Wn hS; rw [hlay_set HH.out HX.out] at hS; clear HS; have HS := Lib.hid hS; clear hS))
      exact ⟨⟨i + 1, by omega, by push_cast; rfl, HS.out⟩, by simp [intOf]; omega⟩
    · obtain rfl : i = 32 := by omega
      have HL := Lib.hid (hlay_len HH.out (Nat.le_refl 32))
      go_wp2_with (first
        | go_skip
        | (go_at_call 85; refine (rfix_ok 4 HP2.out (by decide) (HS.out.fact (i := 0) rfl) hl h2).mono ?_; rintro e Wn ⟨rfl, hb⟩; have hS := HS.out.call hb; clear hb; clear HS; have HS := Lib.hid hS; clear hS)
        | (go_at_call 132; refine (rbyt_ok HP3.out (HS.out.fact (i := 0) rfl) hl h2 HG.out).mono ?_; rintro e Wn ⟨A5, c5, rfl, hb⟩; have hS := HS.out.take hb; clear hb; clear HS; have HS := Lib.hid hS; clear hS)
        | (go_at_call 85; refine (rfix_no 4 (by decide) (HS.out.fact (i := 0) rfl) hl h3 hk).mono ?_; rintro e Wn ⟨rfl, hb⟩; subst hb)
        | (refine atd 65 (by rfl) ?_; refine wl (by rfl) (s_lda (cs := hlay hs 32) HS.out 2 35 (by rfl) (by rfl) (by rfl) ag66 (by exact all_tk (HL.out)) (by exact HL.out) ?_))
        | (refine sto 4 (by rfl) ?_; refine wl (by rfl) (s_sta (cs := hlay hs 32) HS.out 3 35 (by rfl) (by rfl) (by rfl) ag66 (by rfl) (HL.out) (hlay_one hs 32) (by rw [hlay_len HH.out (Nat.zero_le _)]; decide) ?_); intro Wn hS; rw [splice_all (l := hlay hs 0) (cs := hlay hs 32) (Eq.trans (HL.out) (Eq.symm (hlay_len HH.out (Nat.zero_le _))))] at hS; clear HS; have HS := Lib.hid hS; clear hS))
      exact bodyPost_ret (ret_c66t (p := 4) (u := 5) rfl _ b4 _ 66 (0, 0) (.int .i64 (-1)) (by rfl) (by rfl) (HS.out.blk (i := 3) rfl) (by simpa using HL.out)) rfl ⟨hlay hs 32, HL.out, hlay_one hs 32, rfl, HS.out.below⟩
set_option maxHeartbeats 2000000 in
set_option maxRecDepth 100000 in
theorem rin_e (b : Value) (zs : List UInt8) (j : Nat) (w : World) (hb : HB w b zs) (hl : zs.length ≤ 20000) {p1 : Nat} (hp1 : j + 32 = p1) (h1 : p1 ≤ zs.length) {p2 : Nat} (hp2 : p1 + 4 = p2) (h2 : p2 ≤ zs.length) {s : List UInt8} {m p3 : Nat} (hg : getBytes 2000 (zs.drop p2) = some (s, m)) (hp3 : p2 + m = p3) (h3 : p3 ≤ zs.length) {p4 : Nat} (hp4 : p3 + 4 = p4) (h4 : p4 ≤ zs.length) : Calls Try.prog 87 #[b, .int .i64 (j : Int)] w fun e w' => ∃ A c, e = .returned (.tuple #[.agg (inC (.slice A s.length c, ⟨(zs.drop j).take 32, numN 4 (zs.drop p1), s, numN 4 (zs.drop p3)⟩)).toArray, .int .i64 (p4 : Int)]) ∧ New w w' (Row (.slice A s.length c) 5 1 s.length (bs s)) := by
  obtain ⟨A1, c1, rfl, _⟩ := hb.shape
  have HS := Lib.hid ((St.start w).addF hb.away0)
  have hh : ((zs.drop j).take 32).length = 32 := by simp; omega
  have HH := Lib.hid hh
  have HP1 := Lib.hid hp1
  have HP2 := Lib.hid hp2
  clear hp2
  have HP3 := Lib.hid hp3
  have HG := Lib.hid hg
  clear hg hp3
  have HP4 := Lib.hid hp4
  clear hp4
  have u1 := u32_fit (numN_lt 4 (zs.drop p1) (by decide)); have u2 := u32_fit (numN_lt 4 (zs.drop p3) (by decide))
  obtain ⟨hs, hhs⟩ : ∃ hs, (zs.drop j).take 32 = hs := ⟨_, rfl⟩
  rw [hhs] at HH hh
  have HHS := Lib.hid hhs
  clear hb hh hhs hp1
  go_enter Try.func87, Try.ntmps87
  go_wp2_with (first
    | go_skip
    | (refine atd 4 (by rfl) ?_; refine wl (by rfl) (s_al (l := z35) HS.out (by rfl) z66 (by rfl) ?_); intro b4 Wn hS; clear HS; have HS := Lib.hid hS; clear hS)
    | (refine atd 6 (by rfl) ?_; refine wl (by rfl) (s_al (l := z35) HS.out (by rfl) z66 (by rfl) ?_); intro b6 Wn hS; clear HS; have HS := Lib.hid hS; clear hS)
    | (refine atd 13 (by rfl) ?_; refine wl (by rfl) (wp_of_run (run_b66z (by rfl)) ?_))
    | (refine sto 6 (by rfl) ?_; refine wl (by rfl) (s_sta (cs := z35) HS.out 0 35 (by rfl) (by rfl) (by rfl) ag66 (by rfl) (z35_len) (z35_one) (by first | exact Nat.le_of_eq z35_len.symm | (rw [z35_len])) ?_); intro Wn hS; rw [splice_all (l := z35) (cs := z35) (Eq.trans (z35_len) (Eq.symm (z35_len)))] at hS; clear HS; have HS := Lib.hid hS; clear hS)
    | (go_at_call 131; refine (rraw_ok HP1.out (HS.out.fact (i := 0) rfl) hl h1).mono ?_; rintro e Wn ⟨A7, c7, rfl, hb⟩; rw [HHS.out] at hb ⊢; rw [HH.out] at hb ⊢; have hS := HS.out.take hb; clear hb; clear HS; have HS := Lib.hid hS; clear hS))
  obtain ⟨g7, rfl⟩ := row_at (HS.out.res (i := 0) rfl) (by decide)
  have hs0 := HS.out
  rw [← hlay_0 hs] at hs0
  go_loopw [9] (fun s9 W' => ∃ i : Nat, i ≤ 32 ∧ s9 = .int .i64 (i : Int) ∧ St w W' [Row (.slice (some ⟨g7, 0, none⟩) 32 c7) 5 1 32 (bs hs), Blk b6 (hlay hs i) 66, Blk b4 (hlay hs 0) 66] [fun W => HB W (.slice A1 zs.length c1) zs]) (fun s9 _ => 32 - (intOf s9).toNat)
  case atStart => exact ⟨0, by omega, rfl, hs0⟩
  case round =>
    obtain ⟨i, hi, rfl, hsi⟩ := hrel
    have HS := Lib.hid hsi
    clear hsi hs0
    by_cases hlt : i < 32
    · have j1 : (i : Int) < 32 := by omega
      obtain ⟨x, hx⟩ : ∃ x, hs[i]? = some x := ⟨_, List.getElem?_eq_getElem (by have := HH.out; omega)⟩
      have HX := Lib.hid hx
      clear hx
      go_wp2_with (first
        | go_skip
        | (refine atd 32 (by rfl) ?_; refine wl (by rfl) (wp_of_run (run_ld (by kernel_rfl) (by rfl) (by rfl) (HB.cellAt0 (hb_rowN HH.out (HS.out.res (i := 0) rfl)) HX.out)) ?_))
        | (refine sto 35 (by rfl) ?_; refine wl (by rfl) (s_st (v := .int .u8 (x.toNat : Int)) HS.out 1 (by rfl) (by rfl) (by rfl) (by kernel_rfl) (by rfl) (by rfl) (by rw [hlay_len HH.out hi]; omega) ?_); intro Wn hS; rw [hlay_set HH.out HX.out] at hS; clear HS; have HS := Lib.hid hS; clear hS))
      exact ⟨⟨i + 1, by omega, by push_cast; rfl, HS.out⟩, by simp [intOf]; omega⟩
    · obtain rfl : i = 32 := by omega
      have HL := Lib.hid (hlay_len HH.out (Nat.le_refl 32))
      have HIL := Lib.hid (fun A5 c5 => inC_length (x := (Value.slice A5 s.length c5, (⟨hs, numN 4 (zs.drop p1), s, numN 4 (zs.drop p3)⟩ : TIn))) ⟨HH.out, numN_lt 4 _ (by decide), numN_lt 4 _ (by decide)⟩)
      go_wp2_with (first
        | go_skip
        | (go_at_call 85; refine (rfix_ok 4 HP2.out (by decide) (HS.out.fact (i := 0) rfl) hl h2).mono ?_; rintro e Wn ⟨rfl, hb⟩; have hS := HS.out.call hb; clear hb; clear HS; have HS := Lib.hid hS; clear hS)
        | (go_at_call 132; refine (rbyt_ok HP3.out (HS.out.fact (i := 0) rfl) hl h2 HG.out).mono ?_; rintro e Wn ⟨A5, c5, rfl, hb⟩; have hS := HS.out.take hb; clear hb; clear HS; have HS := Lib.hid hS; clear hS)
        | (go_at_call 85; refine (rfix_ok 4 HP4.out (by decide) (HS.out.fact (i := 0) rfl) hl h4).mono ?_; rintro e Wn ⟨rfl, hb⟩; have hS := HS.out.call hb; clear hb; clear HS; have HS := Lib.hid hS; clear hS)
        | (refine sto 69 (by rfl) ?_; refine wl (by rfl) (s_st (v := .int .u32 ((numN 4 (zs.drop p1) : Nat) : Int)) HS.out 2 (by rfl) (by rfl) (by rfl) (by kernel_rfl) (by rfl) (by rfl) (by rw [HL.out]; decide) ?_); intro Wn hS; clear HS; have HS := Lib.hid hS; clear hS)
        | (refine sto 71 (by rfl) ?_; refine wl (by rfl) (s_st (v := .slice A5 s.length c5) HS.out 2 (by rfl) (by rfl) (by rfl) (by kernel_rfl) (by rfl) (by rfl) (by rw [List.length_set, HL.out]; decide) ?_); intro Wn hS; clear HS; have HS := Lib.hid hS; clear hS)
        | (refine sto 74 (by rfl) ?_; refine wl (by rfl) (s_st (v := .int .u32 ((numN 4 (zs.drop p3) : Nat) : Int)) HS.out 2 (by rfl) (by rfl) (by rfl) (by kernel_rfl) (by rfl) (by rfl) (by rw [List.length_set, List.length_set, HL.out]; decide) ?_); intro Wn hS; rw [hlay_32 HH.out, inset (s := s) HH.out] at hS; clear HS; have HS := Lib.hid hS; clear hS)
        | (refine atd 75 (by rfl) ?_; refine wl (by rfl) (s_lda (cs := inC (.slice A5 s.length c5, ⟨hs, numN 4 (zs.drop p1), s, numN 4 (zs.drop p3)⟩)) HS.out 2 35 (by rfl) (by rfl) (by rfl) ag66 (by exact all_tk ((HIL.out A5 c5))) (by exact (HIL.out A5 c5)) ?_))
        | (refine sto 4 (by rfl) ?_; refine wl (by rfl) (s_sta (cs := inC (.slice A5 s.length c5, ⟨hs, numN 4 (zs.drop p1), s, numN 4 (zs.drop p3)⟩)) HS.out 3 35 (by rfl) (by rfl) (by rfl) ag66 (by rfl) ((HIL.out A5 c5)) (inC_one rfl) (by rw [hlay_len HH.out (Nat.zero_le _)]; decide) ?_); intro Wn hS; rw [splice_all (l := hlay hs 0) (cs := inC (.slice A5 s.length c5, ⟨hs, numN 4 (zs.drop p1), s, numN 4 (zs.drop p3)⟩)) (Eq.trans ((HIL.out A5 c5)) (Eq.symm (hlay_len HH.out (Nat.zero_le _))))] at hS; clear HS; have HS := Lib.hid hS; clear hS))
      have hgv := (HS.out.sub 3).give 0 rfl
      rw [HHS.out]
      exact bodyPost_ret (ret_c66t (p := 4) (u := 5) rfl _ b4 _ 66 (0, 0) (.int .i64 (p4 : Int)) (by rfl) (by rfl) (HS.out.blk (i := 3) rfl) (by simpa using (HIL.out A5 c5))) rfl ⟨A5, c5, rfl, hgv⟩
end
section
open Go Go.RowKit Go.Proofs
attribute [local go_sem] Oper.semAt_some
attribute [local irreducible] Calls
theorem rin87 (b : Value) (zs : List UInt8) (j : Nat) (w : World) (hb : HB w b zs) (hl : zs.length ≤ 20000) (hj : j ≤ zs.length) :
    Calls Try.prog 87 #[b, .int .i64 (j : Int)] w fun e w' => RdE 35 (rInB (zs.drop j) = true) (fun v => inC (v, rInV (zs.drop j))) (rInV (zs.drop j)).s (zs.length - (rInM (zs.drop j)).length) w e w' := by
  have hd : (zs.drop j).length = zs.length - j := List.length_drop
  by_cases h1 : j + 32 ≤ zs.length
  · have n1 : numM 32 (zs.drop j) = zs.drop (j + 32) := by unfold numM; rw [if_pos (by omega), List.drop_drop]
    by_cases h2 : j + 32 + 4 ≤ zs.length
    · have n2 : rIn2 (zs.drop j) = zs.drop (j + 32 + 4) := by unfold rIn2; rw [n1]; unfold numM; rw [if_pos (by rw [List.length_drop]; omega), List.drop_drop]
      cases hg : getBytes 2000 (zs.drop (j + 32 + 4)) with
      | none =>
        refine (rin_c b zs j w hb hl rfl h1 rfl h2 hg).mono ?_
        rintro e w' ⟨l, a1, a2, a3, a4⟩
        exact .inl ⟨by unfold rInB; rw [n2, hg]; simp, l, a1, a2, a3, a4⟩
      | some p =>
        obtain ⟨s, m⟩ := p
        obtain ⟨_, _, _, _, hm0, _, _, hm⟩ := getBytes_some hg
        rw [List.length_drop, ← hm0] at hm
        have n3 : bytM (zs.drop (j + 32 + 4)) = zs.drop (j + 32 + 4 + m) := by unfold bytM; rw [hg]; simp only; rw [List.drop_drop]
        have n4 : bytV (zs.drop (j + 32 + 4)) = s := by unfold bytV; rw [hg]
        by_cases h3 : j + 32 + 4 + m + 4 ≤ zs.length
        · have n5 : rInM (zs.drop j) = zs.drop (j + 32 + 4 + m + 4) := by unfold rInM; rw [n2, n3]; unfold numM; rw [if_pos (by rw [List.length_drop]; omega), List.drop_drop]
          have nv : rInV (zs.drop j) = ⟨(zs.drop j).take 32, numN 4 (zs.drop (j + 32)), s, numN 4 (zs.drop (j + 32 + 4 + m))⟩ := by unfold rInV rInH; rw [if_pos (by omega), n1, n2, n3, n4]
          refine (rin_e b zs j w hb hl rfl h1 rfl h2 hg rfl (by omega) rfl h3).mono ?_
          rintro e w' ⟨A, c, rfl, hn⟩
          refine .inr ⟨?_, A, c, ?_, ?_⟩
          · unfold rInB; rw [n1, n2, hg, n3]; simp only [List.length_drop, Option.isSome_some, Bool.true_and, Bool.and_eq_true, decide_eq_true_eq]; omega
          · rw [nv, n5, List.length_drop, show zs.length - (zs.length - (j + 32 + 4 + m + 4)) = j + 32 + 4 + m + 4 by omega]
          · rw [nv]; exact hn
        · refine (rin_d b zs j w hb hl rfl h1 rfl h2 hg rfl (by omega) (by omega)).mono ?_
          rintro e w' ⟨l, a1, a2, a3, a4⟩
          exact .inl ⟨by unfold rInB; rw [n2, n3, List.length_drop]; simp; omega, l, a1, a2, a3, a4⟩
    · refine (rin_b b zs j w hb hl rfl h1 (by omega)).mono ?_
      rintro e w' ⟨l, a1, a2, a3, a4⟩
      exact .inl ⟨by unfold rInB; rw [n1, List.length_drop]; simp; omega, l, a1, a2, a3, a4⟩
  · refine (rin_a b zs j w hb hl hj (by omega)).mono ?_
    rintro e w' ⟨rfl, a4⟩
    exact .inl ⟨by unfold rInB; rw [hd]; simp; omega, z35, z35_len, z35_one, rfl, a4⟩
set_option maxHeartbeats 1000000 in
set_option maxRecDepth 100000 in
theorem rout_a (b : Value) (zs : List UInt8) (j : Nat) (w : World) (hb : HB w b zs) (hl : zs.length ≤ 20000) (hj : j ≤ zs.length) (hk : zs.length < j + 8) : Calls Try.prog 88 #[b, .int .i64 (j : Int)] w fun e w' => e = .returned (.tuple #[.agg ([.int .i64 0, .slice none 0 0] : List Value).toArray, .int .i64 (-1)]) ∧ Below w.heap.size w w' := by
  obtain ⟨A1, c1, rfl, _⟩ := hb.shape
  have HS := Lib.hid ((St.start w).addF hb.away0)
  clear hb
  go_enter Try.func88, Try.ntmps88
  go_wp2_with (first
    | go_skip
    | (refine atd 4 (by rfl) ?_; refine wl (by rfl) (s_al (l := [.int .i64 0, .slice none 0 0]) HS.out (by rfl) z68 (by rfl) ?_); intro b4 Wn hS; clear HS; have HS := Lib.hid hS; clear hS)
    | (go_at_call 85; refine (rfix_no 8 (by decide) (HS.out.fact (i := 0) rfl) hl hj hk).mono ?_; rintro e Wn ⟨rfl, hb⟩; subst hb)
    | (refine atd 18 (by rfl) ?_; refine wl (by rfl) (wp_of_run (run_b68z (by rfl)) ?_))
    | (refine sto 4 (by rfl) ?_; refine wl (by rfl) (s_sta (cs := [.int .i64 0, .slice none 0 0]) HS.out 0 2 (by rfl) (by rfl) (by rfl) ag68 (by rfl) (by rfl) (by intro v hv; simp at hv; rcases hv with rfl | rfl <;> rfl) (by exact Nat.le_refl _) ?_); intro Wn hS; rw [splice_all (l := [.int .i64 0, .slice none 0 0]) (cs := [.int .i64 0, .slice none 0 0]) (by rfl)] at hS; clear HS; have HS := Lib.hid hS; clear hS))
  exact bodyPost_ret (ret_c68t (p := 4) (u := 5) rfl _ b4 _ 68 (0, 0) (.int .i64 (-1)) (by rfl) (by rfl) (HS.out.blk (i := 0) rfl) (by rfl)) rfl ⟨rfl, HS.out.below⟩
set_option maxHeartbeats 1000000 in
set_option maxRecDepth 100000 in
theorem rout_b (b : Value) (zs : List UInt8) (j : Nat) (w : World) (hb : HB w b zs) (hl : zs.length ≤ 20000) (hj : j ≤ zs.length) {p1 : Nat} (hp1 : j + 8 = p1) (h1 : p1 ≤ zs.length) (hg : getBytes 2000 (zs.drop p1) = none) : Calls Try.prog 88 #[b, .int .i64 (j : Int)] w fun e w' => e = .returned (.tuple #[.agg ([.int .i64 0, .slice none 0 0] : List Value).toArray, .int .i64 (-1)]) ∧ Below w.heap.size w w' := by
  obtain ⟨A1, c1, rfl, _⟩ := hb.shape
  have HS := Lib.hid ((St.start w).addF hb.away0)
  have HP1 := Lib.hid hp1
  obtain ⟨nv, hnv⟩ : ∃ nv, numN 8 (zs.drop j) = nv := ⟨_, rfl⟩
  have HNV := Lib.hid hnv
  clear hp1 hnv
  have HG := Lib.hid hg
  clear hg
  clear hb
  go_enter Try.func88, Try.ntmps88
  go_wp2_with (first
    | go_skip
    | (refine atd 4 (by rfl) ?_; refine wl (by rfl) (s_al (l := [.int .i64 0, .slice none 0 0]) HS.out (by rfl) z68 (by rfl) ?_); intro b4 Wn hS; clear HS; have HS := Lib.hid hS; clear hS)
    | (go_at_call 85; refine (rfix_ok 8 HP1.out (by decide) (HS.out.fact (i := 0) rfl) hl h1).mono ?_; rintro e Wn ⟨rfl, hb⟩; rw [HNV.out]; have hS := HS.out.call hb; clear hb; clear HS; have HS := Lib.hid hS; clear hS)
    | (go_at_call 132; refine (rbyt_no (HS.out.fact (i := 0) rfl) hl h1 HG.out).mono ?_; rintro e Wn ⟨rfl, hb⟩; have hS := HS.out.call hb; clear hb; clear HS; have HS := Lib.hid hS; clear hS)
    | (refine atd 28 (by rfl) ?_; refine wl (by rfl) (wp_of_run (run_b68z (by rfl)) ?_))
    | (refine sto 4 (by rfl) ?_; refine wl (by rfl) (s_sta (cs := [.int .i64 0, .slice none 0 0]) HS.out 0 2 (by rfl) (by rfl) (by rfl) ag68 (by rfl) (by rfl) (by intro v hv; simp at hv; rcases hv with rfl | rfl <;> rfl) (by exact Nat.le_refl _) ?_); intro Wn hS; rw [splice_all (l := [.int .i64 0, .slice none 0 0]) (cs := [.int .i64 0, .slice none 0 0]) (by rfl)] at hS; clear HS; have HS := Lib.hid hS; clear hS))
  exact bodyPost_ret (ret_c68t (p := 4) (u := 5) rfl _ b4 _ 68 (0, 0) (.int .i64 (-1)) (by rfl) (by rfl) (HS.out.blk (i := 0) rfl) (by rfl)) rfl ⟨rfl, HS.out.below⟩
set_option maxHeartbeats 1000000 in
set_option maxRecDepth 100000 in
theorem rout_c (b : Value) (zs : List UInt8) (j : Nat) (w : World) (hb : HB w b zs) (hl : zs.length ≤ 20000) (hj : j ≤ zs.length) {p1 : Nat} (hp1 : j + 8 = p1) (h1 : p1 ≤ zs.length) {s : List UInt8} {m p2 : Nat} (hg : getBytes 2000 (zs.drop p1) = some (s, m)) (hp2 : p1 + m = p2) : Calls Try.prog 88 #[b, .int .i64 (j : Int)] w fun e w' => ∃ A c, e = .returned (.tuple #[.agg #[.int .i64 (wrap64 ((numN 8 (zs.drop j) : Nat) : Int)), .slice A s.length c], .int .i64 (p2 : Int)]) ∧ New w w' (Row (.slice A s.length c) 5 1 s.length (bs s)) := by
  obtain ⟨A1, c1, rfl, _⟩ := hb.shape
  have HS := Lib.hid ((St.start w).addF hb.away0)
  have HP1 := Lib.hid hp1
  obtain ⟨nv, hnv⟩ : ∃ nv, numN 8 (zs.drop j) = nv := ⟨_, rfl⟩
  have HNV := Lib.hid hnv
  have HG := Lib.hid hg
  have HP2 := Lib.hid hp2
  obtain ⟨V, hV⟩ : ∃ V, wrap64 (nv : Int) = V := ⟨_, rfl⟩
  have HVV := Lib.hid hV
  clear hp1 hg hp2 hnv
  clear hb
  go_enter Try.func88, Try.ntmps88
  go_wp2_with (first
    | go_skip
    | (refine atd 4 (by rfl) ?_; refine wl (by rfl) (s_al (l := [.int .i64 0, .slice none 0 0]) HS.out (by rfl) z68 (by rfl) ?_); intro b4 Wn hS; clear HS; have HS := Lib.hid hS; clear hS)
    | (go_at_call 85; refine (rfix_ok 8 HP1.out (by decide) (HS.out.fact (i := 0) rfl) hl h1).mono ?_; rintro e Wn ⟨rfl, hb⟩; rw [HNV.out]; have hS := HS.out.call hb; clear hb; clear HS; have HS := Lib.hid hS; clear hS)
    | (go_at_call 132; refine (rbyt_ok HP2.out (HS.out.fact (i := 0) rfl) hl h1 HG.out).mono ?_; rintro e Wn ⟨A5, c5, rfl, hb⟩; have hS := HS.out.take hb; clear hb; clear HS; have HS := Lib.hid hS; clear hS)
    | (refine atd 32 (by rfl) ?_; refine wl (by rfl) (wp_of_run (run_b68v (n := V) (A := A5) (k := s.length) (c := c5) (by rfl) (by rfl) (by rfl)) ?_))
    | (refine sto 4 (by rfl) ?_; refine wl (by rfl) (s_sta (cs := [.int .i64 V, .slice A5 s.length c5]) HS.out 1 2 (by rfl) (by rfl) (by rfl) ag68 (by rfl) (by rfl) (by intro v hv; simp at hv; rcases hv with rfl | rfl <;> rfl) (by exact Nat.le_refl _) ?_); intro Wn hS; rw [splice_all (l := [.int .i64 0, .slice none 0 0]) (cs := [.int .i64 V, .slice A5 s.length c5]) (by rfl)] at hS; clear HS; have HS := Lib.hid hS; clear hS))
  have hgv := (HS.out.sub 1).give 0 rfl
  rw [HNV.out, HVV.out]
  exact bodyPost_ret (ret_c68t (p := 4) (u := 5) rfl _ b4 _ 68 (0, 0) (.int .i64 (p2 : Int)) (by rfl) (by rfl) (HS.out.blk (i := 1) rfl) (by rfl)) rfl ⟨A5, c5, rfl, hgv⟩
theorem rout88 (b : Value) (zs : List UInt8) (j : Nat) (w : World) (hb : HB w b zs) (hl : zs.length ≤ 20000) (hj : j ≤ zs.length) :
    Calls Try.prog 88 #[b, .int .i64 (j : Int)] w fun e w' => RdE 2 (rOutB (zs.drop j) = true) (fun v => outC (v, rOutV (zs.drop j))) (rOutV (zs.drop j)).s (zs.length - (rOutM (zs.drop j)).length) w e w' := by
  have hd : (zs.drop j).length = zs.length - j := List.length_drop
  have one : ∀ v ∈ ([.int .i64 0, .slice none 0 0] : List Value), v.oneCell' = true := by intro v hv; simp at hv; rcases hv with rfl | rfl <;> rfl
  by_cases h1 : j + 8 ≤ zs.length
  · have n1 : numM 8 (zs.drop j) = zs.drop (j + 8) := by unfold numM; rw [if_pos (by omega), List.drop_drop]
    cases hg : getBytes 2000 (zs.drop (j + 8)) with
    | none =>
      refine (rout_b b zs j w hb hl hj rfl h1 hg).mono ?_
      rintro e w' ⟨rfl, a4⟩
      exact .inl ⟨by unfold rOutB; rw [n1, hg]; simp, _, rfl, one, rfl, a4⟩
    | some p =>
      obtain ⟨s, m⟩ := p
      obtain ⟨_, _, _, _, hm0, _, _, hm⟩ := getBytes_some hg
      rw [List.length_drop, ← hm0] at hm
      have n3 : bytM (zs.drop (j + 8)) = zs.drop (j + 8 + m) := by unfold bytM; rw [hg]; simp only; rw [List.drop_drop]
      have n4 : bytV (zs.drop (j + 8)) = s := by unfold bytV; rw [hg]
      have n5 : rOutM (zs.drop j) = zs.drop (j + 8 + m) := by unfold rOutM; rw [n1, n3]
      have nv : rOutV (zs.drop j) = ⟨wrap64 ((numN 8 (zs.drop j) : Nat) : Int), s⟩ := by unfold rOutV; rw [n1, n4]
      refine (rout_c b zs j w hb hl hj rfl h1 hg rfl).mono ?_
      rintro e w' ⟨A, c, rfl, hn⟩
      refine .inr ⟨?_, A, c, ?_, ?_⟩
      · unfold rOutB; rw [n1, hg, hd]; simp; omega
      · rw [nv, n5, List.length_drop, show zs.length - (zs.length - (j + 8 + m)) = j + 8 + m by omega]; rfl
      · rw [nv]; exact hn
  · refine (rout_a b zs j w hb hl hj (by omega)).mono ?_
    rintro e w' ⟨rfl, a4⟩
    exact .inl ⟨by unfold rOutB; rw [hd]; simp; omega, _, rfl, one, rfl, a4⟩
end
end Go.Proofs.Yteljmpoaggfliaa
