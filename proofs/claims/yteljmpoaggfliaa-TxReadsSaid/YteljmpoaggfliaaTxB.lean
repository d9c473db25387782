/- Contracts and words that the laws stand on (TxB). -/
import Derived.Test.YteljmpoaggfliaaTxA
import Derived.Test.YteljmpoaggfliaaBase
import Derived.Test.YteljmpoaggfliaaRng
set_option linter.unusedVariables false
set_option linter.unusedSimpArgs false
namespace Go.Proofs.Yteljmpoaggfliaa
section
open Go Go.RowKit Go.Proofs
attribute [local irreducible] Calls

theorem splice_all {l cs : List Value} (h : cs.length = l.length) : splice l 0 cs = cs := by
  unfold splice
  rw [List.take_zero, List.nil_append, Nat.zero_add, h, List.drop_length, List.append_nil]
/-- A transaction's scripts. -/
def scrs (t : TxM) : List (Value × List UInt8) := t.ins.map (fun x => (x.1, x.2.s)) ++ t.outs.map (fun x => (x.1, x.2.s))
def nv : Value → Nat → Value
  | .slice A _ c, n => .slice A n c
  | _, n => .slice none n n
theorem nv_sh (v : Value) (n : Nat) : ∃ A c, nv v n = .slice A n c := by
  cases v <;> exact ⟨_, _, rfl⟩
def encS (x : Value × List UInt8) : Array Value := #[nv x.1 x.2.length]
def z35 : List Value := List.replicate 32 (.int .u8 0) ++ [.int .u32 0, .slice none 0 0, .int .u32 0]
theorem z66 : zeroIs Try.prog 66 (.agg z35.toArray) := by unfold zeroIs; kernel_rfl
theorem z68 : zeroIs Try.prog 68 (.agg #[.int .i64 0, .slice none 0 0]) := by unfold zeroIs; kernel_rfl
theorem z30 : zeroIs Try.prog 30 (.int .i64 0) := by unfold zeroIs; kernel_rfl
theorem ag66 : aggr Try.prog 66 35 = true := by kernel_rfl
theorem ag68 : aggr Try.prog 68 2 = true := by kernel_rfl
theorem ag55 : aggr Try.prog 55 4 = true := by kernel_rfl
theorem z35_len : z35.length = 35 := rfl
theorem inC_one {x : Value × TIn} (h : x.1.oneCell' = true) : ∀ v ∈ inC x, v.oneCell' = true := by
  intro v hv
  unfold inC at hv
  rcases List.mem_append.1 hv with hv | hv
  · exact bs_one v _ hv
  · simp at hv
    rcases hv with rfl | rfl | rfl
    · rfl
    · exact h
    · rfl
theorem map_split {α β : Type} (f : α → β) (l : List α) {i : Nat} {x : α} (h : l[i]? = some x) : l.map f = (l.take i).map f ++ ([f x] ++ (l.drop (i + 1)).map f) := by
  obtain ⟨hi, rfl⟩ := List.getElem?_eq_some_iff.1 h
  have e : l = l.take i ++ (l[i] :: l.drop (i + 1)) := by rw [← List.drop_eq_getElem_cons hi, List.take_append_drop]
  have := congrArg (List.map f) e
  rw [List.map_append, List.map_cons] at this
  exact this
theorem isto {F : Fence} {m : Nat} {P : Program} {ops : Array Oper} {Q : Exit → Act → World → Prop} {o : Oper} {rest : List Oper} {a : Act} {W : World} (d : Nat) {t : TypeId} {y : Operand} (_h : o.op = .store t (.tmp d) y) (h : wpListIn F m P ops Q (o :: rest) a W) : wpListIn F m P ops Q (o :: rest) a W := h
theorem grown_of {W W' : World} (h : Below W.heap.size W W') : W.grownBy W' none := ⟨h.os, h.tape, h.output, h.size, fun k hk _ => h.block k hk⟩
theorem TxW.keeps {X : Nat → Prop} {t : TxM} {W W' : World} (h : TxW t W) (hk : Keeps X W W') (hi : t.ins ≠ [] → ∀ k, t.iv.ownBlock = some k → X k) (ho : t.outs ≠ [] → ∀ k, t.ov.ownBlock = some k → X k) (hs : ∀ k, k < W.heap.size → k < W.heap.size) : SLc W' t.iv 35 (t.ins.map inC) ∧ SLc W' t.ov 2 (t.outs.map outC) :=
  ⟨h.iv.keeps hk (fun h0 => hi (fun e => h0 (by rw [e]; rfl))), h.ov.keeps hk (fun h0 => ho (fun e => h0 (by rw [e]; rfl)))⟩
theorem TxW.lt {t : TxM} {W : World} (h : TxW t W) (hok : t.p.ok) : (t.ins ≠ [] → ∀ k, t.iv.ownBlock = some k → k < W.heap.size) ∧ (t.outs ≠ [] → ∀ k, t.ov.ownBlock = some k → k < W.heap.size) := by
  refine ⟨fun h0 => h.iv.lt ?_, fun h0 => h.ov.lt ?_⟩
  · cases hl : t.ins with
    | nil => exact absurd hl h0
    | cons x l => exact ⟨inC x, by simp, by unfold inC; simp⟩
  · cases hl : t.outs with
    | nil => exact absurd hl h0
    | cons x l => exact ⟨outC x, by simp, by unfold outC; simp⟩
set_option maxHeartbeats 1000000 in
set_option maxRecDepth 100000 in
theorem scripts130 (t : TxM) (A : Option Addr) (c : Nat) (B : Option Addr) (d : Nat) (w : World) (e1 : t.iv = .slice A t.ins.length c) (e2 : t.ov = .slice B t.outs.length d) : Calls Try.prog 130 #[.agg t.cs.toArray] w fun e w' => ∃ b, e = .returned (.func (.func 149) #[] #[.pointer (some ⟨b, 0, none⟩)]) ∧ St w w' [Blk b t.cs 55] [] := by
  have HS := Lib.hid (St.start w)
  go_enter Try.func130, Try.ntmps130
  go_wp2_with (first
    | (refine atd 1 (by rfl) ?_; refine wl (by rfl) (s_bx (l := t.cs) HS.out (by rfl) (by rfl) ?_); intro b1 Wn hS; clear HS; have HS := Lib.hid hS; clear hS))
  go_ret
  exact ⟨_, rfl, HS.out⟩
set_option maxHeartbeats 4000000 in
set_option maxRecDepth 100000 in
theorem scripts1_in (n m b : Nat) (hn : 1 ≤ n) (t : TxM) (hok : t.p.ok) (w : World) (hb : w.heap[b]? = some (.cells t.cs.toArray 55 (0, 0))) (ht : TxW t w) (hmi : t.ins ≠ [] → ∀ k, t.iv.ownBlock = some k → k < m) (hmo : t.outs ≠ [] → ∀ k, t.ov.ownBlock = some k → k < m) (hmb : m ≤ b) (hli : t.ins.length ≤ 1000000) (hlo : t.outs.length ≤ 1000000) :
    SeqStopsK Fence.wide n Try.prog 149 #[.pointer (some ⟨b, 0, none⟩)] encS (Keeps (fun k => k = b ∨ k < m)) (fun ys => ys = scrs t) (fun pre => pre <+: scrs t) (scrs t).length w := by
  obtain ⟨ver, iv, ins, ov, outs, lock⟩ := t
  obtain ⟨A, c, B, d, e1, e2, hc, hd⟩ := ht.shape
  dsimp only at e1 e2 hc hd
  subst e1 e2
  dsimp only [TxM.cs] at hb
  dsimp only at hli hlo
  have hli1 := hli
  have hlo1 := hlo
  clear hli hlo
  intro l J Jx W hW hJ hJx hY h0
  have hbz : b < w.heap.size := blk_lt hb
  have hK : Keeps (fun k => k = b ∨ k < m) w W := Keeps.of_below hW (fun k hk => by rcases hk with rfl | hk <;> omega)
  have HBL := Lib.hid (show ∀ wr, Keeps (fun k => k = b ∨ k < m) w wr → b < wr.heap.size from fun wr hk => blk_lt ((hk b (.inl rfl)).trans hb))
  have HML := Lib.hid (show ∀ wr, Keeps (fun k => k = b ∨ k < m) w wr → ∀ k, k < m → k < wr.heap.size from fun wr hk k h => Nat.lt_trans h (Nat.lt_of_le_of_lt hmb (blk_lt ((hk b (.inl rfl)).trans hb))))
  have HB := Lib.hid (show ∀ wr, Keeps (fun k => k = b ∨ k < m) w wr → ∀ (k : Nat) v, [.int .u32 (ver : Int), .slice A ins.length c, .slice B outs.length d, .int .u32 (lock : Int)][k]? = some v → wr.cell? ⟨b, k, none⟩ = some v from fun wr hk k v hv => (blk_cell ((hk b (.inl rfl)).trans hb) k).trans (by simpa using hv))
  have HSL := Lib.hid (show (scrs ⟨ver, .slice A ins.length c, ins, .slice B outs.length d, outs, lock⟩).length = ins.length + outs.length by unfold scrs; simp)
  have HT := Lib.hid ht; have HOK := Lib.hid hok; have HM1 := Lib.hid hmi; have HM2 := Lib.hid hmo
  have HY := Lib.hid hY; have HJ := Lib.hid hJ
  have HC1 := Lib.hid (HB.out W hK 1 _ rfl)
  clear hY hJ hb ht hok hmi hmo
  refine callsIn_of_wp Try.func149 rfl trivial ?_ rfl
  simp only [Try.ntmps149, List.size_toArray, List.length_cons, List.length_nil, Nat.reduceAdd, Nat.reduceSub, Array.replicate_succ, Array.replicate_zero, List.push_toArray, List.append_toArray, List.nil_append, List.cons_append]
  gi_wp2_with (refine itd 8 (by rfl) ?_; refine il (by rfl) (wpIn_of_run (by intro c h; cases h) (by rfl) (run_ld (by kernel_rfl) (by rfl) (by rfl) HC1.out) ?_))
  gi_loopw [10] (fun s10 wr => ∃ (i : Nat), i ≤ ins.length ∧ s10 = .int .i64 (i : Int) ∧ Keeps (fun k => k = b ∨ k < m) w wr ∧ J ((ins.take i).map (fun x => (x.1, x.2.s))) wr) (fun s10 _ => ins.length - (intOf s10).toNat)
  case atStart => exact ⟨0, by omega, rfl, hK, by exact h0⟩
  case round =>
    obtain ⟨i, hi, rfl, hK1, hJ1⟩ := hrel
    by_cases hlt : i < ins.length
    · have hli : ins[i]? = some ins[i] := List.getElem?_eq_getElem hlt
      obtain ⟨bb, o, rfl⟩ := HT.out.in_b rfl hlt
      generalize ins[i] = x at hli
      have hr0 := HT.out.in_at rfl hli
      have hr : wr.rangeAt bb (o + i * 35) (inC x) := fun j u hj => hK1.cell (hr0 j u hj) (.inr (HM1.out (fun e => by rw [e] at hli; simp at hli) bb rfl))
      obtain ⟨xv, y⟩ := x
      obtain ⟨Ap, cp, exv, _⟩ := (HT.out.is _ (List.mem_of_getElem? hli)).shape
      dsimp only at exv
      subst exv
      have hyo := HOK.out.ins y (List.mem_map_of_mem (List.mem_of_getElem? hli))
      have HYO := Lib.hid hyo
      clear hyo
      have HR := Lib.hid hr; have HLI := Lib.hid hli
      have HS := Lib.hid (St.start wr).sk
      have HJK := Lib.hid hJ1; have HKK := Lib.hid hK1
      have j1 : (i : Int) < (ins.length : Int) := by omega
      clear hr hr0 hli hJ1 hK1
      have hYA : ∀ V, Below wr.heap.size wr V → YieldAt Fence.wide (n - 1) Try.prog l #[.slice Ap y.s.length cp] V fun e W' => (e = .returned (.bool true) ∧ J ((ins.take i).map (fun x => (x.1, x.2.s)) ++ [(.slice Ap y.s.length cp, y.s)]) W' ∧ Keeps (fun k => k = b ∨ k < m) V W') ∨ (e = .returned (.bool false) ∧ Jx ((ins.take i).map (fun x => (x.1, x.2.s)) ++ [(.slice Ap y.s.length cp, y.s)]) W') := fun V hV => HY.out _ (.slice Ap y.s.length cp, y.s) V (HJ.out _ _ _ none HJK.out (grown_of hV) (fun r e => by cases e)) (by rw [HSL.out]; simp only [List.length_append, List.length_map, List.length_take]; omega)
      have HYA := Lib.hid hYA
      clear hYA
      gi_wp2_with (first
        | (refine itd 13 (by rfl) ?_; refine il (by rfl) (wpIn_of_run (by intro c h; cases h) (by rfl) (run_lda (n := 35) (cs := inC (.slice Ap y.s.length cp, y)) ag66 (by rfl) (by rfl) HR.out (inC_length (x := (.slice Ap y.s.length cp, y)) HYO.out)) ?_))
        | (refine itd 4 (by rfl) ?_; refine il (by rfl) (i_al (l := z35) HS.out (by rfl) z66 (by rfl) ?_); intro b4 Wn hS; clear HS; have HS := Lib.hid hS; clear hS)
        | (refine isto 4 (by rfl) ?_; go_loud (refine il (by rfl) (i_sta (cs := inC (.slice Ap y.s.length cp, y)) HS.out 0 35 (by rfl) (by rfl) (by rfl) ag66 (by rfl) (inC_length (x := (.slice Ap y.s.length cp, y)) HYO.out) (inC_one (x := (.slice Ap y.s.length cp, y)) rfl) (by exact Nat.le_refl _) ?_)); intro Wn hS; rw [splice_all (l := z35) (cs := inC (.slice Ap y.s.length cp, y)) (inC_length (x := (.slice Ap y.s.length cp, y)) HYO.out)] at hS; clear HS; have HS := Lib.hid hS; clear hS; obtain ⟨fn, tmps, assign, body, hy, hRY⟩ := HYA.out _ HS.out.st.below; have HRY := Lib.hid hRY; have HBW := Lib.hid HS.out.st.below; clear hRY)
        | (refine itd 16 (by rfl) ?_; refine il (by rfl) (i_ld HS.out 0 (by rfl) (by rfl) (by rfl) (by kernel_rfl) (by exact inC_33 (x := (.slice Ap y.s.length cp, y)) HYO.out) ?_)))
      refine HRY.out.mono ?_
      rintro e W3 (⟨rfl, hJ3, hk3⟩ | ⟨rfl, hJx3⟩)
      · have hk4 : Keeps (fun k => k = b ∨ k < m) w W3 := (HKK.out.trans (Keeps.of_below HBW.out (fun k hk => by rcases hk with rfl | hk; exact HBL.out _ HKK.out; exact HML.out _ HKK.out k hk))).trans hk3
        have HK4 := Lib.hid hk4; have HJ3 := Lib.hid hJ3
        clear hk4 hJ3 hk3 hy HS
        gi_wp2_with fail
        go_roundw
        case rel =>
          refine ⟨i + 1, by omega, by go_num, HK4.out, ?_⟩
          have := HJ3.out
          rw [take_snoc ins i _ HLI.out, List.map_append]
          exact this
        case measure => simp [intOf]; omega
      · clear hy HS
        gi_wp2_with fail
        refine bodyPost_ret (results_none rfl _ _ _) rfl ?_
        refine ⟨⟨_, rfl⟩, .inr ⟨_, ?_, hJx3⟩⟩
        exact ⟨(ins.drop (i + 1)).map (fun x => (x.1, x.2.s)) ++ outs.map (fun x => (x.1, x.2.s)), by unfold scrs; dsimp only; rw [map_split (fun x => (x.1, x.2.s)) ins HLI.out, List.append_assoc, List.append_assoc, List.append_assoc]⟩
    · have j1 : ¬ (i : Int) < (ins.length : Int) := by omega
      have hil : ins.take i = ins := List.take_of_length_le (by omega)
      rw [hil] at hJ1
      clear hil
      have HK1 := Lib.hid hK1; have HJ1 := Lib.hid hJ1
      have HC2 := Lib.hid (HB.out wr hK1 2 _ rfl)
      clear hK1 hJ1 h0 hK
      gi_wp2_with (refine itd 21 (by rfl) ?_; refine il (by rfl) (wpIn_of_run (by intro c h; cases h) (by rfl) (run_ld (by kernel_rfl) (by rfl) (by rfl) HC2.out) ?_))
      gi_loopw [23] (fun s23 wr => ∃ (i : Nat), i ≤ outs.length ∧ s23 = .int .i64 (i : Int) ∧ Keeps (fun k => k = b ∨ k < m) w wr ∧ J (ins.map (fun x => (x.1, x.2.s)) ++ (outs.take i).map (fun x => (x.1, x.2.s))) wr) (fun s23 _ => outs.length - (intOf s23).toNat)
      case atStart => exact ⟨0, by omega, rfl, HK1.out, by rw [List.take_zero, List.map_nil, List.append_nil]; exact HJ1.out⟩
      case round =>
        obtain ⟨i, hi, rfl, hK2, hJ2⟩ := hrel
        by_cases hlt : i < outs.length
        · have hli : outs[i]? = some outs[i] := List.getElem?_eq_getElem hlt
          obtain ⟨bb, o, rfl⟩ := HT.out.out_b rfl hlt
          generalize outs[i] = x at hli
          have hr0 := HT.out.out_at rfl hli
          have hr : wr.rangeAt bb (o + i * 2) (outC x) := fun j u hj => hK2.cell (hr0 j u hj) (.inr (HM2.out (fun e => by rw [e] at hli; simp at hli) bb rfl))
          obtain ⟨xv, y⟩ := x
          obtain ⟨Ap, cp, exv, _⟩ := (HT.out.os _ (List.mem_of_getElem? hli)).shape
          dsimp only at exv
          subst exv
          skip
          have HR := Lib.hid hr; have HLI := Lib.hid hli
          have HS := Lib.hid (St.start wr).sk
          have HJK := Lib.hid hJ2; have HKK := Lib.hid hK2
          have j1 : (i : Int) < (outs.length : Int) := by omega
          clear hr hr0 hli hJ2 hK2
          have hYA : ∀ V, Below wr.heap.size wr V → YieldAt Fence.wide (n - 1) Try.prog l #[.slice Ap y.s.length cp] V fun e W' => (e = .returned (.bool true) ∧ J (ins.map (fun x => (x.1, x.2.s)) ++ (outs.take i).map (fun x => (x.1, x.2.s)) ++ [(.slice Ap y.s.length cp, y.s)]) W' ∧ Keeps (fun k => k = b ∨ k < m) V W') ∨ (e = .returned (.bool false) ∧ Jx (ins.map (fun x => (x.1, x.2.s)) ++ (outs.take i).map (fun x => (x.1, x.2.s)) ++ [(.slice Ap y.s.length cp, y.s)]) W') := fun V hV => HY.out _ (.slice Ap y.s.length cp, y.s) V (HJ.out _ _ _ none HJK.out (grown_of hV) (fun r e => by cases e)) (by rw [HSL.out]; simp only [List.length_append, List.length_map, List.length_take]; omega)
          have HYA := Lib.hid hYA
          clear hYA
          gi_wp2_with (first
            | (refine itd 26 (by rfl) ?_; refine il (by rfl) (wpIn_of_run (by intro c h; cases h) (by rfl) (run_lda (n := 2) (cs := outC (.slice Ap y.s.length cp, y)) ag68 (by rfl) (by rfl) HR.out (rfl)) ?_))
            | (refine itd 6 (by rfl) ?_; refine il (by rfl) (i_al (l := [.int .i64 0, .slice none 0 0]) HS.out (by rfl) z68 (by rfl) ?_); intro b4 Wn hS; clear HS; have HS := Lib.hid hS; clear hS)
            | (refine isto 6 (by rfl) ?_; go_loud (refine il (by rfl) (i_sta (cs := outC (.slice Ap y.s.length cp, y)) HS.out 0 2 (by rfl) (by rfl) (by rfl) ag68 (by rfl) (rfl) (by intro v hv; simp [outC] at hv; rcases hv with rfl | rfl <;> rfl) (by exact Nat.le_refl _) ?_)); intro Wn hS; rw [splice_all (l := [.int .i64 0, .slice none 0 0]) (cs := outC (.slice Ap y.s.length cp, y)) (rfl)] at hS; clear HS; have HS := Lib.hid hS; clear hS; obtain ⟨fn, tmps, assign, body, hy, hRY⟩ := HYA.out _ HS.out.st.below; have HRY := Lib.hid hRY; have HBW := Lib.hid HS.out.st.below; clear hRY)
            | (refine itd 29 (by rfl) ?_; refine il (by rfl) (i_ld HS.out 0 (by rfl) (by rfl) (by rfl) (by kernel_rfl) (by rfl) ?_)))
          refine HRY.out.mono ?_
          rintro e W3 (⟨rfl, hJ3, hk3⟩ | ⟨rfl, hJx3⟩)
          · have hk4 : Keeps (fun k => k = b ∨ k < m) w W3 := (HKK.out.trans (Keeps.of_below HBW.out (fun k hk => by rcases hk with rfl | hk; exact HBL.out _ HKK.out; exact HML.out _ HKK.out k hk))).trans hk3
            have HK4 := Lib.hid hk4; have HJ3 := Lib.hid hJ3
            clear hk4 hJ3 hk3 hy HS
            gi_wp2_with fail
            go_roundw
            case rel =>
              refine ⟨i + 1, by omega, by go_num, HK4.out, ?_⟩
              have := HJ3.out
              rw [take_snoc outs i _ HLI.out, List.map_append, ← List.append_assoc]
              exact this
            case measure => simp [intOf]; omega
          · clear hy HS
            gi_wp2_with fail
            refine bodyPost_ret (results_none rfl _ _ _) rfl ?_
            refine ⟨⟨_, rfl⟩, .inr ⟨_, ?_, hJx3⟩⟩
            exact ⟨(outs.drop (i + 1)).map (fun x => (x.1, x.2.s)), by unfold scrs; dsimp only; rw [map_split (fun x => (x.1, x.2.s)) outs HLI.out, List.append_assoc, List.append_assoc]⟩
        · have j1 : ¬ (i : Int) < (outs.length : Int) := by omega
          have hil : outs.take i = outs := List.take_of_length_le (by omega)
          rw [hil] at hJ2
          clear hil
          gi_wp2_with fail
          refine bodyPost_end (results_none rfl _ _ _) rfl ?_
          exact ⟨⟨_, rfl⟩, .inl hJ2⟩
end
end Go.Proofs.Yteljmpoaggfliaa
