/- Contracts and words that the laws stand on (TxD). -/
import Derived.Test.YteljmpoaggfliaaShelf
import Derived.Test.YteljmpoaggfliaaTxC
set_option linter.unusedVariables false
set_option linter.unusedSimpArgs false
namespace Go.Proofs.Yteljmpoaggfliaa
section
open Go Go.RowKit Go.Proofs
attribute [local go_sem] Oper.semAt_some
attribute [local irreducible] Calls

def zh : List UInt8 := List.replicate 32 0
def smI (b1 : Nat) : Value × TIn := (.slice (some ⟨b1, 0, none⟩) 1 1, ⟨zh, 4294967295, [42], 7⟩)
def smO (b3 : Nat) : Value × TOut := (.slice (some ⟨b3, 0, none⟩) 1 1, ⟨5, [106]⟩)
def smT (b1 b2 b3 b4 : Nat) : TxM := ⟨1, .slice (some ⟨b2, 0, none⟩) 1 1, [smI b1], .slice (some ⟨b4, 0, none⟩) 1 1, [smO b3], 0⟩
def smP : TxP := ⟨1, [⟨zh, 4294967295, [42], 7⟩], [⟨5, [106]⟩], 0⟩
theorem smP_ok : smP.ok := ⟨by decide, by decide, fun x hx => by simp [smP] at hx; subst hx; exact ⟨rfl, by decide, by decide⟩, fun x hx => by simp [smP] at hx; subst hx; exact ⟨by decide, by decide⟩⟩
theorem smP_chk : chkT smP = true := by decide
def smL : List UInt8 := [1, 0, 0, 0, 1, 0, 0, 0, 0, 0, 0, 0, 0, 0, 0, 0, 0, 0, 0, 0, 0, 0, 0, 0, 0, 0, 0, 0, 0, 0, 0, 0, 0, 0, 0, 0, 0, 255, 255, 255, 255, 1, 42, 7, 0, 0, 0, 1, 5, 0, 0, 0, 0, 0, 0, 0, 1, 106, 0, 0, 0, 0]
theorem smP_enc : txB smP = smL := by decide
def smC (b1 b2 b3 b4 : Nat) : List Value := (smT b1 b2 b3 b4).cs
def smIC (b : Nat) : List Value := inC (smI b)
def smOC (b : Nat) : List Value := outC (smO b)
theorem smC_eq (b1 b2 b3 b4 : Nat) : smC b1 b2 b3 b4 = (smT b1 b2 b3 b4).cs := rfl
theorem smIC_eq (b : Nat) : smIC b = inC (smI b) := rfl
theorem smOC_eq (b : Nat) : smOC b = outC (smO b) := rfl
theorem smC_len (b1 b2 b3 b4 : Nat) : (smC b1 b2 b3 b4).length = 4 := rfl
theorem smC_one (b1 b2 b3 b4 : Nat) : ∀ v ∈ smC b1 b2 b3 b4, v.oneCell' = true := by
  intro v hv; simp [smC, smT, TxM.cs] at hv; rcases hv with rfl | rfl | rfl | rfl <;> rfl
theorem smIC_len (b : Nat) : (smIC b).length = 1 * 35 := rfl
theorem smOC_len (b : Nat) : (smOC b).length = 1 * 2 := rfl
theorem build44k (W : World) : (Instr.build 44 #[(1, .int .u32 4294967295)]).run Try.prog W = .ok (.agg (bs zh ++ [Value.int .u32 4294967295]).toArray) W := by kernel_rfl
theorem run_b44 {W : World} {ev : Operand → Value} {o : Oper} (ho : o.op = .build 44 #[(1, .const (.int .u32 4294967295))]) (hx : ∀ v, ev (.const v) = v) : (execOp ev o).run Try.prog W = .ok (.value (.agg (bs zh ++ [Value.int .u32 4294967295]).toArray)) W := by
  unfold execOp
  simp only [ho, List.map_toArray, List.map_cons, List.map_nil, hx, Sem.run_bind, build44k W, Result.andThen_ok, Sem.run_pure]
theorem build66k (b : Nat) (W : World) : (Instr.build 66 #[(0, .agg (bs zh ++ [Value.int .u32 4294967295]).toArray), (1, .slice (some ⟨b, 0, none⟩) 1 1), (2, .int .u32 7)]).run Try.prog W = .ok (.agg (inC (smI b)).toArray) W := by kernel_rfl
theorem run_b66 {W : World} {ev : Operand → Value} {o : Oper} {x y : Operand} {b : Nat} (ho : o.op = .build 66 #[(0, x), (1, y), (2, .const (.int .u32 7))]) (hx : ev x = .agg (bs zh ++ [Value.int .u32 4294967295]).toArray) (hy : ev y = .slice (some ⟨b, 0, none⟩) 1 1) (hc : ∀ v, ev (.const v) = v) : (execOp ev o).run Try.prog W = .ok (.value (.agg (smIC b).toArray)) W := by
  unfold smIC
  unfold execOp
  simp only [ho, List.map_toArray, List.map_cons, List.map_nil, hx, hy, hc, Sem.run_bind, build66k b W, Result.andThen_ok, Sem.run_pure]
theorem build68k (b : Nat) (W : World) : (Instr.build 68 #[(0, .int .i64 5), (1, .slice (some ⟨b, 0, none⟩) 1 1)]).run Try.prog W = .ok (.agg (outC (smO b)).toArray) W := by kernel_rfl
theorem run_b68 {W : World} {ev : Operand → Value} {o : Oper} {y : Operand} {b : Nat} (ho : o.op = .build 68 #[(0, .const (.int .i64 5)), (1, y)]) (hy : ev y = .slice (some ⟨b, 0, none⟩) 1 1) (hc : ∀ v, ev (.const v) = v) : (execOp ev o).run Try.prog W = .ok (.value (.agg (smOC b).toArray)) W := by
  unfold smOC
  unfold execOp
  simp only [ho, List.map_toArray, List.map_cons, List.map_nil, hy, hc, Sem.run_bind, build68k b W, Result.andThen_ok, Sem.run_pure]
theorem build55k (b1 b2 b3 b4 : Nat) (W : World) : (Instr.build 55 #[(0, .int .u32 1), (1, .slice (some ⟨b2, 0, none⟩) 1 1), (2, .slice (some ⟨b4, 0, none⟩) 1 1)]).run Try.prog W = .ok (.agg (smT b1 b2 b3 b4).cs.toArray) W := by kernel_rfl
theorem run_b55 {W : World} {ev : Operand → Value} {o : Oper} {x y : Operand} (b1 b3 : Nat) {b2 b4 : Nat} (ho : o.op = .build 55 #[(0, .const (.int .u32 1)), (1, x), (2, y)]) (hx : ev x = .slice (some ⟨b2, 0, none⟩) 1 1) (hy : ev y = .slice (some ⟨b4, 0, none⟩) 1 1) (hc : ∀ v, ev (.const v) = v) : (execOp ev o).run Try.prog W = .ok (.value (.agg (smC b1 b2 b3 b4).toArray)) W := by
  unfold smC
  unfold execOp
  simp only [ho, List.map_toArray, List.map_cons, List.map_nil, hx, hy, hc, Sem.run_bind, build55k b1 b2 b3 b4 W, Result.andThen_ok, Sem.run_pure]
theorem load55 {w : World} (g : Nat) (cs : Array Value) (t : TypeId) (fr : Nat × Nat) (hg : w.heap[g]? = some (.cells cs t fr)) (hz : cs.size = 4) : (loadVar 55 ⟨g, 0, none⟩).run Try.prog w = .ok (.agg cs) w :=
  run_loadVar_row w g t 55 cs fr _ hg Try.underlying55 rfl (by rw [hz]; kernel_rfl)
theorem ret_c55 {w : World} {fn : Func} {p : Tmp} (h : fn.results = #[.cell p 55]) (tmps : Array Value) (g : Nat) (cs : Array Value) (t : TypeId) (fr : Nat × Nat) (hp : tmps.getD p undef = .pointer (some ⟨g, 0, none⟩)) (hg : w.heap[g]? = some (.cells cs t fr)) (hz : cs.size = 4) :
    (results fn tmps).run Try.prog w = .ok (.agg cs) w := by
  have hp' : tmps[p]?.getD undef = .pointer (some ⟨g, 0, none⟩) := by simpa using hp
  simp [results, h, hp', asAddr, load55 g cs t fr hg hz]
theorem smT_len (b1 b2 b3 b4 : Nat) : (smT b1 b2 b3 b4).cs.length = 4 := rfl
theorem smT_one (b1 b2 b3 b4 : Nat) : ∀ v ∈ (smT b1 b2 b3 b4).cs, v.oneCell' = true := by
  intro v hv; simp [smT, TxM.cs] at hv; rcases hv with rfl | rfl | rfl | rfl <;> rfl
theorem inS_len (b : Nat) : (inC (smI b)).length = 1 * 35 := rfl
theorem outS_len (b : Nat) : (outC (smO b)).length = 1 * 2 := rfl
attribute [local irreducible] smC smIC smOC
theorem z55 : zeroIs Try.prog 55 (.agg #[.int .u32 0, .slice none 0 0, .slice none 0 0, .int .u32 0]) := by unfold zeroIs; kernel_rfl
set_option maxHeartbeats 1000000 in
set_option maxRecDepth 100000 in
theorem some90 (w : World) : Calls Try.prog 90 #[] w fun e w' => ∃ b1 b2 b3 b4, e = .returned (.agg (smT b1 b2 b3 b4).cs.toArray) ∧ TxW (smT b1 b2 b3 b4) w' ∧ Below w.heap.size w w' := by
  have HS := Lib.hid (St.start w)
  go_enter Try.func90, Try.ntmps90
  go_wp2_with (first
    | (refine atd 0 (by rfl) ?_; refine wl (by rfl) (s_al (l := [.int .u32 0, .slice none 0 0, .slice none 0 0, .int .u32 0]) HS.out (by rfl) z55 (by rfl) ?_); intro b0 Wn hS; clear HS; have HS := Lib.hid hS; clear hS)
    | (refine atd 1 (by rfl) ?_; refine wl (by rfl) (wp_of_run (run_b44 (by rfl) (fun _ => rfl)) ?_); simp only [Act.put, List.setIfInBounds_toArray, List.set_cons_succ, List.set_cons_zero])
    | (refine atd 2 (by rfl) ?_; refine wl (by rfl) (s_bs (E := 5) (z := (.int .u8 0)) HS.out 1 1 (bs [42]) (by rfl) Try.underlying28 (by kernel_rfl) (by rfl) (by decide) (by decide) (by kernel_rfl) (by rfl) (by decide) ?_); intro b1 Wn hS; clear HS; have HS := Lib.hid hS; clear hS)
    | (refine atd 3 (by rfl) ?_; refine wl (by rfl) (wp_of_run (run_b66 (b := b1) (by rfl) (by rfl) (by rfl) (fun _ => rfl)) ?_))
    | (refine atd 4 (by rfl) ?_; refine wl (by rfl) (s_bs (E := 66) (z := (.agg z35.toArray)) HS.out 1 35 (smIC b1) (by rfl) Try.underlying52 (by kernel_rfl) (by rfl) (by decide) (by decide) (by kernel_rfl) (smIC_len b1) (by decide) ?_); intro b2 Wn hS; clear HS; have HS := Lib.hid hS; clear hS; simp only [Act.put, List.setIfInBounds_toArray, List.set_cons_succ, List.set_cons_zero])
    | (refine atd 5 (by rfl) ?_; refine wl (by rfl) (s_bs (E := 5) (z := (.int .u8 0)) HS.out 1 1 (bs [106]) (by rfl) Try.underlying28 (by kernel_rfl) (by rfl) (by decide) (by decide) (by kernel_rfl) (by rfl) (by decide) ?_); intro b3 Wn hS; clear HS; have HS := Lib.hid hS; clear hS)
    | (refine atd 6 (by rfl) ?_; refine wl (by rfl) (wp_of_run (run_b68 (b := b3) (by rfl) (by rfl) (fun _ => rfl)) ?_))
    | (refine atd 7 (by rfl) ?_; refine wl (by rfl) (s_bs (E := 68) (z := (.agg #[.int .i64 0, .slice none 0 0])) HS.out 1 2 (smOC b3) (by rfl) Try.underlying53 (by kernel_rfl) (by rfl) (by decide) (by decide) (by kernel_rfl) (smOC_len b3) (by decide) ?_); intro b4 Wn hS; clear HS; have HS := Lib.hid hS; clear hS)
    | (refine atd 8 (by rfl) ?_; refine wl (by rfl) (wp_of_run (run_b55 b1 b3 (b2 := b2) (b4 := b4) (by rfl) (by rfl) (by rfl) (fun _ => rfl)) ?_); simp only [Act.put, List.setIfInBounds_toArray, List.set_cons_succ, List.set_cons_zero])
    | (refine sto 0 (by rfl) ?_; refine wl (by rfl) (s_sta (cs := smC b1 b2 b3 b4) HS.out 4 4 (by rfl) (by rfl) (by rfl) ag55 (by rfl) (smC_len _ _ _ _) (smC_one b1 b2 b3 b4) (by exact Nat.le_refl _) ?_); intro Wn hS; rw [splice_all (l := [.int .u32 0, .slice none 0 0, .slice none 0 0, .int .u32 0]) (cs := smC b1 b2 b3 b4) (smC_len _ _ _ _)] at hS; clear HS; have HS := Lib.hid hS; clear hS))
  have hb0 := HS.out.blk (i := 4) rfl
  have h0 := HS.out.res (i := 0) rfl
  have h1 := HS.out.res (i := 1) rfl
  have h2 := HS.out.res (i := 2) rfl
  have h3 := HS.out.res (i := 3) rfl
  rw [smOC_eq] at h0
  rw [smIC_eq] at h2
  rw [smC_eq] at hb0
  exact bodyPost_ret (ret_c55 (p := 0) rfl _ b0 _ 55 (0, 0) (by rfl) hb0 (by rfl)) rfl ⟨b1, b2, b3, b4, rfl, ⟨SLc.of_row (l := [inC (smI b1)]) (by rw [show [inC (smI b1)].flatten = inC (smI b1) by simp]; exact h2) (by intro x hx; simp at hx; subst hx; rfl), SLc.of_row (l := [outC (smO b3)]) (by rw [show [outC (smO b3)].flatten = outC (smO b3) by simp]; exact h0) (by intro x hx; simp at hx; subst hx; rfl), fun x hx => by simp [smT] at hx; subst hx; exact Row.hb (l := [42]) h3, fun x hx => by simp [smT] at hx; subst hx; exact Row.hb (l := [106]) h1⟩, HS.out.below⟩
theorem ag44 : aggr Try.prog 44 33 = true := by kernel_rfl
theorem pt_in {b1 : Nat} {j : Nat} {u : Value} (h : (bs zh ++ [Value.int .u32 4294967295])[j]? = some u) : (inC (smI b1))[j]? = some u := by
  have e : inC (smI b1) = (bs zh ++ [Value.int .u32 4294967295]) ++ [.slice (some ⟨b1, 0, none⟩) 1 1, .int .u32 7] := by simp [inC, smI]
  rw [e, List.getElem?_append_left (List.getElem?_eq_some_iff.1 h).1]
  exact h
set_option maxHeartbeats 1000000 in
set_option maxRecDepth 100000 in
theorem cb92 (b1 b2 b3 b4 : Nat) (w : World) (ht : TxW (smT b1 b2 b3 b4) w) : Calls Try.prog 92 #[.agg (smT b1 b2 b3 b4).cs.toArray] w fun e w' => e = .returned (.bool true) ∧ Below w.heap.size w w' := by
  have HS := Lib.hid ((St.start w).addF ht.away0)
  have hq : ∀ W, (Op.equalIn 9999 23 (.agg (List.take 32 (bs zh ++ [Value.int .u32 4294967295])).toArray) (.agg #[.int .u8 0, .int .u8 0, .int .u8 0, .int .u8 0, .int .u8 0, .int .u8 0, .int .u8 0, .int .u8 0, .int .u8 0, .int .u8 0, .int .u8 0, .int .u8 0, .int .u8 0, .int .u8 0, .int .u8 0, .int .u8 0, .int .u8 0, .int .u8 0, .int .u8 0, .int .u8 0, .int .u8 0, .int .u8 0, .int .u8 0, .int .u8 0, .int .u8 0, .int .u8 0, .int .u8 0, .int .u8 0, .int .u8 0, .int .u8 0, .int .u8 0, .int .u8 0])).run Try.prog W = .ok true W := fun W => by
    rw [take_pt zh _ rfl]
    have := eqH 9997 zh zh rfl rfl W
    rwa [decide_eq_true rfl] at this
  have hx : (bs zh ++ [Value.int .u32 4294967295])[32]? = some (Value.int .u32 4294967295) := by rfl
  have hsm : (smT b1 b2 b3 b4).cs = [.int .u32 1, .slice (some ⟨b2, 0, none⟩) 1 1, .slice (some ⟨b4, 0, none⟩) 1 1, .int .u32 0] := rfl
  rw [hsm]
  clear ht hsm
  go_enter Try.func92, Try.ntmps92
  go_wp2_with (first
    | (refine atd 1 (by rfl) ?_; refine wl (by rfl) (s_bx (l := [.int .u32 1, .slice (some ⟨b2, 0, none⟩) 1 1, .slice (some ⟨b4, 0, none⟩) 1 1, .int .u32 0]) HS.out (by rfl) (by rfl) ?_); intro b9 Wn hS; clear HS; have HS := Lib.hid hS; clear hS)
    | (refine atd 4 (by rfl) ?_; refine wl (by rfl) (s_ld HS.out 0 (by rfl) (by rfl) (by rfl) (by kernel_rfl) (by rfl) ?_))
    | (refine atd 9 (by rfl) ?_; refine wl (by rfl) (s_ld HS.out 0 (by rfl) (by rfl) (by rfl) (by kernel_rfl) (by rfl) ?_))
    | (refine atd 12 (by rfl) ?_; refine wl (by rfl) (wp_of_run (run_lda (n := 33) (cs := bs zh ++ [Value.int .u32 4294967295]) ag44 (by rfl) (by rfl) (by have := (HS.out.fact (i := 0) rfl).in_at (i := 0) rfl (by rfl); exact fun j u hj => by simpa using this j u (pt_in hj)) (by rfl)) ?_)))
  go_ret
  exact ⟨rfl, HS.out.below⟩
theorem enc_some (b1 b2 b3 b4 : Nat) (w : World) (ht : TxW (smT b1 b2 b3 b4) w) : Calls Try.prog 35 #[.agg (smT b1 b2 b3 b4).cs.toArray] w fun e w' => ∃ A c, e = .returned (.tuple #[.slice A 62 c, .int .i64 0]) ∧ New w w' (Row (.slice A 62 c) 5 1 62 (bs smL)) := by
  have h1 : (smT b1 b2 b3 b4).p.ok := smP_ok
  have h2 : chkT (smT b1 b2 b3 b4).p = true := smP_chk
  have h3 : txB (smT b1 b2 b3 b4).p = smL := smP_enc
  refine (enc35_yes (smT b1 b2 b3 b4) w h1 ht h2).mono ?_
  rintro e w' ⟨v', rfl, hb⟩
  rw [h3] at hb
  obtain ⟨A, c, n, rfl, rfl⟩ : ∃ A c n, v' = .slice A n c ∧ n = 62 := by
    rcases hb.2.1.2 with ⟨rfl, he⟩ | ⟨g, cap, cur, rfl, _⟩
    · cases he
    · exact ⟨_, _, _, rfl, rfl⟩
  exact ⟨A, c, rfl, hb⟩
theorem ba_loop (b : ByteArray) : ∀ (m i : Nat) (r : List UInt8), b.size - i = m → ByteArray.toList.loop b i r = r.reverse ++ b.data.toList.drop i := by
  intro m
  induction m with
  | zero =>
    intro i r h
    unfold ByteArray.toList.loop
    have h' : b.data.size - i = 0 := h
    rw [if_neg (by omega), List.drop_of_length_le (by simp; omega), List.append_nil]
  | succ m ih =>
    intro i r h
    unfold ByteArray.toList.loop
    have hi : i < b.data.size := by have h' : b.data.size - i = m + 1 := h; omega
    rw [if_pos (by have h' : b.data.size - i = m + 1 := h; show i < b.data.size; omega), ih _ _ (by omega)]
    have e : b.get! i = b.data.toList[i]'(by simpa using hi) := by
      show b.data[i]! = _
      rw [getElem!_pos b.data i hi]
      simp
    rw [List.reverse_cons, e, List.append_assoc]
    congr 1
    rw [List.singleton_append, ← List.drop_eq_getElem_cons]
theorem ba_toList (b : ByteArray) : b.toList = b.data.toList := by
  unfold ByteArray.toList
  rw [ba_loop b _ 0 [] rfl]
  simp

theorem cmp33 : (smL == (({ data := #[1, 0, 0, 0, 1] } : ByteArray) ++ { data := zh.toArray } ++ { data := #[255, 255, 255, 255, 1, 42, 7, 0, 0, 0, 1, 5, 0, 0, 0, 0, 0, 0, 0, 1, 106, 0, 0, 0, 0] }).toList) = true := by
  rw [ba_toList]
  simp only [ByteArray.data_append, Array.toList_append]
  decide
set_option maxHeartbeats 1000000 in
set_option maxRecDepth 100000 in
theorem rep91 (w : World) : Calls Try.prog 91 #[.string ⟨[0].toArray⟩, .int .i64 32] w fun e w' => e = .returned (.string ⟨zh.toArray⟩) ∧ Below w.heap.size w w' := by
  refine (Try.strings_Repeat ⟨[0].toArray⟩ 32 w (by decide) (by decide)).mono ?_
  rintro e w' ⟨rfl, hb⟩
  exact ⟨by rfl, hb⟩
set_option maxHeartbeats 2000000 in
set_option maxRecDepth 100000 in
theorem alive33 (w : World) : Calls Try.prog 33 #[] w fun e w' => e = .returned (.bool true) ∧ Below w.heap.size w w' := by
  have HS := Lib.hid (St.start w)
  go_enter Try.func33, Try.ntmps33
  go_wp2_with (first
    | (go_at_call 90; refine (some90 _).mono ?_; rintro e Wn ⟨b1, b2, b3, b4, rfl, htw, hb⟩; have HTW := Lib.hid htw; have hS := HS.out.call hb; clear hb htw; clear HS; have HS := Lib.hid hS; clear hS)
    | (go_at_call 35; refine (enc_some b1 b2 b3 b4 _ HTW.out).mono ?_; rintro e Wn ⟨A1, c1, rfl, hb⟩; have hS := HS.out.take hb; clear hb; clear HS; have HS := Lib.hid hS; clear hS))
  refine wp_region_pi [(0, true), (1, true), (2, true), (3, true), (4, true), (5, false), (6, true), (7, true), (8, true), (9, true), (10, true), (11, false), (12, false), (13, true), (14, true)] (by kernel_rfl) (by kernel_rfl) rfl (by kernel_rfl) (fun _ _ _ _ _ h => h) (fun w' => St w w' [Row (.slice A1 62 c1) 5 1 62 (bs smL)] []) HS.out.drew ?_
  intro OPS hops
  have hS := HS.out.drew
  clear HS; have HS := Lib.hid hS; clear hS
  iterate 5
    first | (refine wpPi_yield _ (by rw [hops.out]; simp only [List.getElem?_toArray, List.getElem?_cons_succ, List.getElem?_cons_zero]; rfl) (by first | rfl | (rw [hops.out]; rfl)) (fun w' hS => by first | exact run_str (xs := smL) (by rfl) (by rfl) (Row.hb (l := smL) (hS.res (i := 0) rfl)) | (go_simp; rfl)) ?_; simp only [Act.put, List.setIfInBounds_toArray, List.set_cons_succ, List.set_cons_zero]) | (refine wpPi_skip (by rw [hops.out]; simp only [List.getElem?_toArray, List.getElem?_cons_succ, List.getElem?_cons_zero]; rfl) (by first | rfl | (rw [hops.out]; rfl)) ?_; simp only [Act.put, List.setIfInBounds_toArray, List.set_cons_succ, List.set_cons_zero])
  refine wpPi_act (by rw [hops.out]; simp only [List.getElem?_toArray, List.getElem?_cons_succ, List.getElem?_cons_zero]; rfl) (by first | rfl | (rw [hops.out]; rfl)) ?_
  go_simp
  refine (rep91 _).mono ?_
  rintro e Wn ⟨rfl, hb⟩
  have hS := HS.out.call hb
  clear HS; have HS := Lib.hid hS; clear hS
  clear hb
  refine ⟨HS.out, ?_⟩
  try simp only [Act.put, List.setIfInBounds_toArray, List.set_cons_succ, List.set_cons_zero]
  iterate 5
    first | (refine wpPi_yield _ (by rw [hops.out]; simp only [List.getElem?_toArray, List.getElem?_cons_succ, List.getElem?_cons_zero]; rfl) (by first | rfl | (rw [hops.out]; rfl)) (fun w' hS => by first | exact run_str (xs := smL) (by rfl) (by rfl) (Row.hb (l := smL) (hS.res (i := 0) rfl)) | (go_simp; rfl)) ?_; simp only [Act.put, List.setIfInBounds_toArray, List.set_cons_succ, List.set_cons_zero]) | (refine wpPi_skip (by rw [hops.out]; simp only [List.getElem?_toArray, List.getElem?_cons_succ, List.getElem?_cons_zero]; rfl) (by first | rfl | (rw [hops.out]; rfl)) ?_; simp only [Act.put, List.setIfInBounds_toArray, List.set_cons_succ, List.set_cons_zero])
  rw [cmp33]
  refine wpPi_act (by rw [hops.out]; simp only [List.getElem?_toArray, List.getElem?_cons_succ, List.getElem?_cons_zero]; rfl) (by first | rfl | (rw [hops.out]; rfl)) ?_
  go_simp
  refine (some90 _).mono ?_
  rintro e Wn ⟨b1, b2, b3, b4, rfl, htw, hb⟩
  have HTW := Lib.hid htw
  have hS := HS.out.call hb
  clear HS; have HS := Lib.hid hS; clear hS
  clear hb htw
  refine ⟨HS.out, ?_⟩
  try simp only [Act.put, List.setIfInBounds_toArray, List.set_cons_succ, List.set_cons_zero]
  refine wpPi_act (by rw [hops.out]; simp only [List.getElem?_toArray, List.getElem?_cons_succ, List.getElem?_cons_zero]; rfl) (by first | rfl | (rw [hops.out]; rfl)) ?_
  go_simp
  refine (cb92 b1 b2 b3 b4 _ HTW.out).mono ?_
  rintro e Wn ⟨rfl, hb⟩
  have hS := HS.out.call hb
  clear HS; have HS := Lib.hid hS; clear hS
  clear hb
  refine ⟨HS.out, ?_⟩
  try simp only [Act.put, List.setIfInBounds_toArray, List.set_cons_succ, List.set_cons_zero]
  iterate 2
    first | (refine wpPi_yield _ (by rw [hops.out]; simp only [List.getElem?_toArray, List.getElem?_cons_succ, List.getElem?_cons_zero]; rfl) (by first | rfl | (rw [hops.out]; rfl)) (fun w' hS => by first | exact run_str (xs := smL) (by rfl) (by rfl) (Row.hb (l := smL) (hS.res (i := 0) rfl)) | (go_simp; rfl)) ?_; simp only [Act.put, List.setIfInBounds_toArray, List.set_cons_succ, List.set_cons_zero]) | (refine wpPi_skip (by rw [hops.out]; simp only [List.getElem?_toArray, List.getElem?_cons_succ, List.getElem?_cons_zero]; rfl) (by first | rfl | (rw [hops.out]; rfl)) ?_; simp only [Act.put, List.setIfInBounds_toArray, List.set_cons_succ, List.set_cons_zero])
  simp only [wpPi]
  clear OPS hops
  go_wp2_with fail
  go_ret
  exact ⟨rfl, HS.out.below⟩
end
end Go.Proofs.Yteljmpoaggfliaa
