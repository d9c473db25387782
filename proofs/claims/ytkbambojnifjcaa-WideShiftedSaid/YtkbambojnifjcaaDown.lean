/- Contracts and words that the laws stand on (Down). -/
import Derived.Test.YtkbambojnifjcaaSt
import Derived.Test.YtkbambojnifjcaaWid
import Derived.Test.YtkbambojnifjcaaBits
import Derived.Test.YtkbambojnifjcaaTimes
set_option linter.unusedVariables false
set_option linter.unusedSimpArgs false
namespace Go.Proofs.Ytkbambojnifjcaa
section
open Go Go.RowKit Go.Proofs
open Go.Shelf in
attribute [local go_sem] Oper.semAt_some
attribute [local irreducible] wc pw bl bitN fl shlW shrW Calls
set_option maxHeartbeats 1000000 in
set_option maxRecDepth 100000 in
theorem down31 (n : Nat) (w : World) : Calls Try.prog 31 #[.agg (wc n)] w fun e w' => ∃ b, e = .returned (.func (.func 39) #[] #[.pointer (some ⟨b, 0, none⟩)]) ∧ New w w' (Blk b (wc n).toList 24) := by
  have HS := Lib.hid (St.start w)
  go_enter Try.func31, Try.ntmps31
  go_wp2_with (first
    | (refine wl (by rfl) (bx24 HS.out n (by rfl) (by rfl) ?_); intro b1 Wn hS; clear HS; have HS := Lib.hid hS; clear hS))
  go_ret
  exact ⟨b1, rfl, HS.out.give 0 rfl⟩
def encD (a : Nat) (i : Fin 256) : Array Value := #[.int .i64 (i.val : Int), .int .u64 (bitN a i.val : Int)]
theorem bit_valU (x r : Nat) (hx : x < 18446744073709551616) : bits BinOp.and IntKind.u64 ((x : Int) / 2 ^ r) 1 = ((x / 2 ^ r % 2 : Nat) : Int) := by
  have h1 : ((x : Int) / 2 ^ r) = ((x / 2 ^ r : Nat) : Int) := by push_cast; rfl
  have h2 : x / 2 ^ r < 18446744073709551616 := Nat.lt_of_le_of_lt (Nat.div_le_self _ _) hx
  rw [h1]
  generalize x / 2 ^ r = y at *
  have := u64_and_nat y 1 h2 (by decide)
  rw [show (1 : Nat) = 2 ^ 1 - 1 from rfl, Nat.and_two_pow_sub_one_eq_mod] at this
  exact this
theorem heap_range {W : World} {b : Nat} {cs : Array Value} {t : TypeId} {fr : Nat × Nat} (h : W.heap[b]? = some (.cells cs t fr)) : W.rangeAt b 0 cs.toList := fun j v hv => by
  rw [Nat.zero_add, cell_of_row W b j _ _ _ h]; simpa using hv
set_option maxHeartbeats 1000000 in
set_option maxRecDepth 100000 in
theorem down1_in (n : Nat) (hn : 1 ≤ n) (b a : Nat) (ha : a < M4) (w : World) (hb : w.heap[b]? = some (.cells (wc a) 24 (0, 0))) :
    SeqStopsK Fence.wide n Try.prog 39 #[.pointer (some ⟨b, 0, none⟩)] (encD a) (Keeps (· = b)) (fun ys => ys = itemsF (blen a)) (fun _ => True) 256 w := by
  intro l J Jx W hW hJ hJx hY h0
  have hbl := (Array.getElem?_eq_some_iff.1 hb).1
  have hK := Keeps.of_below (X := (· = b)) hW (fun k hk => by subst hk; exact hbl)
  have hbW := (hK b rfl).trans hb
  have hlen := len26 a ha
  have hl256 := blen_le a ha
  have HLEN := Lib.hid hlen; have HBW := Lib.hid hbW; have HB := Lib.hid hb
  clear hlen hbW hb ha
  obtain ⟨m, hm⟩ : ∃ m, m = blen a := ⟨_, rfl⟩
  rw [← hm] at hl256 HLEN ⊢
  clear hm
  have h26 : Fence.wide.fn 26 := trivial
  refine callsIn_of_wp Try.func39 rfl trivial ?_ rfl
  simp only [Try.ntmps39, List.size_toArray, List.length_cons, List.length_nil, Nat.reduceAdd, Nat.reduceSub, Array.replicate_succ, Array.replicate_zero, List.push_toArray, List.append_toArray, List.nil_append, List.cons_append]
  gi_wp2_with (first
    | (refine il (by rfl) (wpIn_of_run (by intro c h; cases h) (by rfl) (run_lda ag24 (by rfl) (by rfl) (heap_range HBW.out) (wc_len a)) ?_))
    | (gi_at_call 26; refine (callsIn_wide.2 (HLEN.out _)).mono ?_; rintro e W1 ⟨rfl, hb1⟩))
  gi_loopw [3] (fun s3 wr => ∃ (j : Nat) (pre : List (Fin 256)), s3 = .int .i64 ((j : Int) - 1) ∧ itemsF m = pre ++ itemsF j ∧ j ≤ m ∧ Keeps (· = b) w wr ∧ J pre wr) (fun s3 _ => (intOf s3 + 1).toNat)
  case atStart => exact ⟨m, [], rfl, rfl, Nat.le_refl _, hK.trans (Keeps.of_below hb1 (fun k hk => by subst hk; exact Nat.lt_of_lt_of_le hbl hW.size)), hJ [] W W1 none h0 ⟨hb1.os, hb1.tape, hb1.output, hb1.size, fun k hk _ => hb1.block k hk⟩ (fun r e => by cases e)⟩
  case round =>
    obtain ⟨j, pre, rfl, hx, hj, hK1, hJ1⟩ := hrel
    have HX := Lib.hid hx; clear hx
    cases j with
    | zero =>
      gi_wp2
      go_end0
      exact ⟨⟨_, rfl⟩, .inl ⟨itemsF m, rfl, by rw [HX.out]; simpa [itemsF] using hJ1⟩⟩
    | succ i =>
      have hb2 := (hK1 b rfl).trans HB.out
      have hc1 : wr.cell? ⟨b, i / 64, none⟩ = some (.int .u64 (wk a (i / 64) : Nat)) := (cell_of_row wr b _ _ _ _ hb2).trans (wc_get a _ (by omega))
      have hbt := wk_bit a i (by omega)
      have hxl := wk_lt a (i / 64)
      obtain ⟨x, hx⟩ : ∃ x, x = wk a (i / 64) := ⟨_, rfl⟩
      rw [← hx] at hc1 hbt hxl
      have hval := bit_valU x (i % 64) hxl
      rw [hbt] at hval
      have hlen : pre.length < 256 := by
        have := congrArg List.length HX.out
        simp only [List.length_append, itemsF_len] at this
        omega
      obtain ⟨fn, tmps, assign, body, hy, hR⟩ := hY pre ⟨i % 256, Nat.mod_lt _ (by decide)⟩ wr hJ1 hlen
      have hmod : i % 256 = i := Nat.mod_eq_of_lt (by omega)
      dsimp only [encD] at hy
      rw [hmod] at hy
      have hx2 : itemsF m = (pre ++ [⟨i % 256, Nat.mod_lt _ (by decide)⟩]) ++ itemsF i := by rw [HX.out, itemsF]; simp
      have HX2 := Lib.hid hx2
      have hj1 : ((i + 1 : Nat) : Int) - 1 = (i : Int) := by omega
      rw [hj1]
      have ki0 : (0 : Int) ≤ (i : Int) := by omega
      have kq0 : (0 : Int) ≤ (i : Int) / 64 := by omega
      have kq1 : (i : Int) / 64 < 4 := by omega
      clear hx2 hj1 hx hbt hb2 hmod
      gi_wp2
      refine hR.mono ?_
      rintro e W3 (⟨rfl, hJ3, hk3⟩ | ⟨rfl, hJx3⟩)
      · gi_wp2
        go_roundw
        case rel => exact ⟨i, pre ++ [⟨i % 256, Nat.mod_lt _ (by decide)⟩], by go_num, HX2.out, by omega, hK1.trans hk3, hJ3⟩
        case measure => simp [intOf]
      · gi_wp2
        refine bodyPost_ret (results_none rfl _ _ _) rfl ?_
        exact ⟨⟨_, rfl⟩, .inr ⟨pre ++ [⟨i % 256, Nat.mod_lt _ (by decide)⟩], trivial, hJx3⟩⟩
end
section
open Go Go.RowKit Go.Proofs
attribute [local irreducible] wc pw bl bitN fl shlW shrW Calls cmpW dfold
section
variable {k0 w W : World} {L : List Res} {Fs : List (World → Prop)} {o : Oper} {a : Act} {K : Act → World → Prop} {Q : Exit → Act → World → Prop} {b n m : Nat} {T : TypeId} {x y : Operand} {F : Fence} {f : Nat}
theorem ild24 (hS : Sk k0 w W L Fs) (i : Nat) (ho : o.op = .load 24 x) (hx : a.eval x = .pointer (some ⟨b, 0, none⟩)) (hi : L[i]? = some (Blk b (wc n).toList T)) (h : K (a.put o.dst (.agg (wc n))) W) : o.wpIn F f Try.prog a W K Q :=
  i_lda hS i 4 ho hx hi ag24 (by rw [List.drop_zero, List.take_of_length_le (by rw [wc_len]; omega)]) (wc_len n) h
theorem kst24 (hS : Sk k0 w W L Fs) (i m : Nat) (ho : o.op = .store 24 x y) (hx : a.eval x = .pointer (some ⟨b, 0, none⟩)) (hi : L[i]? = some (Blk b (wc n).toList T)) (hy : a.eval y = .agg (wc m)) (h : ∀ W', Sk k0 w W' (L.set i (Blk b (wc m).toList T)) Fs → K (a.put o.dst undef) W') : o.wp Try.prog a W K Q :=
  wp_of_skip (run_sta (cs := (wc m).toList) ag24 ho hx (by rw [hy]) (wc_len m) (fun v hv => Array.all_eq_true_iff_forall_mem.1 (wc_one m) v (by simpa using hv)) (hS.st.there hi (by rw [wc_len, wc_len]; omega))) (h _ (by
    have hS' := St.setCells (wc m).toList 0 (wc n).toList W L hS.st hi (by rw [wc_len, wc_len]; omega)
    have e : splice (wc n).toList 0 (wc m).toList = (wc m).toList := by
      unfold splice
      rw [List.take_zero, List.drop_eq_nil_of_le (by rw [wc_len, wc_len]; omega), List.append_nil]
      rfl
    rw [e] at hS'
    exact ⟨hS', hS.oth.trans (KeepsOthers.setCells b _ _ W)⟩))
theorem ist24 (hS : Sk k0 w W L Fs) (i m : Nat) (ho : o.op = .store 24 x y) (hx : a.eval x = .pointer (some ⟨b, 0, none⟩)) (hi : L[i]? = some (Blk b (wc n).toList T)) (hy : a.eval y = .agg (wc m)) (h : ∀ W', Sk k0 w W' (L.set i (Blk b (wc m).toList T)) Fs → K (a.put o.dst undef) W') : o.wpIn F f Try.prog a W K Q :=
  i_sta (cs := (wc m).toList) hS i 4 ho hx hi ag24 (by rw [hy]) (wc_len m) (fun v hv => Array.all_eq_true_iff_forall_mem.1 (wc_one m) v (by simpa using hv)) (by rw [wc_len]; omega) (fun W' hS' => h W' (by
    have e : splice (wc n).toList 0 (wc m).toList = (wc m).toList := by
      unfold splice
      rw [List.take_zero, List.drop_eq_nil_of_le (by rw [wc_len, wc_len]; omega), List.append_nil]
      rfl
    rwa [e] at hS'))
end
set_option maxHeartbeats 1000000 in
set_option maxRecDepth 100000 in
theorem div16z (n : Nat) (w : World) : Calls Try.prog 16 #[.agg (wc n), .agg (wc 0)] w fun e w' => e = .returned (.tuple #[.agg (wc 0), .agg (wc 0), .int .i64 30]) ∧ Below w.heap.size w w' := by
  have HS := Lib.hid (St.start w)
  have heq := run_eq24 0 0 (by decide) (by decide)
  rw [decide_eq_true rfl] at heq
  have hg := guard24
  have hz := wc_zero
  have heq2 : ∀ w, (binOp .eql 24 (.agg (wc 0)) (.agg #[.int .u64 0, .int .u64 0, .int .u64 0, .int .u64 0])).run Try.prog w = .ok (.bool true) w := by rw [← hz]; exact heq
  clear hz heq
  go_enter Try.func16, Try.ntmps16
  go_wp2_with (first
    | (refine atd 2 (by rfl) ?_; refine wl (by rfl) (bx24 HS.out n (by rfl) (by rfl) ?_); intro b2 Wn hS; clear HS; have HS := Lib.hid hS; clear hS)
    | (refine atd 3 (by rfl) ?_; refine wl (by rfl) (bx24 HS.out 0 (by rfl) (by rfl) ?_); intro b3 Wn hS; clear HS; have HS := Lib.hid hS; clear hS)
    | (refine atd 4 (by rfl) ?_; refine wl (by rfl) (s_al HS.out (by rfl) z24 (by rfl) ?_); intro b4 Wn hS; replace hS := al24 hS; clear HS; have HS := Lib.hid hS; clear hS)
    | (refine atd 5 (by rfl) ?_; refine wl (by rfl) (s_al HS.out (by rfl) z24 (by rfl) ?_); intro b5 Wn hS; replace hS := al24 hS; clear HS; have HS := Lib.hid hS; clear hS))
  go_step3
  go_wp2_with (first
    | (refine wl (by rfl) (ld24 HS.out 2 (by rfl) (by rfl) (by rfl) ?_)))
  refine wp_region_pi [(0, true), (1, true), (2, false), (3, false), (4, true)] (by kernel_rfl) (by kernel_rfl) rfl (by kernel_rfl) (fun _ _ _ _ _ h => h) (fun w' => St w w' [Blk b5 (wc 0).toList 24, Blk b4 (wc 0).toList 24, Blk b3 (wc 0).toList 24, Blk b2 (wc n).toList 24] []) HS.out.drew ?_
  intro OPS hops
  have hS := HS.out.drew
  clear HS; have HS := Lib.hid hS; clear hS
  iterate 2
    first | (refine wpPi_yield _ (by rw [hops.out]; simp only [List.getElem?_toArray, List.getElem?_cons_succ, List.getElem?_cons_zero]; rfl) (by first | rfl | (rw [hops.out]; rfl)) (fun w' hS => by first | exact ldw hS 1 (by rfl) (by rfl) (by rfl) | exact ldw hS 0 (by rfl) (by rfl) (by rfl) | (go_simp; rfl)) ?_; simp only [Act.put, List.setIfInBounds_toArray, List.set_cons_succ, List.set_cons_zero]) | (refine wpPi_skip (by rw [hops.out]; simp only [List.getElem?_toArray, List.getElem?_cons_succ, List.getElem?_cons_zero]; rfl) (by first | rfl | (rw [hops.out]; rfl)) ?_; simp only [Act.put, List.setIfInBounds_toArray, List.set_cons_succ, List.set_cons_zero])
  refine wpPi_act (by rw [hops.out]; simp only [List.getElem?_toArray, List.getElem?_cons_succ, List.getElem?_cons_zero]; rfl) (by first | rfl | (rw [hops.out]; rfl)) ?_
  refine st24 HS.out 1 0 (by rfl) (by rfl) (by rfl) (by rfl) ?_
  intro Wn hS
  clear HS; have HS := Lib.hid hS; clear hS
  refine ⟨HS.out, ?_⟩
  try simp only [Act.put, List.setIfInBounds_toArray, List.set_cons_succ, List.set_cons_zero]
  refine wpPi_act (by rw [hops.out]; simp only [List.getElem?_toArray, List.getElem?_cons_succ, List.getElem?_cons_zero]; rfl) (by first | rfl | (rw [hops.out]; rfl)) ?_
  refine st24 HS.out 0 0 (by rfl) (by rfl) (by rfl) (by rfl) ?_
  intro Wn hS
  clear HS; have HS := Lib.hid hS; clear hS
  refine ⟨HS.out, ?_⟩
  try simp only [Act.put, List.setIfInBounds_toArray, List.set_cons_succ, List.set_cons_zero]
  iterate 1
    first | (refine wpPi_yield _ (by rw [hops.out]; simp only [List.getElem?_toArray, List.getElem?_cons_succ, List.getElem?_cons_zero]; rfl) (by first | rfl | (rw [hops.out]; rfl)) (fun w' hS => by first | exact ldw hS 1 (by rfl) (by rfl) (by rfl) | exact ldw hS 0 (by rfl) (by rfl) (by rfl) | (go_simp; rfl)) ?_; simp only [Act.put, List.setIfInBounds_toArray, List.set_cons_succ, List.set_cons_zero]) | (refine wpPi_skip (by rw [hops.out]; simp only [List.getElem?_toArray, List.getElem?_cons_succ, List.getElem?_cons_zero]; rfl) (by first | rfl | (rw [hops.out]; rfl)) ?_; simp only [Act.put, List.setIfInBounds_toArray, List.set_cons_succ, List.set_cons_zero])
  simp only [wpPi]
  clear OPS hops
  go_wp2_with fail
  rw [Exit.noGoto_ret]
  exact bodyPost_ret (ret_cct (p := 4) (q := 5) (u := 6) rfl _ b4 b5 _ _ 24 24 (0, 0) (0, 0) _ (by rfl) (by rfl) (by rfl) (HS.out.blk (i := 1) rfl) (wc_len _) (HS.out.blk (i := 0) rfl) (wc_len _)) rfl ⟨rfl, HS.out.below⟩
end
section
open Go Go.RowKit Go.Proofs
attribute [local go_sem] Oper.semAt_some
attribute [local irreducible] wc pw bl bitN fl shlW shrW Calls cmpW dfold
set_option maxHeartbeats 4000000 in
set_option maxRecDepth 100000 in
theorem div16 (n m : Nat) (hn : n < M4) (hm0 : 0 < m) (hm : m < M4) (w : World) : Calls Try.prog 16 #[.agg (wc n), .agg (wc m)] w fun e w' => e = .returned (.tuple #[.agg (wc (n / m)), .agg (wc (n % m)), .int .i64 0]) ∧ Below w.heap.size w w' := by
  have HS := Lib.hid (St.start w)
  have heq := run_eq24 m 0 hm (by decide)
  rw [decide_eq_false (by omega)] at heq
  have hg := guard24
  have hz := wc_zero
  have heq2 : ∀ w, (binOp .eql 24 (.agg (wc m)) (.agg #[.int .u64 0, .int .u64 0, .int .u64 0, .int .u64 0])).run Try.prog w = .ok (.bool false) w := by rw [← hz]; exact heq
  have hall := dfold_all n m hn hm0 hm
  have HALL := Lib.hid hall; have HN := Lib.hid hn; have HM := Lib.hid hm
  clear hz heq hall hn hm
  refine (callsIn_wide (n := 3)).1 ?_
  refine callsIn_of_wp_marks Try.func16 rfl trivial ?_ rfl
  simp only [Try.ntmps16, List.size_toArray, List.length_cons, List.length_nil, Nat.reduceAdd, Nat.reduceSub, Array.replicate_succ, Array.replicate_zero, List.push_toArray, List.append_toArray, List.nil_append, List.cons_append]
  refine wpIn_wide.2 ?_
  go_wp2_with (first
    | (refine atd 2 (by rfl) ?_; refine wl (by rfl) (bx24 HS.out n (by rfl) (by rfl) ?_); intro b2 Wn hS; clear HS; have HS := Lib.hid hS; clear hS)
    | (refine atd 3 (by rfl) ?_; refine wl (by rfl) (bx24 HS.out m (by rfl) (by rfl) ?_); intro b3 Wn hS; clear HS; have HS := Lib.hid hS; clear hS)
    | (refine atd 4 (by rfl) ?_; refine wl (by rfl) (s_al HS.out (by rfl) z24 (by rfl) ?_); intro b4 Wn hS; replace hS := al24 hS; clear HS; have HS := Lib.hid hS; clear hS)
    | (refine atd 5 (by rfl) ?_; refine wl (by rfl) (s_al HS.out (by rfl) z24 (by rfl) ?_); intro b5 Wn hS; replace hS := al24 hS; clear HS; have HS := Lib.hid hS; clear hS))
  go_step3
  go_wp2_with (first
    | (refine wl (by rfl) (ld24 HS.out 2 (by rfl) (by rfl) (by rfl) ?_)))
  go_step3
  go_wp2_with (first
    | (refine wl (by rfl) (ld24 HS.out 3 (by rfl) (by rfl) (by rfl) ?_))
    | (go_at_call 31; refine (down31 n _).mono ?_; rintro e Wn ⟨bi, rfl, hb⟩; have hS := HS.out.take hb; clear hb; clear HS; have HS := Lib.hid hS; clear hS))
  refine (wpIn_wide (n := 3)).1 ?_
  have hbz := HS.out.below.size
  refine wpIn_rangeFunc_ownF (n := 3) rfl (by omega) (gf := 39) (lb := #[.pointer (some ⟨bi, 0, none⟩)]) rfl trivial (enters_of Try.func39 (by kernel_rfl) rfl)
    (down1_in 2 (by omega) bi n HN.out _ (HS.out.blk (i := 0) rfl)) Keeps.trans ?hKb (Below.refl _ _) (fun _ => rfl)
    (fun pre W => St w W [Blk bi (wc n).toList 24, Blk b5 (wc (dfold n m pre).2).toList 24, Blk b4 (wc (dfold n m pre).1).toList 24, Blk b3 (wc m).toList 24, Blk b2 (wc n).toList 24] []) (fun _ _ _ => False) (St.ownFrom HS.out.below.size _ (fun _ => [])) (fun _ => ownFrom_pure _ _) (by rw [dfold_nil]; exact HS.out)
    ?a1 ?assign ?body ?done ?stop
  case assign =>
    intro l x W K hK
    dsimp only [encD]
    gi_wp2
    exact hK
  case hKb =>
    rintro W l o o' hl _ _ _ g rfl
    refine World.putObj_heap_other ?_
    have := (HS.out.own _ (List.mem_of_getElem? (i := 0) rfl)).2 g (by simp [Blk])
    omega
  case stop =>
    rintro D c pre W hD hpre h hK
    exact h.elim
  case done =>
    rintro D ys W hD rfl hS hK
    rw [HALL.out] at hS
    clear HS
    have HS := Lib.hid hS.sk
    have HK := Lib.hid hK
    have HD := Lib.hid (Nat.le_trans hbz hD)
    clear hS hK hD hbz
    simp only [Exit.inBlock]
    go_wp2_with fail
    apply region_join0 (S := fun V => Sk W w V [Blk bi (wc n).toList 24, Blk b5 (wc (n / m, n % m).2).toList 24, Blk b4 (wc (n / m, n % m).1).toList 24, Blk b3 (wc m).toList 24, Blk b2 (wc n).toList 24] [])
    case hreg =>
      refine wp_region_tr (.yield 0 (.yield 1 (.act 2 (.act 3 (.yield 4 .done) .none) .none))) (by kernel_rfl) (by kernel_rfl) (by kernel_rfl) (fun _ _ _ _ _ h => absurd h.1 (by simp)) (fun w' => Sk W w w' [Blk bi (wc n).toList 24, Blk b5 (wc (n / m, n % m).2).toList 24, Blk b4 (wc (n / m, n % m).1).toList 24, Blk b3 (wc m).toList 24, Blk b2 (wc n).toList 24] []) HS.out.drew ?_
      intro OPS hops
      have hS := HS.out.drew
      have HS := Lib.hid hS; clear hS
      refine wpT_yield _ (by rw [hops.out]; simp only [List.getElem?_toArray, List.getElem?_cons_succ, List.getElem?_cons_zero]; rfl) (by first | rfl | (rw [hops.out]; rfl)) (fun w' hS => by first | exact ldw hS.st 2 (by rfl) (by rfl) (by rfl) | exact ldw hS.st 1 (by rfl) (by rfl) (by rfl) | (go_simp; rfl)) ?_
      simp only [Act.put, List.setIfInBounds_toArray, List.set_cons_succ, List.set_cons_zero]
      refine wpT_yield _ (by rw [hops.out]; simp only [List.getElem?_toArray, List.getElem?_cons_succ, List.getElem?_cons_zero]; rfl) (by first | rfl | (rw [hops.out]; rfl)) (fun w' hS => by first | exact ldw hS.st 2 (by rfl) (by rfl) (by rfl) | exact ldw hS.st 1 (by rfl) (by rfl) (by rfl) | (go_simp; rfl)) ?_
      simp only [Act.put, List.setIfInBounds_toArray, List.set_cons_succ, List.set_cons_zero]
      refine wpT_act (by rw [hops.out]; simp only [List.getElem?_toArray, List.getElem?_cons_succ, List.getElem?_cons_zero]; rfl) (by first | rfl | (rw [hops.out]; rfl)) ?_ trivial
      refine kst24 HS.out 2 (n / m) (by rfl) (by rfl) (by rfl) (by rfl) ?_
      intro Wn hS
      have HS := Lib.hid hS; clear hS
      refine ⟨HS.out, ?_⟩
      try simp only [Act.put, List.setIfInBounds_toArray, List.set_cons_succ, List.set_cons_zero]
      refine wpT_act (by rw [hops.out]; simp only [List.getElem?_toArray, List.getElem?_cons_succ, List.getElem?_cons_zero]; rfl) (by first | rfl | (rw [hops.out]; rfl)) ?_ trivial
      refine kst24 HS.out 1 (n % m) (by rfl) (by rfl) (by rfl) (by rfl) ?_
      intro Wn hS
      have HS := Lib.hid hS; clear hS
      refine ⟨HS.out, ?_⟩
      try simp only [Act.put, List.setIfInBounds_toArray, List.set_cons_succ, List.set_cons_zero]
      refine wpT_yield _ (by rw [hops.out]; simp only [List.getElem?_toArray, List.getElem?_cons_succ, List.getElem?_cons_zero]; rfl) (by first | rfl | (rw [hops.out]; rfl)) (fun w' hS => by first | exact ldw hS.st 2 (by rfl) (by rfl) (by rfl) | exact ldw hS.st 1 (by rfl) (by rfl) (by rfl) | (go_simp; rfl)) ?_
      simp only [Act.put, List.setIfInBounds_toArray, List.set_cons_succ, List.set_cons_zero]
      exact ⟨rfl, rfl, HS.out⟩
    case hK =>
      intro Wn hS
      clear HS; have HS := Lib.hid hS; clear hS
      go_wp2_with fail
      have hKn := HS.out.oth.same D _ HK.out rfl
      try rw [Exit.noGoto_ret]
      refine ⟨by simp, .inl ⟨_, _, rfl, run_takeDeferred hKn, ?_⟩⟩
      have hS2 := HS.out.st.book (W' := Wn.putObj D (.deferred none)) (grownBy_putObj' Wn D _) (fun r e => by cases e; exact ⟨HD.out, _, hKn, rfl⟩)
      exact ⟨_, ret_cct (p := 4) (q := 5) (u := 6) rfl _ b4 b5 _ _ 24 24 (0, 0) (0, 0) _ (by rfl) (by rfl) (by rfl) (hS2.blk (i := 2) rfl) (wc_len _) (hS2.blk (i := 1) rfl) (wc_len _), rfl, hS2.below⟩
  case body =>
    rintro l pre x W hS hlt
    have hdl := dfold_lt n m HM.out pre
    have hsn := dfold_snoc n m pre x
    obtain ⟨⟨q, r⟩, hqr⟩ : ∃ s, s = dfold n m pre := ⟨_, rfl⟩
    rw [← hqr] at hS hdl hsn
    have HSN := Lib.hid hsn
    clear HS hqr hsn hlt
    have HS := Lib.hid hS.sk
    have HS0 := Lib.hid hS
    clear hS
    obtain ⟨hq, hr⟩ := hdl
    simp only at hq hr
    have hv3 := wc_getL r 3 (by decide)
    have hhb := high_bit r hr
    have hL := fun w => left21 r 1 hr (by decide) w
    have hsh : shlW r 1 = r * 2 % M4 := by unfold shlW; rw [if_neg (by decide)]; rfl
    rw [hsh] at hL
    have hb1 := bitN_lt n x.val
    obtain ⟨w1, w2, w3, w4⟩ := rest_word r (bitN n x.val) (by omega)
    have hv0 := wc_getL (r * 2 % M4) 0 (by decide)
    have hset0 := wc_putL (r * 2 % M4) 0 (wk (r * 2 % M4) 0 + bitN n x.val) (by decide) w1
    rw [w3] at hset0
    have hor := or_one (wk (r * 2 % M4) 0) (bitN n x.val) (wk_lt _ _) (by omega)
    rw [w2] at hor
    have hcm := fun w => compare15 (r * 2 % M4 + bitN n x.val) m w4 HM.out w
    have hsb := fun w => sub13 (r * 2 % M4 + bitN n x.val) m w4 HM.out w
    have hov := bitN_lt r 255
    rw [← hhb] at hov
    have HLF := Lib.hid hL; have HV3 := Lib.hid hv3; have HV0 := Lib.hid hv0; have HSET0 := Lib.hid hset0; have HOR := Lib.hid hor; have HCM := Lib.hid hcm; have HSB := Lib.hid hsb; have HHB := Lib.hid hhb
    clear hL hv3 hv0 hset0 hor hcm hsb hsh hhb w1 w2 w3 w4
    have h21 : Fence.wide.fn 21 := trivial
    have h15 : Fence.wide.fn 15 := trivial
    have h13 : Fence.wide.fn 13 := trivial
    have hx0 : (0 : Int) ≤ (x.val : Int) := by omega
    have hx1 : (x.val : Int) < 256 := by have := x.isLt; omega
    have kq0 : (0 : Int) ≤ (x.val : Int) / 64 := by omega
    have kq1 : (x.val : Int) / 64 < 4 := by omega
    have kqw : IntKind.i64.wrap ((x.val : Int) / 64) = (x.val : Int) / 64 := by rw [IntKind.wrap_i64]; omega
    have kqm : IntKind.i64.wrap ((x.val : Int) % 64) = (x.val : Int) % 64 := by rw [IntKind.wrap_i64]; omega
    have kqn : (0 : Int) ≤ (x.val : Int) % 64 := by omega
    obtain ⟨u1, u2⟩ := or_word q x.val x.isLt
    have hvq := wc_getL q (x.val / 64) (by have := x.isLt; omega)
    have hsetq := wc_putL q (x.val / 64) (wk q (x.val / 64) + (1 - bitN q x.val) * 2 ^ (x.val % 64)) (by have := x.isLt; omega) u1
    rw [u2] at hsetq
    have horq := or_pow' (wk q (x.val / 64)) x.val (wk_lt _ _)
    rw [bit_or, wk_bitN q x.val x.isLt] at horq
    have HVQ := Lib.hid hvq; have HSETQ := Lib.hid hsetq; have HORQ := Lib.hid horq
    clear u1 u2 hvq hsetq horq
    have hxq : x.val / 64 < 4 := by have := x.isLt; omega
    by_cases hge : r * 2 % M4 + bitN n x.val < m
    · by_cases ho : bitN r 255 = 0
      · have hstep : dstep n m (q, r) x = (q, r * 2 % M4 + bitN n x.val) := by unfold dstep; rw [if_pos ⟨ho, hge⟩]
        have hcp : cmpW (r * 2 % M4 + bitN n x.val) m < 0 := by unfold cmpW; rw [if_neg (by omega), if_pos (by omega)]; decide
        have hd9 : (((wk r 3 : Nat) : Int) / 9223372036854775808 == 0) = true := by have := HHB.out; rw [ho] at this; simp; omega
        have HSTEP := Lib.hid hstep
        generalize cmpW (r * 2 % M4 + bitN n x.val) m = cv at *
        clear hstep ho hge hov
        gi_wp2_with (first
          | (refine il (by rfl) (i_ld HS.out 1 (by rfl) (by rfl) (by rfl) (by kernel_rfl) HV3.out ?_))
          | (refine il (by rfl) (ild24 HS.out 1 (by rfl) (by rfl) (by rfl) ?_))
          | (gi_at_call 21; refine (callsIn_wide.2 (HLF.out _)).mono ?_; rintro e Wn ⟨rfl, hb⟩; have hS := HS.out.call hb; clear hb; clear HS; have HS := Lib.hid hS; clear hS)
          | (refine il (by rfl) (ist24 HS.out 1 (r * 2 % M4) (by rfl) (by rfl) (by rfl) (by rfl) ?_); intro Wn hS; clear HS; have HS := Lib.hid hS; clear hS)
          | (refine il (by rfl) (i_ld HS.out 1 (by rfl) (by rfl) (by rfl) (by kernel_rfl) HV0.out ?_))
          | (refine il (by rfl) (i_st (v := .int .u64 (wk (r * 2 % M4) 0 + bitN n x.val : Nat)) HS.out 1 (by rfl) (by rfl) (by rfl) (by kernel_rfl) (by exact congrArg (Value.int .u64) HOR.out) (by rfl) (by rw [wc_len]; omega) ?_); intro Wn hS; rw [show List.set (List.set [Blk bi (wc n).toList 24, Blk b5 (wc r).toList 24, Blk b4 (wc q).toList 24, Blk b3 (wc m).toList 24, Blk b2 (wc n).toList 24] 1 (Blk b5 (wc (r * 2 % M4)).toList 24)) 1 (Blk b5 ((wc (r * 2 % M4)).toList.set 0 (.int .u64 (wk (r * 2 % M4) 0 + bitN n x.val : Nat))) 24) = [Blk bi (wc n).toList 24, Blk b5 (wc (r * 2 % M4 + bitN n x.val)).toList 24, Blk b4 (wc q).toList 24, Blk b3 (wc m).toList 24, Blk b2 (wc n).toList 24] from by rw [HSET0.out]; rfl] at hS; clear HS; have HS := Lib.hid hS; clear hS)
          | (refine itd 32 (by rfl) ?_; refine il (by rfl) (ild24 HS.out 1 (by rfl) (by rfl) (by rfl) ?_))
          | (refine itd 33 (by rfl) ?_; refine il (by rfl) (ild24 HS.out 3 (by rfl) (by rfl) (by rfl) ?_))
          | (gi_at_call 15; refine (callsIn_wide.2 (HCM.out _)).mono ?_; rintro e Wn ⟨rfl, hb⟩; have hS := HS.out.call hb; clear hb; clear HS; have HS := Lib.hid hS; clear hS))
        refine ⟨HS.out.oth, Keeps.of_blk HS0.out (i := 0) rfl HS.out.st (j := 0) rfl, ?_⟩
        show St w _ [Blk bi (wc n).toList 24, Blk b5 (wc (dfold n m (pre ++ [x])).2).toList 24, Blk b4 (wc (dfold n m (pre ++ [x])).1).toList 24, Blk b3 (wc m).toList 24, Blk b2 (wc n).toList 24] []
        rw [HSN.out, HSTEP.out]
        exact HS.out.st
      · have hstep : dstep n m (q, r) x = (q + (1 - bitN q x.val) * 2 ^ x.val, (r * 2 % M4 + bitN n x.val + M4 - m) % M4) := by unfold dstep; rw [if_neg (fun h => ho h.1)]
        have hd9 : (((wk r 3 : Nat) : Int) / 9223372036854775808 == 0) = false := by have := HHB.out; simp; omega
        have HSTEP := Lib.hid hstep
        clear hstep ho hge hov
        gi_wp2_with (first
          | (refine il (by rfl) (i_ld HS.out 1 (by rfl) (by rfl) (by rfl) (by kernel_rfl) HV3.out ?_))
          | (refine il (by rfl) (ild24 HS.out 1 (by rfl) (by rfl) (by rfl) ?_))
          | (gi_at_call 21; refine (callsIn_wide.2 (HLF.out _)).mono ?_; rintro e Wn ⟨rfl, hb⟩; have hS := HS.out.call hb; clear hb; clear HS; have HS := Lib.hid hS; clear hS)
          | (refine il (by rfl) (ist24 HS.out 1 (r * 2 % M4) (by rfl) (by rfl) (by rfl) (by rfl) ?_); intro Wn hS; clear HS; have HS := Lib.hid hS; clear hS)
          | (refine il (by rfl) (i_ld HS.out 1 (by rfl) (by rfl) (by rfl) (by kernel_rfl) HV0.out ?_))
          | (refine il (by rfl) (i_st (v := .int .u64 (wk (r * 2 % M4) 0 + bitN n x.val : Nat)) HS.out 1 (by rfl) (by rfl) (by rfl) (by kernel_rfl) (by exact congrArg (Value.int .u64) HOR.out) (by rfl) (by rw [wc_len]; omega) ?_); intro Wn hS; rw [show List.set (List.set [Blk bi (wc n).toList 24, Blk b5 (wc r).toList 24, Blk b4 (wc q).toList 24, Blk b3 (wc m).toList 24, Blk b2 (wc n).toList 24] 1 (Blk b5 (wc (r * 2 % M4)).toList 24)) 1 (Blk b5 ((wc (r * 2 % M4)).toList.set 0 (.int .u64 (wk (r * 2 % M4) 0 + bitN n x.val : Nat))) 24) = [Blk bi (wc n).toList 24, Blk b5 (wc (r * 2 % M4 + bitN n x.val)).toList 24, Blk b4 (wc q).toList 24, Blk b3 (wc m).toList 24, Blk b2 (wc n).toList 24] from by rw [HSET0.out]; rfl] at hS; clear HS; have HS := Lib.hid hS; clear hS)
          | (refine itd 32 (by rfl) ?_; refine il (by rfl) (ild24 HS.out 1 (by rfl) (by rfl) (by rfl) ?_))
          | (refine itd 33 (by rfl) ?_; refine il (by rfl) (ild24 HS.out 3 (by rfl) (by rfl) (by rfl) ?_))
          | (gi_at_call 15; refine (callsIn_wide.2 (HCM.out _)).mono ?_; rintro e Wn ⟨rfl, hb⟩; have hS := HS.out.call hb; clear hb; clear HS; have HS := Lib.hid hS; clear hS)
          | (refine itd 38 (by rfl) ?_; refine il (by rfl) (ild24 HS.out 1 (by rfl) (by rfl) (by rfl) ?_))
          | (refine itd 39 (by rfl) ?_; refine il (by rfl) (ild24 HS.out 3 (by rfl) (by rfl) (by rfl) ?_))
          | (gi_at_call 13; refine (callsIn_wide.2 (HSB.out _)).mono ?_; rintro e Wn ⟨rfl, hb⟩; have hS := HS.out.call hb; clear hb; clear HS; have HS := Lib.hid hS; clear hS)
          | (refine il (by rfl) (ist24 HS.out 1 ((r * 2 % M4 + bitN n x.val + M4 - m) % M4) (by rfl) (by rfl) (by rfl) (by rfl) ?_); intro Wn hS; clear HS; have HS := Lib.hid hS; clear hS))
        refine wpIn_region_tr (.yield 0 (.yield 1 (.yield 2 (.yield 4 (.yield 5 (.yield 6 (.act 3 (.yield 7 (.yield 8 (.act 9 .done .none))) .none))))))) (fun _ => trivial) (by kernel_rfl) (by kernel_rfl) (by kernel_rfl) (by kernel_rfl) (fun _ _ _ _ _ h => h) (fun w' => Sk W w w' [Blk bi (wc n).toList 24, Blk b5 (wc ((r * 2 % M4 + bitN n x.val + M4 - m) % M4)).toList 24, Blk b3 (wc m).toList 24, Blk b2 (wc n).toList 24] []) (HS.out.drew.sub 2) ?_
        intro OPS hops
        have hS := HS.out.drew
        clear HS; have HS := Lib.hid hS; clear hS
        refine wpTI_yield _ (by rw [hops.out]; simp only [List.getElem?_toArray, List.getElem?_cons_succ, List.getElem?_cons_zero]; rfl) (by first | rfl | (rw [hops.out]; rfl)) (fun w' hS => by first | (go_simp; rfl)) ?_
        simp only [Act.put, List.setIfInBounds_toArray, List.set_cons_succ, List.set_cons_zero]
        refine wpTI_yield _ (by rw [hops.out]; simp only [List.getElem?_toArray, List.getElem?_cons_succ, List.getElem?_cons_zero]; rfl) (by first | rfl | (rw [hops.out]; rfl)) (fun w' hS => by first | (go_simp; rfl)) ?_
        simp only [Act.put, List.setIfInBounds_toArray, List.set_cons_succ, List.set_cons_zero]
        refine wpTI_yield _ (by rw [hops.out]; simp only [List.getElem?_toArray, List.getElem?_cons_succ, List.getElem?_cons_zero]; rfl) (by first | rfl | (rw [hops.out]; rfl)) (fun w' hS => by first | (go_simp; rfl)) ?_
        simp only [Act.put, List.setIfInBounds_toArray, List.set_cons_succ, List.set_cons_zero]
        refine wpTI_yield _ (by rw [hops.out]; simp only [List.getElem?_toArray, List.getElem?_cons_succ, List.getElem?_cons_zero]; rfl) (by first | rfl | (rw [hops.out]; rfl)) (fun w' hS => by first | (go_simp; rfl)) ?_
        simp only [Act.put, List.setIfInBounds_toArray, List.set_cons_succ, List.set_cons_zero]
        refine wpTI_yield _ (by rw [hops.out]; simp only [List.getElem?_toArray, List.getElem?_cons_succ, List.getElem?_cons_zero]; rfl) (by first | rfl | (rw [hops.out]; rfl)) (fun w' hS => by first | (go_simp; rfl)) ?_
        simp only [Act.put, List.setIfInBounds_toArray, List.set_cons_succ, List.set_cons_zero]
        refine wpTI_yield _ (by rw [hops.out]; simp only [List.getElem?_toArray, List.getElem?_cons_succ, List.getElem?_cons_zero]; rfl) (by first | rfl | (rw [hops.out]; rfl)) (fun w' hS => by first | (go_simp; rfl)) ?_
        simp only [Act.put, List.setIfInBounds_toArray, List.set_cons_succ, List.set_cons_zero]
        refine wpTI_act (by rw [hops.out]; simp only [List.getElem?_toArray, List.getElem?_cons_succ, List.getElem?_cons_zero]; rfl) (by first | rfl | (rw [hops.out]; rfl)) ?_ trivial
        refine i_ld HS.out 2 (by rfl) (by rfl) (by rfl) (by kernel_rfl) HVQ.out ?_
        refine ⟨HS.out.sub 2, ?_⟩
        try simp only [Act.put, List.setIfInBounds_toArray, List.set_cons_succ, List.set_cons_zero]
        refine wpTI_yield _ (by rw [hops.out]; simp only [List.getElem?_toArray, List.getElem?_cons_succ, List.getElem?_cons_zero]; rfl) (by first | rfl | (rw [hops.out]; rfl)) (fun w' hS => by first | (go_simp; rfl)) ?_
        simp only [Act.put, List.setIfInBounds_toArray, List.set_cons_succ, List.set_cons_zero]
        refine wpTI_yield _ (by rw [hops.out]; simp only [List.getElem?_toArray, List.getElem?_cons_succ, List.getElem?_cons_zero]; rfl) (by first | rfl | (rw [hops.out]; rfl)) (fun w' hS => by first | (go_simp; rfl)) ?_
        simp only [Act.put, List.setIfInBounds_toArray, List.set_cons_succ, List.set_cons_zero]
        refine wpTI_act (by rw [hops.out]; simp only [List.getElem?_toArray, List.getElem?_cons_succ, List.getElem?_cons_zero]; rfl) (by first | rfl | (rw [hops.out]; rfl)) ?_ trivial
        refine i_st (v := .int .u64 (wk q (x.val / 64) + (1 - bitN q x.val) * 2 ^ (x.val % 64) : Nat)) HS.out 2 (by rfl) (by rfl) (by rfl) (by kernel_rfl) (by exact congrArg (Value.int .u64) HORQ.out) (by rfl) (by rw [wc_len]; exact hxq) ?_
        intro Wn hS
        clear HS; have HS := Lib.hid hS; clear hS
        refine ⟨HS.out.sub 2, ?_⟩
        try simp only [Act.put, List.setIfInBounds_toArray, List.set_cons_succ, List.set_cons_zero]
        simp only [wpTI]
        clear OPS hops
        gi_wp2_with fail
        refine ⟨HS.out.oth, Keeps.of_blk HS0.out (i := 0) rfl HS.out.st (j := 0) rfl, ?_⟩
        show St w _ [Blk bi (wc n).toList 24, Blk b5 (wc (dfold n m (pre ++ [x])).2).toList 24, Blk b4 (wc (dfold n m (pre ++ [x])).1).toList 24, Blk b3 (wc m).toList 24, Blk b2 (wc n).toList 24] []
        rw [HSN.out, HSTEP.out]
        rw [← HSETQ.out]
        exact HS.out.st
    · have hstep : dstep n m (q, r) x = (q + (1 - bitN q x.val) * 2 ^ x.val, (r * 2 % M4 + bitN n x.val + M4 - m) % M4) := by unfold dstep; rw [if_neg (fun h => hge h.2)]
      have hcv : cmpW (r * 2 % M4 + bitN n x.val) m = 0 ∨ cmpW (r * 2 % M4 + bitN n x.val) m = 1 := by unfold cmpW; split <;> first | exact .inl rfl | exact .inr rfl | (rw [if_neg (by omega)]; exact .inr rfl)
      have hcp : (0 : Int) ≤ cmpW (r * 2 % M4 + bitN n x.val) m := by omega
      have HSTEP := Lib.hid hstep
      generalize cmpW (r * 2 % M4 + bitN n x.val) m = cv at *
      have h01 : bitN r 255 = 0 ∨ bitN r 255 = 1 := by have := HHB.out; omega
      clear hstep hge hcv
      rcases h01 with ho | ho
      · have hd9 : (((wk r 3 : Nat) : Int) / 9223372036854775808 == 0) = true := by have := HHB.out; rw [ho] at this; simp; omega
        clear ho hov
        gi_wp2_with (first
          | (refine il (by rfl) (i_ld HS.out 1 (by rfl) (by rfl) (by rfl) (by kernel_rfl) HV3.out ?_))
          | (refine il (by rfl) (ild24 HS.out 1 (by rfl) (by rfl) (by rfl) ?_))
          | (gi_at_call 21; refine (callsIn_wide.2 (HLF.out _)).mono ?_; rintro e Wn ⟨rfl, hb⟩; have hS := HS.out.call hb; clear hb; clear HS; have HS := Lib.hid hS; clear hS)
          | (refine il (by rfl) (ist24 HS.out 1 (r * 2 % M4) (by rfl) (by rfl) (by rfl) (by rfl) ?_); intro Wn hS; clear HS; have HS := Lib.hid hS; clear hS)
          | (refine il (by rfl) (i_ld HS.out 1 (by rfl) (by rfl) (by rfl) (by kernel_rfl) HV0.out ?_))
          | (refine il (by rfl) (i_st (v := .int .u64 (wk (r * 2 % M4) 0 + bitN n x.val : Nat)) HS.out 1 (by rfl) (by rfl) (by rfl) (by kernel_rfl) (by exact congrArg (Value.int .u64) HOR.out) (by rfl) (by rw [wc_len]; omega) ?_); intro Wn hS; rw [show List.set (List.set [Blk bi (wc n).toList 24, Blk b5 (wc r).toList 24, Blk b4 (wc q).toList 24, Blk b3 (wc m).toList 24, Blk b2 (wc n).toList 24] 1 (Blk b5 (wc (r * 2 % M4)).toList 24)) 1 (Blk b5 ((wc (r * 2 % M4)).toList.set 0 (.int .u64 (wk (r * 2 % M4) 0 + bitN n x.val : Nat))) 24) = [Blk bi (wc n).toList 24, Blk b5 (wc (r * 2 % M4 + bitN n x.val)).toList 24, Blk b4 (wc q).toList 24, Blk b3 (wc m).toList 24, Blk b2 (wc n).toList 24] from by rw [HSET0.out]; rfl] at hS; clear HS; have HS := Lib.hid hS; clear hS)
          | (refine itd 32 (by rfl) ?_; refine il (by rfl) (ild24 HS.out 1 (by rfl) (by rfl) (by rfl) ?_))
          | (refine itd 33 (by rfl) ?_; refine il (by rfl) (ild24 HS.out 3 (by rfl) (by rfl) (by rfl) ?_))
          | (gi_at_call 15; refine (callsIn_wide.2 (HCM.out _)).mono ?_; rintro e Wn ⟨rfl, hb⟩; have hS := HS.out.call hb; clear hb; clear HS; have HS := Lib.hid hS; clear hS)
          | (refine itd 38 (by rfl) ?_; refine il (by rfl) (ild24 HS.out 1 (by rfl) (by rfl) (by rfl) ?_))
          | (refine itd 39 (by rfl) ?_; refine il (by rfl) (ild24 HS.out 3 (by rfl) (by rfl) (by rfl) ?_))
          | (gi_at_call 13; refine (callsIn_wide.2 (HSB.out _)).mono ?_; rintro e Wn ⟨rfl, hb⟩; have hS := HS.out.call hb; clear hb; clear HS; have HS := Lib.hid hS; clear hS)
          | (refine il (by rfl) (ist24 HS.out 1 ((r * 2 % M4 + bitN n x.val + M4 - m) % M4) (by rfl) (by rfl) (by rfl) (by rfl) ?_); intro Wn hS; clear HS; have HS := Lib.hid hS; clear hS))
        refine wpIn_region_tr (.yield 0 (.yield 1 (.yield 2 (.yield 4 (.yield 5 (.yield 6 (.act 3 (.yield 7 (.yield 8 (.act 9 .done .none))) .none))))))) (fun _ => trivial) (by kernel_rfl) (by kernel_rfl) (by kernel_rfl) (by kernel_rfl) (fun _ _ _ _ _ h => h) (fun w' => Sk W w w' [Blk bi (wc n).toList 24, Blk b5 (wc ((r * 2 % M4 + bitN n x.val + M4 - m) % M4)).toList 24, Blk b3 (wc m).toList 24, Blk b2 (wc n).toList 24] []) (HS.out.drew.sub 2) ?_
        intro OPS hops
        have hS := HS.out.drew
        clear HS; have HS := Lib.hid hS; clear hS
        refine wpTI_yield _ (by rw [hops.out]; simp only [List.getElem?_toArray, List.getElem?_cons_succ, List.getElem?_cons_zero]; rfl) (by first | rfl | (rw [hops.out]; rfl)) (fun w' hS => by first | (go_simp; rfl)) ?_
        simp only [Act.put, List.setIfInBounds_toArray, List.set_cons_succ, List.set_cons_zero]
        refine wpTI_yield _ (by rw [hops.out]; simp only [List.getElem?_toArray, List.getElem?_cons_succ, List.getElem?_cons_zero]; rfl) (by first | rfl | (rw [hops.out]; rfl)) (fun w' hS => by first | (go_simp; rfl)) ?_
        simp only [Act.put, List.setIfInBounds_toArray, List.set_cons_succ, List.set_cons_zero]
        refine wpTI_yield _ (by rw [hops.out]; simp only [List.getElem?_toArray, List.getElem?_cons_succ, List.getElem?_cons_zero]; rfl) (by first | rfl | (rw [hops.out]; rfl)) (fun w' hS => by first | (go_simp; rfl)) ?_
        simp only [Act.put, List.setIfInBounds_toArray, List.set_cons_succ, List.set_cons_zero]
        refine wpTI_yield _ (by rw [hops.out]; simp only [List.getElem?_toArray, List.getElem?_cons_succ, List.getElem?_cons_zero]; rfl) (by first | rfl | (rw [hops.out]; rfl)) (fun w' hS => by first | (go_simp; rfl)) ?_
        simp only [Act.put, List.setIfInBounds_toArray, List.set_cons_succ, List.set_cons_zero]
        refine wpTI_yield _ (by rw [hops.out]; simp only [List.getElem?_toArray, List.getElem?_cons_succ, List.getElem?_cons_zero]; rfl) (by first | rfl | (rw [hops.out]; rfl)) (fun w' hS => by first | (go_simp; rfl)) ?_
        simp only [Act.put, List.setIfInBounds_toArray, List.set_cons_succ, List.set_cons_zero]
        refine wpTI_yield _ (by rw [hops.out]; simp only [List.getElem?_toArray, List.getElem?_cons_succ, List.getElem?_cons_zero]; rfl) (by first | rfl | (rw [hops.out]; rfl)) (fun w' hS => by first | (go_simp; rfl)) ?_
        simp only [Act.put, List.setIfInBounds_toArray, List.set_cons_succ, List.set_cons_zero]
        refine wpTI_act (by rw [hops.out]; simp only [List.getElem?_toArray, List.getElem?_cons_succ, List.getElem?_cons_zero]; rfl) (by first | rfl | (rw [hops.out]; rfl)) ?_ trivial
        refine i_ld HS.out 2 (by rfl) (by rfl) (by rfl) (by kernel_rfl) HVQ.out ?_
        refine ⟨HS.out.sub 2, ?_⟩
        try simp only [Act.put, List.setIfInBounds_toArray, List.set_cons_succ, List.set_cons_zero]
        refine wpTI_yield _ (by rw [hops.out]; simp only [List.getElem?_toArray, List.getElem?_cons_succ, List.getElem?_cons_zero]; rfl) (by first | rfl | (rw [hops.out]; rfl)) (fun w' hS => by first | (go_simp; rfl)) ?_
        simp only [Act.put, List.setIfInBounds_toArray, List.set_cons_succ, List.set_cons_zero]
        refine wpTI_yield _ (by rw [hops.out]; simp only [List.getElem?_toArray, List.getElem?_cons_succ, List.getElem?_cons_zero]; rfl) (by first | rfl | (rw [hops.out]; rfl)) (fun w' hS => by first | (go_simp; rfl)) ?_
        simp only [Act.put, List.setIfInBounds_toArray, List.set_cons_succ, List.set_cons_zero]
        refine wpTI_act (by rw [hops.out]; simp only [List.getElem?_toArray, List.getElem?_cons_succ, List.getElem?_cons_zero]; rfl) (by first | rfl | (rw [hops.out]; rfl)) ?_ trivial
        refine i_st (v := .int .u64 (wk q (x.val / 64) + (1 - bitN q x.val) * 2 ^ (x.val % 64) : Nat)) HS.out 2 (by rfl) (by rfl) (by rfl) (by kernel_rfl) (by exact congrArg (Value.int .u64) HORQ.out) (by rfl) (by rw [wc_len]; exact hxq) ?_
        intro Wn hS
        clear HS; have HS := Lib.hid hS; clear hS
        refine ⟨HS.out.sub 2, ?_⟩
        try simp only [Act.put, List.setIfInBounds_toArray, List.set_cons_succ, List.set_cons_zero]
        simp only [wpTI]
        clear OPS hops
        gi_wp2_with fail
        refine ⟨HS.out.oth, Keeps.of_blk HS0.out (i := 0) rfl HS.out.st (j := 0) rfl, ?_⟩
        show St w _ [Blk bi (wc n).toList 24, Blk b5 (wc (dfold n m (pre ++ [x])).2).toList 24, Blk b4 (wc (dfold n m (pre ++ [x])).1).toList 24, Blk b3 (wc m).toList 24, Blk b2 (wc n).toList 24] []
        rw [HSN.out, HSTEP.out]
        rw [← HSETQ.out]
        exact HS.out.st
      · have hd9 : (((wk r 3 : Nat) : Int) / 9223372036854775808 == 0) = false := by have := HHB.out; rw [ho] at this; simp; omega
        clear ho hov
        gi_wp2_with (first
          | (refine il (by rfl) (i_ld HS.out 1 (by rfl) (by rfl) (by rfl) (by kernel_rfl) HV3.out ?_))
          | (refine il (by rfl) (ild24 HS.out 1 (by rfl) (by rfl) (by rfl) ?_))
          | (gi_at_call 21; refine (callsIn_wide.2 (HLF.out _)).mono ?_; rintro e Wn ⟨rfl, hb⟩; have hS := HS.out.call hb; clear hb; clear HS; have HS := Lib.hid hS; clear hS)
          | (refine il (by rfl) (ist24 HS.out 1 (r * 2 % M4) (by rfl) (by rfl) (by rfl) (by rfl) ?_); intro Wn hS; clear HS; have HS := Lib.hid hS; clear hS)
          | (refine il (by rfl) (i_ld HS.out 1 (by rfl) (by rfl) (by rfl) (by kernel_rfl) HV0.out ?_))
          | (refine il (by rfl) (i_st (v := .int .u64 (wk (r * 2 % M4) 0 + bitN n x.val : Nat)) HS.out 1 (by rfl) (by rfl) (by rfl) (by kernel_rfl) (by exact congrArg (Value.int .u64) HOR.out) (by rfl) (by rw [wc_len]; omega) ?_); intro Wn hS; rw [show List.set (List.set [Blk bi (wc n).toList 24, Blk b5 (wc r).toList 24, Blk b4 (wc q).toList 24, Blk b3 (wc m).toList 24, Blk b2 (wc n).toList 24] 1 (Blk b5 (wc (r * 2 % M4)).toList 24)) 1 (Blk b5 ((wc (r * 2 % M4)).toList.set 0 (.int .u64 (wk (r * 2 % M4) 0 + bitN n x.val : Nat))) 24) = [Blk bi (wc n).toList 24, Blk b5 (wc (r * 2 % M4 + bitN n x.val)).toList 24, Blk b4 (wc q).toList 24, Blk b3 (wc m).toList 24, Blk b2 (wc n).toList 24] from by rw [HSET0.out]; rfl] at hS; clear HS; have HS := Lib.hid hS; clear hS)
          | (refine itd 32 (by rfl) ?_; refine il (by rfl) (ild24 HS.out 1 (by rfl) (by rfl) (by rfl) ?_))
          | (refine itd 33 (by rfl) ?_; refine il (by rfl) (ild24 HS.out 3 (by rfl) (by rfl) (by rfl) ?_))
          | (gi_at_call 15; refine (callsIn_wide.2 (HCM.out _)).mono ?_; rintro e Wn ⟨rfl, hb⟩; have hS := HS.out.call hb; clear hb; clear HS; have HS := Lib.hid hS; clear hS)
          | (refine itd 38 (by rfl) ?_; refine il (by rfl) (ild24 HS.out 1 (by rfl) (by rfl) (by rfl) ?_))
          | (refine itd 39 (by rfl) ?_; refine il (by rfl) (ild24 HS.out 3 (by rfl) (by rfl) (by rfl) ?_))
          | (gi_at_call 13; refine (callsIn_wide.2 (HSB.out _)).mono ?_; rintro e Wn ⟨rfl, hb⟩; have hS := HS.out.call hb; clear hb; clear HS; have HS := Lib.hid hS; clear hS)
          | (refine il (by rfl) (ist24 HS.out 1 ((r * 2 % M4 + bitN n x.val + M4 - m) % M4) (by rfl) (by rfl) (by rfl) (by rfl) ?_); intro Wn hS; clear HS; have HS := Lib.hid hS; clear hS))
        refine wpIn_region_tr (.yield 0 (.yield 1 (.yield 2 (.yield 4 (.yield 5 (.yield 6 (.act 3 (.yield 7 (.yield 8 (.act 9 .done .none))) .none))))))) (fun _ => trivial) (by kernel_rfl) (by kernel_rfl) (by kernel_rfl) (by kernel_rfl) (fun _ _ _ _ _ h => h) (fun w' => Sk W w w' [Blk bi (wc n).toList 24, Blk b5 (wc ((r * 2 % M4 + bitN n x.val + M4 - m) % M4)).toList 24, Blk b3 (wc m).toList 24, Blk b2 (wc n).toList 24] []) (HS.out.drew.sub 2) ?_
        intro OPS hops
        have hS := HS.out.drew
        clear HS; have HS := Lib.hid hS; clear hS
        refine wpTI_yield _ (by rw [hops.out]; simp only [List.getElem?_toArray, List.getElem?_cons_succ, List.getElem?_cons_zero]; rfl) (by first | rfl | (rw [hops.out]; rfl)) (fun w' hS => by first | (go_simp; rfl)) ?_
        simp only [Act.put, List.setIfInBounds_toArray, List.set_cons_succ, List.set_cons_zero]
        refine wpTI_yield _ (by rw [hops.out]; simp only [List.getElem?_toArray, List.getElem?_cons_succ, List.getElem?_cons_zero]; rfl) (by first | rfl | (rw [hops.out]; rfl)) (fun w' hS => by first | (go_simp; rfl)) ?_
        simp only [Act.put, List.setIfInBounds_toArray, List.set_cons_succ, List.set_cons_zero]
        refine wpTI_yield _ (by rw [hops.out]; simp only [List.getElem?_toArray, List.getElem?_cons_succ, List.getElem?_cons_zero]; rfl) (by first | rfl | (rw [hops.out]; rfl)) (fun w' hS => by first | (go_simp; rfl)) ?_
        simp only [Act.put, List.setIfInBounds_toArray, List.set_cons_succ, List.set_cons_zero]
        refine wpTI_yield _ (by rw [hops.out]; simp only [List.getElem?_toArray, List.getElem?_cons_succ, List.getElem?_cons_zero]; rfl) (by first | rfl | (rw [hops.out]; rfl)) (fun w' hS => by first | (go_simp; rfl)) ?_
        simp only [Act.put, List.setIfInBounds_toArray, List.set_cons_succ, List.set_cons_zero]
        refine wpTI_yield _ (by rw [hops.out]; simp only [List.getElem?_toArray, List.getElem?_cons_succ, List.getElem?_cons_zero]; rfl) (by first | rfl | (rw [hops.out]; rfl)) (fun w' hS => by first | (go_simp; rfl)) ?_
        simp only [Act.put, List.setIfInBounds_toArray, List.set_cons_succ, List.set_cons_zero]
        refine wpTI_yield _ (by rw [hops.out]; simp only [List.getElem?_toArray, List.getElem?_cons_succ, List.getElem?_cons_zero]; rfl) (by first | rfl | (rw [hops.out]; rfl)) (fun w' hS => by first | (go_simp; rfl)) ?_
        simp only [Act.put, List.setIfInBounds_toArray, List.set_cons_succ, List.set_cons_zero]
        refine wpTI_act (by rw [hops.out]; simp only [List.getElem?_toArray, List.getElem?_cons_succ, List.getElem?_cons_zero]; rfl) (by first | rfl | (rw [hops.out]; rfl)) ?_ trivial
        refine i_ld HS.out 2 (by rfl) (by rfl) (by rfl) (by kernel_rfl) HVQ.out ?_
        refine ⟨HS.out.sub 2, ?_⟩
        try simp only [Act.put, List.setIfInBounds_toArray, List.set_cons_succ, List.set_cons_zero]
        refine wpTI_yield _ (by rw [hops.out]; simp only [List.getElem?_toArray, List.getElem?_cons_succ, List.getElem?_cons_zero]; rfl) (by first | rfl | (rw [hops.out]; rfl)) (fun w' hS => by first | (go_simp; rfl)) ?_
        simp only [Act.put, List.setIfInBounds_toArray, List.set_cons_succ, List.set_cons_zero]
        refine wpTI_yield _ (by rw [hops.out]; simp only [List.getElem?_toArray, List.getElem?_cons_succ, List.getElem?_cons_zero]; rfl) (by first | rfl | (rw [hops.out]; rfl)) (fun w' hS => by first | (go_simp; rfl)) ?_
        simp only [Act.put, List.setIfInBounds_toArray, List.set_cons_succ, List.set_cons_zero]
        refine wpTI_act (by rw [hops.out]; simp only [List.getElem?_toArray, List.getElem?_cons_succ, List.getElem?_cons_zero]; rfl) (by first | rfl | (rw [hops.out]; rfl)) ?_ trivial
        refine i_st (v := .int .u64 (wk q (x.val / 64) + (1 - bitN q x.val) * 2 ^ (x.val % 64) : Nat)) HS.out 2 (by rfl) (by rfl) (by rfl) (by kernel_rfl) (by exact congrArg (Value.int .u64) HORQ.out) (by rfl) (by rw [wc_len]; exact hxq) ?_
        intro Wn hS
        clear HS; have HS := Lib.hid hS; clear hS
        refine ⟨HS.out.sub 2, ?_⟩
        try simp only [Act.put, List.setIfInBounds_toArray, List.set_cons_succ, List.set_cons_zero]
        simp only [wpTI]
        clear OPS hops
        gi_wp2_with fail
        refine ⟨HS.out.oth, Keeps.of_blk HS0.out (i := 0) rfl HS.out.st (j := 0) rfl, ?_⟩
        show St w _ [Blk bi (wc n).toList 24, Blk b5 (wc (dfold n m (pre ++ [x])).2).toList 24, Blk b4 (wc (dfold n m (pre ++ [x])).1).toList 24, Blk b3 (wc m).toList 24, Blk b2 (wc n).toList 24] []
        rw [HSN.out, HSTEP.out]
        rw [← HSETQ.out]
        exact HS.out.st
end
end Go.Proofs.Ytkbambojnifjcaa
