/- Contracts and words that the laws stand on (TxC). -/
import Derived.Test.YteljmpoaggfliaaTxB
set_option linter.unusedVariables false
set_option linter.unusedSimpArgs false
namespace Go.Proofs.Yteljmpoaggfliaa
section
open Go Go.RowKit Go.Proofs
attribute [local go_sem] Oper.semAt_some
attribute [local irreducible] Calls

theorem chk_no {t : TxP} (h : ¬ ((1 ≤ t.ins.length ∧ t.ins.length ≤ 50 ∧ 1 ≤ t.outs.length ∧ t.outs.length ≤ 50) ∧ (∀ x ∈ t.ins, x.s.length ≤ 2000) ∧ ∀ x ∈ t.outs, x.s.length ≤ 2000)) : chkTI t = 60 := by
  unfold chkTI
  cases hg : chkT t with
  | false => rfl
  | true => exact absurd (chkT_iff.1 hg) h
theorem chk_yes {t : TxP} (h : (1 ≤ t.ins.length ∧ t.ins.length ≤ 50 ∧ 1 ≤ t.outs.length ∧ t.outs.length ≤ 50) ∧ (∀ x ∈ t.ins, x.s.length ≤ 2000) ∧ ∀ x ∈ t.outs, x.s.length ≤ 2000) : chkTI t = 0 := by
  unfold chkTI
  rw [chkT_iff.2 h]
  rfl
theorem scrs_ins {t : TxM} {x : TIn} (h : x ∈ t.p.ins) : ∃ y ∈ scrs t, y.2 = x.s := by
  obtain ⟨y, hy, rfl⟩ := List.mem_map.1 h
  exact ⟨(y.1, y.2.s), List.mem_append_left _ (List.mem_map_of_mem (f := fun x : Value × TIn => (x.1, x.2.s)) hy), rfl⟩
theorem scrs_outs {t : TxM} {x : TOut} (h : x ∈ t.p.outs) : ∃ y ∈ scrs t, y.2 = x.s := by
  obtain ⟨y, hy, rfl⟩ := List.mem_map.1 h
  exact ⟨(y.1, y.2.s), List.mem_append_right _ (List.mem_map_of_mem (f := fun x : Value × TOut => (x.1, x.2.s)) hy), rfl⟩
theorem scrs_mem {t : TxM} {y : Value × List UInt8} (h : y ∈ scrs t) : (∃ x ∈ t.p.ins, x.s = y.2) ∨ ∃ x ∈ t.p.outs, x.s = y.2 := by
  rcases List.mem_append.1 h with h | h
  · obtain ⟨x, hx, rfl⟩ := List.mem_map.1 h
    exact .inl ⟨x.2, List.mem_map_of_mem hx, rfl⟩
  · obtain ⟨x, hx, rfl⟩ := List.mem_map.1 h
    exact .inr ⟨x.2, List.mem_map_of_mem hx, rfl⟩
theorem chk_all (t : TxM) (hl : 1 ≤ t.ins.length ∧ t.ins.length ≤ 50 ∧ 1 ≤ t.outs.length ∧ t.outs.length ≤ 50) (h : ∀ x ∈ scrs t, x.2.length ≤ 2000) : chkTI t.p = 0 :=
  chk_yes ⟨by simpa [TxM.p] using hl, fun x hx => by obtain ⟨y, hy, e⟩ := scrs_ins hx; rw [← e]; exact h y hy, fun x hx => by obtain ⟨y, hy, e⟩ := scrs_outs hx; rw [← e]; exact h y hy⟩
theorem chk_len (t : TxM) (hl : ¬ (1 ≤ t.ins.length ∧ t.ins.length ≤ 50 ∧ 1 ≤ t.outs.length ∧ t.outs.length ≤ 50)) : chkTI t.p = 60 :=
  chk_no (fun h => hl (by simpa [TxM.p] using h.1))
theorem chk_some (t : TxM) {x : Value × List UInt8} (hx : x ∈ scrs t) (h : 2000 < x.2.length) : chkTI t.p = 60 :=
  chk_no (fun hh => by
    rcases scrs_mem hx with ⟨y, hy, e⟩ | ⟨y, hy, e⟩
    · have := hh.2.1 y hy; rw [e] at this; omega
    · have := hh.2.2 y hy; rw [e] at this; omega)
def Sm (pre : List (Value × List UInt8)) : Prop := ∀ x ∈ pre, x.2.length ≤ 2000
theorem Sm.nil : Sm [] := fun x hx => (nomatch hx)
theorem Sm.snoc {pre : List (Value × List UInt8)} {x : Value × List UInt8} (h : Sm pre) (hx : x.2.length ≤ 2000) : Sm (pre ++ [x]) := by
  intro y hy
  rcases List.mem_append.1 hy with h' | h'
  · exact h y h'
  · rw [List.mem_singleton.1 h']; exact hx
theorem ret_c30 {w : World} {fn : Func} {p : Tmp} (h : fn.results = #[.tmp p]) : True := trivial
set_option maxHeartbeats 4000000 in
set_option maxRecDepth 100000 in
theorem check84 (t : TxM) (w : World) (hok : t.p.ok) (ht : TxW t w) (hl1 : t.ins.length ≤ 1000000) (hl2 : t.outs.length ≤ 1000000) : Calls Try.prog 84 #[.agg t.cs.toArray] w fun e w' => e = .returned (.int .i64 (chkTI t.p)) ∧ Below w.heap.size w w' := by
  obtain ⟨ver, iv, ins, ov, outs, lock⟩ := t
  obtain ⟨A, c, B, d, e1, e2, hc, hd⟩ := ht.shape
  dsimp only at e1 e2 hc hd
  subst e1 e2
  dsimp only [TxM.cs]
  dsimp only at hl1 hl2
  have HLT := Lib.hid (ht.lt hok)
  have HS := Lib.hid ((St.start w).addF ht.away0)
  have HOK := Lib.hid hok
  clear ht hok
  refine (callsIn_wide (n := 3)).1 ?_
  refine callsIn_of_wp_marks Try.func84 rfl trivial ?_ rfl
  simp only [Try.ntmps84, List.size_toArray, List.length_cons, List.length_nil, Nat.reduceAdd, Nat.reduceSub, Array.replicate_succ, Array.replicate_zero, List.push_toArray, List.append_toArray, List.nil_append, List.cons_append]
  refine wpIn_wide.2 ?_
  go_wp2_with (first
    | (refine atd 1 (by rfl) ?_; refine wl (by rfl) (s_bx (l := [.int .u32 (ver : Int), .slice A ins.length c, .slice B outs.length d, .int .u32 (lock : Int)]) HS.out (by rfl) (by rfl) ?_); intro b1 Wn hS; clear HS; have HS := Lib.hid hS; clear hS))
  go_step3
  by_cases hx : ins.length < 1
  · have HLEN := Lib.hid (show ¬ (1 ≤ ins.length ∧ ins.length ≤ 50 ∧ 1 ≤ outs.length ∧ outs.length ≤ 50) by omega)
    have k1 : (ins.length : Int) < 1 := by omega
    go_wp2_with (first
      | (refine atd 3 (by rfl) ?_; refine wl (by rfl) (s_al HS.out (by rfl) z30 (by rfl) ?_); intro b3 Wn hS; clear HS; have HS := Lib.hid hS; clear hS)
      | (first | (refine wl (by rfl) (s_st (v := .int .i64 0) HS.out 0 (by rfl) (by rfl) (by rfl) (by kernel_rfl) (by rfl) (by rfl) (by exact Nat.zero_lt_one) ?_); intro Wn hS; clear HS; have HS := Lib.hid hS; clear hS) | (refine wl (by rfl) (s_st (v := .int .i64 60) HS.out 0 (by rfl) (by rfl) (by rfl) (by kernel_rfl) (by rfl) (by rfl) (by exact Nat.zero_lt_one) ?_); intro Wn hS; clear HS; have HS := Lib.hid hS; clear hS))
      | (refine atd 6 (by rfl) ?_; refine wl (by rfl) (s_ld HS.out 1 (by rfl) (by rfl) (by rfl) (by kernel_rfl) (by rfl) ?_))
      | (refine atd 11 (by rfl) ?_; refine wl (by rfl) (s_ld HS.out 1 (by rfl) (by rfl) (by rfl) (by kernel_rfl) (by rfl) ?_))
      | (refine atd 17 (by rfl) ?_; refine wl (by rfl) (s_ld HS.out 1 (by rfl) (by rfl) (by rfl) (by kernel_rfl) (by rfl) ?_))
      | (refine atd 23 (by rfl) ?_; refine wl (by rfl) (s_ld HS.out 1 (by rfl) (by rfl) (by rfl) (by kernel_rfl) (by rfl) ?_)))
    go_step3
    go_wp2_with (first
      | (first | (refine wl (by rfl) (s_st (v := .int .i64 0) HS.out 0 (by rfl) (by rfl) (by rfl) (by kernel_rfl) (by rfl) (by rfl) (by exact Nat.zero_lt_one) ?_); intro Wn hS; clear HS; have HS := Lib.hid hS; clear hS) | (refine wl (by rfl) (s_st (v := .int .i64 60) HS.out 0 (by rfl) (by rfl) (by rfl) (by kernel_rfl) (by rfl) (by rfl) (by exact Nat.zero_lt_one) ?_); intro Wn hS; clear HS; have HS := Lib.hid hS; clear hS))
      | (refine atd 27 (by rfl) ?_; refine wl (by rfl) (s_lda (cs := [.int .u32 (ver : Int), .slice A ins.length c, .slice B outs.length d, .int .u32 (lock : Int)]) HS.out 1 4 (by rfl) (by rfl) (by rfl) ag55 (by rfl) (by rfl) ?_))
      | (go_at_call 130; refine (scripts130 ⟨ver, .slice A ins.length c, ins, .slice B outs.length d, outs, lock⟩ A c B d _ rfl rfl).mono ?_; rintro e Wn ⟨bb, rfl, hb⟩; have hS := HS.out.join hb; clear hb; clear HS; have HS := Lib.hid hS; clear hS))
    have hbb : Wn.heap[bb]? = some (.cells ([.int .u32 (ver : Int), .slice A ins.length c, .slice B outs.length d, .int .u32 (lock : Int)]).toArray 55 (0, 0)) := HS.out.blk (i := 0) rfl
    have hbm : w.heap.size ≤ bb := ((HS.out.own _ (List.mem_of_getElem? (i := 0) rfl)).2 bb (by simp [Blk])).1
    have hltb : bb < Wn.heap.size := blk_lt hbb
    have hbz := HS.out.below.size
    refine (wpIn_wide (n := 3)).1 ?_
    refine wpIn_rangeFunc_ownF (n := 3) rfl (by omega) (gf := 149) (lb := #[.pointer (some ⟨bb, 0, none⟩)]) rfl trivial (enters_of Try.func149 (by kernel_rfl) rfl)
      (scripts1_in 2 w.heap.size bb (by omega) ⟨ver, .slice A ins.length c, ins, .slice B outs.length d, outs, lock⟩ HOK.out Wn hbb (HS.out.fact (i := 0) rfl) HLT.out.1 HLT.out.2 hbm hl1 hl2) Keeps.trans ?hKb (Below.refl _ _) (fun _ => rfl)
      (fun pre W => Sm pre ∧ St w W [Blk bb [.int .u32 (ver : Int), .slice A ins.length c, .slice B outs.length d, .int .u32 (lock : Int)] 55, Blk b3 [.int .i64 60] 30, Blk b1 [.int .u32 (ver : Int), .slice A ins.length c, .slice B outs.length d, .int .u32 (lock : Int)] 55] [TxW ⟨ver, .slice A ins.length c, ins, .slice B outs.length d, outs, lock⟩]) (fun c' pre W => c' = .exit 0 ∧ (∃ x ∈ pre, 2000 < x.2.length) ∧ St w W [Blk bb [.int .u32 (ver : Int), .slice A ins.length c, .slice B outs.length d, .int .u32 (lock : Int)] 55, Blk b3 [.int .i64 60] 30, Blk b1 [.int .u32 (ver : Int), .slice A ins.length c, .slice B outs.length d, .int .u32 (lock : Int)] 55] [TxW ⟨ver, .slice A ins.length c, ins, .slice B outs.length d, outs, lock⟩]) (fun s X Y row hs hg hr => ⟨hs.1, hs.2.book hg (fun r e => ⟨Nat.le_trans hbz (hr r e).1, (hr r e).2⟩)⟩) (fun _ s X Y row hs hg hr => ⟨hs.1, hs.2.1, hs.2.2.book hg (fun r e => ⟨Nat.le_trans hbz (hr r e).1, (hr r e).2⟩)⟩) ⟨Sm.nil, HS.out⟩
      ?a1a ?assign ?body ?done ?stop
    case hKb =>
      rintro W l o o' hl' _ _ _ k hk
      refine World.putObj_heap_other ?_
      rcases hk with rfl | hk <;> omega
    case assign =>
      intro l x W K hK
      dsimp only [encS]
      gi_wp2
      exact hK
    case body =>
      rintro l pre x W ⟨hall, hs⟩ hlen
      obtain ⟨A', c', e'⟩ := nv_sh x.1 x.2.length
      simp only [e']
      have HS := Lib.hid hs.sk
      have HALL := Lib.hid hall
      clear hs hall hbb hlen
      by_cases hx : 2000 < x.2.length
      · have k5 : (2000 : Int) < (x.2.length : Int) := by omega
        gi_wp2_with (refine il (by rfl) (i_st (v := .int .i64 60) HS.out 1 (by rfl) (by rfl) (by rfl) (by kernel_rfl) (by rfl) (by rfl) (by exact Nat.zero_lt_one) ?_); intro Wn hS; clear HS; have HS := Lib.hid hS; clear hS)
        exact ⟨HS.out.oth, rfl, ⟨x, by simp, hx⟩, HS.out.st⟩
      · have k5 : ¬ (2000 : Int) < (x.2.length : Int) := by omega
        gi_wp2_with fail
        refine ⟨HS.out.oth, Keeps.refl _ _, ?_, HS.out.st⟩
        exact HALL.out.snoc (by omega)
    case done =>
      rintro D xs W hD rfl ⟨hall, hs⟩ hK
      have HE := Lib.hid (chk_len ⟨ver, .slice A ins.length c, ins, .slice B outs.length d, outs, lock⟩ HLEN.out)
      have HS := Lib.hid hs; have HK := Lib.hid hK; have HD := Lib.hid hD
      clear hs hall hbb hK hD
      gi_wp2_with fail
      go_wp2_with (refine atd 33 (by rfl) ?_; refine wl (by rfl) (s_ld HS.out 1 (by rfl) (by rfl) (by rfl) (by kernel_rfl) (by rfl) ?_))
      have hKn := HK.out
      try rw [Exit.noGoto_ret]
      refine ⟨by simp, .inl ⟨_, _, rfl, run_takeDeferred hKn, ?_⟩⟩
      have hS2 := HS.out.book (W' := W.putObj D (.deferred none)) (grownBy_putObj' W D _) (fun r e => by cases e; exact ⟨Nat.le_trans hbz HD.out, _, hKn, rfl⟩)
      refine ⟨_, results_tmp rfl _ _ _, ?_, hS2.below⟩
      rw [HE.out]
      rfl
    case stop =>
      rintro D c' pre W hD hpre ⟨rfl, ⟨x, hx, hlt⟩, hs⟩ hK
      have HE := Lib.hid (chk_some ⟨ver, .slice A ins.length c, ins, .slice B outs.length d, outs, lock⟩ (hpre.subset hx) hlt)
      have HS := Lib.hid hs; have HK := Lib.hid hK; have HD := Lib.hid hD
      clear hs hbb hK hD hpre hx hlt
      gi_wp2_with fail
      go_wp2_with (refine atd 33 (by rfl) ?_; refine wl (by rfl) (s_ld HS.out 1 (by rfl) (by rfl) (by rfl) (by kernel_rfl) (by rfl) ?_))
      have hKn := HK.out
      try rw [Exit.noGoto_ret]
      refine ⟨by simp, .inl ⟨_, _, rfl, run_takeDeferred hKn, ?_⟩⟩
      have hS2 := HS.out.book (W' := W.putObj D (.deferred none)) (grownBy_putObj' W D _) (fun r e => by cases e; exact ⟨Nat.le_trans hbz HD.out, _, hKn, rfl⟩)
      refine ⟨_, results_tmp rfl _ _ _, ?_, hS2.below⟩
      rw [HE.out]
      rfl
  by_cases hx : 50 < ins.length
  · have HLEN := Lib.hid (show ¬ (1 ≤ ins.length ∧ ins.length ≤ 50 ∧ 1 ≤ outs.length ∧ outs.length ≤ 50) by omega)
    have k1 : ¬ (ins.length : Int) < 1 := by omega
    have k2 : (50 : Int) < (ins.length : Int) := by omega
    go_wp2_with (first
      | (refine atd 3 (by rfl) ?_; refine wl (by rfl) (s_al HS.out (by rfl) z30 (by rfl) ?_); intro b3 Wn hS; clear HS; have HS := Lib.hid hS; clear hS)
      | (first | (refine wl (by rfl) (s_st (v := .int .i64 0) HS.out 0 (by rfl) (by rfl) (by rfl) (by kernel_rfl) (by rfl) (by rfl) (by exact Nat.zero_lt_one) ?_); intro Wn hS; clear HS; have HS := Lib.hid hS; clear hS) | (refine wl (by rfl) (s_st (v := .int .i64 60) HS.out 0 (by rfl) (by rfl) (by rfl) (by kernel_rfl) (by rfl) (by rfl) (by exact Nat.zero_lt_one) ?_); intro Wn hS; clear HS; have HS := Lib.hid hS; clear hS))
      | (refine atd 6 (by rfl) ?_; refine wl (by rfl) (s_ld HS.out 1 (by rfl) (by rfl) (by rfl) (by kernel_rfl) (by rfl) ?_))
      | (refine atd 11 (by rfl) ?_; refine wl (by rfl) (s_ld HS.out 1 (by rfl) (by rfl) (by rfl) (by kernel_rfl) (by rfl) ?_))
      | (refine atd 17 (by rfl) ?_; refine wl (by rfl) (s_ld HS.out 1 (by rfl) (by rfl) (by rfl) (by kernel_rfl) (by rfl) ?_))
      | (refine atd 23 (by rfl) ?_; refine wl (by rfl) (s_ld HS.out 1 (by rfl) (by rfl) (by rfl) (by kernel_rfl) (by rfl) ?_)))
    go_step3
    go_wp2_with (first
      | (first | (refine wl (by rfl) (s_st (v := .int .i64 0) HS.out 0 (by rfl) (by rfl) (by rfl) (by kernel_rfl) (by rfl) (by rfl) (by exact Nat.zero_lt_one) ?_); intro Wn hS; clear HS; have HS := Lib.hid hS; clear hS) | (refine wl (by rfl) (s_st (v := .int .i64 60) HS.out 0 (by rfl) (by rfl) (by rfl) (by kernel_rfl) (by rfl) (by rfl) (by exact Nat.zero_lt_one) ?_); intro Wn hS; clear HS; have HS := Lib.hid hS; clear hS))
      | (refine atd 27 (by rfl) ?_; refine wl (by rfl) (s_lda (cs := [.int .u32 (ver : Int), .slice A ins.length c, .slice B outs.length d, .int .u32 (lock : Int)]) HS.out 1 4 (by rfl) (by rfl) (by rfl) ag55 (by rfl) (by rfl) ?_))
      | (go_at_call 130; refine (scripts130 ⟨ver, .slice A ins.length c, ins, .slice B outs.length d, outs, lock⟩ A c B d _ rfl rfl).mono ?_; rintro e Wn ⟨bb, rfl, hb⟩; have hS := HS.out.join hb; clear hb; clear HS; have HS := Lib.hid hS; clear hS))
    have hbb : Wn.heap[bb]? = some (.cells ([.int .u32 (ver : Int), .slice A ins.length c, .slice B outs.length d, .int .u32 (lock : Int)]).toArray 55 (0, 0)) := HS.out.blk (i := 0) rfl
    have hbm : w.heap.size ≤ bb := ((HS.out.own _ (List.mem_of_getElem? (i := 0) rfl)).2 bb (by simp [Blk])).1
    have hltb : bb < Wn.heap.size := blk_lt hbb
    have hbz := HS.out.below.size
    refine (wpIn_wide (n := 3)).1 ?_
    refine wpIn_rangeFunc_ownF (n := 3) rfl (by omega) (gf := 149) (lb := #[.pointer (some ⟨bb, 0, none⟩)]) rfl trivial (enters_of Try.func149 (by kernel_rfl) rfl)
      (scripts1_in 2 w.heap.size bb (by omega) ⟨ver, .slice A ins.length c, ins, .slice B outs.length d, outs, lock⟩ HOK.out Wn hbb (HS.out.fact (i := 0) rfl) HLT.out.1 HLT.out.2 hbm hl1 hl2) Keeps.trans ?hKb (Below.refl _ _) (fun _ => rfl)
      (fun pre W => Sm pre ∧ St w W [Blk bb [.int .u32 (ver : Int), .slice A ins.length c, .slice B outs.length d, .int .u32 (lock : Int)] 55, Blk b3 [.int .i64 60] 30, Blk b1 [.int .u32 (ver : Int), .slice A ins.length c, .slice B outs.length d, .int .u32 (lock : Int)] 55] [TxW ⟨ver, .slice A ins.length c, ins, .slice B outs.length d, outs, lock⟩]) (fun c' pre W => c' = .exit 0 ∧ (∃ x ∈ pre, 2000 < x.2.length) ∧ St w W [Blk bb [.int .u32 (ver : Int), .slice A ins.length c, .slice B outs.length d, .int .u32 (lock : Int)] 55, Blk b3 [.int .i64 60] 30, Blk b1 [.int .u32 (ver : Int), .slice A ins.length c, .slice B outs.length d, .int .u32 (lock : Int)] 55] [TxW ⟨ver, .slice A ins.length c, ins, .slice B outs.length d, outs, lock⟩]) (fun s X Y row hs hg hr => ⟨hs.1, hs.2.book hg (fun r e => ⟨Nat.le_trans hbz (hr r e).1, (hr r e).2⟩)⟩) (fun _ s X Y row hs hg hr => ⟨hs.1, hs.2.1, hs.2.2.book hg (fun r e => ⟨Nat.le_trans hbz (hr r e).1, (hr r e).2⟩)⟩) ⟨Sm.nil, HS.out⟩
      ?a1b ?assign ?body ?done ?stop
    case hKb =>
      rintro W l o o' hl' _ _ _ k hk
      refine World.putObj_heap_other ?_
      rcases hk with rfl | hk <;> omega
    case assign =>
      intro l x W K hK
      dsimp only [encS]
      gi_wp2
      exact hK
    case body =>
      rintro l pre x W ⟨hall, hs⟩ hlen
      obtain ⟨A', c', e'⟩ := nv_sh x.1 x.2.length
      simp only [e']
      have HS := Lib.hid hs.sk
      have HALL := Lib.hid hall
      clear hs hall hbb hlen
      by_cases hx : 2000 < x.2.length
      · have k5 : (2000 : Int) < (x.2.length : Int) := by omega
        gi_wp2_with (refine il (by rfl) (i_st (v := .int .i64 60) HS.out 1 (by rfl) (by rfl) (by rfl) (by kernel_rfl) (by rfl) (by rfl) (by exact Nat.zero_lt_one) ?_); intro Wn hS; clear HS; have HS := Lib.hid hS; clear hS)
        exact ⟨HS.out.oth, rfl, ⟨x, by simp, hx⟩, HS.out.st⟩
      · have k5 : ¬ (2000 : Int) < (x.2.length : Int) := by omega
        gi_wp2_with fail
        refine ⟨HS.out.oth, Keeps.refl _ _, ?_, HS.out.st⟩
        exact HALL.out.snoc (by omega)
    case done =>
      rintro D xs W hD rfl ⟨hall, hs⟩ hK
      have HE := Lib.hid (chk_len ⟨ver, .slice A ins.length c, ins, .slice B outs.length d, outs, lock⟩ HLEN.out)
      have HS := Lib.hid hs; have HK := Lib.hid hK; have HD := Lib.hid hD
      clear hs hall hbb hK hD
      gi_wp2_with fail
      go_wp2_with (refine atd 33 (by rfl) ?_; refine wl (by rfl) (s_ld HS.out 1 (by rfl) (by rfl) (by rfl) (by kernel_rfl) (by rfl) ?_))
      have hKn := HK.out
      try rw [Exit.noGoto_ret]
      refine ⟨by simp, .inl ⟨_, _, rfl, run_takeDeferred hKn, ?_⟩⟩
      have hS2 := HS.out.book (W' := W.putObj D (.deferred none)) (grownBy_putObj' W D _) (fun r e => by cases e; exact ⟨Nat.le_trans hbz HD.out, _, hKn, rfl⟩)
      refine ⟨_, results_tmp rfl _ _ _, ?_, hS2.below⟩
      rw [HE.out]
      rfl
    case stop =>
      rintro D c' pre W hD hpre ⟨rfl, ⟨x, hx, hlt⟩, hs⟩ hK
      have HE := Lib.hid (chk_some ⟨ver, .slice A ins.length c, ins, .slice B outs.length d, outs, lock⟩ (hpre.subset hx) hlt)
      have HS := Lib.hid hs; have HK := Lib.hid hK; have HD := Lib.hid hD
      clear hs hbb hK hD hpre hx hlt
      gi_wp2_with fail
      go_wp2_with (refine atd 33 (by rfl) ?_; refine wl (by rfl) (s_ld HS.out 1 (by rfl) (by rfl) (by rfl) (by kernel_rfl) (by rfl) ?_))
      have hKn := HK.out
      try rw [Exit.noGoto_ret]
      refine ⟨by simp, .inl ⟨_, _, rfl, run_takeDeferred hKn, ?_⟩⟩
      have hS2 := HS.out.book (W' := W.putObj D (.deferred none)) (grownBy_putObj' W D _) (fun r e => by cases e; exact ⟨Nat.le_trans hbz HD.out, _, hKn, rfl⟩)
      refine ⟨_, results_tmp rfl _ _ _, ?_, hS2.below⟩
      rw [HE.out]
      rfl
  by_cases hx : outs.length < 1
  · have HLEN := Lib.hid (show ¬ (1 ≤ ins.length ∧ ins.length ≤ 50 ∧ 1 ≤ outs.length ∧ outs.length ≤ 50) by omega)
    have k1 : ¬ (ins.length : Int) < 1 := by omega
    have k2 : ¬ (50 : Int) < (ins.length : Int) := by omega
    have k3 : (outs.length : Int) < 1 := by omega
    go_wp2_with (first
      | (refine atd 3 (by rfl) ?_; refine wl (by rfl) (s_al HS.out (by rfl) z30 (by rfl) ?_); intro b3 Wn hS; clear HS; have HS := Lib.hid hS; clear hS)
      | (first | (refine wl (by rfl) (s_st (v := .int .i64 0) HS.out 0 (by rfl) (by rfl) (by rfl) (by kernel_rfl) (by rfl) (by rfl) (by exact Nat.zero_lt_one) ?_); intro Wn hS; clear HS; have HS := Lib.hid hS; clear hS) | (refine wl (by rfl) (s_st (v := .int .i64 60) HS.out 0 (by rfl) (by rfl) (by rfl) (by kernel_rfl) (by rfl) (by rfl) (by exact Nat.zero_lt_one) ?_); intro Wn hS; clear HS; have HS := Lib.hid hS; clear hS))
      | (refine atd 6 (by rfl) ?_; refine wl (by rfl) (s_ld HS.out 1 (by rfl) (by rfl) (by rfl) (by kernel_rfl) (by rfl) ?_))
      | (refine atd 11 (by rfl) ?_; refine wl (by rfl) (s_ld HS.out 1 (by rfl) (by rfl) (by rfl) (by kernel_rfl) (by rfl) ?_))
      | (refine atd 17 (by rfl) ?_; refine wl (by rfl) (s_ld HS.out 1 (by rfl) (by rfl) (by rfl) (by kernel_rfl) (by rfl) ?_))
      | (refine atd 23 (by rfl) ?_; refine wl (by rfl) (s_ld HS.out 1 (by rfl) (by rfl) (by rfl) (by kernel_rfl) (by rfl) ?_)))
    go_step3
    go_wp2_with (first
      | (first | (refine wl (by rfl) (s_st (v := .int .i64 0) HS.out 0 (by rfl) (by rfl) (by rfl) (by kernel_rfl) (by rfl) (by rfl) (by exact Nat.zero_lt_one) ?_); intro Wn hS; clear HS; have HS := Lib.hid hS; clear hS) | (refine wl (by rfl) (s_st (v := .int .i64 60) HS.out 0 (by rfl) (by rfl) (by rfl) (by kernel_rfl) (by rfl) (by rfl) (by exact Nat.zero_lt_one) ?_); intro Wn hS; clear HS; have HS := Lib.hid hS; clear hS))
      | (refine atd 27 (by rfl) ?_; refine wl (by rfl) (s_lda (cs := [.int .u32 (ver : Int), .slice A ins.length c, .slice B outs.length d, .int .u32 (lock : Int)]) HS.out 1 4 (by rfl) (by rfl) (by rfl) ag55 (by rfl) (by rfl) ?_))
      | (go_at_call 130; refine (scripts130 ⟨ver, .slice A ins.length c, ins, .slice B outs.length d, outs, lock⟩ A c B d _ rfl rfl).mono ?_; rintro e Wn ⟨bb, rfl, hb⟩; have hS := HS.out.join hb; clear hb; clear HS; have HS := Lib.hid hS; clear hS))
    have hbb : Wn.heap[bb]? = some (.cells ([.int .u32 (ver : Int), .slice A ins.length c, .slice B outs.length d, .int .u32 (lock : Int)]).toArray 55 (0, 0)) := HS.out.blk (i := 0) rfl
    have hbm : w.heap.size ≤ bb := ((HS.out.own _ (List.mem_of_getElem? (i := 0) rfl)).2 bb (by simp [Blk])).1
    have hltb : bb < Wn.heap.size := blk_lt hbb
    have hbz := HS.out.below.size
    refine (wpIn_wide (n := 3)).1 ?_
    refine wpIn_rangeFunc_ownF (n := 3) rfl (by omega) (gf := 149) (lb := #[.pointer (some ⟨bb, 0, none⟩)]) rfl trivial (enters_of Try.func149 (by kernel_rfl) rfl)
      (scripts1_in 2 w.heap.size bb (by omega) ⟨ver, .slice A ins.length c, ins, .slice B outs.length d, outs, lock⟩ HOK.out Wn hbb (HS.out.fact (i := 0) rfl) HLT.out.1 HLT.out.2 hbm hl1 hl2) Keeps.trans ?hKb (Below.refl _ _) (fun _ => rfl)
      (fun pre W => Sm pre ∧ St w W [Blk bb [.int .u32 (ver : Int), .slice A ins.length c, .slice B outs.length d, .int .u32 (lock : Int)] 55, Blk b3 [.int .i64 60] 30, Blk b1 [.int .u32 (ver : Int), .slice A ins.length c, .slice B outs.length d, .int .u32 (lock : Int)] 55] [TxW ⟨ver, .slice A ins.length c, ins, .slice B outs.length d, outs, lock⟩]) (fun c' pre W => c' = .exit 0 ∧ (∃ x ∈ pre, 2000 < x.2.length) ∧ St w W [Blk bb [.int .u32 (ver : Int), .slice A ins.length c, .slice B outs.length d, .int .u32 (lock : Int)] 55, Blk b3 [.int .i64 60] 30, Blk b1 [.int .u32 (ver : Int), .slice A ins.length c, .slice B outs.length d, .int .u32 (lock : Int)] 55] [TxW ⟨ver, .slice A ins.length c, ins, .slice B outs.length d, outs, lock⟩]) (fun s X Y row hs hg hr => ⟨hs.1, hs.2.book hg (fun r e => ⟨Nat.le_trans hbz (hr r e).1, (hr r e).2⟩)⟩) (fun _ s X Y row hs hg hr => ⟨hs.1, hs.2.1, hs.2.2.book hg (fun r e => ⟨Nat.le_trans hbz (hr r e).1, (hr r e).2⟩)⟩) ⟨Sm.nil, HS.out⟩
      ?a1c ?assign ?body ?done ?stop
    case hKb =>
      rintro W l o o' hl' _ _ _ k hk
      refine World.putObj_heap_other ?_
      rcases hk with rfl | hk <;> omega
    case assign =>
      intro l x W K hK
      dsimp only [encS]
      gi_wp2
      exact hK
    case body =>
      rintro l pre x W ⟨hall, hs⟩ hlen
      obtain ⟨A', c', e'⟩ := nv_sh x.1 x.2.length
      simp only [e']
      have HS := Lib.hid hs.sk
      have HALL := Lib.hid hall
      clear hs hall hbb hlen
      by_cases hx : 2000 < x.2.length
      · have k5 : (2000 : Int) < (x.2.length : Int) := by omega
        gi_wp2_with (refine il (by rfl) (i_st (v := .int .i64 60) HS.out 1 (by rfl) (by rfl) (by rfl) (by kernel_rfl) (by rfl) (by rfl) (by exact Nat.zero_lt_one) ?_); intro Wn hS; clear HS; have HS := Lib.hid hS; clear hS)
        exact ⟨HS.out.oth, rfl, ⟨x, by simp, hx⟩, HS.out.st⟩
      · have k5 : ¬ (2000 : Int) < (x.2.length : Int) := by omega
        gi_wp2_with fail
        refine ⟨HS.out.oth, Keeps.refl _ _, ?_, HS.out.st⟩
        exact HALL.out.snoc (by omega)
    case done =>
      rintro D xs W hD rfl ⟨hall, hs⟩ hK
      have HE := Lib.hid (chk_len ⟨ver, .slice A ins.length c, ins, .slice B outs.length d, outs, lock⟩ HLEN.out)
      have HS := Lib.hid hs; have HK := Lib.hid hK; have HD := Lib.hid hD
      clear hs hall hbb hK hD
      gi_wp2_with fail
      go_wp2_with (refine atd 33 (by rfl) ?_; refine wl (by rfl) (s_ld HS.out 1 (by rfl) (by rfl) (by rfl) (by kernel_rfl) (by rfl) ?_))
      have hKn := HK.out
      try rw [Exit.noGoto_ret]
      refine ⟨by simp, .inl ⟨_, _, rfl, run_takeDeferred hKn, ?_⟩⟩
      have hS2 := HS.out.book (W' := W.putObj D (.deferred none)) (grownBy_putObj' W D _) (fun r e => by cases e; exact ⟨Nat.le_trans hbz HD.out, _, hKn, rfl⟩)
      refine ⟨_, results_tmp rfl _ _ _, ?_, hS2.below⟩
      rw [HE.out]
      rfl
    case stop =>
      rintro D c' pre W hD hpre ⟨rfl, ⟨x, hx, hlt⟩, hs⟩ hK
      have HE := Lib.hid (chk_some ⟨ver, .slice A ins.length c, ins, .slice B outs.length d, outs, lock⟩ (hpre.subset hx) hlt)
      have HS := Lib.hid hs; have HK := Lib.hid hK; have HD := Lib.hid hD
      clear hs hbb hK hD hpre hx hlt
      gi_wp2_with fail
      go_wp2_with (refine atd 33 (by rfl) ?_; refine wl (by rfl) (s_ld HS.out 1 (by rfl) (by rfl) (by rfl) (by kernel_rfl) (by rfl) ?_))
      have hKn := HK.out
      try rw [Exit.noGoto_ret]
      refine ⟨by simp, .inl ⟨_, _, rfl, run_takeDeferred hKn, ?_⟩⟩
      have hS2 := HS.out.book (W' := W.putObj D (.deferred none)) (grownBy_putObj' W D _) (fun r e => by cases e; exact ⟨Nat.le_trans hbz HD.out, _, hKn, rfl⟩)
      refine ⟨_, results_tmp rfl _ _ _, ?_, hS2.below⟩
      rw [HE.out]
      rfl
  by_cases hx : 50 < outs.length
  · have HLEN := Lib.hid (show ¬ (1 ≤ ins.length ∧ ins.length ≤ 50 ∧ 1 ≤ outs.length ∧ outs.length ≤ 50) by omega)
    have k1 : ¬ (ins.length : Int) < 1 := by omega
    have k2 : ¬ (50 : Int) < (ins.length : Int) := by omega
    have k3 : ¬ (outs.length : Int) < 1 := by omega
    have k4 : (50 : Int) < (outs.length : Int) := by omega
    go_wp2_with (first
      | (refine atd 3 (by rfl) ?_; refine wl (by rfl) (s_al HS.out (by rfl) z30 (by rfl) ?_); intro b3 Wn hS; clear HS; have HS := Lib.hid hS; clear hS)
      | (first | (refine wl (by rfl) (s_st (v := .int .i64 0) HS.out 0 (by rfl) (by rfl) (by rfl) (by kernel_rfl) (by rfl) (by rfl) (by exact Nat.zero_lt_one) ?_); intro Wn hS; clear HS; have HS := Lib.hid hS; clear hS) | (refine wl (by rfl) (s_st (v := .int .i64 60) HS.out 0 (by rfl) (by rfl) (by rfl) (by kernel_rfl) (by rfl) (by rfl) (by exact Nat.zero_lt_one) ?_); intro Wn hS; clear HS; have HS := Lib.hid hS; clear hS))
      | (refine atd 6 (by rfl) ?_; refine wl (by rfl) (s_ld HS.out 1 (by rfl) (by rfl) (by rfl) (by kernel_rfl) (by rfl) ?_))
      | (refine atd 11 (by rfl) ?_; refine wl (by rfl) (s_ld HS.out 1 (by rfl) (by rfl) (by rfl) (by kernel_rfl) (by rfl) ?_))
      | (refine atd 17 (by rfl) ?_; refine wl (by rfl) (s_ld HS.out 1 (by rfl) (by rfl) (by rfl) (by kernel_rfl) (by rfl) ?_))
      | (refine atd 23 (by rfl) ?_; refine wl (by rfl) (s_ld HS.out 1 (by rfl) (by rfl) (by rfl) (by kernel_rfl) (by rfl) ?_)))
    go_step3
    go_wp2_with (first
      | (first | (refine wl (by rfl) (s_st (v := .int .i64 0) HS.out 0 (by rfl) (by rfl) (by rfl) (by kernel_rfl) (by rfl) (by rfl) (by exact Nat.zero_lt_one) ?_); intro Wn hS; clear HS; have HS := Lib.hid hS; clear hS) | (refine wl (by rfl) (s_st (v := .int .i64 60) HS.out 0 (by rfl) (by rfl) (by rfl) (by kernel_rfl) (by rfl) (by rfl) (by exact Nat.zero_lt_one) ?_); intro Wn hS; clear HS; have HS := Lib.hid hS; clear hS))
      | (refine atd 27 (by rfl) ?_; refine wl (by rfl) (s_lda (cs := [.int .u32 (ver : Int), .slice A ins.length c, .slice B outs.length d, .int .u32 (lock : Int)]) HS.out 1 4 (by rfl) (by rfl) (by rfl) ag55 (by rfl) (by rfl) ?_))
      | (go_at_call 130; refine (scripts130 ⟨ver, .slice A ins.length c, ins, .slice B outs.length d, outs, lock⟩ A c B d _ rfl rfl).mono ?_; rintro e Wn ⟨bb, rfl, hb⟩; have hS := HS.out.join hb; clear hb; clear HS; have HS := Lib.hid hS; clear hS))
    have hbb : Wn.heap[bb]? = some (.cells ([.int .u32 (ver : Int), .slice A ins.length c, .slice B outs.length d, .int .u32 (lock : Int)]).toArray 55 (0, 0)) := HS.out.blk (i := 0) rfl
    have hbm : w.heap.size ≤ bb := ((HS.out.own _ (List.mem_of_getElem? (i := 0) rfl)).2 bb (by simp [Blk])).1
    have hltb : bb < Wn.heap.size := blk_lt hbb
    have hbz := HS.out.below.size
    refine (wpIn_wide (n := 3)).1 ?_
    refine wpIn_rangeFunc_ownF (n := 3) rfl (by omega) (gf := 149) (lb := #[.pointer (some ⟨bb, 0, none⟩)]) rfl trivial (enters_of Try.func149 (by kernel_rfl) rfl)
      (scripts1_in 2 w.heap.size bb (by omega) ⟨ver, .slice A ins.length c, ins, .slice B outs.length d, outs, lock⟩ HOK.out Wn hbb (HS.out.fact (i := 0) rfl) HLT.out.1 HLT.out.2 hbm hl1 hl2) Keeps.trans ?hKb (Below.refl _ _) (fun _ => rfl)
      (fun pre W => Sm pre ∧ St w W [Blk bb [.int .u32 (ver : Int), .slice A ins.length c, .slice B outs.length d, .int .u32 (lock : Int)] 55, Blk b3 [.int .i64 60] 30, Blk b1 [.int .u32 (ver : Int), .slice A ins.length c, .slice B outs.length d, .int .u32 (lock : Int)] 55] [TxW ⟨ver, .slice A ins.length c, ins, .slice B outs.length d, outs, lock⟩]) (fun c' pre W => c' = .exit 0 ∧ (∃ x ∈ pre, 2000 < x.2.length) ∧ St w W [Blk bb [.int .u32 (ver : Int), .slice A ins.length c, .slice B outs.length d, .int .u32 (lock : Int)] 55, Blk b3 [.int .i64 60] 30, Blk b1 [.int .u32 (ver : Int), .slice A ins.length c, .slice B outs.length d, .int .u32 (lock : Int)] 55] [TxW ⟨ver, .slice A ins.length c, ins, .slice B outs.length d, outs, lock⟩]) (fun s X Y row hs hg hr => ⟨hs.1, hs.2.book hg (fun r e => ⟨Nat.le_trans hbz (hr r e).1, (hr r e).2⟩)⟩) (fun _ s X Y row hs hg hr => ⟨hs.1, hs.2.1, hs.2.2.book hg (fun r e => ⟨Nat.le_trans hbz (hr r e).1, (hr r e).2⟩)⟩) ⟨Sm.nil, HS.out⟩
      ?a1d ?assign ?body ?done ?stop
    case hKb =>
      rintro W l o o' hl' _ _ _ k hk
      refine World.putObj_heap_other ?_
      rcases hk with rfl | hk <;> omega
    case assign =>
      intro l x W K hK
      dsimp only [encS]
      gi_wp2
      exact hK
    case body =>
      rintro l pre x W ⟨hall, hs⟩ hlen
      obtain ⟨A', c', e'⟩ := nv_sh x.1 x.2.length
      simp only [e']
      have HS := Lib.hid hs.sk
      have HALL := Lib.hid hall
      clear hs hall hbb hlen
      by_cases hx : 2000 < x.2.length
      · have k5 : (2000 : Int) < (x.2.length : Int) := by omega
        gi_wp2_with (refine il (by rfl) (i_st (v := .int .i64 60) HS.out 1 (by rfl) (by rfl) (by rfl) (by kernel_rfl) (by rfl) (by rfl) (by exact Nat.zero_lt_one) ?_); intro Wn hS; clear HS; have HS := Lib.hid hS; clear hS)
        exact ⟨HS.out.oth, rfl, ⟨x, by simp, hx⟩, HS.out.st⟩
      · have k5 : ¬ (2000 : Int) < (x.2.length : Int) := by omega
        gi_wp2_with fail
        refine ⟨HS.out.oth, Keeps.refl _ _, ?_, HS.out.st⟩
        exact HALL.out.snoc (by omega)
    case done =>
      rintro D xs W hD rfl ⟨hall, hs⟩ hK
      have HE := Lib.hid (chk_len ⟨ver, .slice A ins.length c, ins, .slice B outs.length d, outs, lock⟩ HLEN.out)
      have HS := Lib.hid hs; have HK := Lib.hid hK; have HD := Lib.hid hD
      clear hs hall hbb hK hD
      gi_wp2_with fail
      go_wp2_with (refine atd 33 (by rfl) ?_; refine wl (by rfl) (s_ld HS.out 1 (by rfl) (by rfl) (by rfl) (by kernel_rfl) (by rfl) ?_))
      have hKn := HK.out
      try rw [Exit.noGoto_ret]
      refine ⟨by simp, .inl ⟨_, _, rfl, run_takeDeferred hKn, ?_⟩⟩
      have hS2 := HS.out.book (W' := W.putObj D (.deferred none)) (grownBy_putObj' W D _) (fun r e => by cases e; exact ⟨Nat.le_trans hbz HD.out, _, hKn, rfl⟩)
      refine ⟨_, results_tmp rfl _ _ _, ?_, hS2.below⟩
      rw [HE.out]
      rfl
    case stop =>
      rintro D c' pre W hD hpre ⟨rfl, ⟨x, hx, hlt⟩, hs⟩ hK
      have HE := Lib.hid (chk_some ⟨ver, .slice A ins.length c, ins, .slice B outs.length d, outs, lock⟩ (hpre.subset hx) hlt)
      have HS := Lib.hid hs; have HK := Lib.hid hK; have HD := Lib.hid hD
      clear hs hbb hK hD hpre hx hlt
      gi_wp2_with fail
      go_wp2_with (refine atd 33 (by rfl) ?_; refine wl (by rfl) (s_ld HS.out 1 (by rfl) (by rfl) (by rfl) (by kernel_rfl) (by rfl) ?_))
      have hKn := HK.out
      try rw [Exit.noGoto_ret]
      refine ⟨by simp, .inl ⟨_, _, rfl, run_takeDeferred hKn, ?_⟩⟩
      have hS2 := HS.out.book (W' := W.putObj D (.deferred none)) (grownBy_putObj' W D _) (fun r e => by cases e; exact ⟨Nat.le_trans hbz HD.out, _, hKn, rfl⟩)
      refine ⟨_, results_tmp rfl _ _ _, ?_, hS2.below⟩
      rw [HE.out]
      rfl
  have HLEN := Lib.hid (chk_all ⟨ver, .slice A ins.length c, ins, .slice B outs.length d, outs, lock⟩ ⟨by dsimp only; omega, by dsimp only; omega, by dsimp only; omega, by dsimp only; omega⟩)
  have k1 : ¬ (ins.length : Int) < 1 := by omega
  have k2 : ¬ (50 : Int) < (ins.length : Int) := by omega
  have k3 : ¬ (outs.length : Int) < 1 := by omega
  have k4 : ¬ (50 : Int) < (outs.length : Int) := by omega
  go_wp2_with (first
    | (refine atd 3 (by rfl) ?_; refine wl (by rfl) (s_al HS.out (by rfl) z30 (by rfl) ?_); intro b3 Wn hS; clear HS; have HS := Lib.hid hS; clear hS)
    | (first | (refine wl (by rfl) (s_st (v := .int .i64 0) HS.out 0 (by rfl) (by rfl) (by rfl) (by kernel_rfl) (by rfl) (by rfl) (by exact Nat.zero_lt_one) ?_); intro Wn hS; clear HS; have HS := Lib.hid hS; clear hS) | (refine wl (by rfl) (s_st (v := .int .i64 60) HS.out 0 (by rfl) (by rfl) (by rfl) (by kernel_rfl) (by rfl) (by rfl) (by exact Nat.zero_lt_one) ?_); intro Wn hS; clear HS; have HS := Lib.hid hS; clear hS))
    | (refine atd 6 (by rfl) ?_; refine wl (by rfl) (s_ld HS.out 1 (by rfl) (by rfl) (by rfl) (by kernel_rfl) (by rfl) ?_))
    | (refine atd 11 (by rfl) ?_; refine wl (by rfl) (s_ld HS.out 1 (by rfl) (by rfl) (by rfl) (by kernel_rfl) (by rfl) ?_))
    | (refine atd 17 (by rfl) ?_; refine wl (by rfl) (s_ld HS.out 1 (by rfl) (by rfl) (by rfl) (by kernel_rfl) (by rfl) ?_))
    | (refine atd 23 (by rfl) ?_; refine wl (by rfl) (s_ld HS.out 1 (by rfl) (by rfl) (by rfl) (by kernel_rfl) (by rfl) ?_)))
  go_step3
  go_wp2_with (first
    | (refine atd 27 (by rfl) ?_; refine wl (by rfl) (s_lda (cs := [.int .u32 (ver : Int), .slice A ins.length c, .slice B outs.length d, .int .u32 (lock : Int)]) HS.out 1 4 (by rfl) (by rfl) (by rfl) ag55 (by rfl) (by rfl) ?_))
    | (go_at_call 130; refine (scripts130 ⟨ver, .slice A ins.length c, ins, .slice B outs.length d, outs, lock⟩ A c B d _ rfl rfl).mono ?_; rintro e Wn ⟨bb, rfl, hb⟩; have hS := HS.out.join hb; clear hb; clear HS; have HS := Lib.hid hS; clear hS))
  have hbb : Wn.heap[bb]? = some (.cells ([.int .u32 (ver : Int), .slice A ins.length c, .slice B outs.length d, .int .u32 (lock : Int)]).toArray 55 (0, 0)) := HS.out.blk (i := 0) rfl
  have hbm : w.heap.size ≤ bb := ((HS.out.own _ (List.mem_of_getElem? (i := 0) rfl)).2 bb (by simp [Blk])).1
  have hltb : bb < Wn.heap.size := blk_lt hbb
  have hbz := HS.out.below.size
  refine (wpIn_wide (n := 3)).1 ?_
  refine wpIn_rangeFunc_ownF (n := 3) rfl (by omega) (gf := 149) (lb := #[.pointer (some ⟨bb, 0, none⟩)]) rfl trivial (enters_of Try.func149 (by kernel_rfl) rfl)
    (scripts1_in 2 w.heap.size bb (by omega) ⟨ver, .slice A ins.length c, ins, .slice B outs.length d, outs, lock⟩ HOK.out Wn hbb (HS.out.fact (i := 0) rfl) HLT.out.1 HLT.out.2 hbm hl1 hl2) Keeps.trans ?hKb (Below.refl _ _) (fun _ => rfl)
    (fun pre W => Sm pre ∧ St w W [Blk bb [.int .u32 (ver : Int), .slice A ins.length c, .slice B outs.length d, .int .u32 (lock : Int)] 55, Blk b3 [.int .i64 0] 30, Blk b1 [.int .u32 (ver : Int), .slice A ins.length c, .slice B outs.length d, .int .u32 (lock : Int)] 55] [TxW ⟨ver, .slice A ins.length c, ins, .slice B outs.length d, outs, lock⟩]) (fun c' pre W => c' = .exit 0 ∧ (∃ x ∈ pre, 2000 < x.2.length) ∧ St w W [Blk bb [.int .u32 (ver : Int), .slice A ins.length c, .slice B outs.length d, .int .u32 (lock : Int)] 55, Blk b3 [.int .i64 60] 30, Blk b1 [.int .u32 (ver : Int), .slice A ins.length c, .slice B outs.length d, .int .u32 (lock : Int)] 55] [TxW ⟨ver, .slice A ins.length c, ins, .slice B outs.length d, outs, lock⟩]) (fun s X Y row hs hg hr => ⟨hs.1, hs.2.book hg (fun r e => ⟨Nat.le_trans hbz (hr r e).1, (hr r e).2⟩)⟩) (fun _ s X Y row hs hg hr => ⟨hs.1, hs.2.1, hs.2.2.book hg (fun r e => ⟨Nat.le_trans hbz (hr r e).1, (hr r e).2⟩)⟩) ⟨Sm.nil, HS.out⟩
    ?a1z ?assign ?body ?done ?stop
  case hKb =>
    rintro W l o o' hl' _ _ _ k hk
    refine World.putObj_heap_other ?_
    rcases hk with rfl | hk <;> omega
  case assign =>
    intro l x W K hK
    dsimp only [encS]
    gi_wp2
    exact hK
  case body =>
    rintro l pre x W ⟨hall, hs⟩ hlen
    obtain ⟨A', c', e'⟩ := nv_sh x.1 x.2.length
    simp only [e']
    have HS := Lib.hid hs.sk
    have HALL := Lib.hid hall
    clear hs hall hbb hlen
    by_cases hx : 2000 < x.2.length
    · have k5 : (2000 : Int) < (x.2.length : Int) := by omega
      gi_wp2_with (refine il (by rfl) (i_st (v := .int .i64 60) HS.out 1 (by rfl) (by rfl) (by rfl) (by kernel_rfl) (by rfl) (by rfl) (by exact Nat.zero_lt_one) ?_); intro Wn hS; clear HS; have HS := Lib.hid hS; clear hS)
      exact ⟨HS.out.oth, rfl, ⟨x, by simp, hx⟩, HS.out.st⟩
    · have k5 : ¬ (2000 : Int) < (x.2.length : Int) := by omega
      gi_wp2_with fail
      refine ⟨HS.out.oth, Keeps.refl _ _, ?_, HS.out.st⟩
      exact HALL.out.snoc (by omega)
  case done =>
    rintro D xs W hD rfl ⟨hall, hs⟩ hK
    have HE := Lib.hid (HLEN.out hall)
    have HS := Lib.hid hs; have HK := Lib.hid hK; have HD := Lib.hid hD
    clear hs hall hbb hK hD
    gi_wp2_with fail
    go_wp2_with (refine atd 33 (by rfl) ?_; refine wl (by rfl) (s_ld HS.out 1 (by rfl) (by rfl) (by rfl) (by kernel_rfl) (by rfl) ?_))
    have hKn := HK.out
    try rw [Exit.noGoto_ret]
    refine ⟨by simp, .inl ⟨_, _, rfl, run_takeDeferred hKn, ?_⟩⟩
    have hS2 := HS.out.book (W' := W.putObj D (.deferred none)) (grownBy_putObj' W D _) (fun r e => by cases e; exact ⟨Nat.le_trans hbz HD.out, _, hKn, rfl⟩)
    refine ⟨_, results_tmp rfl _ _ _, ?_, hS2.below⟩
    rw [HE.out]
    rfl
  case stop =>
    rintro D c' pre W hD hpre ⟨rfl, ⟨x, hx, hlt⟩, hs⟩ hK
    have HE := Lib.hid (chk_some ⟨ver, .slice A ins.length c, ins, .slice B outs.length d, outs, lock⟩ (hpre.subset hx) hlt)
    have HS := Lib.hid hs; have HK := Lib.hid hK; have HD := Lib.hid hD
    clear hs hbb hK hD hpre hx hlt
    gi_wp2_with fail
    go_wp2_with (refine atd 33 (by rfl) ?_; refine wl (by rfl) (s_ld HS.out 1 (by rfl) (by rfl) (by rfl) (by kernel_rfl) (by rfl) ?_))
    have hKn := HK.out
    try rw [Exit.noGoto_ret]
    refine ⟨by simp, .inl ⟨_, _, rfl, run_takeDeferred hKn, ?_⟩⟩
    have hS2 := HS.out.book (W' := W.putObj D (.deferred none)) (grownBy_putObj' W D _) (fun r e => by cases e; exact ⟨Nat.le_trans hbz HD.out, _, hKn, rfl⟩)
    refine ⟨_, results_tmp rfl _ _ _, ?_, hS2.below⟩
    rw [HE.out]
    rfl
end
section
open Go Go.RowKit Go.Proofs
attribute [local go_sem] Oper.semAt_some
attribute [local irreducible] Calls

theorem fixedE8 (n : Nat) (h : n < 18446744073709551616) : fixedE 8 n = 0 := by
  unfold fixedE
  rw [if_neg (by decide), if_neg]
  simp [goesB]; omega
theorem fixed8 (n : Nat) (h : n < 18446744073709551616) : fixedB 8 n = le 8 n := by
  rw [fixedB, if_pos (fixedE8 n h)]; rfl
theorem penEight (p : Nat) (n : Nat) (v : Value) (xs : List UInt8) (w : World) (hp : IsPen w p v xs) (hn : n < 18446744073709551616) (hb : xs.length + 8 ≤ 70368744177664) :
    Calls Try.prog 60 #[.pointer (some ⟨p, 0, none⟩), .int .i64 8, .int .u64 (n : Int)] w fun e w' => ∃ v', e = .returned (.int .i64 0) ∧ PenGo w w' p v v' (xs ++ le 8 n) := by
  refine (fixed_any p 8 n v xs w hp hn hb).mono ?_
  rintro e w' ⟨rfl, v', hg⟩
  rw [fixed8 n hn] at hg
  exact ⟨v', by rw [fixedE8 n hn], hg⟩
theorem penSize (p : Nat) (n : Nat) (v : Value) (xs : List UInt8) (w : World) (hp : IsPen w p v xs) (hn : n < 18446744073709551616) (hb : xs.length + 9 ≤ 70368744177664) :
    Calls Try.prog 93 #[.pointer (some ⟨p, 0, none⟩), .int .u64 (n : Int)] w fun e w' => ∃ v', e = .returned (.int .i64 0) ∧ PenGo w w' p v v' (xs ++ csize n) := by
  refine (psize_any p _ v xs w hp (U64.of hn) hb).mono ?_
  rintro e w' ⟨rfl, v', hg⟩
  rw [Int.toNat_natCast] at hg
  exact ⟨v', rfl, hg⟩
/-- What is written behind i inputs. -/
def pI (ver : Nat) (ins : List TIn) (i : Nat) : List UInt8 := le 4 ver ++ csize ins.length ++ (ins.take i).flatMap inB
def pO (ver : Nat) (ins : List TIn) (outs : List TOut) (i : Nat) : List UInt8 := pI ver ins ins.length ++ csize outs.length ++ (outs.take i).flatMap outB
theorem pI0 (ver : Nat) (ins : List TIn) : [] ++ le 4 ver ++ csize ins.length = pI ver ins 0 := by simp [pI]
theorem pO0 (ver : Nat) (ins : List TIn) (outs : List TOut) : pI ver ins ins.length ++ csize outs.length = pO ver ins outs 0 := by simp [pO]
theorem pI_snoc {ver : Nat} {ins : List (Value × TIn)} {i : Nat} {x : Value × TIn} (h : ins[i]? = some x) : pI ver (ins.map (·.2)) i ++ x.2.h ++ le 4 x.2.n ++ csize x.2.s.length ++ x.2.s ++ le 4 x.2.q = pI ver (ins.map (·.2)) (i + 1) := by
  have h2 : (ins.map (·.2))[i]? = some x.2 := by rw [List.getElem?_map, h]; rfl
  unfold pI
  rw [take_snoc _ i _ h2, List.flatMap_append]
  simp [inB]
theorem pO_snoc {ver : Nat} {ins : List TIn} {outs : List (Value × TOut)} {i : Nat} {x : Value × TOut} (h : outs[i]? = some x) : pO ver ins (outs.map (·.2)) i ++ le 8 x.2.u ++ csize x.2.s.length ++ x.2.s = pO ver ins (outs.map (·.2)) (i + 1) := by
  have h2 : (outs.map (·.2))[i]? = some x.2 := by rw [List.getElem?_map, h]; rfl
  unfold pO
  rw [take_snoc _ i _ h2, List.flatMap_append]
  simp [outB]
theorem pAll (ver : Nat) (ins : List TIn) (outs : List TOut) (lock : Nat) : pO ver ins outs outs.length ++ le 4 lock = txB ⟨ver, ins, outs, lock⟩ := by
  unfold pO pI txB
  rw [List.take_of_length_le (Nat.le_refl _), List.take_of_length_le (Nat.le_refl _)]
  simp
theorem compact9 (n : Nat) : compact n ≤ 9 := by
  unfold compact; repeat' split
  all_goals simp
theorem flat_len {α : Type} (f : α → List UInt8) (m : Nat) : ∀ (l : List α), (∀ x ∈ l, (f x).length ≤ m) → (l.flatMap f).length ≤ l.length * m
  | [], _ => by simp
  | x :: l, h => by
    have h1 := h x (List.mem_cons_self ..)
    have h2 := flat_len f m l (fun y hy => h y (List.mem_cons_of_mem _ hy))
    simp only [List.flatMap_cons, List.length_append, List.length_cons, Nat.add_mul]
    omega
theorem inB_len {x : TIn} (hx : x.ok) (h : x.s.length ≤ 2000) : (inB x).length ≤ 2100 := by
  have := compact9 x.s.length
  simp [inB, hx.h, le_length, csize_length]
  omega
theorem outB_len {x : TOut} (h : x.s.length ≤ 2000) : (outB x).length ≤ 2100 := by
  have := compact9 x.s.length
  simp [outB, le_length, csize_length]
  omega
theorem pI_len {ver : Nat} {ins : List TIn} (i : Nat) (ho : ∀ x ∈ ins, x.ok) (hl : ins.length ≤ 50) (h : ∀ x ∈ ins, x.s.length ≤ 2000) : (pI ver ins i).length ≤ 106000 := by
  have h1 := flat_len inB 2100 (ins.take i) (fun x hx => inB_len (ho x (List.mem_of_mem_take hx)) (h x (List.mem_of_mem_take hx)))
  have h2 : (ins.take i).length ≤ 50 := by rw [List.length_take]; omega
  have h3 := compact9 ins.length
  simp only [pI, List.length_append, le_length, csize_length]
  omega
theorem pO_len {ver : Nat} {ins : List TIn} {outs : List TOut} (i : Nat) (ho : ∀ x ∈ ins, x.ok) (hl : ins.length ≤ 50) (h : ∀ x ∈ ins, x.s.length ≤ 2000) (hl2 : outs.length ≤ 50) (h2 : ∀ x ∈ outs, x.s.length ≤ 2000) : (pO ver ins outs i).length ≤ 212000 := by
  have h1 := flat_len outB 2100 (outs.take i) (fun x hx => outB_len (h2 x (List.mem_of_mem_take hx)))
  have h4 : (outs.take i).length ≤ 50 := by rw [List.length_take]; omega
  have h5 := pI_len (ver := ver) ins.length ho hl h
  have h3 := compact9 outs.length
  simp only [pO, List.length_append, csize_length]
  omega
theorem TOut.u_lt (x : TOut) : x.u < 18446744073709551616 := by unfold TOut.u; omega
theorem TOut.u_wrap (x : TOut) : IntKind.u64.wrap x.v = (x.u : Int) := by
  unfold TOut.u
  rw [Int.toNat_of_nonneg (by omega)]
  rfl
set_option maxHeartbeats 4000000 in
set_option maxRecDepth 100000 in
theorem enc35_no (t : TxM) (w : World) (hok : t.p.ok) (ht : TxW t w) (hl1 : t.ins.length ≤ 1000000) (hl2 : t.outs.length ≤ 1000000) (hc : chkT t.p = false) : Calls Try.prog 35 #[.agg t.cs.toArray] w fun e w' => e = .returned (.tuple #[.slice none 0 0, .int .i64 60]) ∧ Below w.heap.size w w' := by
  obtain ⟨ver, iv, ins, ov, outs, lock⟩ := t
  obtain ⟨A, c, B, d, e1, e2, hc, hd⟩ := ht.shape
  dsimp only at e1 e2 hc hd
  subst e1 e2
  dsimp only [TxM.cs]
  dsimp only at hl1 hl2
  have HCH := Lib.hid (show chkTI (TxM.p ⟨ver, .slice A ins.length c, ins, .slice B outs.length d, outs, lock⟩) = 60 by unfold chkTI; rw [hc]; rfl)
  have HS := Lib.hid ((St.start w).addF ht.away0)
  have HOK := Lib.hid hok
  clear ht hok hc
  go_enter Try.func35, Try.ntmps35
  go_wp2_with (first
    | (refine atd 1 (by rfl) ?_; refine wl (by rfl) (s_bx (l := [.int .u32 (ver : Int), .slice A ins.length c, .slice B outs.length d, .int .u32 (lock : Int)]) HS.out (by rfl) (by rfl) ?_); intro b1 Wn hS; clear HS; have HS := Lib.hid hS; clear hS)
    | (refine atd 10 (by rfl) ?_; refine wl (by rfl) (s_lda (cs := [.int .u32 (ver : Int), .slice A ins.length c, .slice B outs.length d, .int .u32 (lock : Int)]) HS.out 0 4 (by rfl) (by rfl) (by rfl) ag55 (by rfl) (by rfl) ?_))
    | (go_at_call 84; refine (check84 ⟨ver, .slice A ins.length c, ins, .slice B outs.length d, outs, lock⟩ _ HOK.out (HS.out.fact (i := 0) rfl) (by dsimp only; omega) (by dsimp only; omega)).mono ?_; rintro e Wn ⟨rfl, hb⟩; rw [HCH.out]; have hS := HS.out.call hb; clear hb; clear HS; have HS := Lib.hid hS; clear hS))
  go_ret2
  exact ⟨rfl, HS.out.below⟩
set_option maxHeartbeats 4000000 in
set_option maxRecDepth 100000 in
theorem enc35_yes (t : TxM) (w : World) (hok : t.p.ok) (ht : TxW t w) (hc : chkT t.p = true) : Calls Try.prog 35 #[.agg t.cs.toArray] w fun e w' => ∃ v', e = .returned (.tuple #[v', .int .i64 0]) ∧ New w w' (Row v' 5 1 (txB t.p).length (bs (txB t.p))) := by
  obtain ⟨ver, iv, ins, ov, outs, lock⟩ := t
  obtain ⟨A, c, B, d, e1, e2, hc, hd⟩ := ht.shape
  dsimp only at e1 e2 hc hd
  subst e1 e2
  dsimp only [TxM.cs]
  have HCH := Lib.hid (show chkTI (TxM.p ⟨ver, .slice A ins.length c, ins, .slice B outs.length d, outs, lock⟩) = 0 by unfold chkTI; rw [hc]; rfl)
  obtain ⟨⟨h1, h2, h3, h4⟩, h5, h6⟩ := chkT_iff.1 hc
  have HC1 := Lib.hid h5; have HC2 := Lib.hid h6
  simp only [TxM.p, List.length_map] at h1 h2 h3 h4
  have HT := Lib.hid ht
  have HS := Lib.hid ((St.start w).addF ht.away0)
  have HOK := Lib.hid hok
  have hver := hok.ver; have hlock := hok.lock
  simp only [TxM.p] at hver hlock
  have HP0 := Lib.hid (show pI ver (ins.map (·.2)) ins.length ++ csize outs.length = pO ver (ins.map (·.2)) (outs.map (·.2)) 0 by have := pO0 ver (ins.map (·.2)) (outs.map (·.2)); simpa using this)
  have HPA := Lib.hid (show pO ver (ins.map (·.2)) (outs.map (·.2)) outs.length ++ le 4 lock = txB (TxM.p ⟨ver, .slice A ins.length c, ins, .slice B outs.length d, outs, lock⟩) by have := pAll ver (ins.map (·.2)) (outs.map (·.2)) lock; simpa [TxM.p] using this)
  have HPI := Lib.hid (show [] ++ le 4 ver ++ csize ins.length = pI ver (ins.map (·.2)) 0 by have := pI0 ver (ins.map (·.2)); simpa using this)
  have hco1 := compact9 ins.length; have hco2 := compact9 outs.length
  have HHL := trivial
  clear ht hok hc h5 h6
  go_enter Try.func35, Try.ntmps35
  go_wp2_with (first
    | (refine atd 1 (by rfl) ?_; refine wl (by rfl) (s_bx (l := [.int .u32 (ver : Int), .slice A ins.length c, .slice B outs.length d, .int .u32 (lock : Int)]) HS.out (by rfl) (by rfl) ?_); intro b1 Wn hS; clear HS; have HS := Lib.hid hS; clear hS)
    | (refine atd 10 (by rfl) ?_; refine wl (by rfl) (s_lda (cs := [.int .u32 (ver : Int), .slice A ins.length c, .slice B outs.length d, .int .u32 (lock : Int)]) HS.out 0 4 (by rfl) (by rfl) (by rfl) ag55 (by rfl) (by rfl) ?_))
    | (go_at_call 84; refine (check84 ⟨ver, .slice A ins.length c, ins, .slice B outs.length d, outs, lock⟩ _ HOK.out (HS.out.fact (i := 0) rfl) (by dsimp only; omega) (by dsimp only; omega)).mono ?_; rintro e Wn ⟨rfl, hb⟩; rw [HCH.out]; have hS := HS.out.call hb; clear hb; clear HS; have HS := Lib.hid hS; clear hS)
    | (refine atd 5 (by rfl) ?_; refine wl (by rfl) (s_al HS.out (by rfl) z80 (by rfl) ?_); intro b5 Wn hS; replace hS := hS.pen0 (i := 0) rfl; clear HS; have HS := Lib.hid hS; clear hS)
    | (refine atd 16 (by rfl) ?_; refine wl (by rfl) (s_ld HS.out 1 (by rfl) (by rfl) (by rfl) (by kernel_rfl) (by rfl) ?_))
    | (go_at_call 60; refine (penFour _ _ _ _ _ (HS.out.res (i := 0) rfl) (by omega) (by simp [le_length, csize_length]; try omega)).mono ?_; rintro e Wn ⟨vp, rfl, hb⟩; have hS := HS.out.pen (i := 0) rfl hb; clear hb; clear HS; have HS := Lib.hid hS; clear hS)
    | (refine atd 20 (by rfl) ?_; refine wl (by rfl) (s_ld HS.out 1 (by rfl) (by rfl) (by rfl) (by kernel_rfl) (by rfl) ?_))
    | (go_at_call 93; refine (penSize _ _ _ _ _ (HS.out.res (i := 0) rfl) (by omega) (by simp [le_length, csize_length]; try omega)).mono ?_; rintro e Wn ⟨vp, rfl, hb⟩; have hS := HS.out.pen (i := 0) rfl hb; clear hb; clear HS; have HS := Lib.hid hS; clear hS)
    | (refine atd 25 (by rfl) ?_; refine wl (by rfl) (s_ld HS.out 1 (by rfl) (by rfl) (by rfl) (by kernel_rfl) (by rfl) ?_)))
  have hz := HS.out
  rw [HPI.out] at hz
  clear HS
  have HS := Lib.hid hz
  clear hz
  go_loopw [27] (fun s27 wr => ∃ (i : Nat) (vp : Value), i ≤ ins.length ∧ s27 = .int .i64 (i : Int) ∧ St w wr [PenR b5 vp (pI ver (ins.map (·.2)) i), Blk b1 [.int .u32 (ver : Int), .slice A ins.length c, .slice B outs.length d, .int .u32 (lock : Int)] 55] [TxW ⟨ver, .slice A ins.length c, ins, .slice B outs.length d, outs, lock⟩]) (fun s27 _ => ins.length - (intOf s27).toNat)
  case atStart => exact ⟨0, _, by omega, rfl, HS.out⟩
  case round =>
    obtain ⟨i, vp, hi, rfl, hs⟩ := hrel
    clear HS
    have HS := Lib.hid hs
    clear hs
    by_cases hlt : i < ins.length
    · have hli : ins[i]? = some ins[i] := List.getElem?_eq_getElem hlt
      have htw := HS.out.fact (i := 0) rfl
      obtain ⟨bb, o, rfl⟩ := htw.in_b rfl hlt
      generalize ins[i] = x at hli
      have hr := htw.in_at rfl hli
      obtain ⟨xv, y⟩ := x
      obtain ⟨Ap, cp, exv, _⟩ := (htw.is _ (List.mem_of_getElem? hli)).shape
      dsimp only at exv
      subst exv
      have HR := Lib.hid hr
      have HLI := Lib.hid hli
      have HSB := Lib.hid (HT.out.is _ (List.mem_of_getElem? hli))
      have hys := HC1.out y (List.mem_map_of_mem (f := (·.2)) (List.mem_of_getElem? hli))
      have hyo := HOK.out.ins y (List.mem_map_of_mem (f := (·.2)) (List.mem_of_getElem? hli))
      have hn1 := hyo.n; have hn2 := hyo.q; have HHL := Lib.hid hyo.h
      have hpl := pI_len (ver := ver) i HOK.out.ins (by rw [TxM.p]; simp only [List.length_map]; omega) HC1.out
      dsimp only [TxM.p] at hpl
      have HYO := Lib.hid hyo
      have hco := compact9 y.s.length
      have j1 : (i : Int) < (ins.length : Int) := by omega
      clear hr htw hli hyo
      go_wp2_with (first
        | (refine atd 7 (by rfl) ?_; refine wl (by rfl) (s_al (l := z35) HS.out (by rfl) z66 (by rfl) ?_); intro b7 Wn hS; clear HS; have HS := Lib.hid hS; clear hS)
        | (refine sto 7 (by rfl) ?_; refine wl (by rfl) (s_sta (cs := inC (.slice Ap y.s.length cp, y)) HS.out 0 35 (by rfl) (by rfl) (by rfl) ag66 (by rfl) (inC_length (x := (.slice Ap y.s.length cp, y)) HYO.out) (inC_one (x := (.slice Ap y.s.length cp, y)) rfl) (by exact Nat.le_refl _) ?_); intro Wn hS; rw [splice_all (l := z35) (cs := inC (.slice Ap y.s.length cp, y)) (inC_length (x := (.slice Ap y.s.length cp, y)) HYO.out)] at hS; clear HS; have HS := Lib.hid hS; clear hS)
        | (refine atd 30 (by rfl) ?_; refine wl (by rfl) (wp_of_run (run_lda (n := 35) (cs := inC (.slice Ap y.s.length cp, y)) ag66 (by rfl) (by rfl) HR.out (inC_length (x := (.slice Ap y.s.length cp, y)) HYO.out)) ?_))
        | (refine atd 33 (by rfl) ?_; refine wl (by rfl) (wp_of_run (run_sla (by rfl) (by rfl)) ?_))
        | (refine atd 34 (by rfl) ?_; refine wl (by rfl) (s_bs (E := 28) (z := .slice none 0 0) HS.out 1 1 [.slice (some ⟨b7, 0, none⟩) 32 32] (by rfl) Try.underlying195 (by kernel_rfl) (by rfl) (by decide) (by decide) (by kernel_rfl) (by rfl) (by decide) ?_); intro bp Wn hS; clear HS; have HS := Lib.hid hS; clear hS)
        | (go_at_call 94; refine (penRaw1 _ _ _ (.slice (some ⟨b7, 0, none⟩) 32 32) y.h _ _ _ (HS.out.res (i := 2) rfl) (HS.out.res (i := 0) rfl) (by have hh := HB.of_range (xs := y.h) (b := b7) (k := 0) (HS.out.range (i := 1) rfl (by rw [bs_length, HYO.out.h]; exact inC_h (x := (.slice Ap y.s.length cp, y)) HYO.out)); rw [HYO.out.h] at hh; exact hh) (by simp [le_length, csize_length, HHL.out]; try omega)).mono ?_; rintro e Wn ⟨vp, rfl, hb⟩; have hS := HS.out.pen (i := 2) rfl hb; replace hS := hS.sub 0; clear hb; clear HS; have HS := Lib.hid hS; clear hS)
        | (refine atd 38 (by rfl) ?_; refine wl (by rfl) (s_ld HS.out 0 (by rfl) (by rfl) (by rfl) (by kernel_rfl) (by exact inC_32 (x := (.slice Ap y.s.length cp, y)) HYO.out) ?_))
        | (go_at_call 60; refine (penFour _ _ _ _ _ (HS.out.res (i := 1) rfl) (by omega) (by simp [le_length, csize_length, HHL.out]; try omega)).mono ?_; rintro e Wn ⟨vp, rfl, hb⟩; have hS := HS.out.pen (i := 1) rfl hb; clear hb; clear HS; have HS := Lib.hid hS; clear hS)
        | (refine atd 42 (by rfl) ?_; refine wl (by rfl) (s_ld HS.out 0 (by rfl) (by rfl) (by rfl) (by kernel_rfl) (by exact inC_33 (x := (.slice Ap y.s.length cp, y)) HYO.out) ?_))
        | (go_at_call 95; refine (penBytes _ _ _ y.s _ _ (HS.out.res (i := 1) rfl) ((HS.out.fact (i := 0) rfl).is _ (List.mem_of_getElem? HLI.out)) (by simp [le_length, csize_length, HHL.out]; try omega) (HS.out.notIn (i := 1) rfl HSB.out)).mono ?_; rintro e Wn ⟨vp, rfl, hb⟩; have hS := HS.out.pen (i := 1) rfl hb; clear hb; clear HS; have HS := Lib.hid hS; clear hS)
        | (refine atd 45 (by rfl) ?_; refine wl (by rfl) (s_ld HS.out 0 (by rfl) (by rfl) (by rfl) (by kernel_rfl) (by exact inC_34 (x := (.slice Ap y.s.length cp, y)) HYO.out) ?_)))
      have h := HS.out.sub 0
      have e := pI_snoc (ver := ver) HLI.out
      dsimp only at e
      rw [e] at h
      exact ⟨⟨i + 1, _, by omega, by push_cast; rfl, h⟩, by simp [intOf]; omega⟩
    · have j1 : ¬ (i : Int) < (ins.length : Int) := by omega
      obtain rfl : i = ins.length := by omega
      clear hlt
      have hpl := pI_len (ver := ver) ins.length HOK.out.ins (by rw [TxM.p]; simp only [List.length_map]; omega) HC1.out
      dsimp only [TxM.p] at hpl
      go_wp2_with (first
        | (refine atd 50 (by rfl) ?_; refine wl (by rfl) (s_ld HS.out 1 (by rfl) (by rfl) (by rfl) (by kernel_rfl) (by rfl) ?_))
        | (go_at_call 93; refine (penSize _ _ _ _ _ (HS.out.res (i := 0) rfl) (by omega) (by simp [le_length, csize_length]; try omega)).mono ?_; rintro e Wn ⟨vp, rfl, hb⟩; have hS := HS.out.pen (i := 0) rfl hb; clear hb; clear HS; have HS := Lib.hid hS; clear hS)
        | (refine atd 55 (by rfl) ?_; refine wl (by rfl) (s_ld HS.out 1 (by rfl) (by rfl) (by rfl) (by kernel_rfl) (by rfl) ?_)))
      have hz := HS.out
      rw [HP0.out] at hz
      clear HS
      have HS := Lib.hid hz
      clear hz
      go_loopw [57] (fun s57 wr => ∃ (i : Nat) (vp : Value), i ≤ outs.length ∧ s57 = .int .i64 (i : Int) ∧ St w wr [PenR b5 vp (pO ver (ins.map (·.2)) (outs.map (·.2)) i), Blk b1 [.int .u32 (ver : Int), .slice A ins.length c, .slice B outs.length d, .int .u32 (lock : Int)] 55] [TxW ⟨ver, .slice A ins.length c, ins, .slice B outs.length d, outs, lock⟩]) (fun s57 _ => outs.length - (intOf s57).toNat)
      case atStart => exact ⟨0, _, by omega, rfl, HS.out⟩
      case round =>
        obtain ⟨i, vp, hi, rfl, hs⟩ := hrel
        clear HS
        have HS := Lib.hid hs
        clear hs
        by_cases hlt : i < outs.length
        · have hli : outs[i]? = some outs[i] := List.getElem?_eq_getElem hlt
          have htw := HS.out.fact (i := 0) rfl
          obtain ⟨bb, o, rfl⟩ := htw.out_b rfl hlt
          generalize outs[i] = x at hli
          have hr := htw.out_at rfl hli
          obtain ⟨xv, y⟩ := x
          obtain ⟨Ap, cp, exv, _⟩ := (htw.os _ (List.mem_of_getElem? hli)).shape
          dsimp only at exv
          subst exv
          have HR := Lib.hid hr
          have HLI := Lib.hid hli
          have HSB := Lib.hid (HT.out.os _ (List.mem_of_getElem? hli))
          have hys := HC2.out y (List.mem_map_of_mem (f := (·.2)) (List.mem_of_getElem? hli))
          have hyo := HOK.out.outs y (List.mem_map_of_mem (f := (·.2)) (List.mem_of_getElem? hli))
          have hw := y.u_wrap
          have hpl := pO_len (ver := ver) i HOK.out.ins (by rw [TxM.p]; simp only [List.length_map]; omega) HC1.out (by rw [TxM.p]; simp only [List.length_map]; omega) HC2.out
          dsimp only [TxM.p] at hpl
          have HYO := Lib.hid hyo
          have hco := compact9 y.s.length
          have j1 : (i : Int) < (outs.length : Int) := by omega
          clear hr htw hli hyo
          go_wp2_with (first
            | (refine atd 9 (by rfl) ?_; refine wl (by rfl) (s_al (l := [.int .i64 0, .slice none 0 0]) HS.out (by rfl) z68 (by rfl) ?_); intro b7 Wn hS; clear HS; have HS := Lib.hid hS; clear hS)
            | (refine sto 9 (by rfl) ?_; refine wl (by rfl) (s_sta (cs := outC (.slice Ap y.s.length cp, y)) HS.out 0 2 (by rfl) (by rfl) (by rfl) ag68 (by rfl) (by rfl) (by intro v hv; simp [outC] at hv; rcases hv with rfl | rfl <;> rfl) (by exact Nat.le_refl _) ?_); intro Wn hS; rw [splice_all (l := [.int .i64 0, .slice none 0 0]) (cs := outC (.slice Ap y.s.length cp, y)) (rfl)] at hS; clear HS; have HS := Lib.hid hS; clear hS)
            | (refine atd 60 (by rfl) ?_; refine wl (by rfl) (wp_of_run (run_lda (n := 2) (cs := outC (.slice Ap y.s.length cp, y)) ag68 (by rfl) (by rfl) HR.out (by rfl)) ?_))
            | (refine atd 62 (by rfl) ?_; refine wl (by rfl) (s_ld HS.out 0 (by rfl) (by rfl) (by rfl) (by kernel_rfl) (by rfl) ?_))
            | (go_at_call 60; refine (penEight _ _ _ _ _ (HS.out.res (i := 1) rfl) (TOut.u_lt _) (by simp [le_length, csize_length]; try omega)).mono ?_; rintro e Wn ⟨vp, rfl, hb⟩; have hS := HS.out.pen (i := 1) rfl hb; clear hb; clear HS; have HS := Lib.hid hS; clear hS)
            | (refine atd 66 (by rfl) ?_; refine wl (by rfl) (s_ld HS.out 0 (by rfl) (by rfl) (by rfl) (by kernel_rfl) (by rfl) ?_))
            | (go_at_call 95; refine (penBytes _ _ _ y.s _ _ (HS.out.res (i := 1) rfl) ((HS.out.fact (i := 0) rfl).os _ (List.mem_of_getElem? HLI.out)) (by simp [le_length, csize_length]; try omega) (HS.out.notIn (i := 1) rfl HSB.out)).mono ?_; rintro e Wn ⟨vp, rfl, hb⟩; have hS := HS.out.pen (i := 1) rfl hb; clear hb; clear HS; have HS := Lib.hid hS; clear hS))
          have h := HS.out.sub 0
          have e := pO_snoc (ver := ver) (ins := ins.map (·.2)) HLI.out
          dsimp only at e
          rw [e] at h
          exact ⟨⟨i + 1, _, by omega, by push_cast; rfl, h⟩, by simp [intOf]; omega⟩
        · have j1 : ¬ (i : Int) < (outs.length : Int) := by omega
          obtain rfl : i = outs.length := by omega
          clear hlt
          have hpl := pO_len (ver := ver) outs.length HOK.out.ins (by rw [TxM.p]; simp only [List.length_map]; omega) HC1.out (by rw [TxM.p]; simp only [List.length_map]; omega) HC2.out
          dsimp only [TxM.p] at hpl
          go_wp2_with (first
            | (refine atd 70 (by rfl) ?_; refine wl (by rfl) (s_ld HS.out 1 (by rfl) (by rfl) (by rfl) (by kernel_rfl) (by rfl) ?_))
            | (go_at_call 60; refine (penFour _ _ _ _ _ (HS.out.res (i := 0) rfl) (by omega) (by simp [le_length, csize_length]; try omega)).mono ?_; rintro e Wn ⟨vp, rfl, hb⟩; have hS := HS.out.pen (i := 0) rfl hb; clear hb; clear HS; have HS := Lib.hid hS; clear hS)
            | (go_at_call 61; refine (penAll b5 _ _ _ (HS.out.res (i := 0) rfl) (by simp [le_length, csize_length]; try omega)).mono ?_; rintro e Wn ⟨v', rfl, hb⟩; have hbw := Lib.hid HS.out.below))
          go_ret2
          rw [HPA.out] at hb
          exact ⟨_, rfl, hbw.out.trans (hb.1.mono hbw.out.size), hb.2.1, fun k hk => ⟨Nat.le_trans hbw.out.size (hb.2.2 k hk).1, (hb.2.2 k hk).2⟩⟩
end
end Go.Proofs.Yteljmpoaggfliaa
