/- Contracts and words that the laws stand on (RecordFormsWalk). -/
import Derived.Test.YtlpklbpaknemaaaRecJ
set_option linter.unusedVariables false
set_option linter.unusedSimpArgs false
namespace Go.Proofs.Ytlpklbpaknemaaa
section
open Go Go.RowKit Go.Proofs
attribute [local irreducible] Calls

/-- Bytes that may be written over. -/
def WB (B : Nat) (A : Option Addr) (n : Nat) (W : World) : Prop := n ≠ 0 → ∃ g o cs, A = some ⟨g, o, none⟩ ∧ B ≤ g ∧ W.heap[g]? = some (.cells cs 5 (0, 0)) ∧ ∀ j, j < n → ∃ z, cs[o + j]? = some (.int .u8 z)
theorem WB.of_own {B n c : Nat} {A : Option Addr} {W : World} {xs : List UInt8} (h : W.ownsRow B 5 1 (.slice A n c) xs.length (bs xs)) : WB B A n W := by
  intro hn
  rcases h.2 with ⟨e, _⟩ | ⟨g, cap, cur, e, h1, h2, h3, h4, h5, h6⟩
  · injection e with _ e _; exact absurd e hn
  · injection e with e1 e2 e3
    subst e1 e2 e3
    refine ⟨g, 0, cur, rfl, h1, h2, fun j hj => ?_⟩
    have e1 : cur.toList[j]? = (bs xs)[j]? := by rw [← h6, List.getElem?_take_of_lt (by omega)]
    have e2 : (bs xs)[j]? = some (.int .u8 (xs[j].toNat : Int)) := by simp [bs, hj]
    exact ⟨(xs[j].toNat : Int), by rw [Nat.zero_add, ← Array.getElem?_toList, e1, e2]⟩
theorem WB.get {B n j : Nat} {A : Option Addr} {W : World} (h : WB B A n W) (hj : j < n) : ∃ g o z, A = some ⟨g, o, none⟩ ∧ B ≤ g ∧ W.cell? ⟨g, o + j, none⟩ = some (.int .u8 z) ∧ W.frozen? ⟨g, o + j, none⟩ = false ∧ ∀ x, WB B A n (W.setCell ⟨g, o + j, none⟩ (.int .u8 x)) := by
  obtain ⟨g, o, cs, e, h1, h2, h3⟩ := h (by omega)
  obtain ⟨z, hz⟩ := h3 j hj
  refine ⟨g, o, z, e, h1, by rw [blk_cell h2]; exact hz, blk_free h2 _, fun x _ => ⟨g, o, _, e, h1, blk_set h2 _ _, fun i hi => ?_⟩⟩
  obtain ⟨y, hy⟩ := h3 i hi
  by_cases hij : j = i
  · subst hij
    exact ⟨x, by rw [Array.getElem?_setIfInBounds_self_of_lt]; exact (Array.getElem?_eq_some_iff.1 hy).1⟩
  · exact ⟨y, by rw [Array.getElem?_setIfInBounds_ne (by omega)]; exact hy⟩
theorem encL_len (n : Nat) : ∀ l : List (Int × List UInt8), (∀ x ∈ l, x.2.length ≤ n) → (encL l).length ≤ l.length * (n + 13) := by
  intro l
  induction l with
  | nil => intro _; simp [encL]
  | cons x l ih =>
    intro h
    have h1 := h x (List.mem_cons_self ..)
    have h2 := ih (fun y hy => h y (List.mem_cons_of_mem _ hy))
    have e : encL (x :: l) = recB (UInt8.ofNat x.1.toNat) x.2 ++ encL l := by simp [encL]
    rw [e, List.length_append, recB_length, List.length_cons, Nat.add_mul, Nat.one_mul]
    omega
theorem encO_len {l : List (Int × List UInt8)} {n : Nat} (h : ∀ x ∈ l, x.2.length ≤ n) : (encO l).length ≤ l.length * (n + 13) := by
  unfold encO
  split
  · exact encL_len n l h
  · simp
theorem rsame16_d (u v : Value) (l m : List (Int × List UInt8)) (d : Bool) (w : World) (hd : decide (l = m) = d) (hu : RS w u l) (hv : RS w v m) (hl : l.length ≤ 1000000) (hm : m.length ≤ 1000000) :
    Calls Try.prog 16 #[u, v] w fun e w' => e = .returned (.bool d) ∧ Below w.heap.size w w' := by subst hd; exact rsame16 u v l m w hu hv hl hm
theorem same22_d (u v : Value) (l m : List (Int × List UInt8)) (d : Bool) (w : World) (hd : decide (l = m) = d) (hu : RS w u l) (hv : RS w v m) (hl : l.length ≤ 1000000) (hm : m.length ≤ 1000000) :
    Calls Try.prog 22 #[u, v] w fun e w' => e = .returned (.bool d) ∧ Below w.heap.size w w' := by subst hd; exact same22 u v l m w hu hv hl hm
set_option maxHeartbeats 1000000 in
set_option maxRecDepth 100000 in
theorem recordForms_walk (u v : Value) (l m : List (Int × List UInt8)) (w : World) (hu : RS w u l) (hv : RS w v m) :
    Calls Try.prog 4 #[u, v] w fun e w' => e = .returned (.bool true) ∧ Below w.heap.size w w' := by
  have HU := Lib.hid hu; have HV := Lib.hid hv
  obtain ⟨A, c, rfl, hlc⟩ := hu.shape
  obtain ⟨C, d, rfl, hmc⟩ := hv.shape
  clear hu hv
  cases hg1 : grt l with
  | false =>
    have G1 := Lib.hid (show grtI l = 1 by unfold grtI; rw [hg1]; rfl)
    clear hg1
    go_enter Try.func4, Try.ntmps4
    go_wp2_with (first
      | (go_at_call 18; refine (great18 _ l _ HU.out).mono ?_; rintro e Wn ⟨rfl, rfl⟩; rw [G1.out]))
    go_ret
    exact ⟨rfl, Below.refl _ _⟩
  | true =>
    have G1 := Lib.hid (show grtI l = 0 by unfold grtI; rw [hg1]; rfl)
    cases hg2 : grt m with
    | false =>
      have G2 := Lib.hid (show grtI m = 1 by unfold grtI; rw [hg2]; rfl)
      clear hg1 hg2
      go_enter Try.func4, Try.ntmps4
      go_wp2_with (first
        | (go_at_call 18; refine (great18 _ l _ HU.out).mono ?_; rintro e Wn ⟨rfl, rfl⟩; rw [G1.out])
        | (go_at_call 18; refine (great18 _ m _ HV.out).mono ?_; rintro e Wn ⟨rfl, rfl⟩; rw [G2.out]))
      go_ret
      exact ⟨rfl, Below.refl _ _⟩
    | true =>
      have G2 := Lib.hid (show grtI m = 0 by unfold grtI; rw [hg2]; rfl)
      obtain ⟨hl, hlp⟩ := grt_true hg1
      obtain ⟨hm, hmp⟩ := grt_true hg2
      have HLP := Lib.hid hlp
      clear hg1 hg2 hmp hlp
      obtain ⟨D, hD⟩ : ∃ D, decide (l = m) = D := ⟨_, rfl⟩
      have HD := Lib.hid hD
      clear hD
      go_enter Try.func4, Try.ntmps4
      go_wp2_with (first
        | (go_at_call 18; refine (great18 _ l _ HU.out).mono ?_; rintro e Wn ⟨rfl, rfl⟩; rw [G1.out])
        | (go_at_call 18; refine (great18 _ m _ HV.out).mono ?_; rintro e Wn ⟨rfl, rfl⟩; rw [G2.out])
        | (go_at_call 19; refine (twin19 _ l _ HU.out (by omega) (fun x hx => by have := HLP.out x hx; omega)).mono ?_; rintro e W1 ⟨v5, rfl, hb, hr⟩; have HB1 := Lib.hid hb; have H5 := Lib.hid hr; obtain ⟨A5, c5, rfl, hlc5⟩ := hr.shape; have HS := Lib.hid ((((St.start W1).addF (HV.out.below hb).away0).addF (HU.out.below hb).away0).addF hr.away0); clear hb hr)
        | (go_at_call 20; refine (enc20 _ l _ (HS.out.fact (i := 0) rfl) (by omega)).mono ?_; rintro e Wn ⟨v6, rfl, hb⟩; have hS := HS.out.take hb; clear hb; obtain ⟨A6, c6, rfl⟩ := Row.sl (hS.res (i := 0) rfl); clear HS; have HS := Lib.hid hS; clear hS)
        | (go_at_call 21; refine (enc21 _ l _ (HS.out.fact (i := 1) rfl) (by omega)).mono ?_; rintro e Wn ⟨v8, rfl, hb⟩; have hS := HS.out.take hb; clear hb; obtain ⟨A8, c8, rfl⟩ := Row.sl (hS.res (i := 0) rfl); clear HS; have HS := Lib.hid hS; clear hS)
        | (refine atd 33 (by rfl) ?_; refine wl (by rfl) (wp_of_run (run_str (by rfl) (by rfl) (Row.hb (HS.out.res (i := 1) rfl))) ?_))
        | (refine atd 35 (by rfl) ?_; refine wl (by rfl) (wp_of_run (run_str (by rfl) (by rfl) (Row.hb (HS.out.res (i := 0) rfl))) ?_))
        | (go_at_call 22; refine (same22_d _ _ l m D _ HD.out (HS.out.fact (i := 0) rfl) (HS.out.fact (i := 2) rfl) (by omega) (by omega)).mono ?_; rintro e Wn ⟨rfl, hb⟩; have hS := HS.out.call hb; clear hb; clear HS; have HS := Lib.hid hS; clear hS)
        | (go_at_call 16; refine (rsame16_d _ _ l m D _ HD.out (HS.out.fact (i := 1) rfl) (HS.out.fact (i := 2) rfl) (by omega) (by omega)).mono ?_; rintro e Wn ⟨rfl, hb⟩; have hS := HS.out.call hb; clear hb; clear HS; have HS := Lib.hid hS; clear hS)
        | (go_at_call 22; refine (same22_d _ _ l l true _ (decide_eq_true rfl) (HS.out.fact (i := 0) rfl) (HS.out.fact (i := 1) rfl) (by omega) (by omega)).mono ?_; rintro e Wn ⟨rfl, hb⟩; have hS := HS.out.call hb; clear hb; clear HS; have HS := Lib.hid hS; clear hS))
      go_loopw [59] (fun s59 wr => ∃ i : Nat, i ≤ l.length ∧ s59 = .int .i64 (i : Int) ∧ St W1 wr [Row (Value.slice A8 (encO l).length c8) 5 1 (encO l).length (bs (encO l)), Row (Value.slice A6 (encO l).length c6) 5 1 (encO l).length (bs (encO l))] [fun W => RS W (Value.slice A5 l.length c5) l, fun W => RS W (Value.slice A l.length c) l, fun W => RS W (Value.slice C m.length d) m]) (fun s59 _ => l.length - (intOf s59).toNat)
      case atStart => exact ⟨0, by omega, rfl, HS.out⟩
      case round =>
        obtain ⟨i, hi, rfl, hs⟩ := hrel
        clear HS
        by_cases hlt : i < l.length
        · obtain ⟨bb, o, pv, rfl, c1, c2, hbp⟩ := (hs.fact (i := 0) rfl : RS wr (.slice A5 l.length c5) l).get hlt
          obtain ⟨bd, q, pw, rfl, d1, d2, hbq⟩ := (hs.fact (i := 1) rfl : RS wr (.slice A l.length c) l).get hlt
          generalize l[i] = x at *
          obtain ⟨k, p⟩ := x
          dsimp only at c1 c2 hbp d1 d2 hbq
          obtain ⟨Ap, cp, rfl, hpc⟩ := hbp.shape
          obtain ⟨Aq, cq, rfl, hqc⟩ := hbq.shape
          have HS := Lib.hid (((((St.start wr).addF hbq.away0).addF (range_away0 (range2 d1 d2))).addF hbp.away0).addF (range_away0 (range2 c1 c2)))
          have HST := Lib.hid hs
          clear hs c1 c2 d1 d2 hbp hbq
          have j1 : (i : Int) < (l.length : Int) := by omega
          go_wp2_with fail
          refine wp_region_pi [(0, true), (1, true), (2, true), (3, true), (5, true), (6, true), (7, true), (8, true), (4, false), (9, false), (10, true)] (by kernel_rfl) (by kernel_rfl) rfl (by kernel_rfl) (fun _ _ _ _ _ h => h) (fun w' => St wr w' [] [fun V => V.rangeAt bb (o + i * 2) [.int .i64 k, .slice Ap p.length cp], fun V => HB V (.slice Ap p.length cp) p, fun V => V.rangeAt bd (q + i * 2) [.int .i64 k, .slice Aq p.length cq], fun V => HB V (.slice Aq p.length cq) p]) HS.out.drew ?_
          intro OPS hops
          have hS := HS.out.drew
          clear HS; have HS := Lib.hid hS; clear hS
          iterate 8
            first | (refine wpPi_yield _ (by rw [hops.out]; simp only [List.getElem?_toArray, List.getElem?_cons_succ, List.getElem?_cons_zero]; rfl) (by first | rfl | (rw [hops.out]; rfl)) (fun w' hS => by first | exact run_lda (n := 2) (cs := [.int .i64 k, .slice Ap p.length cp]) ag25 (by rfl) (by rfl) (hS.fact (i := 0) rfl) (by rfl) | exact run_lda (n := 2) (cs := [.int .i64 k, .slice Aq p.length cq]) ag25 (by rfl) (by rfl) (hS.fact (i := 2) rfl) (by rfl) | (go_simp; rfl)) ?_; simp only [Act.put, List.setIfInBounds_toArray, List.set_cons_succ, List.set_cons_zero]) | (refine wpPi_skip (by rw [hops.out]; simp only [List.getElem?_toArray, List.getElem?_cons_succ, List.getElem?_cons_zero]; rfl) (by first | rfl | (rw [hops.out]; rfl)) ?_; simp only [Act.put, List.setIfInBounds_toArray, List.set_cons_succ, List.set_cons_zero])
          refine wpPi_act (by rw [hops.out]; simp only [List.getElem?_toArray, List.getElem?_cons_succ, List.getElem?_cons_zero]; rfl) (by first | rfl | (rw [hops.out]; rfl)) ?_
          go_simp
          refine (check23 k (.slice Ap p.length cp) p _ (HS.out.fact (i := 1) rfl)).mono ?_
          rintro e Wn ⟨rfl, hb⟩
          have hS := HS.out.call hb
          clear HS; have HS := Lib.hid hS; clear hS
          clear hb
          refine ⟨HS.out, ?_⟩
          try simp only [Act.put, List.setIfInBounds_toArray, List.set_cons_succ, List.set_cons_zero]
          refine wpPi_act (by rw [hops.out]; simp only [List.getElem?_toArray, List.getElem?_cons_succ, List.getElem?_cons_zero]; rfl) (by first | rfl | (rw [hops.out]; rfl)) ?_
          go_simp
          refine (check24 k (.slice Aq p.length cq) p _ (HS.out.fact (i := 3) rfl)).mono ?_
          rintro e Wn ⟨rfl, hb⟩
          have hS := HS.out.call hb
          clear HS; have HS := Lib.hid hS; clear hS
          clear hb
          refine ⟨HS.out, ?_⟩
          try simp only [Act.put, List.setIfInBounds_toArray, List.set_cons_succ, List.set_cons_zero]
          iterate 1
            first | (refine wpPi_yield _ (by rw [hops.out]; simp only [List.getElem?_toArray, List.getElem?_cons_succ, List.getElem?_cons_zero]; rfl) (by first | rfl | (rw [hops.out]; rfl)) (fun w' hS => by first | exact run_lda (n := 2) (cs := [.int .i64 k, .slice Ap p.length cp]) ag25 (by rfl) (by rfl) (hS.fact (i := 0) rfl) (by rfl) | exact run_lda (n := 2) (cs := [.int .i64 k, .slice Aq p.length cq]) ag25 (by rfl) (by rfl) (hS.fact (i := 2) rfl) (by rfl) | (go_simp; rfl)) ?_; simp only [Act.put, List.setIfInBounds_toArray, List.set_cons_succ, List.set_cons_zero]) | (refine wpPi_skip (by rw [hops.out]; simp only [List.getElem?_toArray, List.getElem?_cons_succ, List.getElem?_cons_zero]; rfl) (by first | rfl | (rw [hops.out]; rfl)) ?_; simp only [Act.put, List.setIfInBounds_toArray, List.set_cons_succ, List.set_cons_zero])
          simp only [wpPi]
          clear OPS hops
          go_wp2_with fail
          exact ⟨⟨i + 1, by omega, by push_cast; rfl, HST.out.call HS.out.below⟩, by simp [intOf]; omega⟩
        · have j1 : ¬ (i : Int) < (l.length : Int) := by omega
          have hwb : WB W1.heap.size A6 (encO l).length wr := WB.of_own (hs.own_row (i := 1) rfl)
          have hlen : (encO l).length ≤ 100000 := by
            have h := encO_len HLP.out
            have : l.length * (500 + 13) ≤ 60 * (500 + 13) := Nat.mul_le_mul_right _ hl
            omega
          have hbw := hs.below
          clear hs
          generalize hN : (encO l).length = N at *
          have HWB := Lib.hid hwb; have HBW := Lib.hid hbw
          clear hwb hbw hN
          go_wp2_with fail
          go_loopw [76] (fun s76 wq => ∃ j : Nat, j ≤ N ∧ s76 = .int .i64 (j : Int) ∧ WB W1.heap.size A6 N wq ∧ Below W1.heap.size W1 wq) (fun s76 _ => N - (intOf s76).toNat)
          case atStart => exact ⟨0, by omega, rfl, HWB.out, HBW.out⟩
          case round =>
            obtain ⟨j, hj, rfl, hwb, hbw⟩ := hrel
            clear HWB HBW
            by_cases hlt2 : j < N
            · obtain ⟨g, o, z, rfl, hg, hz, hf, hset⟩ := hwb.get hlt2
              have HZ := Lib.hid hz; have HF := Lib.hid hf; have HSET := Lib.hid hset; have HBW := Lib.hid hbw
              clear hz hf hset hbw hwb
              have j2 : (j : Int) < (N : Int) := by omega
              go_wp2_with (first
                | (refine wl (by rfl) (wp_of_run (run_ld (by kernel_rfl) (by rfl) (by rfl) HZ.out) ?_))
                | (refine wl (by rfl) (wp_of_skip (run_stc (by kernel_rfl) (by rfl) (by rfl) (by rfl) (by rfl) HZ.out HF.out) ?_)))
              exact ⟨⟨j + 1, by omega, by push_cast; rfl, HSET.out _, HBW.out.setCell hg _⟩, by simp [intOf]; omega⟩
            · have j2 : ¬ (j : Int) < (N : Int) := by omega
              have HBW := Lib.hid hbw
              clear hbw
              go_wp2_with (first
                | (go_at_call 16; refine (rsame16_eq _ _ l _ (H5.out.below HBW.out) ((HU.out.below HB1.out).below HBW.out) (by omega)).mono ?_; rintro e Wz ⟨rfl, hb⟩; have HZ := Lib.hid (HBW.out.trans (hb.mono HBW.out.size)); clear hb))
              go_ret
              exact ⟨rfl, HB1.out.trans (HZ.out.mono HB1.out.size)⟩
end
end Go.Proofs.Ytlpklbpaknemaaa
