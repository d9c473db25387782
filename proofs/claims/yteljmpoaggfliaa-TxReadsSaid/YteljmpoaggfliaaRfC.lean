/- Contracts and words that the laws stand on (RfC). -/
import Derived.Test.YteljmpoaggfliaaRfB
import Derived.Test.YteljmpoaggfliaaTxC
set_option linter.unusedVariables false
set_option linter.unusedSimpArgs false
namespace Go.Proofs.Yteljmpoaggfliaa
section
open Go Go.RowKit Go.Proofs
attribute [local go_sem] Oper.semAt_some
attribute [local irreducible] Calls
theorem rfix8N (n : Nat) (w : World) (hn : n < 18446744073709551616) :
    Calls Try.prog 121 #[.int .i64 8, .int .u64 (n : Int)] w fun e w' => ∃ v', e = .returned (.tuple #[v', .int .i64 0]) ∧ New w w' (Row v' 5 1 (le 8 n).length (bs (le 8 n))) := by
  refine (rfixed_any 8 n w hn).mono ?_
  rintro e w' ⟨v', rfl, ho, hb⟩
  rw [fixedE8 n hn]
  rw [fixed8 n hn] at ho
  exact ⟨v', rfl, New.row ho hb⟩
set_option maxHeartbeats 1000000 in
set_option maxRecDepth 100000 in
theorem num133_4 (n : Nat) (w : World) (hn : n < 4294967296) :
    Calls Try.prog 133 #[.int .i64 4, .int .u64 (n : Int)] w fun e w' => ∃ v', e = .returned v' ∧ New w w' (Row v' 5 1 (le 4 n).length (bs (le 4 n))) := by
  go_enter Try.func133, Try.ntmps133
  go_wp2_with (go_at_call 121; refine (rfix4N n _ hn).mono ?_; rintro e Wn ⟨v', rfl, hb⟩)
  go_ret
  exact ⟨_, rfl, hb⟩
set_option maxHeartbeats 1000000 in
set_option maxRecDepth 100000 in
theorem num133_8 (n : Nat) (w : World) (hn : n < 18446744073709551616) :
    Calls Try.prog 133 #[.int .i64 8, .int .u64 (n : Int)] w fun e w' => ∃ v', e = .returned v' ∧ New w w' (Row v' 5 1 (le 8 n).length (bs (le 8 n))) := by
  go_enter Try.func133, Try.ntmps133
  go_wp2_with (go_at_call 121; refine (rfix8N n _ hn).mono ?_; rintro e Wn ⟨v', rfl, hb⟩)
  go_ret
  exact ⟨_, rfl, hb⟩
theorem rsizN' (n : Nat) (w : World) (hn : n < 18446744073709551616) : Calls Try.prog 97 #[.int .u64 (n : Int)] w fun e w' => ∃ v', e = .returned v' ∧ New w w' (Row v' 5 1 (csize n).length (bs (csize n))) := by
  refine (rsize_any n w hn).mono ?_
  rintro e w' ⟨v', rfl, ho, hb⟩
  exact ⟨v', rfl, New.row ho hb⟩
theorem rbytN' (b : Value) (xs : List UInt8) (w : World) (hb : HB w b xs) (hl : xs.length ≤ 1000000) : Calls Try.prog 99 #[b] w fun e w' => ∃ v', e = .returned v' ∧ New w w' (Row v' 5 1 (csize xs.length ++ xs).length (bs (csize xs.length ++ xs))) := by
  refine (rbytes_any b xs w hb hl).mono ?_
  rintro e w' ⟨v', rfl, ho, hb⟩
  exact ⟨v', rfl, New.row ho hb⟩
/-- Small enough. -/
def Sml (t : TxP) : Prop := (t.ins.length ≤ 50 ∧ t.outs.length ≤ 50) ∧ (∀ x ∈ t.ins, x.s.length ≤ 2000) ∧ ∀ x ∈ t.outs, x.s.length ≤ 2000
theorem Sml.of {t : TxP} (h : chkT t = true) : Sml t := by
  obtain ⟨⟨_, h2, _, h4⟩, h5, h6⟩ := chkT_iff.1 h
  exact ⟨⟨h2, h4⟩, h5, h6⟩
theorem pI_snocR {ver : Nat} {ins : List (Value × TIn)} {i : Nat} {x : Value × TIn} (h : ins[i]? = some x) : pI ver (ins.map (·.2)) i ++ x.2.h ++ le 4 x.2.n ++ (csize x.2.s.length ++ x.2.s) ++ le 4 x.2.q = pI ver (ins.map (·.2)) (i + 1) := by
  rw [← pI_snoc h]; simp
theorem pO_snocR {ver : Nat} {ins : List TIn} {outs : List (Value × TOut)} {i : Nat} {x : Value × TOut} (h : outs[i]? = some x) : pO ver ins (outs.map (·.2)) i ++ le 8 x.2.u ++ (csize x.2.s.length ++ x.2.s) = pO ver ins (outs.map (·.2)) (i + 1) := by
  rw [← pO_snoc h]; simp
set_option maxHeartbeats 4000000 in
set_option maxRecDepth 100000 in
theorem bytes89 (m : TxM) (w : World) (hok : m.p.ok) (ht : TxW m w) (hsm : Sml m.p) : Calls Try.prog 89 #[.agg m.cs.toArray] w fun e w' => ∃ v', e = .returned v' ∧ New w w' (Row v' 5 1 (txB m.p).length (bs (txB m.p))) := by
  obtain ⟨ver, iv, ins, ov, outs, lock⟩ := m
  obtain ⟨A, c, B, d, e1, e2, hc, hd⟩ := ht.shape
  dsimp only at e1 e2 hc hd
  subst e1 e2
  dsimp only [TxM.cs]
  obtain ⟨⟨h2, h4⟩, h5, h6⟩ := hsm
  have HC1 := Lib.hid h5; have HC2 := Lib.hid h6
  simp only [TxM.p, List.length_map] at h2 h4
  have HS := Lib.hid ((St.start w).addF ht.away0)
  have HOK := Lib.hid hok
  have hver := hok.ver; have hlock := hok.lock
  simp only [TxM.p] at hver hlock
  have HVL := Lib.hid hver; have HKL := Lib.hid hlock
  have HIL1 := Lib.hid (show ins.length < 18446744073709551616 by omega); have HIL2 := Lib.hid (show outs.length < 18446744073709551616 by omega)
  have HP0 := Lib.hid (show pI ver (ins.map (·.2)) ins.length ++ csize outs.length = pO ver (ins.map (·.2)) (outs.map (·.2)) 0 by have := pO0 ver (ins.map (·.2)) (outs.map (·.2)); simpa using this)
  have HPA := Lib.hid (show pO ver (ins.map (·.2)) (outs.map (·.2)) outs.length ++ le 4 lock = txB (TxM.p ⟨ver, .slice A ins.length c, ins, .slice B outs.length d, outs, lock⟩) by have := pAll ver (ins.map (·.2)) (outs.map (·.2)) lock; simpa [TxM.p] using this)
  have HPI := Lib.hid (show le 4 ver ++ csize ins.length = pI ver (ins.map (·.2)) 0 by have := pI0 ver (ins.map (·.2)); simpa using this)
  have hco1 := compact9 ins.length; have hco2 := compact9 outs.length
  clear ht hok h5 h6
  go_enter Try.func89, Try.ntmps89
  go_wp2_with (first
    | go_skip
    | (refine atd 1 (by rfl) ?_; refine wl (by rfl) (s_bx (l := [.int .u32 (ver : Int), .slice A ins.length c, .slice B outs.length d, .int .u32 (lock : Int)]) HS.out (by rfl) (by rfl) ?_); intro b1 Wn hS; clear HS; have HS := Lib.hid hS; clear hS)
    | (refine atd 8 (by rfl) ?_; refine wl (by rfl) (s_ld HS.out 0 (by rfl) (by rfl) (by rfl) (by kernel_rfl) (by rfl) ?_))
    | (go_at_call 133; refine (num133_4 _ _ HVL.out).mono ?_; rintro e Wn ⟨vn, rfl, hb⟩; have hS := HS.out.take hb; clear hb; clear HS; have HS := Lib.hid hS; clear hS)
    | (refine atd 13 (by rfl) ?_; refine wl (by rfl) (s_ld HS.out 1 (by rfl) (by rfl) (by rfl) (by kernel_rfl) (by rfl) ?_))
    | (go_at_call 97; refine (rsizN' _ _ HIL1.out).mono ?_; rintro e Wn ⟨vn, rfl, hb⟩; have hS := HS.out.take hb; clear hb; clear HS; have HS := Lib.hid hS; clear hS)
    | (refine atd 17 (by rfl) ?_; refine wl (by rfl) (s_app (xs := (le 4 ver)) HS.out 1 (by rfl) Try.underlying28 u8_info (by rfl) (by rfl) (by rfl) (Row.hb (HS.out.res (i := 0) rfl)) (by first | omega | (simp only [List.length_append, le_length, csize_length]; omega)) ?_); intro vq Wn hS; replace hS := hS.sub 0; clear HS; have HS := Lib.hid hS; clear hS))
  have hz := HS.out
  rw [HPI.out] at hz
  clear HS
  have HS := Lib.hid hz
  clear hz
  go_loopw [4, 3] (fun s4 s3 wr => ∃ (i : Nat) (vp : Value), i ≤ ins.length ∧ s4 = .int .i64 (i : Int) ∧ s3 = vp ∧ St w wr [Row vp 5 1 (pI ver (ins.map (·.2)) i).length (bs (pI ver (ins.map (·.2)) i)), Blk b1 [.int .u32 (ver : Int), .slice A ins.length c, .slice B outs.length d, .int .u32 (lock : Int)] 55] [TxW ⟨ver, .slice A ins.length c, ins, .slice B outs.length d, outs, lock⟩]) (fun s4 _ _ => ins.length - (intOf s4).toNat)
  case atStart => exact ⟨0, _, by omega, rfl, rfl, HS.out⟩
  case round =>
    obtain ⟨i, vp, hi, rfl, rfl, hs⟩ := hrel
    clear HS
    have HS := Lib.hid hs
    clear hs
    by_cases hlt : i < ins.length
    · have hli : ins[i]? = some ins[i] := List.getElem?_eq_getElem hlt
      have htw := HS.out.fact (i := 0) rfl
      obtain ⟨bb, o, rfl⟩ := htw.in_b rfl hlt
      generalize ins[i] = x at hli
      have hr := htw.in_at rfl hli
      obtain ⟨xv, y⟩ := x
      obtain ⟨Ap, cp, exv, _⟩ := (htw.is _ (List.mem_of_getElem? hli)).shape
      dsimp only at exv
      subst exv
      have HR := Lib.hid hr
      have HLI := Lib.hid hli
      have HSB := Lib.hid (show ∀ W, TxW ⟨ver, .slice (some ⟨bb, o, none⟩) ins.length c, ins, .slice B outs.length d, outs, lock⟩ W → HB W (.slice Ap y.s.length cp) y.s from fun W h => h.is _ (List.mem_of_getElem? hli))
      have hys := HC1.out y (List.mem_map_of_mem (f := (·.2)) (List.mem_of_getElem? hli))
      have hyo := HOK.out.ins y (List.mem_map_of_mem (f := (·.2)) (List.mem_of_getElem? hli))
      have HSL := Lib.hid (show y.s.length ≤ 1000000 by omega)
      have hn1 := hyo.n; have hn2 := hyo.q; have HN1 := Lib.hid hyo.n; have HN2 := Lib.hid hyo.q
      have hyh := hyo.h
      have hpl := pI_len (ver := ver) i HOK.out.ins (by rw [TxM.p]; simp only [List.length_map]; omega) HC1.out
      dsimp only [TxM.p] at hpl
      have HYO := Lib.hid hyo
      have hco := compact9 y.s.length
      have j1 : (i : Int) < (ins.length : Int) := by omega
      clear hr htw hli hyo
      go_wp2_with (first
        | go_skip
        | (refine atd 20 (by rfl) ?_; refine wl (by rfl) (s_ld HS.out 1 (by rfl) (by rfl) (by rfl) (by kernel_rfl) (by rfl) ?_))
        | (refine atd 26 (by rfl) ?_; refine wl (by rfl) (s_ld HS.out 1 (by rfl) (by rfl) (by rfl) (by kernel_rfl) (by rfl) ?_))
        | (refine atd 29 (by rfl) ?_; refine wl (by rfl) (wp_of_run (run_lda (n := 35) (cs := inC (.slice Ap y.s.length cp, y)) ag66 (by rfl) (by rfl) HR.out (inC_length (x := (.slice Ap y.s.length cp, y)) HYO.out)) ?_))
        | (refine atd 5 (by rfl) ?_; refine wl (by rfl) (s_al (l := z35) HS.out (by rfl) z66 (by rfl) ?_); intro b7 Wn hS; clear HS; have HS := Lib.hid hS; clear hS)
        | (refine sto 5 (by rfl) ?_; refine wl (by rfl) (s_sta (cs := inC (.slice Ap y.s.length cp, y)) HS.out 0 35 (by rfl) (by rfl) (by rfl) ag66 (by rfl) (inC_length (x := (.slice Ap y.s.length cp, y)) HYO.out) (inC_one (x := (.slice Ap y.s.length cp, y)) rfl) (by exact Nat.le_refl _) ?_); intro Wn hS; rw [splice_all (l := z35) (cs := inC (.slice Ap y.s.length cp, y)) (inC_length (x := (.slice Ap y.s.length cp, y)) HYO.out)] at hS; clear HS; have HS := Lib.hid hS; clear hS)
        | (refine atd 33 (by rfl) ?_; refine wl (by rfl) (wp_of_run (run_sla (by rfl) (by rfl)) ?_))
        | (refine atd 34 (by rfl) ?_; refine wl (by rfl) (s_app (xs := (pI ver (ins.map (·.2)) i)) HS.out 1 (by rfl) Try.underlying28 u8_info (by rfl) (by rfl) (by rfl) (by have hh := HB.of_range (xs := y.h) (b := b7) (k := 0) (HS.out.range (i := 0) rfl (by rw [bs_length, HYO.out.h]; exact inC_h (x := (.slice Ap y.s.length cp, y)) HYO.out)); rw [HYO.out.h] at hh; exact hh) (by first | omega | (simp only [List.length_append, le_length, csize_length]; omega)) ?_); intro vq Wn hS; clear HS; have HS := Lib.hid hS; clear hS)
        | (refine atd 38 (by rfl) ?_; refine wl (by rfl) (s_ld HS.out 0 (by rfl) (by rfl) (by rfl) (by kernel_rfl) (by exact inC_32 (x := (.slice Ap y.s.length cp, y)) HYO.out) ?_))
        | (go_at_call 133; refine (num133_4 _ _ HN1.out).mono ?_; rintro e Wn ⟨vn, rfl, hb⟩; have hS := HS.out.take hb; clear hb; clear HS; have HS := Lib.hid hS; clear hS)
        | (refine atd 41 (by rfl) ?_; refine wl (by rfl) (s_app (xs := (pI ver (ins.map (·.2)) i) ++ y.h) HS.out 2 (by rfl) Try.underlying28 u8_info (by rfl) (by rfl) (by rfl) (Row.hb (HS.out.res (i := 0) rfl)) (by first | omega | (simp only [List.length_append, le_length, csize_length]; omega)) ?_); intro vq Wn hS; replace hS := hS.sub 0; clear HS; have HS := Lib.hid hS; clear hS)
        | (refine atd 44 (by rfl) ?_; refine wl (by rfl) (s_ld HS.out 0 (by rfl) (by rfl) (by rfl) (by kernel_rfl) (by exact inC_33 (x := (.slice Ap y.s.length cp, y)) HYO.out) ?_))
        | (go_at_call 99; refine (rbytN' _ y.s _ (HSB.out _ (HS.out.fact (i := 0) rfl)) HSL.out).mono ?_; rintro e Wn ⟨vn, rfl, hb⟩; have hS := HS.out.take hb; clear hb; clear HS; have HS := Lib.hid hS; clear hS)
        | (refine atd 46 (by rfl) ?_; refine wl (by rfl) (s_app (xs := (pI ver (ins.map (·.2)) i) ++ y.h ++ le 4 y.n) HS.out 2 (by rfl) Try.underlying28 u8_info (by rfl) (by rfl) (by rfl) (Row.hb (HS.out.res (i := 0) rfl)) (by first | omega | (simp only [List.length_append, le_length, csize_length]; omega)) ?_); intro vq Wn hS; replace hS := hS.sub 0; clear HS; have HS := Lib.hid hS; clear hS)
        | (refine atd 49 (by rfl) ?_; refine wl (by rfl) (s_ld HS.out 0 (by rfl) (by rfl) (by rfl) (by kernel_rfl) (by exact inC_34 (x := (.slice Ap y.s.length cp, y)) HYO.out) ?_))
        | (go_at_call 133; refine (num133_4 _ _ HN2.out).mono ?_; rintro e Wn ⟨vn, rfl, hb⟩; have hS := HS.out.take hb; clear hb; clear HS; have HS := Lib.hid hS; clear hS)
        | (refine atd 52 (by rfl) ?_; refine wl (by rfl) (s_app (xs := (pI ver (ins.map (·.2)) i) ++ y.h ++ le 4 y.n ++ (csize y.s.length ++ y.s)) HS.out 2 (by rfl) Try.underlying28 u8_info (by rfl) (by rfl) (by rfl) (Row.hb (HS.out.res (i := 0) rfl)) (by first | omega | (simp only [List.length_append, le_length, csize_length]; omega)) ?_); intro vq Wn hS; replace hS := hS.sub 0; clear HS; have HS := Lib.hid hS; clear hS))
      have h := HS.out.sub 0
      have e := pI_snocR (ver := ver) HLI.out
      dsimp only at e
      rw [e] at h
      exact ⟨⟨i + 1, _, by omega, by push_cast; rfl, rfl, h⟩, by simp [intOf]; omega⟩
    · have j1 : ¬ (i : Int) < (ins.length : Int) := by omega
      obtain rfl : i = ins.length := by omega
      clear hlt
      have hpl := pI_len (ver := ver) ins.length HOK.out.ins (by rw [TxM.p]; simp only [List.length_map]; omega) HC1.out
      dsimp only [TxM.p] at hpl
      go_wp2_with (first
        | go_skip
        | (refine atd 20 (by rfl) ?_; refine wl (by rfl) (s_ld HS.out 1 (by rfl) (by rfl) (by rfl) (by kernel_rfl) (by rfl) ?_))
        | (refine atd 55 (by rfl) ?_; refine wl (by rfl) (s_ld HS.out 1 (by rfl) (by rfl) (by rfl) (by kernel_rfl) (by rfl) ?_))
        | (go_at_call 97; refine (rsizN' _ _ HIL2.out).mono ?_; rintro e Wn ⟨vn, rfl, hb⟩; have hS := HS.out.take hb; clear hb; clear HS; have HS := Lib.hid hS; clear hS)
        | (refine atd 59 (by rfl) ?_; refine wl (by rfl) (s_app (xs := (pI ver (ins.map (·.2)) ins.length)) HS.out 1 (by rfl) Try.underlying28 u8_info (by rfl) (by rfl) (by rfl) (Row.hb (HS.out.res (i := 0) rfl)) (by first | omega | (simp only [List.length_append, le_length, csize_length]; omega)) ?_); intro vq Wn hS; replace hS := hS.sub 0; clear HS; have HS := Lib.hid hS; clear hS))
      have hz := HS.out
      rw [HP0.out] at hz
      clear HS
      have HS := Lib.hid hz
      clear hz
      go_loopw [6, 3] (fun s6 s3 wr => ∃ (i : Nat) (vp : Value), i ≤ outs.length ∧ s6 = .int .i64 (i : Int) ∧ s3 = vp ∧ St w wr [Row vp 5 1 (pO ver (ins.map (·.2)) (outs.map (·.2)) i).length (bs (pO ver (ins.map (·.2)) (outs.map (·.2)) i)), Blk b1 [.int .u32 (ver : Int), .slice A ins.length c, .slice B outs.length d, .int .u32 (lock : Int)] 55] [TxW ⟨ver, .slice A ins.length c, ins, .slice B outs.length d, outs, lock⟩]) (fun s6 _ _ => outs.length - (intOf s6).toNat)
      case atStart => exact ⟨0, _, by omega, rfl, rfl, HS.out⟩
      case round =>
        obtain ⟨i, vp, hi, rfl, rfl, hs⟩ := hrel
        clear HS
        have HS := Lib.hid hs
        clear hs
        by_cases hlt : i < outs.length
        · have hli : outs[i]? = some outs[i] := List.getElem?_eq_getElem hlt
          have htw := HS.out.fact (i := 0) rfl
          obtain ⟨bb, o, rfl⟩ := htw.out_b rfl hlt
          generalize outs[i] = x at hli
          have hr := htw.out_at rfl hli
          obtain ⟨xv, y⟩ := x
          obtain ⟨Ap, cp, exv, _⟩ := (htw.os _ (List.mem_of_getElem? hli)).shape
          dsimp only at exv
          subst exv
          have HR := Lib.hid hr
          have HLI := Lib.hid hli
          have HSB := Lib.hid (show ∀ W, TxW ⟨ver, .slice A ins.length c, ins, .slice (some ⟨bb, o, none⟩) outs.length d, outs, lock⟩ W → HB W (.slice Ap y.s.length cp) y.s from fun W h => h.os _ (List.mem_of_getElem? hli))
          have hys := HC2.out y (List.mem_map_of_mem (f := (·.2)) (List.mem_of_getElem? hli))
          have hyo := HOK.out.outs y (List.mem_map_of_mem (f := (·.2)) (List.mem_of_getElem? hli))
          have HSL := Lib.hid (show y.s.length ≤ 1000000 by omega)
          have hw := y.u_wrap
          have HU := Lib.hid (TOut.u_lt y)
          have HO0 := Lib.hid (show ∀ W, TxW ⟨ver, .slice A ins.length c, ins, .slice (some ⟨bb, o, none⟩) outs.length d, outs, lock⟩ W → W.cell? ⟨bb, o + i * 2, none⟩ = some (.int .i64 y.v) from fun W h => by have := (h.out_at rfl hli) 0 _ rfl; simpa using this)
          have HO1 := Lib.hid (show ∀ W, TxW ⟨ver, .slice A ins.length c, ins, .slice (some ⟨bb, o, none⟩) outs.length d, outs, lock⟩ W → W.cell? ⟨bb, o + i * 2 + 1, none⟩ = some (.slice Ap y.s.length cp) from fun W h => (h.out_at rfl hli) 1 _ rfl)
          have hpl := pO_len (ver := ver) i HOK.out.ins (by rw [TxM.p]; simp only [List.length_map]; omega) HC1.out (by rw [TxM.p]; simp only [List.length_map]; omega) HC2.out
          dsimp only [TxM.p] at hpl
          have HYO := Lib.hid hyo
          have hco := compact9 y.s.length
          have j1 : (i : Int) < (outs.length : Int) := by omega
          clear hr htw hli hyo
          go_wp2_with (first
            | go_skip
            | (refine atd 62 (by rfl) ?_; refine wl (by rfl) (s_ld HS.out 1 (by rfl) (by rfl) (by rfl) (by kernel_rfl) (by rfl) ?_))
            | (refine atd 69 (by rfl) ?_; refine wl (by rfl) (s_ld HS.out 1 (by rfl) (by rfl) (by rfl) (by kernel_rfl) (by rfl) ?_))
            | (refine atd 73 (by rfl) ?_; refine wl (by rfl) (wp_of_run (run_ld (by kernel_rfl) (by rfl) (by rfl) (HO0.out _ (HS.out.fact (i := 0) rfl))) ?_))
            | (go_at_call 133; refine (num133_8 _ _ HU.out).mono ?_; rintro e Wn ⟨vn, rfl, hb⟩; have hS := HS.out.take hb; clear hb; clear HS; have HS := Lib.hid hS; clear hS)
            | (refine atd 76 (by rfl) ?_; refine wl (by rfl) (s_app (xs := (pO ver (ins.map (·.2)) (outs.map (·.2)) i)) HS.out 1 (by rfl) Try.underlying28 u8_info (by rfl) (by rfl) (by rfl) (Row.hb (HS.out.res (i := 0) rfl)) (by first | omega | (simp only [List.length_append, le_length, csize_length]; omega)) ?_); intro vq Wn hS; replace hS := hS.sub 0; clear HS; have HS := Lib.hid hS; clear hS)
            | (refine atd 79 (by rfl) ?_; refine wl (by rfl) (s_ld HS.out 1 (by rfl) (by rfl) (by rfl) (by kernel_rfl) (by rfl) ?_))
            | (refine atd 83 (by rfl) ?_; refine wl (by rfl) (wp_of_run (run_ld (by kernel_rfl) (by rfl) (by rfl) (HO1.out _ (HS.out.fact (i := 0) rfl))) ?_))
            | (go_at_call 99; refine (rbytN' _ y.s _ (HSB.out _ (HS.out.fact (i := 0) rfl)) HSL.out).mono ?_; rintro e Wn ⟨vn, rfl, hb⟩; have hS := HS.out.take hb; clear hb; clear HS; have HS := Lib.hid hS; clear hS)
            | (refine atd 85 (by rfl) ?_; refine wl (by rfl) (s_app (xs := (pO ver (ins.map (·.2)) (outs.map (·.2)) i) ++ le 8 y.u) HS.out 1 (by rfl) Try.underlying28 u8_info (by rfl) (by rfl) (by rfl) (Row.hb (HS.out.res (i := 0) rfl)) (by first | omega | (simp only [List.length_append, le_length, csize_length]; omega)) ?_); intro vq Wn hS; replace hS := hS.sub 0; clear HS; have HS := Lib.hid hS; clear hS))
          have h := HS.out
          have e := pO_snocR (ver := ver) (ins := ins.map (·.2)) HLI.out
          dsimp only at e
          rw [e] at h
          exact ⟨⟨i + 1, _, by omega, by push_cast; rfl, rfl, h⟩, by simp [intOf]; omega⟩
        · have j1 : ¬ (i : Int) < (outs.length : Int) := by omega
          obtain rfl : i = outs.length := by omega
          clear hlt
          have hpl := pO_len (ver := ver) outs.length HOK.out.ins (by rw [TxM.p]; simp only [List.length_map]; omega) HC1.out (by rw [TxM.p]; simp only [List.length_map]; omega) HC2.out
          dsimp only [TxM.p] at hpl
          go_wp2_with (first
            | go_skip
            | (refine atd 62 (by rfl) ?_; refine wl (by rfl) (s_ld HS.out 1 (by rfl) (by rfl) (by rfl) (by kernel_rfl) (by rfl) ?_))
            | (refine atd 88 (by rfl) ?_; refine wl (by rfl) (s_ld HS.out 1 (by rfl) (by rfl) (by rfl) (by kernel_rfl) (by rfl) ?_))
            | (go_at_call 133; refine (num133_4 _ _ HKL.out).mono ?_; rintro e Wn ⟨vn, rfl, hb⟩; have hS := HS.out.take hb; clear hb; clear HS; have HS := Lib.hid hS; clear hS)
            | (refine atd 91 (by rfl) ?_; refine wl (by rfl) (s_app (xs := (pO ver (ins.map (·.2)) (outs.map (·.2)) outs.length)) HS.out 1 (by rfl) Try.underlying28 u8_info (by rfl) (by rfl) (by rfl) (Row.hb (HS.out.res (i := 0) rfl)) (by first | omega | (simp only [List.length_append, le_length, csize_length]; omega)) ?_); intro vq Wn hS; replace hS := hS.sub 0; clear HS; have HS := Lib.hid hS; clear hS))
          have hz := (HS.out.sub 1).give 0 rfl
          rw [HPA.out] at hz
          go_ret
          exact ⟨_, rfl, hz⟩
end
end Go.Proofs.Yteljmpoaggfliaa
