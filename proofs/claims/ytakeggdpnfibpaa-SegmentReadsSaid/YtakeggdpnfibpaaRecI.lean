/- Contracts and words that the laws stand on (RecI). -/
import Derived.Test.YtakeggdpnfibpaaRecHb
import Derived.Test.YtakeggdpnfibpaaRecG
import Derived.Test.YtakeggdpnfibpaaRecI0
set_option linter.unusedVariables false
set_option linter.unusedSimpArgs false
namespace Go.Proofs.Ytakeggdpnfibpaa
section
open Go Go.RowKit Go.Proofs
attribute [local irreducible] Calls

def encL (l : List (Int × List UInt8)) : List UInt8 := l.flatMap fun x => recB (UInt8.ofNat x.1.toNat) x.2
def okL (l : List (Int × List UInt8)) : Bool := l.all fun x => chkB x.1 x.2.length
def encE (l : List (Int × List UInt8)) : Int := if okL l then 0 else 160
def encO (l : List (Int × List UInt8)) : List UInt8 := if okL l then encL l else []
theorem encL_snoc (l : List (Int × List UInt8)) (x : Int × List UInt8) : encL (l ++ [x]) = encL l ++ recB (UInt8.ofNat x.1.toNat) x.2 := by simp [encL]
theorem chkB_true {k : Int} {n : Nat} (h : chkB k n = true) : ∃ b : UInt8, k = (b.toNat : Int) ∧ n ≤ 200000 := by
  have h := of_decide_eq_true h
  refine ⟨UInt8.ofNat k.toNat, ?_, h.2.2⟩
  simp
  omega
theorem take_snoc {α : Type} (l : List α) (i : Nat) (x : α) (h : l[i]? = some x) : l.take (i + 1) = l.take i ++ [x] := by
  rw [List.take_add_one, h]; rfl
theorem okL_take {l : List (Int × List UInt8)} {i : Nat} {x : Int × List UInt8} (hx : l[i]? = some x) (hc : chkB x.1 x.2.length = false) : okL l = false := by
  unfold okL
  rw [List.all_eq_false]
  exact ⟨x, List.mem_of_getElem? hx, by rw [hc]; decide⟩
theorem fixed1 (b : UInt8) : fixedB 1 b.toNat = [b] ∧ fixedE 1 b.toNat = 0 := by
  have hb := b.toNat_lt
  have h1 : fixedE 1 b.toNat = 0 := by
    unfold fixedE
    rw [if_neg (by decide), if_neg]
    simp [goesB]; omega
  refine ⟨?_, h1⟩
  unfold fixedB
  rw [if_pos h1]
  simp [le]
theorem penOne (p : Nat) (b : UInt8) (v : Value) (xs : List UInt8) (w : World) (hp : IsPen w p v xs) (hb : xs.length + 8 ≤ 70368744177664) :
    Calls Try.prog 35 #[.pointer (some ⟨p, 0, none⟩), .int .i64 1, .int .u64 (b.toNat : Int)] w fun e w' => ∃ v', e = .returned (.int .i64 0) ∧ PenGo w w' p v v' (xs ++ [b]) := by
  refine (fixed_any p 1 b.toNat v xs w hp (by have := b.toNat_lt; omega) hb).mono ?_
  rintro e w' ⟨rfl, v', hg⟩
  rw [(fixed1 b).1] at hg
  exact ⟨v', by rw [(fixed1 b).2], hg⟩
theorem penFour (p : Nat) (n : Nat) (v : Value) (xs : List UInt8) (w : World) (hp : IsPen w p v xs) (hn : n < 4294967296) (hb : xs.length + 8 ≤ 70368744177664) :
    Calls Try.prog 35 #[.pointer (some ⟨p, 0, none⟩), .int .i64 4, .int .u64 (n : Int)] w fun e w' => ∃ v', e = .returned (.int .i64 0) ∧ PenGo w w' p v v' (xs ++ le 4 n) := by
  refine (fixed_any p 4 n v xs w hp (by omega) hb).mono ?_
  rintro e w' ⟨rfl, v', hg⟩
  rw [fixed4 n hn] at hg
  exact ⟨v', by rw [fixedE4 n hn], hg⟩
theorem penAll (p : Nat) (v : Value) (xs : List UInt8) (w : World) (hp : IsPen w p v xs) (hb : xs.length ≤ 70368744177664) :
    Calls Try.prog 36 #[.pointer (some ⟨p, 0, none⟩)] w fun e w' => ∃ v', e = .returned v' ∧ New w w' (Row v' 5 1 xs.length (bs xs)) := by
  refine (pall_any p v xs w hp hb).mono ?_
  rintro e w' ⟨v', rfl, ho, hb⟩
  exact ⟨v', rfl, New.row ho hb⟩
theorem penRaw2 (p : Nat) (u v u1 u2 : Value) (a b xs : List UInt8) (B : Nat) (w : World) (hp : IsPen w p v xs) (ho : w.ownsRow B 28 1 u 2 [u1, u2]) (h1 : HB w u1 a) (h2 : HB w u2 b) (hl : xs.length + (a.length + b.length) ≤ 70368744177664) :
    Calls Try.prog 37 #[.pointer (some ⟨p, 0, none⟩), u] w fun e w' => ∃ v', e = .returned (.int .i64 0) ∧ PenGo w w' p v v' (xs ++ (a ++ b)) := by
  refine (raw_any p u v [a, b] xs w hp (Parts.of_held (vs := [u1, u2]) ⟨rfl, fun i v l hv hm => ?_⟩ (Below.refl _ _) ho) (by simpa using hl) (by simp)).mono ?_
  · match i, hv, hm with
    | 0, hv, hm => simp at hv hm; subst hv hm; exact h1
    | 1, hv, hm => simp at hv hm; subst hv hm; exact h2
    | i + 2, hv, hm => simp at hv
  · rintro e w' ⟨rfl, v', hg⟩
    exact ⟨v', rfl, by simpa using hg⟩
theorem St.old {w W : World} {L : List Res} {Fs : List (World → Prop)} (h : St w W L Fs) {F : World → Prop} (hF : Away (Keys []) F w) : St w W L (F :: Fs) :=
  h.addF fun W' hs => hF W' ⟨Nat.le_trans h.below.size hs.size, fun k o _ ho hc => by
    have hk := (Array.getElem?_eq_some_iff.1 ho).1
    exact hs.blk k o (fun hm => by have := (h.key_lt hm).1; omega) ((h.below.block k hk).trans ho) hc⟩
theorem z80 : zeroIs Try.prog 68 (.agg #[.slice none 0 0]) := by unfold zeroIs; kernel_rfl
set_option maxHeartbeats 1000000 in
set_option maxRecDepth 100000 in
theorem enc20 (u : Value) (l : List (Int × List UInt8)) (w : World) (hu : RS w u l) (hl : l.length ≤ 1000000) :
    Calls Try.prog 27 #[u] w fun e w' => ∃ v', e = .returned (.tuple #[v', .int .i64 (encE l)]) ∧ New w w' (Row v' 5 1 (encO l).length (bs (encO l))) := by
  have HU := Lib.hid hu
  obtain ⟨A, c, rfl, hlc⟩ := hu.shape
  have HS := Lib.hid ((St.start w).addF hu.away0)
  clear hu
  go_enter Try.func27, Try.ntmps27
  go_wp2_with (first
    | (refine atd 4 (by rfl) ?_; refine wl (by rfl) (s_al HS.out (by rfl) z80 (by rfl) ?_); intro b4 Wn hS; replace hS := hS.pen0 (i := 0) rfl; clear HS; have HS := Lib.hid hS; clear hS))
  go_loopw [11] (fun s11 wr => ∃ i : Nat, i ≤ l.length ∧ s11 = .int .i64 (i : Int) ∧ (∀ x ∈ l.take i, chkB x.1 x.2.length = true) ∧ (encL (l.take i)).length ≤ i * 200013 ∧ ∃ v4, St w wr [PenR b4 v4 (encL (l.take i))] [fun V => RS V (.slice A l.length c) l]) (fun s11 _ => l.length - (intOf s11).toNat)
  case atStart => exact ⟨0, by omega, rfl, fun x hx => by simp at hx, by simp [encL], _, HS.out⟩
  case round =>
    obtain ⟨i, hi, rfl, hall, htot, v4, hs⟩ := hrel
    have HALL := Lib.hid hall
    clear HS
    clear hall
    by_cases hlt : i < l.length
    · obtain ⟨bb, o, pv, rfl, c1, c2, hbp⟩ := HU.out.get hlt
      have hli : l[i]? = some l[i] := List.getElem?_eq_getElem hlt
      generalize l[i] = x at *
      obtain ⟨k, p⟩ := x
      dsimp only at c1 c2 hbp
      obtain ⟨Ap, cp, rfl, hpc⟩ := hbp.shape
      have hv1 : (Value.slice Ap p.length cp).oneCell' = true := rfl
      have HV1 := Lib.hid hv1; clear hv1
      have hr1 : Away (Keys []) (fun V => V.rangeAt bb (o + i * 2) [.int .i64 k, .slice Ap p.length cp]) w := range_away0 (range2 c1 c2)
      have HLI := Lib.hid hli
      have j1 : (i : Int) < (l.length : Int) := by omega
      have HBP := Lib.hid hbp.away0; have HR1 := Lib.hid hr1
      clear hli c1 c2 hbp hr1
      cases hc : chkB k p.length with
      | false =>
        have HC := Lib.hid hc
        have HS := Lib.hid ((hs.old HBP.out).old HR1.out)
        clear hs hc
        go_wp2_with (first
          | (refine wl (by rfl) (wp_of_run (run_lda (n := 2) (cs := [.int .i64 k, .slice Ap p.length cp]) ag25 (by rfl) (by rfl) (HS.out.fact (i := 0) rfl) (by rfl)) ?_))
          | (refine atd 4 (by rfl) ?_; refine wl (by rfl) (s_al HS.out (by rfl) z80 (by rfl) ?_); intro b4 Wn hS; replace hS := hS.pen0 (i := 0) rfl; clear HS; have HS := Lib.hid hS; clear hS)
          | (refine atd 6 (by rfl) ?_; refine wl (by rfl) (s_al HS.out (by rfl) z25 (by rfl) ?_); intro b6 Wn hS; clear HS; have HS := Lib.hid hS; clear hS)
          | (refine wl (by rfl) (s_sta (cs := [.int .i64 k, .slice Ap p.length cp]) HS.out 0 2 (by rfl) (by rfl) (by rfl) ag25 (by rfl) (by rfl) (by intro v hv; simp at hv; rcases hv with rfl | rfl; rfl; exact HV1.out) (by decide) ?_); intro Wn hS; clear HS; have HS := Lib.hid hS; clear hS)
          | (refine wl (by rfl) (s_lda (cs := [.int .i64 k, .slice Ap p.length cp]) HS.out 0 2 (by rfl) (by rfl) (by rfl) ag25 (by rfl) (by rfl) ?_))
          | (go_at_call 26; refine (check23 k (.slice Ap p.length cp) p _ (HS.out.fact (i := 1) rfl)).mono ?_; rintro e Wn ⟨rfl, hb⟩; rw [HC.out]; have hS := HS.out.call hb; clear hb; clear HS; have HS := Lib.hid hS; clear hS))
        go_ret2
        have hko : okL l = false := okL_take HLI.out HC.out
        refine ⟨_, by unfold encE; rw [hko]; rfl, ?_⟩
        unfold encO
        rw [hko]
        exact New.row (World.ownsRow_nil _ _ _ _) HS.out.below
      | true =>
        have HC := Lib.hid hc
        obtain ⟨kb, rfl, hpl⟩ := chkB_true hc
        clear hc
        have w64 : IntKind.u64.wrap (kb.toNat : Int) = (kb.toNat : Int) := by have := kb.toNat_lt; rw [IntKind.wrap_u64]; omega
        have w64' : IntKind.u64.wrap (p.length : Int) = (p.length : Int) := by rw [IntKind.wrap_u64]; omega
        have HS := Lib.hid ((hs.old HBP.out).old HR1.out)
        clear hs
        go_wp2_with (first
          | (refine wl (by rfl) (wp_of_run (run_lda (n := 2) (cs := [.int .i64 (kb.toNat : Int), .slice Ap p.length cp]) ag25 (by rfl) (by rfl) (HS.out.fact (i := 0) rfl) (by rfl)) ?_))
          | (refine atd 4 (by rfl) ?_; refine wl (by rfl) (s_al HS.out (by rfl) z80 (by rfl) ?_); intro b4 Wn hS; replace hS := hS.pen0 (i := 0) rfl; clear HS; have HS := Lib.hid hS; clear hS)
          | (refine atd 6 (by rfl) ?_; refine wl (by rfl) (s_al HS.out (by rfl) z25 (by rfl) ?_); intro b6 Wn hS; clear HS; have HS := Lib.hid hS; clear hS)
          | (refine wl (by rfl) (s_sta (cs := [.int .i64 (kb.toNat : Int), .slice Ap p.length cp]) HS.out 0 2 (by rfl) (by rfl) (by rfl) ag25 (by rfl) (by rfl) (by intro v hv; simp at hv; rcases hv with rfl | rfl; rfl; exact HV1.out) (by decide) ?_); intro Wn hS; clear HS; have HS := Lib.hid hS; clear hS)
          | (refine wl (by rfl) (s_lda (cs := [.int .i64 (kb.toNat : Int), .slice Ap p.length cp]) HS.out 0 2 (by rfl) (by rfl) (by rfl) ag25 (by rfl) (by rfl) ?_))
          | (go_at_call 26; refine (check23 (kb.toNat : Int) (.slice Ap p.length cp) p _ (HS.out.fact (i := 1) rfl)).mono ?_; rintro e Wn ⟨rfl, hb⟩; rw [HC.out]; have hS := HS.out.call hb; clear hb; clear HS; have HS := Lib.hid hS; clear hS)
          | (refine atd 8 (by rfl) ?_; refine wl (by rfl) (s_al HS.out (by rfl) z80 (by rfl) ?_); intro b8 Wn hS; replace hS := hS.pen0 (i := 0) rfl; clear HS; have HS := Lib.hid hS; clear hS)
          | (refine wl (by rfl) (s_ld HS.out 1 (by rfl) (by rfl) (by rfl) (by kernel_rfl) (by rfl) ?_))
          | (go_at_call 35; refine (penOne _ kb _ _ _ (HS.out.res (i := 0) rfl) (by simp)).mono ?_; rintro e Wn ⟨v8, rfl, hb⟩; have hS := HS.out.pen (i := 0) rfl hb; clear hb; clear HS; have HS := Lib.hid hS; clear hS)
          | (go_at_call 35; refine (penFour _ p.length _ _ _ (HS.out.res (i := 0) rfl) (by omega) (by simp)).mono ?_; rintro e Wn ⟨v8b, rfl, hb⟩; have hS := HS.out.pen (i := 0) rfl hb; clear hb; clear HS; have HS := Lib.hid hS; clear hS))
        refine wp_region_pi [(2, true), (3, true), (0, false), (1, false), (4, false), (5, false), (6, false)] (by kernel_rfl) (by kernel_rfl) rfl (by kernel_rfl) (fun _ _ _ _ _ h => h) (fun w' => St w w' [Blk b6 [.int .i64 (kb.toNat : Int), .slice Ap p.length cp] 48] [fun V => V.rangeAt bb (o + i * 2) [.int .i64 (kb.toNat : Int), .slice Ap p.length cp], fun V => HB V (.slice Ap p.length cp) p, fun V => RS V (.slice (some ⟨bb, o, none⟩) l.length c) l]) ((HS.out.drew.sub 0).sub 1) ?_
        intro OPS hops
        have hS := HS.out.drew
        clear HS; have HS := Lib.hid hS; clear hS
        iterate 2
          first | (refine wpPi_yield _ (by rw [hops.out]; simp only [List.getElem?_toArray, List.getElem?_cons_succ, List.getElem?_cons_zero]; rfl) (by first | rfl | (rw [hops.out]; rfl)) (fun w' hS => by first | exact run_ld (by kernel_rfl) (by rfl) (by rfl) (hS.cell (i := 0) (k := 1) rfl rfl) | (go_simp; rfl)) ?_; simp only [Act.put, List.setIfInBounds_toArray, List.set_cons_succ, List.set_cons_zero]) | (refine wpPi_skip (by rw [hops.out]; simp only [List.getElem?_toArray, List.getElem?_cons_succ, List.getElem?_cons_zero]; rfl) (by first | rfl | (rw [hops.out]; rfl)) ?_; simp only [Act.put, List.setIfInBounds_toArray, List.set_cons_succ, List.set_cons_zero])
        refine wpPi_act (by rw [hops.out]; simp only [List.getElem?_toArray, List.getElem?_cons_succ, List.getElem?_cons_zero]; rfl) (by first | rfl | (rw [hops.out]; rfl)) ?_
        go_simp
        refine (penAll _ _ _ _ (HS.out.res (i := 0) rfl) (by simp [le_length])).mono ?_
        rintro e Wn ⟨v29, rfl, hb⟩
        have hS := HS.out.take hb
        clear HS; have HS := Lib.hid hS; clear hS
        clear hb
        refine ⟨(((HS.out.sub 0).sub 0).sub 1), ?_⟩
        try simp only [Act.put, List.setIfInBounds_toArray, List.set_cons_succ, List.set_cons_zero]
        refine wpPi_act (by rw [hops.out]; simp only [List.getElem?_toArray, List.getElem?_cons_succ, List.getElem?_cons_zero]; rfl) (by first | rfl | (rw [hops.out]; rfl)) ?_
        go_simp
        refine (markN _ _ _ (Row.hb (HS.out.res (i := 0) rfl)) (by simp [le_length])).mono ?_
        rintro e Wn ⟨v30, rfl, hb⟩
        have hS := HS.out.take hb
        clear HS; have HS := Lib.hid hS; clear hS
        clear hb
        obtain ⟨A30, c30, rfl⟩ := Row.sl (HS.out.res (i := 0) rfl)
        refine ⟨((((HS.out.sub 0).sub 0).sub 0).sub 1), ?_⟩
        try simp only [Act.put, List.setIfInBounds_toArray, List.set_cons_succ, List.set_cons_zero]
        refine wpPi_act (by rw [hops.out]; simp only [List.getElem?_toArray, List.getElem?_cons_succ, List.getElem?_cons_zero]; rfl) (by first | rfl | (rw [hops.out]; rfl)) ?_
        go_simp
        refine (markN _ _ _ (HS.out.fact (i := 1) rfl) (by omega)).mono ?_
        rintro e Wn ⟨v33, rfl, hb⟩
        have hS := HS.out.take hb
        clear HS; have HS := Lib.hid hS; clear hS
        clear hb
        obtain ⟨A33, c33, rfl⟩ := Row.sl (HS.out.res (i := 0) rfl)
        refine ⟨(((((HS.out.sub 0).sub 0).sub 0).sub 0).sub 1), ?_⟩
        try simp only [Act.put, List.setIfInBounds_toArray, List.set_cons_succ, List.set_cons_zero]
        refine wpPi_act (by rw [hops.out]; simp only [List.getElem?_toArray, List.getElem?_cons_succ, List.getElem?_cons_zero]; rfl) (by first | rfl | (rw [hops.out]; rfl)) ?_
        refine s_bs (E := 28) (z := .slice none 0 0) HS.out 2 1 [(.slice A30 (markB ([] ++ [kb] ++ le 4 p.length)).length c30), (.slice A33 (markB p).length c33)] (by rfl) Try.underlying87 (by kernel_rfl) (by rfl) (by decide) (by decide) (by kernel_rfl) (by rfl) (by decide) ?_
        intro b34 Wn hS
        clear HS; have HS := Lib.hid hS; clear hS
        refine ⟨((((((HS.out.sub 0).sub 0).sub 0).sub 0).sub 0).sub 1), ?_⟩
        try simp only [Act.put, List.setIfInBounds_toArray, List.set_cons_succ, List.set_cons_zero]
        refine wpPi_act (by rw [hops.out]; simp only [List.getElem?_toArray, List.getElem?_cons_succ, List.getElem?_cons_zero]; rfl) (by first | rfl | (rw [hops.out]; rfl)) ?_
        go_simp
        refine (penRaw2 b4 _ _ (.slice A30 (markB ([] ++ [kb] ++ le 4 p.length)).length c30) (.slice A33 (markB p).length c33) _ _ _ _ _ (HS.out.res (i := 6) rfl) (HS.out.res (i := 0) rfl) (Row.hb (HS.out.res (i := 2) rfl)) (Row.hb (HS.out.res (i := 1) rfl)) (by rw [markB_length, markB_length]; simp [le_length]; omega)).mono ?_
        rintro e Wn ⟨v4n, rfl, hb⟩
        have hS := HS.out.pen (i := 6) rfl hb
        clear HS; have HS := Lib.hid hS; clear hS
        clear hb
        refine ⟨((((((HS.out.sub 0).sub 0).sub 0).sub 0).sub 0).sub 1), ?_⟩
        try simp only [Act.put, List.setIfInBounds_toArray, List.set_cons_succ, List.set_cons_zero]
        simp only [wpPi]
        clear OPS hops
        go_wp2_with fail
        have e1 : encL (l.take (i + 1)) = encL (l.take i) ++ (markB ([] ++ [kb] ++ le 4 p.length) ++ markB p) := by
          rw [take_snoc l i _ HLI.out, encL_snoc]
          simp [recB]
        have hS := ((((((HS.out.sub 0).sub 0).sub 0).sub 0).sub 0).sub 0).dropF (Gs := [fun V => RS V (.slice (some ⟨bb, o, none⟩) l.length c) l]) (fun G hG => by simp at hG; subst hG; simp)
        refine ⟨⟨i + 1, by omega, by push_cast; rfl, fun y hy => ?_, ?_, v4n, by rw [e1]; exact hS⟩, by simp [intOf]; omega⟩
        · rw [take_snoc l i _ HLI.out] at hy
          rcases List.mem_append.1 hy with hy | hy
          · exact HALL.out y hy
          · simp at hy; subst hy; exact HC.out
        · rw [e1, List.length_append, List.length_append, markB_length, markB_length]
          simp [le_length]
          omega
    · have j1 : ¬ (i : Int) < (l.length : Int) := by omega
      have hil : i = l.length := by omega
      have HS := Lib.hid hs
      clear hs
      go_wp2_with (first
        | (go_at_call 36; refine (penAll b4 _ _ _ (HS.out.res (i := 0) rfl) (by omega)).mono ?_; rintro e Wn ⟨v', rfl, hb⟩; have hbw := Lib.hid HS.out.below))
      go_ret2
      have hok : okL l = true := by
        unfold okL
        rw [List.all_eq_true]
        intro y hy
        exact HALL.out y (by rw [hil, List.take_length]; exact hy)
      have e1 : encO l = encL (l.take i) := by unfold encO; rw [hok, hil, List.take_length]; rfl
      refine ⟨_, by unfold encE; rw [hok]; rfl, ?_⟩
      rw [e1]
      exact ⟨hbw.out.trans (hb.1.mono hbw.out.size), hb.2.1, fun k hk => ⟨Nat.le_trans hbw.out.size (hb.2.2 k hk).1, (hb.2.2 k hk).2⟩⟩
end
section
open Go Go.RowKit Go.Proofs
/-! Records' bytes, plain. -/
theorem decA_recB (k : UInt8) (p post : List UInt8) (hp : p.length ≤ 200000) : decA (recB k p ++ post) = some (k, p) := by
  have h1 : (markB (k :: le 4 p.length)).length = 9 := by rw [markB_length]; simp [le_length]
  have e1 : (recB k p ++ post).take 9 = markB (k :: le 4 p.length) := by
    unfold recB
    rw [List.append_assoc, ← h1, List.take_left']
    rfl
  have e2 : (recB k p ++ post).drop 9 = markB p ++ post := by
    unfold recB
    rw [List.append_assoc, ← h1, List.drop_left']
    rfl
  have e3 : ((k :: le 4 p.length).drop 1).take 4 = le 4 p.length := by
    simp only [List.drop_succ_cons, List.drop_zero]
    exact List.take_of_length_le (by simp [le_length])
  have e4 : leNum (le 4 p.length) = p.length := leNum_le4 _ (by omega)
  unfold decA
  rw [e1, bareR_mark]
  simp only []
  rw [e3, e4, if_neg (by rw [List.length_append, recB_length]; omega), e2, show p.length + 4 = (markB p).length by rw [markB_length], List.take_left' rfl, bareR_mark]
  rfl
theorem decR_at (pre post : List UInt8) (k : UInt8) (p : List UInt8) (hp : p.length ≤ 200000) : decR (pre ++ (recB k p ++ post)) (pre.length : Int) = some (k, p) := by
  unfold decR
  rw [if_neg (by simp only [List.length_append, recB_length]; push_cast; omega), Int.toNat_natCast, List.drop_left' rfl]
  exact decA_recB k p post hp
theorem decA_inv {r : List UInt8} {k : UInt8} {p : List UInt8} (hr : 13 ≤ r.length) (h : decA r = some (k, p)) : ∃ post, r = recB k p ++ post ∧ p.length ≤ 200000 := by
  rw [decA_ref r hr] at h
  split at h
  · cases h
  · rename_i hN
    split at h
    · rename_i hc
      injection h with h
      injection h with h1 h2
      rw [h1, h2] at hc
      refine ⟨r.drop (leNum ((r.drop 1).take 4) + 13), ?_, ?_⟩
      · rw [hc, List.take_append_drop]
      · rw [← h2, List.length_take]; omega
    · cases h
theorem decR_inv {xs : List UInt8} {i : Int} {k : UInt8} {p : List UInt8} (h : decR xs i = some (k, p)) : ∃ pre post, xs = pre ++ (recB k p ++ post) ∧ i = (pre.length : Int) ∧ p.length ≤ 200000 := by
  have hin := decR_in h
  obtain ⟨a, rfl⟩ := Int.eq_ofNat_of_zero_le hin.1
  unfold decR at h
  split at h
  · cases h
  · rw [Int.toNat_natCast] at h
    obtain ⟨post, h1, h2⟩ := decA_inv (by rw [List.length_drop]; omega) h
    refine ⟨xs.take a, post, ?_, ?_, h2⟩
    · rw [← h1, List.take_append_drop]
    · rw [List.length_take, Nat.min_eq_left (by omega)]
def recS (l : List (UInt8 × List UInt8 × Int)) : List UInt8 := l.flatMap fun x => recB x.1 x.2.1
/-- All records from a place on: their bytes stand there, and none is behind them. -/
theorem allF_bytes : ∀ (f : Nat) (pre rest : List UInt8), rest.length < f → ∃ l post, allF (pre ++ rest) f (pre.length : Int) = l ∧ rest = recS l ++ post ∧ decR (pre ++ rest) ((pre ++ recS l).length : Int) = none ∧ ((l.getLast?.map (·.2.2)).getD (pre.length : Int)) = ((pre ++ recS l).length : Int) ∧ ∀ x ∈ l, x.2.1.length ≤ 200000 := by
  intro f
  induction f with
  | zero => intro pre rest h; omega
  | succ f ih =>
    intro pre rest h
    cases hd : decR (pre ++ rest) (pre.length : Int) with
    | none =>
      refine ⟨[], rest, allF_none hd _, rfl, ?_, ?_, fun x hx => by cases hx⟩
      · simpa [recS] using hd
      · simp [recS]
    | some y =>
      obtain ⟨k, p⟩ := y
      obtain ⟨pre', post', e1, e2, hp⟩ := decR_inv hd
      have hpl : pre'.length = pre.length := by omega
      obtain ⟨rfl, e3⟩ := List.append_inj e1 hpl.symm
      subst e3
      have hlen : (pre ++ recB k p).length = pre.length + 13 + p.length := by rw [List.length_append, recB_length]; omega
      obtain ⟨l, post, h1, h2, h3, h4, h5⟩ := ih (pre ++ recB k p) post' (by rw [List.length_append, recB_length] at h; omega)
      rw [List.append_assoc] at h1 h3
      have e5 : (pre.length : Int) + 13 + (p.length : Int) = ((pre ++ recB k p).length : Int) := by rw [hlen]; push_cast; rfl
      refine ⟨(k, p, ((pre ++ recB k p).length : Int)) :: l, post, ?_, ?_, ?_, ?_, ?_⟩
      · rw [allF_some hd, e5, h1]
      · show recB k p ++ post' = (recB k p ++ recS l) ++ post
        rw [h2, List.append_assoc]
      · have : pre ++ recS ((k, p, ((pre ++ recB k p).length : Int)) :: l) = pre ++ recB k p ++ recS l := by simp [recS]
        rw [this]; exact h3
      · have : pre ++ recS ((k, p, ((pre ++ recB k p).length : Int)) :: l) = pre ++ recB k p ++ recS l := by simp [recS]
        rw [this, ← h4]
        cases l with
        | nil => simp
        | cons y l => simp [List.getLast?_cons]
      · intro x hx
        rcases List.mem_cons.1 hx with rfl | hx
        · exact hp
        · exact h5 x hx
theorem encL_strip (l : List (UInt8 × List UInt8 × Int)) : encL (l.map fun x => ((x.1.toNat : Int), x.2.1)) = recS l := by
  unfold encL recS
  rw [List.flatMap_map]
  congr 1
  funext x
  simp
theorem okL_strip {l : List (UInt8 × List UInt8 × Int)} (h : ∀ x ∈ l, x.2.1.length ≤ 200000) : okL (l.map fun x => ((x.1.toNat : Int), x.2.1)) = true := by
  unfold okL
  rw [List.all_map, List.all_eq_true]
  intro x hx
  have hk := x.1.toNat_lt
  have hp := h x hx
  show chkB (x.1.toNat : Int) x.2.1.length = true
  unfold chkB
  exact decide_eq_true ⟨by omega, by omega, hp⟩
end
section
open Go Go.RowKit Go.Proofs
attribute [local irreducible] Calls

theorem rec7ab : ∃ xs : List UInt8, encO [((7 : Int), [97, 98])] = xs ∧ encE [((7 : Int), [97, 98])] = 0 ∧ xs.length = 15 ∧ xs.take 5 = [7, 2, 0, 0, 0] ∧ (xs.drop 9).take 2 = [97, 98] ∧ decT xs 0 = (7, [97, 98], 15, 0) := by
  have hok : okL [((7 : Int), ([97, 98] : List UInt8))] = true := by decide
  have e0 : encO [((7 : Int), ([97, 98] : List UInt8))] = recB 7 [97, 98] := by
    unfold encO
    rw [hok]
    simp [encL]
  have e1 : le 4 2 = [2, 0, 0, 0] := by decide
  have e2 : recB 7 [97, 98] = [7, 2, 0, 0, 0] ++ (le 4 (crcOn 0 [7, 2, 0, 0, 0]) ++ ([97, 98] ++ le 4 (crcOn 0 [97, 98]))) := by
    unfold recB markB
    simp [e1]
  refine ⟨_, rfl, by unfold encE; rw [hok]; rfl, ?_, ?_, ?_, ?_⟩
  · rw [e0, recB_length]; rfl
  · rw [e0, e2]; rfl
  · rw [e0, e2]
    have h9 : ([7, 2, 0, 0, 0] ++ le 4 (crcOn 0 [7, 2, 0, 0, 0])).length = 9 := by simp [le_length]
    rw [← List.append_assoc, ← h9, List.drop_left' rfl]; rfl
  · rw [e0]
    have h := decR_at [] [] 7 [97, 98] (by decide)
    simp only [List.nil_append, List.append_nil] at h
    unfold decT
    have h0 : decR (recB 7 [97, 98]) 0 = some (7, [97, 98]) := h
    rw [h0]
    rfl
end
end Go.Proofs.Ytakeggdpnfibpaa
