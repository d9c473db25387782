/- Contracts and words that the laws stand on (ExB). -/
import Derived.Test.YtlpklbpaknemaaaExA
import Derived.Test.YtlpklbpaknemaaaRecG0
set_option linter.unusedVariables false
set_option linter.unusedSimpArgs false
namespace Go.Proofs.Ytlpklbpaknemaaa
section
open Go Go.RowKit Go.Proofs
attribute [local irreducible] Calls

theorem run_sla {W : World} {ev : Operand → Value} {o : Oper} {x : Operand} {a : Addr} (ho : o.op = .slice 52 x none none none) (hx : ev x = .pointer (some a)) : (execOp ev o).run Try.prog W = .ok (.value (.slice (some a) 32 32)) W := by
  have hu : Try.prog.underlying 52 = some (.array 32 5) := by kernel_rfl
  have hi : (Try.prog.info? 5).map (·.size) = some 1 := by kernel_rfl
  obtain ⟨i, hi, hi1⟩ := Option.map_eq_some_iff.1 hi
  have ha : a.add 0 = a := by simp [Addr.add]
  unfold execOp
  simp only [ho, hx, Instr.sliceAt, run_underlying hu, Option.map_none, Sem.run_bind, Sem.run_pure, Result.andThen_ok, Instr.sureAddr]
  simp [go_sem, Instr.sliceBounds, sizeOf, typeInfo, hi, hi1, ha]
theorem HB.of_range {W : World} {b k : Nat} {xs : List UInt8} (h : W.rangeAt b k (bs xs)) : HB W (.slice (some ⟨b, k, none⟩) xs.length xs.length) xs := by
  refine ⟨_, _, rfl, Nat.le_refl _, (fun e => by cases e), fun a ha i x hx => ?_⟩
  injection ha with ha
  subst ha
  have := h i (.int .u8 (x.toNat : Int)) (by simp [bs, hx])
  unfold Addr.add
  split
  · rename_i h0; subst h0; exact this
  · exact this
theorem penRaw1 (p : Nat) (u v u1 : Value) (a xs : List UInt8) (B : Nat) (w : World) (hp : IsPen w p v xs) (ho : w.ownsRow B 22 1 u 1 [u1]) (h1 : HB w u1 a) (hl : xs.length + a.length ≤ 70368744177664) :
    Calls Try.prog 42 #[.pointer (some ⟨p, 0, none⟩), u] w fun e w' => ∃ v', e = .returned (.int .i64 0) ∧ PenGo w w' p v v' (xs ++ a) := by
  refine (raw_any p u v [a] xs w hp (Parts.of_held (vs := [u1]) ⟨rfl, fun i v l hv hm => ?_⟩ (Below.refl _ _) ho) (by simpa using hl) (by simp)).mono ?_
  · match i, hv, hm with
    | 0, hv, hm => simp at hv hm; subst hv hm; exact h1
    | i + 1, hv, hm => simp at hv
  · rintro e w' ⟨rfl, v', hg⟩
    exact ⟨v', rfl, by simpa using hg⟩
set_option maxHeartbeats 400000 in
set_option maxRecDepth 100000 in
theorem penBytes (p : Nat) (u v : Value) (ys xs : List UInt8) (w : World) (hp : IsPen w p v xs) (hu : HB w u ys) (hl : xs.length + ys.length + 9 ≤ 70368744177664) (hu0 : ys ≠ [] → ∀ k, u.ownBlock = some k → k ∉ p :: v.ownBlock.toList) :
    Calls Try.prog 49 #[.pointer (some ⟨p, 0, none⟩), u] w fun e w' => ∃ v', e = .returned (.int .i64 0) ∧ PenGo w w' p v v' (xs ++ csize ys.length ++ ys) := by
  have HU := Lib.hid hu
  obtain ⟨A, c, rfl, _⟩ := hu.shape
  clear hu
  have HP := Lib.hid hp; clear hp
  go_enter Try.func49, Try.ntmps49
  go_wp2_with fail
  refine (psize_any p _ v xs _ HP.out (U64.of (by omega)) (by omega)).mono ?_
  rintro e w1 ⟨rfl, v1, h1⟩
  rw [Int.toNat_natCast] at h1
  have HU1 : HB w1 (.slice A ys.length c) ys := by
    by_cases h0 : ys = []
    · subst h0; exact HB.nil _ _ _
    · exact HU.out.chg h1.chg (hu0 h0)
  have hq := csize_length ys.length
  have hq9 : compact ys.length ≤ 9 := by unfold compact; repeat' split
                                         all_goals simp
  have h1p := Lib.hid h1.pen
  go_wp2_with fail
  refine (raw_any p _ v1 [ys] _ _ (h1.pen.chg (S := []) ((Chg.refl _ _).alloc _) (by simp) (by simp)) (Parts.one HU1 _) (by simp; omega) (by simp)).mono ?_
  rintro e w2 ⟨rfl, v2, h2⟩
  have h3 : PenGo w1 w2 p v1 v2 (xs ++ csize ys.length ++ ys) := ⟨by simpa using h2.pen, ((Chg.refl (p :: v1.ownBlock.toList) w1).alloc _).trans h2.chg (fun k hk => .inl hk), (Nx.refl w1 v1).trans h2.nx (by simp)⟩
  have H3 := Lib.hid (h1.trans h3)
  go_wp2_with fail
  go_ret
  exact ⟨_, rfl, H3.out⟩
theorem St.notIn {w W : World} {L : List Res} {Fs : List (World → Prop)} (h : St w W L Fs) {i : Nat} {r : Res} (hi : L[i]? = some r) {u : Value} {ys : List UInt8} (hu : HB w u ys) : ys ≠ [] → ∀ k, u.ownBlock = some k → k ∉ r.fp := fun h0 k hk hm => by
  obtain ⟨k', e, hlt⟩ := hu.lt h0
  rw [hk] at e
  injection e with e
  subst e
  have := (h.key_lt ⟨r, List.mem_of_getElem? hi, hm⟩).1
  omega
theorem rcs_0k {r : Req} {kb : UInt8} (hk : r.k = (kb.toNat : Int)) (s b : Value) : (rcs r s b)[0]? = some (.int .i64 (kb.toNat : Int)) := by rw [rcs_0, hk]
def encOQ (r : Req) : List UInt8 := if chkQ r then encQ r else []
theorem encQ_cons {r : Req} {kb : UInt8} (hk : r.k = (kb.toNat : Int)) {f : Int} (hf : fldK r.k = f) {l : List UInt8} (hl : encF f r = l) : encQ r = [kb] ++ l := by
  unfold encQ
  rw [hf, hl, hk]
  simp
set_option maxHeartbeats 1000000 in
set_option maxRecDepth 100000 in
theorem enc27a (r : Req) (As Ab : Option Addr) (cs' cb' : Nat) (w : World) (hr : r.ok) (hs : HB w (.slice As r.sb.length cs') r.sb) (hb : HB w (.slice Ab r.bb.length cb') r.bb) (hf : fldK r.k = 32) (hc : chkI r = 0) (kb : UInt8) (hk : r.k = (kb.toNat : Int)) (hbb : True) (hlb : r.sb.length ≤ 2000 ∧ r.bb.length ≤ 200000) :
    Calls Try.prog 27 #[.agg (rcs r (.slice As r.sb.length cs') (.slice Ab r.bb.length cb')).toArray] w fun e w' => ∃ v', e = .returned (.tuple #[v', .int .i64 0]) ∧ New w w' (Row v' 5 1 (encQ r).length (bs (encQ r))) := by
  have HS := Lib.hid (((St.start w).addF hb.away0).addF hs.away0)
  have HR := Lib.hid hr; have HC := Lib.hid hc; have HK := Lib.hid hk; have HTX := Lib.hid hr.tx; have HHA := Lib.hid hr.ha; have HSB := Lib.hid hs
  have hn1 := hr.n; have hn2 := hr.h; have hn3 := hr.m; have hkb := kb.toNat_lt
  obtain ⟨hl1, hl2⟩ := hlb
  have hco : compact r.sb.length ≤ 9 := by unfold compact; repeat' split
                                           all_goals simp
  have HCO := Lib.hid hco
  have hF : ∀ W, Calls Try.prog 48 #[.int .i64 (kb.toNat : Int)] W fun e w' => e = .returned (.int .i64 32) ∧ W = w' := fun W => by
    have := fields48 r.k W
    rw [hf, hk] at this
    exact this
  have HF := Lib.hid hF
  have hq : [] ++ [kb] ++ r.bb = encQ r := by
    rw [encQ_cons hk hf (l := r.bb) (by simp [encF])]
    simp
  have HQ := Lib.hid hq
  clear hb hs hr hc hk hF hq hf hbb
  go_enter Try.func27, Try.ntmps27
  go_wp2_with (first
    | (refine atd 1 (by rfl) ?_; refine wl (by rfl) (s_bx (l := rcs r (.slice As r.sb.length cs') (.slice Ab r.bb.length cb')) HS.out (by rfl) (by rfl) ?_); intro b1 Wn hS; clear HS; have HS := Lib.hid hS; clear hS)
    | (refine atd 7 (by rfl) ?_; refine wl (by rfl) (s_lda (cs := rcs r (.slice As r.sb.length cs') (.slice Ab r.bb.length cb')) HS.out 0 70 (by rfl) (by rfl) (by rfl) ag56 (by exact rcs_all HR.out (.slice As r.sb.length cs') (.slice Ab r.bb.length cb')) (by exact rcs_length HR.out (.slice As r.sb.length cs') (.slice Ab r.bb.length cb')) ?_))
    | (go_at_call 32; refine (check32 r _ _ _ HR.out (HS.out.fact (i := 0) rfl) (HS.out.fact (i := 1) rfl)).mono ?_; rintro e Wn ⟨rfl, hb⟩; rw [HC.out]; have hS := HS.out.call hb; clear hb; clear HS; have HS := Lib.hid hS; clear hS)
    | (refine atd 5 (by rfl) ?_; refine wl (by rfl) (s_al HS.out (by rfl) z80 (by rfl) ?_); intro b5 Wn hS; replace hS := hS.pen0 (i := 0) rfl; clear HS; have HS := Lib.hid hS; clear hS)
    | (refine atd 13 (by rfl) ?_; refine wl (by rfl) (s_ld HS.out 1 (by rfl) (by rfl) (by rfl) (by kernel_rfl) (by exact rcs_0k HK.out (.slice As r.sb.length cs') (.slice Ab r.bb.length cb')) ?_))
    | (go_at_call 48; refine (HF.out _).mono ?_; rintro e Wn ⟨rfl, rfl⟩)
    | (refine atd 16 (by rfl) ?_; refine wl (by rfl) (s_ld HS.out 1 (by rfl) (by rfl) (by rfl) (by kernel_rfl) (by exact rcs_0k HK.out (.slice As r.sb.length cs') (.slice Ab r.bb.length cb')) ?_))
    | (go_at_call 41; (refine (penOne _ kb _ _ _ (HS.out.res (i := 0) rfl) (by simp)).mono ?_); rintro e Wn ⟨v2, rfl, hb⟩; have hS := HS.out.pen (i := 0) rfl hb; clear hb; clear HS; have HS := Lib.hid hS; clear hS)
    | (go_at_call 42; (refine (penRaw1 _ _ _ (.slice Ab r.bb.length cb') r.bb _ _ _ (HS.out.res (i := 1) rfl) (HS.out.res (i := 0) rfl) (HS.out.fact (i := 1) rfl) (by simp [le_length, csize_length, HTX.out, HHA.out, HCO.out]; try omega)).mono ?_); rintro e Wn ⟨v3, rfl, hb⟩; have hS := HS.out.pen (i := 1) rfl hb; replace hS := hS.sub 0; clear hb; clear HS; have HS := Lib.hid hS; clear hS)
    | (refine atd 60 (by rfl) ?_; refine wl (by rfl) (s_ld HS.out 1 (by rfl) (by rfl) (by rfl) (by kernel_rfl) (by exact rcs_69 HR.out (.slice As r.sb.length cs') (.slice Ab r.bb.length cb')) ?_))
    | (refine atd 61 (by rfl) ?_; refine wl (by rfl) (s_bs (E := 22) (z := .slice none 0 0) HS.out 1 1 [.slice Ab r.bb.length cb'] (by rfl) Try.underlying107 (by kernel_rfl) (by rfl) (by decide) (by decide) (by kernel_rfl) (by rfl) (by decide) ?_); intro bp61 Wn hS; clear HS; have HS := Lib.hid hS; clear hS)
    | (go_at_call 44; refine (penAll b5 _ _ _ (HS.out.res (i := 0) rfl) (by simp [le_length, csize_length, HTX.out, HHA.out, HCO.out]; try omega)).mono ?_; rintro e Wn ⟨v', rfl, hb⟩; have hbw := Lib.hid HS.out.below))
  go_ret2
  rw [HQ.out] at hb
  exact ⟨_, rfl, hbw.out.trans (hb.1.mono hbw.out.size), hb.2.1, fun k hk => ⟨Nat.le_trans hbw.out.size (hb.2.2 k hk).1, (hb.2.2 k hk).2⟩⟩
set_option maxHeartbeats 1000000 in
set_option maxRecDepth 100000 in
theorem enc27b (r : Req) (As Ab : Option Addr) (cs' cb' : Nat) (w : World) (hr : r.ok) (hs : HB w (.slice As r.sb.length cs') r.sb) (hb : HB w (.slice Ab r.bb.length cb') r.bb) (hf : fldK r.k = 3) (hc : chkI r = 0) (kb : UInt8) (hk : r.k = (kb.toNat : Int)) (hbb : r.bb = []) (hlb : r.sb.length ≤ 2000 ∧ r.bb.length ≤ 200000) :
    Calls Try.prog 27 #[.agg (rcs r (.slice As r.sb.length cs') (.slice Ab r.bb.length cb')).toArray] w fun e w' => ∃ v', e = .returned (.tuple #[v', .int .i64 0]) ∧ New w w' (Row v' 5 1 (encQ r).length (bs (encQ r))) := by
  have HS := Lib.hid (((St.start w).addF hb.away0).addF hs.away0)
  have HR := Lib.hid hr; have HC := Lib.hid hc; have HK := Lib.hid hk; have HTX := Lib.hid hr.tx; have HHA := Lib.hid hr.ha; have HSB := Lib.hid hs
  have hn1 := hr.n; have hn2 := hr.h; have hn3 := hr.m; have hkb := kb.toNat_lt
  obtain ⟨hl1, hl2⟩ := hlb
  have hco : compact r.sb.length ≤ 9 := by unfold compact; repeat' split
                                           all_goals simp
  have HCO := Lib.hid hco
  have hF : ∀ W, Calls Try.prog 48 #[.int .i64 (kb.toNat : Int)] W fun e w' => e = .returned (.int .i64 3) ∧ W = w' := fun W => by
    have := fields48 r.k W
    rw [hf, hk] at this
    exact this
  have HF := Lib.hid hF
  have hq : [] ++ [kb] ++ r.tx ++ le 4 r.n ++ le 4 r.h ++ r.bb = encQ r := by
    rw [encQ_cons hk hf (l := (r.tx ++ (le 4 r.n ++ le 4 r.h))) (by simp [encF])]
    simp [hbb]
  have HQ := Lib.hid hq
  clear hb hs hr hc hk hF hq hf hbb
  go_enter Try.func27, Try.ntmps27
  go_wp2_with (first
    | (refine atd 1 (by rfl) ?_; refine wl (by rfl) (s_bx (l := rcs r (.slice As r.sb.length cs') (.slice Ab r.bb.length cb')) HS.out (by rfl) (by rfl) ?_); intro b1 Wn hS; clear HS; have HS := Lib.hid hS; clear hS)
    | (refine atd 7 (by rfl) ?_; refine wl (by rfl) (s_lda (cs := rcs r (.slice As r.sb.length cs') (.slice Ab r.bb.length cb')) HS.out 0 70 (by rfl) (by rfl) (by rfl) ag56 (by exact rcs_all HR.out (.slice As r.sb.length cs') (.slice Ab r.bb.length cb')) (by exact rcs_length HR.out (.slice As r.sb.length cs') (.slice Ab r.bb.length cb')) ?_))
    | (go_at_call 32; refine (check32 r _ _ _ HR.out (HS.out.fact (i := 0) rfl) (HS.out.fact (i := 1) rfl)).mono ?_; rintro e Wn ⟨rfl, hb⟩; rw [HC.out]; have hS := HS.out.call hb; clear hb; clear HS; have HS := Lib.hid hS; clear hS)
    | (refine atd 5 (by rfl) ?_; refine wl (by rfl) (s_al HS.out (by rfl) z80 (by rfl) ?_); intro b5 Wn hS; replace hS := hS.pen0 (i := 0) rfl; clear HS; have HS := Lib.hid hS; clear hS)
    | (refine atd 13 (by rfl) ?_; refine wl (by rfl) (s_ld HS.out 1 (by rfl) (by rfl) (by rfl) (by kernel_rfl) (by exact rcs_0k HK.out (.slice As r.sb.length cs') (.slice Ab r.bb.length cb')) ?_))
    | (go_at_call 48; refine (HF.out _).mono ?_; rintro e Wn ⟨rfl, rfl⟩)
    | (refine atd 16 (by rfl) ?_; refine wl (by rfl) (s_ld HS.out 1 (by rfl) (by rfl) (by rfl) (by kernel_rfl) (by exact rcs_0k HK.out (.slice As r.sb.length cs') (.slice Ab r.bb.length cb')) ?_))
    | (go_at_call 41; (refine (penOne _ kb _ _ _ (HS.out.res (i := 0) rfl) (by simp)).mono ?_); rintro e Wn ⟨v2, rfl, hb⟩; have hS := HS.out.pen (i := 0) rfl hb; clear hb; clear HS; have HS := Lib.hid hS; clear hS)
    | (go_at_call 42; (refine (penRaw1 _ _ _ (.slice (some ⟨b1, 1, none⟩) 32 32) r.tx _ _ _ (HS.out.res (i := 1) rfl) (HS.out.res (i := 0) rfl) (by have hh := HB.of_range (xs := r.tx) (b := b1) (k := 1) (HS.out.range (i := 2) rfl (by rw [bs_length, HTX.out]; exact rcs_tx HR.out (.slice As r.sb.length cs') (.slice Ab r.bb.length cb'))); rw [HTX.out] at hh; exact hh) (by simp [le_length, csize_length, HTX.out, HHA.out, HCO.out]; try omega)).mono ?_); rintro e Wn ⟨v3, rfl, hb⟩; have hS := HS.out.pen (i := 1) rfl hb; replace hS := hS.sub 0; clear hb; clear HS; have HS := Lib.hid hS; clear hS)
    | (go_at_call 41; (refine (penFour _ r.n _ _ _ (HS.out.res (i := 0) rfl) HR.out.n (by simp [le_length, csize_length, HTX.out, HHA.out, HCO.out]; try omega)).mono ?_); rintro e Wn ⟨v4, rfl, hb⟩; have hS := HS.out.pen (i := 0) rfl hb; clear hb; clear HS; have HS := Lib.hid hS; clear hS)
    | (go_at_call 41; (refine (penFour _ r.h _ _ _ (HS.out.res (i := 0) rfl) HR.out.h (by simp [le_length, csize_length, HTX.out, HHA.out, HCO.out]; try omega)).mono ?_); rintro e Wn ⟨v5, rfl, hb⟩; have hS := HS.out.pen (i := 0) rfl hb; clear hb; clear HS; have HS := Lib.hid hS; clear hS)
    | (go_at_call 42; (refine (penRaw1 _ _ _ (.slice Ab r.bb.length cb') r.bb _ _ _ (HS.out.res (i := 1) rfl) (HS.out.res (i := 0) rfl) (HS.out.fact (i := 1) rfl) (by simp [le_length, csize_length, HTX.out, HHA.out, HCO.out]; try omega)).mono ?_); rintro e Wn ⟨v6, rfl, hb⟩; have hS := HS.out.pen (i := 1) rfl hb; replace hS := hS.sub 0; clear hb; clear HS; have HS := Lib.hid hS; clear hS)
    | (refine atd 24 (by rfl) ?_; refine wl (by rfl) (wp_of_run (run_sla (by rfl) (by rfl)) ?_))
    | (refine atd 25 (by rfl) ?_; refine wl (by rfl) (s_bs (E := 22) (z := .slice none 0 0) HS.out 1 1 [.slice (some ⟨b1, 1, none⟩) 32 32] (by rfl) Try.underlying107 (by kernel_rfl) (by rfl) (by decide) (by decide) (by kernel_rfl) (by rfl) (by decide) ?_); intro bp25 Wn hS; clear HS; have HS := Lib.hid hS; clear hS)
    | (refine atd 29 (by rfl) ?_; refine wl (by rfl) (s_ld HS.out 1 (by rfl) (by rfl) (by rfl) (by kernel_rfl) (by exact rcs_33 HR.out (.slice As r.sb.length cs') (.slice Ab r.bb.length cb')) ?_))
    | (refine atd 36 (by rfl) ?_; refine wl (by rfl) (s_ld HS.out 1 (by rfl) (by rfl) (by rfl) (by kernel_rfl) (by exact rcs_34 HR.out (.slice As r.sb.length cs') (.slice Ab r.bb.length cb')) ?_))
    | (refine atd 60 (by rfl) ?_; refine wl (by rfl) (s_ld HS.out 1 (by rfl) (by rfl) (by rfl) (by kernel_rfl) (by exact rcs_69 HR.out (.slice As r.sb.length cs') (.slice Ab r.bb.length cb')) ?_))
    | (refine atd 61 (by rfl) ?_; refine wl (by rfl) (s_bs (E := 22) (z := .slice none 0 0) HS.out 1 1 [.slice Ab r.bb.length cb'] (by rfl) Try.underlying107 (by kernel_rfl) (by rfl) (by decide) (by decide) (by kernel_rfl) (by rfl) (by decide) ?_); intro bp61 Wn hS; clear HS; have HS := Lib.hid hS; clear hS)
    | (go_at_call 44; refine (penAll b5 _ _ _ (HS.out.res (i := 0) rfl) (by simp [le_length, csize_length, HTX.out, HHA.out, HCO.out]; try omega)).mono ?_; rintro e Wn ⟨v', rfl, hb⟩; have hbw := Lib.hid HS.out.below))
  go_ret2
  rw [HQ.out] at hb
  exact ⟨_, rfl, hbw.out.trans (hb.1.mono hbw.out.size), hb.2.1, fun k hk => ⟨Nat.le_trans hbw.out.size (hb.2.2 k hk).1, (hb.2.2 k hk).2⟩⟩
set_option maxHeartbeats 1000000 in
set_option maxRecDepth 100000 in
theorem enc27c (r : Req) (As Ab : Option Addr) (cs' cb' : Nat) (w : World) (hr : r.ok) (hs : HB w (.slice As r.sb.length cs') r.sb) (hb : HB w (.slice Ab r.bb.length cb') r.bb) (hf : fldK r.k = 2) (hc : chkI r = 0) (kb : UInt8) (hk : r.k = (kb.toNat : Int)) (hbb : r.bb = []) (hlb : r.sb.length ≤ 2000 ∧ r.bb.length ≤ 200000) :
    Calls Try.prog 27 #[.agg (rcs r (.slice As r.sb.length cs') (.slice Ab r.bb.length cb')).toArray] w fun e w' => ∃ v', e = .returned (.tuple #[v', .int .i64 0]) ∧ New w w' (Row v' 5 1 (encQ r).length (bs (encQ r))) := by
  have HS := Lib.hid (((St.start w).addF hb.away0).addF hs.away0)
  have HR := Lib.hid hr; have HC := Lib.hid hc; have HK := Lib.hid hk; have HTX := Lib.hid hr.tx; have HHA := Lib.hid hr.ha; have HSB := Lib.hid hs
  have hn1 := hr.n; have hn2 := hr.h; have hn3 := hr.m; have hkb := kb.toNat_lt
  obtain ⟨hl1, hl2⟩ := hlb
  have hco : compact r.sb.length ≤ 9 := by unfold compact; repeat' split
                                           all_goals simp
  have HCO := Lib.hid hco
  have hF : ∀ W, Calls Try.prog 48 #[.int .i64 (kb.toNat : Int)] W fun e w' => e = .returned (.int .i64 2) ∧ W = w' := fun W => by
    have := fields48 r.k W
    rw [hf, hk] at this
    exact this
  have HF := Lib.hid hF
  have hq : [] ++ [kb] ++ le 4 r.h ++ r.bb = encQ r := by
    rw [encQ_cons hk hf (l := (le 4 r.h)) (by simp [encF])]
    simp [hbb]
  have HQ := Lib.hid hq
  clear hb hs hr hc hk hF hq hf hbb
  go_enter Try.func27, Try.ntmps27
  go_wp2_with (first
    | (refine atd 1 (by rfl) ?_; refine wl (by rfl) (s_bx (l := rcs r (.slice As r.sb.length cs') (.slice Ab r.bb.length cb')) HS.out (by rfl) (by rfl) ?_); intro b1 Wn hS; clear HS; have HS := Lib.hid hS; clear hS)
    | (refine atd 7 (by rfl) ?_; refine wl (by rfl) (s_lda (cs := rcs r (.slice As r.sb.length cs') (.slice Ab r.bb.length cb')) HS.out 0 70 (by rfl) (by rfl) (by rfl) ag56 (by exact rcs_all HR.out (.slice As r.sb.length cs') (.slice Ab r.bb.length cb')) (by exact rcs_length HR.out (.slice As r.sb.length cs') (.slice Ab r.bb.length cb')) ?_))
    | (go_at_call 32; refine (check32 r _ _ _ HR.out (HS.out.fact (i := 0) rfl) (HS.out.fact (i := 1) rfl)).mono ?_; rintro e Wn ⟨rfl, hb⟩; rw [HC.out]; have hS := HS.out.call hb; clear hb; clear HS; have HS := Lib.hid hS; clear hS)
    | (refine atd 5 (by rfl) ?_; refine wl (by rfl) (s_al HS.out (by rfl) z80 (by rfl) ?_); intro b5 Wn hS; replace hS := hS.pen0 (i := 0) rfl; clear HS; have HS := Lib.hid hS; clear hS)
    | (refine atd 13 (by rfl) ?_; refine wl (by rfl) (s_ld HS.out 1 (by rfl) (by rfl) (by rfl) (by kernel_rfl) (by exact rcs_0k HK.out (.slice As r.sb.length cs') (.slice Ab r.bb.length cb')) ?_))
    | (go_at_call 48; refine (HF.out _).mono ?_; rintro e Wn ⟨rfl, rfl⟩)
    | (refine atd 16 (by rfl) ?_; refine wl (by rfl) (s_ld HS.out 1 (by rfl) (by rfl) (by rfl) (by kernel_rfl) (by exact rcs_0k HK.out (.slice As r.sb.length cs') (.slice Ab r.bb.length cb')) ?_))
    | (go_at_call 41; (refine (penOne _ kb _ _ _ (HS.out.res (i := 0) rfl) (by simp)).mono ?_); rintro e Wn ⟨v2, rfl, hb⟩; have hS := HS.out.pen (i := 0) rfl hb; clear hb; clear HS; have HS := Lib.hid hS; clear hS)
    | (go_at_call 41; (refine (penFour _ r.h _ _ _ (HS.out.res (i := 0) rfl) HR.out.h (by simp [le_length, csize_length, HTX.out, HHA.out, HCO.out]; try omega)).mono ?_); rintro e Wn ⟨v3, rfl, hb⟩; have hS := HS.out.pen (i := 0) rfl hb; clear hb; clear HS; have HS := Lib.hid hS; clear hS)
    | (go_at_call 42; (refine (penRaw1 _ _ _ (.slice Ab r.bb.length cb') r.bb _ _ _ (HS.out.res (i := 1) rfl) (HS.out.res (i := 0) rfl) (HS.out.fact (i := 1) rfl) (by simp [le_length, csize_length, HTX.out, HHA.out, HCO.out]; try omega)).mono ?_); rintro e Wn ⟨v4, rfl, hb⟩; have hS := HS.out.pen (i := 1) rfl hb; replace hS := hS.sub 0; clear hb; clear HS; have HS := Lib.hid hS; clear hS)
    | (refine atd 36 (by rfl) ?_; refine wl (by rfl) (s_ld HS.out 1 (by rfl) (by rfl) (by rfl) (by kernel_rfl) (by exact rcs_34 HR.out (.slice As r.sb.length cs') (.slice Ab r.bb.length cb')) ?_))
    | (refine atd 60 (by rfl) ?_; refine wl (by rfl) (s_ld HS.out 1 (by rfl) (by rfl) (by rfl) (by kernel_rfl) (by exact rcs_69 HR.out (.slice As r.sb.length cs') (.slice Ab r.bb.length cb')) ?_))
    | (refine atd 61 (by rfl) ?_; refine wl (by rfl) (s_bs (E := 22) (z := .slice none 0 0) HS.out 1 1 [.slice Ab r.bb.length cb'] (by rfl) Try.underlying107 (by kernel_rfl) (by rfl) (by decide) (by decide) (by kernel_rfl) (by rfl) (by decide) ?_); intro bp61 Wn hS; clear HS; have HS := Lib.hid hS; clear hS)
    | (go_at_call 44; refine (penAll b5 _ _ _ (HS.out.res (i := 0) rfl) (by simp [le_length, csize_length, HTX.out, HHA.out, HCO.out]; try omega)).mono ?_; rintro e Wn ⟨v', rfl, hb⟩; have hbw := Lib.hid HS.out.below))
  go_ret2
  rw [HQ.out] at hb
  exact ⟨_, rfl, hbw.out.trans (hb.1.mono hbw.out.size), hb.2.1, fun k hk => ⟨Nat.le_trans hbw.out.size (hb.2.2 k hk).1, (hb.2.2 k hk).2⟩⟩
set_option maxHeartbeats 1000000 in
set_option maxRecDepth 100000 in
theorem enc27d (r : Req) (As Ab : Option Addr) (cs' cb' : Nat) (w : World) (hr : r.ok) (hs : HB w (.slice As r.sb.length cs') r.sb) (hb : HB w (.slice Ab r.bb.length cb') r.bb) (hf : fldK r.k = 10) (hc : chkI r = 0) (kb : UInt8) (hk : r.k = (kb.toNat : Int)) (hbb : r.bb = []) (hlb : r.sb.length ≤ 2000 ∧ r.bb.length ≤ 200000) :
    Calls Try.prog 27 #[.agg (rcs r (.slice As r.sb.length cs') (.slice Ab r.bb.length cb')).toArray] w fun e w' => ∃ v', e = .returned (.tuple #[v', .int .i64 0]) ∧ New w w' (Row v' 5 1 (encQ r).length (bs (encQ r))) := by
  have HS := Lib.hid (((St.start w).addF hb.away0).addF hs.away0)
  have HR := Lib.hid hr; have HC := Lib.hid hc; have HK := Lib.hid hk; have HTX := Lib.hid hr.tx; have HHA := Lib.hid hr.ha; have HSB := Lib.hid hs
  have hn1 := hr.n; have hn2 := hr.h; have hn3 := hr.m; have hkb := kb.toNat_lt
  obtain ⟨hl1, hl2⟩ := hlb
  have hco : compact r.sb.length ≤ 9 := by unfold compact; repeat' split
                                           all_goals simp
  have HCO := Lib.hid hco
  have hF : ∀ W, Calls Try.prog 48 #[.int .i64 (kb.toNat : Int)] W fun e w' => e = .returned (.int .i64 10) ∧ W = w' := fun W => by
    have := fields48 r.k W
    rw [hf, hk] at this
    exact this
  have HF := Lib.hid hF
  have hq : [] ++ [kb] ++ le 4 r.h ++ csize r.sb.length ++ r.sb ++ r.bb = encQ r := by
    rw [encQ_cons hk hf (l := (le 4 r.h ++ (csize r.sb.length ++ r.sb))) (by simp [encF])]
    simp [hbb]
  have HQ := Lib.hid hq
  clear hb hs hr hc hk hF hq hf hbb
  go_enter Try.func27, Try.ntmps27
  go_wp2_with (first
    | (refine atd 1 (by rfl) ?_; refine wl (by rfl) (s_bx (l := rcs r (.slice As r.sb.length cs') (.slice Ab r.bb.length cb')) HS.out (by rfl) (by rfl) ?_); intro b1 Wn hS; clear HS; have HS := Lib.hid hS; clear hS)
    | (refine atd 7 (by rfl) ?_; refine wl (by rfl) (s_lda (cs := rcs r (.slice As r.sb.length cs') (.slice Ab r.bb.length cb')) HS.out 0 70 (by rfl) (by rfl) (by rfl) ag56 (by exact rcs_all HR.out (.slice As r.sb.length cs') (.slice Ab r.bb.length cb')) (by exact rcs_length HR.out (.slice As r.sb.length cs') (.slice Ab r.bb.length cb')) ?_))
    | (go_at_call 32; refine (check32 r _ _ _ HR.out (HS.out.fact (i := 0) rfl) (HS.out.fact (i := 1) rfl)).mono ?_; rintro e Wn ⟨rfl, hb⟩; rw [HC.out]; have hS := HS.out.call hb; clear hb; clear HS; have HS := Lib.hid hS; clear hS)
    | (refine atd 5 (by rfl) ?_; refine wl (by rfl) (s_al HS.out (by rfl) z80 (by rfl) ?_); intro b5 Wn hS; replace hS := hS.pen0 (i := 0) rfl; clear HS; have HS := Lib.hid hS; clear hS)
    | (refine atd 13 (by rfl) ?_; refine wl (by rfl) (s_ld HS.out 1 (by rfl) (by rfl) (by rfl) (by kernel_rfl) (by exact rcs_0k HK.out (.slice As r.sb.length cs') (.slice Ab r.bb.length cb')) ?_))
    | (go_at_call 48; refine (HF.out _).mono ?_; rintro e Wn ⟨rfl, rfl⟩)
    | (refine atd 16 (by rfl) ?_; refine wl (by rfl) (s_ld HS.out 1 (by rfl) (by rfl) (by rfl) (by kernel_rfl) (by exact rcs_0k HK.out (.slice As r.sb.length cs') (.slice Ab r.bb.length cb')) ?_))
    | (go_at_call 41; (refine (penOne _ kb _ _ _ (HS.out.res (i := 0) rfl) (by simp)).mono ?_); rintro e Wn ⟨v2, rfl, hb⟩; have hS := HS.out.pen (i := 0) rfl hb; clear hb; clear HS; have HS := Lib.hid hS; clear hS)
    | (go_at_call 41; (refine (penFour _ r.h _ _ _ (HS.out.res (i := 0) rfl) HR.out.h (by simp [le_length, csize_length, HTX.out, HHA.out, HCO.out]; try omega)).mono ?_); rintro e Wn ⟨v3, rfl, hb⟩; have hS := HS.out.pen (i := 0) rfl hb; clear hb; clear HS; have HS := Lib.hid hS; clear hS)
    | (go_at_call 49; (refine (penBytes _ _ _ r.sb _ _ (HS.out.res (i := 0) rfl) (HS.out.fact (i := 0) rfl) (by simp [le_length, csize_length, HTX.out, HHA.out, HCO.out]; try omega) (HS.out.notIn (i := 0) rfl HSB.out)).mono ?_); rintro e Wn ⟨v4, rfl, hb⟩; have hS := HS.out.pen (i := 0) rfl hb; clear hb; clear HS; have HS := Lib.hid hS; clear hS)
    | (go_at_call 42; (refine (penRaw1 _ _ _ (.slice Ab r.bb.length cb') r.bb _ _ _ (HS.out.res (i := 1) rfl) (HS.out.res (i := 0) rfl) (HS.out.fact (i := 1) rfl) (by simp [le_length, csize_length, HTX.out, HHA.out, HCO.out]; try omega)).mono ?_); rintro e Wn ⟨v5, rfl, hb⟩; have hS := HS.out.pen (i := 1) rfl hb; replace hS := hS.sub 0; clear hb; clear HS; have HS := Lib.hid hS; clear hS)
    | (refine atd 36 (by rfl) ?_; refine wl (by rfl) (s_ld HS.out 1 (by rfl) (by rfl) (by rfl) (by kernel_rfl) (by exact rcs_34 HR.out (.slice As r.sb.length cs') (.slice Ab r.bb.length cb')) ?_))
    | (refine atd 50 (by rfl) ?_; refine wl (by rfl) (s_ld HS.out 1 (by rfl) (by rfl) (by rfl) (by kernel_rfl) (by exact rcs_36 HR.out (.slice As r.sb.length cs') (.slice Ab r.bb.length cb')) ?_))
    | (refine atd 60 (by rfl) ?_; refine wl (by rfl) (s_ld HS.out 1 (by rfl) (by rfl) (by rfl) (by kernel_rfl) (by exact rcs_69 HR.out (.slice As r.sb.length cs') (.slice Ab r.bb.length cb')) ?_))
    | (refine atd 61 (by rfl) ?_; refine wl (by rfl) (s_bs (E := 22) (z := .slice none 0 0) HS.out 1 1 [.slice Ab r.bb.length cb'] (by rfl) Try.underlying107 (by kernel_rfl) (by rfl) (by decide) (by decide) (by kernel_rfl) (by rfl) (by decide) ?_); intro bp61 Wn hS; clear HS; have HS := Lib.hid hS; clear hS)
    | (go_at_call 44; refine (penAll b5 _ _ _ (HS.out.res (i := 0) rfl) (by simp [le_length, csize_length, HTX.out, HHA.out, HCO.out]; try omega)).mono ?_; rintro e Wn ⟨v', rfl, hb⟩; have hbw := Lib.hid HS.out.below))
  go_ret2
  rw [HQ.out] at hb
  exact ⟨_, rfl, hbw.out.trans (hb.1.mono hbw.out.size), hb.2.1, fun k hk => ⟨Nat.le_trans hbw.out.size (hb.2.2 k hk).1, (hb.2.2 k hk).2⟩⟩
set_option maxHeartbeats 1000000 in
set_option maxRecDepth 100000 in
theorem enc27e (r : Req) (As Ab : Option Addr) (cs' cb' : Nat) (w : World) (hr : r.ok) (hs : HB w (.slice As r.sb.length cs') r.sb) (hb : HB w (.slice Ab r.bb.length cb') r.bb) (hf : fldK r.k = 6) (hc : chkI r = 0) (kb : UInt8) (hk : r.k = (kb.toNat : Int)) (hbb : r.bb = []) (hlb : r.sb.length ≤ 2000 ∧ r.bb.length ≤ 200000) :
    Calls Try.prog 27 #[.agg (rcs r (.slice As r.sb.length cs') (.slice Ab r.bb.length cb')).toArray] w fun e w' => ∃ v', e = .returned (.tuple #[v', .int .i64 0]) ∧ New w w' (Row v' 5 1 (encQ r).length (bs (encQ r))) := by
  have HS := Lib.hid (((St.start w).addF hb.away0).addF hs.away0)
  have HR := Lib.hid hr; have HC := Lib.hid hc; have HK := Lib.hid hk; have HTX := Lib.hid hr.tx; have HHA := Lib.hid hr.ha; have HSB := Lib.hid hs
  have hn1 := hr.n; have hn2 := hr.h; have hn3 := hr.m; have hkb := kb.toNat_lt
  obtain ⟨hl1, hl2⟩ := hlb
  have hco : compact r.sb.length ≤ 9 := by unfold compact; repeat' split
                                           all_goals simp
  have HCO := Lib.hid hco
  have hF : ∀ W, Calls Try.prog 48 #[.int .i64 (kb.toNat : Int)] W fun e w' => e = .returned (.int .i64 6) ∧ W = w' := fun W => by
    have := fields48 r.k W
    rw [hf, hk] at this
    exact this
  have HF := Lib.hid hF
  have hq : [] ++ [kb] ++ le 4 r.h ++ le 4 r.m ++ r.bb = encQ r := by
    rw [encQ_cons hk hf (l := (le 4 r.h ++ le 4 r.m)) (by simp [encF])]
    simp [hbb]
  have HQ := Lib.hid hq
  clear hb hs hr hc hk hF hq hf hbb
  go_enter Try.func27, Try.ntmps27
  go_wp2_with (first
    | (refine atd 1 (by rfl) ?_; refine wl (by rfl) (s_bx (l := rcs r (.slice As r.sb.length cs') (.slice Ab r.bb.length cb')) HS.out (by rfl) (by rfl) ?_); intro b1 Wn hS; clear HS; have HS := Lib.hid hS; clear hS)
    | (refine atd 7 (by rfl) ?_; refine wl (by rfl) (s_lda (cs := rcs r (.slice As r.sb.length cs') (.slice Ab r.bb.length cb')) HS.out 0 70 (by rfl) (by rfl) (by rfl) ag56 (by exact rcs_all HR.out (.slice As r.sb.length cs') (.slice Ab r.bb.length cb')) (by exact rcs_length HR.out (.slice As r.sb.length cs') (.slice Ab r.bb.length cb')) ?_))
    | (go_at_call 32; refine (check32 r _ _ _ HR.out (HS.out.fact (i := 0) rfl) (HS.out.fact (i := 1) rfl)).mono ?_; rintro e Wn ⟨rfl, hb⟩; rw [HC.out]; have hS := HS.out.call hb; clear hb; clear HS; have HS := Lib.hid hS; clear hS)
    | (refine atd 5 (by rfl) ?_; refine wl (by rfl) (s_al HS.out (by rfl) z80 (by rfl) ?_); intro b5 Wn hS; replace hS := hS.pen0 (i := 0) rfl; clear HS; have HS := Lib.hid hS; clear hS)
    | (refine atd 13 (by rfl) ?_; refine wl (by rfl) (s_ld HS.out 1 (by rfl) (by rfl) (by rfl) (by kernel_rfl) (by exact rcs_0k HK.out (.slice As r.sb.length cs') (.slice Ab r.bb.length cb')) ?_))
    | (go_at_call 48; refine (HF.out _).mono ?_; rintro e Wn ⟨rfl, rfl⟩)
    | (refine atd 16 (by rfl) ?_; refine wl (by rfl) (s_ld HS.out 1 (by rfl) (by rfl) (by rfl) (by kernel_rfl) (by exact rcs_0k HK.out (.slice As r.sb.length cs') (.slice Ab r.bb.length cb')) ?_))
    | (go_at_call 41; (refine (penOne _ kb _ _ _ (HS.out.res (i := 0) rfl) (by simp)).mono ?_); rintro e Wn ⟨v2, rfl, hb⟩; have hS := HS.out.pen (i := 0) rfl hb; clear hb; clear HS; have HS := Lib.hid hS; clear hS)
    | (go_at_call 41; (refine (penFour _ r.h _ _ _ (HS.out.res (i := 0) rfl) HR.out.h (by simp [le_length, csize_length, HTX.out, HHA.out, HCO.out]; try omega)).mono ?_); rintro e Wn ⟨v3, rfl, hb⟩; have hS := HS.out.pen (i := 0) rfl hb; clear hb; clear HS; have HS := Lib.hid hS; clear hS)
    | (go_at_call 41; (refine (penFour _ r.m _ _ _ (HS.out.res (i := 0) rfl) HR.out.m (by simp [le_length, csize_length, HTX.out, HHA.out, HCO.out]; try omega)).mono ?_); rintro e Wn ⟨v4, rfl, hb⟩; have hS := HS.out.pen (i := 0) rfl hb; clear hb; clear HS; have HS := Lib.hid hS; clear hS)
    | (go_at_call 42; (refine (penRaw1 _ _ _ (.slice Ab r.bb.length cb') r.bb _ _ _ (HS.out.res (i := 1) rfl) (HS.out.res (i := 0) rfl) (HS.out.fact (i := 1) rfl) (by simp [le_length, csize_length, HTX.out, HHA.out, HCO.out]; try omega)).mono ?_); rintro e Wn ⟨v5, rfl, hb⟩; have hS := HS.out.pen (i := 1) rfl hb; replace hS := hS.sub 0; clear hb; clear HS; have HS := Lib.hid hS; clear hS)
    | (refine atd 36 (by rfl) ?_; refine wl (by rfl) (s_ld HS.out 1 (by rfl) (by rfl) (by rfl) (by kernel_rfl) (by exact rcs_34 HR.out (.slice As r.sb.length cs') (.slice Ab r.bb.length cb')) ?_))
    | (refine atd 43 (by rfl) ?_; refine wl (by rfl) (s_ld HS.out 1 (by rfl) (by rfl) (by rfl) (by kernel_rfl) (by exact rcs_35 HR.out (.slice As r.sb.length cs') (.slice Ab r.bb.length cb')) ?_))
    | (refine atd 60 (by rfl) ?_; refine wl (by rfl) (s_ld HS.out 1 (by rfl) (by rfl) (by rfl) (by kernel_rfl) (by exact rcs_69 HR.out (.slice As r.sb.length cs') (.slice Ab r.bb.length cb')) ?_))
    | (refine atd 61 (by rfl) ?_; refine wl (by rfl) (s_bs (E := 22) (z := .slice none 0 0) HS.out 1 1 [.slice Ab r.bb.length cb'] (by rfl) Try.underlying107 (by kernel_rfl) (by rfl) (by decide) (by decide) (by kernel_rfl) (by rfl) (by decide) ?_); intro bp61 Wn hS; clear HS; have HS := Lib.hid hS; clear hS)
    | (go_at_call 44; refine (penAll b5 _ _ _ (HS.out.res (i := 0) rfl) (by simp [le_length, csize_length, HTX.out, HHA.out, HCO.out]; try omega)).mono ?_; rintro e Wn ⟨v', rfl, hb⟩; have hbw := Lib.hid HS.out.below))
  go_ret2
  rw [HQ.out] at hb
  exact ⟨_, rfl, hbw.out.trans (hb.1.mono hbw.out.size), hb.2.1, fun k hk => ⟨Nat.le_trans hbw.out.size (hb.2.2 k hk).1, (hb.2.2 k hk).2⟩⟩
set_option maxHeartbeats 1000000 in
set_option maxRecDepth 100000 in
theorem enc27f (r : Req) (As Ab : Option Addr) (cs' cb' : Nat) (w : World) (hr : r.ok) (hs : HB w (.slice As r.sb.length cs') r.sb) (hb : HB w (.slice Ab r.bb.length cb') r.bb) (hf : fldK r.k = 16) (hc : chkI r = 0) (kb : UInt8) (hk : r.k = (kb.toNat : Int)) (hbb : r.bb = []) (hlb : r.sb.length ≤ 2000 ∧ r.bb.length ≤ 200000) :
    Calls Try.prog 27 #[.agg (rcs r (.slice As r.sb.length cs') (.slice Ab r.bb.length cb')).toArray] w fun e w' => ∃ v', e = .returned (.tuple #[v', .int .i64 0]) ∧ New w w' (Row v' 5 1 (encQ r).length (bs (encQ r))) := by
  have HS := Lib.hid (((St.start w).addF hb.away0).addF hs.away0)
  have HR := Lib.hid hr; have HC := Lib.hid hc; have HK := Lib.hid hk; have HTX := Lib.hid hr.tx; have HHA := Lib.hid hr.ha; have HSB := Lib.hid hs
  have hn1 := hr.n; have hn2 := hr.h; have hn3 := hr.m; have hkb := kb.toNat_lt
  obtain ⟨hl1, hl2⟩ := hlb
  have hco : compact r.sb.length ≤ 9 := by unfold compact; repeat' split
                                           all_goals simp
  have HCO := Lib.hid hco
  have hF : ∀ W, Calls Try.prog 48 #[.int .i64 (kb.toNat : Int)] W fun e w' => e = .returned (.int .i64 16) ∧ W = w' := fun W => by
    have := fields48 r.k W
    rw [hf, hk] at this
    exact this
  have HF := Lib.hid hF
  have hq : [] ++ [kb] ++ r.ha ++ r.bb = encQ r := by
    rw [encQ_cons hk hf (l := r.ha) (by simp [encF])]
    simp [hbb]
  have HQ := Lib.hid hq
  clear hb hs hr hc hk hF hq hf hbb
  go_enter Try.func27, Try.ntmps27
  go_wp2_with (first
    | (refine atd 1 (by rfl) ?_; refine wl (by rfl) (s_bx (l := rcs r (.slice As r.sb.length cs') (.slice Ab r.bb.length cb')) HS.out (by rfl) (by rfl) ?_); intro b1 Wn hS; clear HS; have HS := Lib.hid hS; clear hS)
    | (refine atd 7 (by rfl) ?_; refine wl (by rfl) (s_lda (cs := rcs r (.slice As r.sb.length cs') (.slice Ab r.bb.length cb')) HS.out 0 70 (by rfl) (by rfl) (by rfl) ag56 (by exact rcs_all HR.out (.slice As r.sb.length cs') (.slice Ab r.bb.length cb')) (by exact rcs_length HR.out (.slice As r.sb.length cs') (.slice Ab r.bb.length cb')) ?_))
    | (go_at_call 32; refine (check32 r _ _ _ HR.out (HS.out.fact (i := 0) rfl) (HS.out.fact (i := 1) rfl)).mono ?_; rintro e Wn ⟨rfl, hb⟩; rw [HC.out]; have hS := HS.out.call hb; clear hb; clear HS; have HS := Lib.hid hS; clear hS)
    | (refine atd 5 (by rfl) ?_; refine wl (by rfl) (s_al HS.out (by rfl) z80 (by rfl) ?_); intro b5 Wn hS; replace hS := hS.pen0 (i := 0) rfl; clear HS; have HS := Lib.hid hS; clear hS)
    | (refine atd 13 (by rfl) ?_; refine wl (by rfl) (s_ld HS.out 1 (by rfl) (by rfl) (by rfl) (by kernel_rfl) (by exact rcs_0k HK.out (.slice As r.sb.length cs') (.slice Ab r.bb.length cb')) ?_))
    | (go_at_call 48; refine (HF.out _).mono ?_; rintro e Wn ⟨rfl, rfl⟩)
    | (refine atd 16 (by rfl) ?_; refine wl (by rfl) (s_ld HS.out 1 (by rfl) (by rfl) (by rfl) (by kernel_rfl) (by exact rcs_0k HK.out (.slice As r.sb.length cs') (.slice Ab r.bb.length cb')) ?_))
    | (go_at_call 41; (refine (penOne _ kb _ _ _ (HS.out.res (i := 0) rfl) (by simp)).mono ?_); rintro e Wn ⟨v2, rfl, hb⟩; have hS := HS.out.pen (i := 0) rfl hb; clear hb; clear HS; have HS := Lib.hid hS; clear hS)
    | (go_at_call 42; (refine (penRaw1 _ _ _ (.slice (some ⟨b1, 37, none⟩) 32 32) r.ha _ _ _ (HS.out.res (i := 1) rfl) (HS.out.res (i := 0) rfl) (by have hh := HB.of_range (xs := r.ha) (b := b1) (k := 37) (HS.out.range (i := 2) rfl (by rw [bs_length, HHA.out]; exact rcs_ha HR.out (.slice As r.sb.length cs') (.slice Ab r.bb.length cb'))); rw [HHA.out] at hh; exact hh) (by simp [le_length, csize_length, HTX.out, HHA.out, HCO.out]; try omega)).mono ?_); rintro e Wn ⟨v3, rfl, hb⟩; have hS := HS.out.pen (i := 1) rfl hb; replace hS := hS.sub 0; clear hb; clear HS; have HS := Lib.hid hS; clear hS)
    | (go_at_call 42; (refine (penRaw1 _ _ _ (.slice Ab r.bb.length cb') r.bb _ _ _ (HS.out.res (i := 1) rfl) (HS.out.res (i := 0) rfl) (HS.out.fact (i := 1) rfl) (by simp [le_length, csize_length, HTX.out, HHA.out, HCO.out]; try omega)).mono ?_); rintro e Wn ⟨v4, rfl, hb⟩; have hS := HS.out.pen (i := 1) rfl hb; replace hS := hS.sub 0; clear hb; clear HS; have HS := Lib.hid hS; clear hS)
    | (refine atd 56 (by rfl) ?_; refine wl (by rfl) (wp_of_run (run_sla (by rfl) (by rfl)) ?_))
    | (refine atd 57 (by rfl) ?_; refine wl (by rfl) (s_bs (E := 22) (z := .slice none 0 0) HS.out 1 1 [.slice (some ⟨b1, 37, none⟩) 32 32] (by rfl) Try.underlying107 (by kernel_rfl) (by rfl) (by decide) (by decide) (by kernel_rfl) (by rfl) (by decide) ?_); intro bp57 Wn hS; clear HS; have HS := Lib.hid hS; clear hS)
    | (refine atd 60 (by rfl) ?_; refine wl (by rfl) (s_ld HS.out 1 (by rfl) (by rfl) (by rfl) (by kernel_rfl) (by exact rcs_69 HR.out (.slice As r.sb.length cs') (.slice Ab r.bb.length cb')) ?_))
    | (refine atd 61 (by rfl) ?_; refine wl (by rfl) (s_bs (E := 22) (z := .slice none 0 0) HS.out 1 1 [.slice Ab r.bb.length cb'] (by rfl) Try.underlying107 (by kernel_rfl) (by rfl) (by decide) (by decide) (by kernel_rfl) (by rfl) (by decide) ?_); intro bp61 Wn hS; clear HS; have HS := Lib.hid hS; clear hS)
    | (go_at_call 44; refine (penAll b5 _ _ _ (HS.out.res (i := 0) rfl) (by simp [le_length, csize_length, HTX.out, HHA.out, HCO.out]; try omega)).mono ?_; rintro e Wn ⟨v', rfl, hb⟩; have hbw := Lib.hid HS.out.below))
  go_ret2
  rw [HQ.out] at hb
  exact ⟨_, rfl, hbw.out.trans (hb.1.mono hbw.out.size), hb.2.1, fun k hk => ⟨Nat.le_trans hbw.out.size (hb.2.2 k hk).1, (hb.2.2 k hk).2⟩⟩
set_option maxHeartbeats 1000000 in
set_option maxRecDepth 100000 in
theorem enc27g (r : Req) (As Ab : Option Addr) (cs' cb' : Nat) (w : World) (hr : r.ok) (hs : HB w (.slice As r.sb.length cs') r.sb) (hb : HB w (.slice Ab r.bb.length cb') r.bb) (hf : fldK r.k = 0) (hc : chkI r = 0) (kb : UInt8) (hk : r.k = (kb.toNat : Int)) (hbb : r.bb = []) (hlb : r.sb.length ≤ 2000 ∧ r.bb.length ≤ 200000) :
    Calls Try.prog 27 #[.agg (rcs r (.slice As r.sb.length cs') (.slice Ab r.bb.length cb')).toArray] w fun e w' => ∃ v', e = .returned (.tuple #[v', .int .i64 0]) ∧ New w w' (Row v' 5 1 (encQ r).length (bs (encQ r))) := by
  have HS := Lib.hid (((St.start w).addF hb.away0).addF hs.away0)
  have HR := Lib.hid hr; have HC := Lib.hid hc; have HK := Lib.hid hk; have HTX := Lib.hid hr.tx; have HHA := Lib.hid hr.ha; have HSB := Lib.hid hs
  have hn1 := hr.n; have hn2 := hr.h; have hn3 := hr.m; have hkb := kb.toNat_lt
  obtain ⟨hl1, hl2⟩ := hlb
  have hco : compact r.sb.length ≤ 9 := by unfold compact; repeat' split
                                           all_goals simp
  have HCO := Lib.hid hco
  have hF : ∀ W, Calls Try.prog 48 #[.int .i64 (kb.toNat : Int)] W fun e w' => e = .returned (.int .i64 0) ∧ W = w' := fun W => by
    have := fields48 r.k W
    rw [hf, hk] at this
    exact this
  have HF := Lib.hid hF
  have hq : [] ++ [kb] ++ r.bb = encQ r := by
    rw [encQ_cons hk hf (l := []) (by simp [encF])]
    simp [hbb]
  have HQ := Lib.hid hq
  clear hb hs hr hc hk hF hq hf hbb
  go_enter Try.func27, Try.ntmps27
  go_wp2_with (first
    | (refine atd 1 (by rfl) ?_; refine wl (by rfl) (s_bx (l := rcs r (.slice As r.sb.length cs') (.slice Ab r.bb.length cb')) HS.out (by rfl) (by rfl) ?_); intro b1 Wn hS; clear HS; have HS := Lib.hid hS; clear hS)
    | (refine atd 7 (by rfl) ?_; refine wl (by rfl) (s_lda (cs := rcs r (.slice As r.sb.length cs') (.slice Ab r.bb.length cb')) HS.out 0 70 (by rfl) (by rfl) (by rfl) ag56 (by exact rcs_all HR.out (.slice As r.sb.length cs') (.slice Ab r.bb.length cb')) (by exact rcs_length HR.out (.slice As r.sb.length cs') (.slice Ab r.bb.length cb')) ?_))
    | (go_at_call 32; refine (check32 r _ _ _ HR.out (HS.out.fact (i := 0) rfl) (HS.out.fact (i := 1) rfl)).mono ?_; rintro e Wn ⟨rfl, hb⟩; rw [HC.out]; have hS := HS.out.call hb; clear hb; clear HS; have HS := Lib.hid hS; clear hS)
    | (refine atd 5 (by rfl) ?_; refine wl (by rfl) (s_al HS.out (by rfl) z80 (by rfl) ?_); intro b5 Wn hS; replace hS := hS.pen0 (i := 0) rfl; clear HS; have HS := Lib.hid hS; clear hS)
    | (refine atd 13 (by rfl) ?_; refine wl (by rfl) (s_ld HS.out 1 (by rfl) (by rfl) (by rfl) (by kernel_rfl) (by exact rcs_0k HK.out (.slice As r.sb.length cs') (.slice Ab r.bb.length cb')) ?_))
    | (go_at_call 48; refine (HF.out _).mono ?_; rintro e Wn ⟨rfl, rfl⟩)
    | (refine atd 16 (by rfl) ?_; refine wl (by rfl) (s_ld HS.out 1 (by rfl) (by rfl) (by rfl) (by kernel_rfl) (by exact rcs_0k HK.out (.slice As r.sb.length cs') (.slice Ab r.bb.length cb')) ?_))
    | (go_at_call 41; (refine (penOne _ kb _ _ _ (HS.out.res (i := 0) rfl) (by simp)).mono ?_); rintro e Wn ⟨v2, rfl, hb⟩; have hS := HS.out.pen (i := 0) rfl hb; clear hb; clear HS; have HS := Lib.hid hS; clear hS)
    | (go_at_call 42; (refine (penRaw1 _ _ _ (.slice Ab r.bb.length cb') r.bb _ _ _ (HS.out.res (i := 1) rfl) (HS.out.res (i := 0) rfl) (HS.out.fact (i := 1) rfl) (by simp [le_length, csize_length, HTX.out, HHA.out, HCO.out]; try omega)).mono ?_); rintro e Wn ⟨v3, rfl, hb⟩; have hS := HS.out.pen (i := 1) rfl hb; replace hS := hS.sub 0; clear hb; clear HS; have HS := Lib.hid hS; clear hS)
    | (refine atd 60 (by rfl) ?_; refine wl (by rfl) (s_ld HS.out 1 (by rfl) (by rfl) (by rfl) (by kernel_rfl) (by exact rcs_69 HR.out (.slice As r.sb.length cs') (.slice Ab r.bb.length cb')) ?_))
    | (refine atd 61 (by rfl) ?_; refine wl (by rfl) (s_bs (E := 22) (z := .slice none 0 0) HS.out 1 1 [.slice Ab r.bb.length cb'] (by rfl) Try.underlying107 (by kernel_rfl) (by rfl) (by decide) (by decide) (by kernel_rfl) (by rfl) (by decide) ?_); intro bp61 Wn hS; clear HS; have HS := Lib.hid hS; clear hS)
    | (go_at_call 44; refine (penAll b5 _ _ _ (HS.out.res (i := 0) rfl) (by simp [le_length, csize_length, HTX.out, HHA.out, HCO.out]; try omega)).mono ?_; rintro e Wn ⟨v', rfl, hb⟩; have hbw := Lib.hid HS.out.below))
  go_ret2
  rw [HQ.out] at hb
  exact ⟨_, rfl, hbw.out.trans (hb.1.mono hbw.out.size), hb.2.1, fun k hk => ⟨Nat.le_trans hbw.out.size (hb.2.2 k hk).1, (hb.2.2 k hk).2⟩⟩
end
section
open Go Go.RowKit Go.Proofs
attribute [local irreducible] Calls

theorem info5s : (Try.prog.info? 5).map (·.size) = some 1 := by kernel_rfl
section
variable {P : Program} {w W : World} {L : List Res} {Fs : List (World → Prop)} {o : Oper} {a : Act} {K : Act → World → Prop} {Q : Exit → Act → World → Prop} {x y : Operand} {b : Nat} {l : List Value} {T : TypeId}
theorem splice_all {l cs : List Value} (h : cs.length = l.length) : splice l 0 cs = cs := by
  unfold splice
  rw [List.take_zero, List.nil_append, Nat.zero_add, h, List.drop_length, List.append_nil]
theorem St.setRow0 (h : St w W L Fs) {i : Nat} (hi : L[i]? = some (Blk b l T)) (cs : List Value) : St w (W.setRow b cs.toArray) (L.set i (Blk b cs T)) Fs := by
  have hb := h.blk hi
  have h2 : (W.setRow b cs.toArray).heap[b]? = some (.cells cs.toArray T (0, 0)) := setRow_heap W b _ _ T (0, 0) hb
  have hc : Chg [b] W (W.setRow b cs.toArray) := ⟨rfl, rfl, rfl, by simp, fun k hk hn => setRow_other W b k cs.toArray (by simpa using hn)⟩
  refine h.upd hi hc h2 (fun k hk => ?_)
  simp [Blk] at hk
  subst hk
  exact ⟨.inl (by simp [Blk]), blk_lt h2⟩
theorem s_cp (hS : St w W L Fs) (i : Nat) {cs : List Value} {n dc sl sc : Nat} {A : Addr} (ho : o.op = .call { callee := .builtin .copy, args := #[x, y], argTypes := #[22, 22] }) (hu : P.underlying 22 = some (.slice 5)) (hz : (P.info? 5).map (·.size) = some 1) (hx : a.eval x = .slice (some ⟨b, 0, none⟩) n dc) (hy : a.eval y = .slice (some A) sl sc) (hi : L[i]? = some (Blk b l T)) (hn : cs.length = Nat.min sl n) (hl : cs.length = l.length) (hc : ∀ j v, cs[j]? = some v → W.cell? (A.add j) = some v) (h1 : ∀ v ∈ cs, v.oneCell' = true) (h : ∀ W', St w W' (L.set i (Blk b cs T)) Fs → K (a.put o.dst (goInt cs.length)) W') : o.wp P a W K Q := by
  have hb := hS.blk hi
  have hrun := run_copy_row (P := P) W 22 22 o.type 5 b 0 n dc A sl sc l.toArray T cs hu hz hb hn hc (by simp [hl]) h1
  have e : (l.toArray.toList.take 0 ++ cs ++ l.toArray.toList.drop (0 + cs.length)) = cs := by simp [hl]
  rw [e] at hrun
  refine wp_of_run (v := goInt cs.length) (W' := W.setRow b cs.toArray) ?_ (h _ (hS.setRow0 hi cs))
  unfold execOp
  simp only [ho, resolve, invoke, builtin, Sem.run_bind, Sem.run_pure, Result.andThen_ok, List.map_toArray, List.map_cons, List.map_nil, hx, hy, hrun]
theorem run_cp0 {A : Option Addr} {n dc : Nat} (ho : o.op = .call { callee := .builtin .copy, args := #[x, y], argTypes := #[22, 22] }) (hu : P.underlying 22 = some (.slice 5)) (hz : (P.info? 5).map (·.size) = some 1) (hx : a.eval x = .slice A n dc) (hy : a.eval y = .slice none 0 0) : (execOp a.eval o).run P W = .ok (.value (goInt 0)) W := by
  have hrun := run_copy_none (P := P) W 22 22 o.type 5 A none n dc 0 0 hu hz (Nat.zero_min n)
  unfold execOp
  simp only [ho, resolve, invoke, builtin, Sem.run_bind, Sem.run_pure, Result.andThen_ok, List.map_toArray, List.map_cons, List.map_nil, hx, hy, hrun]
end
theorem load52 {w : World} (g : Nat) (cs : Array Value) (t : TypeId) (fr : Nat × Nat) (hg : w.heap[g]? = some (.cells cs t fr)) (hz : cs.size = 32) : (loadVar 52 ⟨g, 0, none⟩).run Try.prog w = .ok (.agg cs) w :=
  run_loadVar_row w g t 52 cs fr _ hg Try.underlying52 rfl (by rw [hz]; kernel_rfl)
theorem ret_c52 {w : World} {fn : Func} {p : Tmp} (h : fn.results = #[.cell p 52]) (tmps : Array Value) (g : Nat) (cs : Array Value) (t : TypeId) (fr : Nat × Nat) (hp : tmps.getD p undef = .pointer (some ⟨g, 0, none⟩)) (hg : w.heap[g]? = some (.cells cs t fr)) (hz : cs.size = 32) :
    (results fn tmps).run Try.prog w = .ok (.agg cs) w := by
  have hp' : tmps[p]?.getD undef = .pointer (some ⟨g, 0, none⟩) := by simpa using hp
  simp [results, h, hp', asAddr, load52 g cs t fr hg hz]
theorem load56 {w : World} (g : Nat) (cs : Array Value) (t : TypeId) (fr : Nat × Nat) (hg : w.heap[g]? = some (.cells cs t fr)) (hz : cs.size = 70) : (loadVar 56 ⟨g, 0, none⟩).run Try.prog w = .ok (.agg cs) w :=
  run_loadVar_row w g t 56 cs fr _ hg Try.underlying56 rfl (by rw [hz]; kernel_rfl)
theorem ret_ct56 {w : World} {fn : Func} {p u : Tmp} (h : fn.results = #[.cell p 56, .tmp u]) (tmps : Array Value) (g : Nat) (cs : Array Value) (t : TypeId) (fr : Nat × Nat) (v : Value) (hp : tmps.getD p undef = .pointer (some ⟨g, 0, none⟩)) (hv : tmps.getD u undef = v) (hg : w.heap[g]? = some (.cells cs t fr)) (hz : cs.size = 70) :
    (results fn tmps).run Try.prog w = .ok (.tuple #[.agg cs, v]) w := by
  have hp' : tmps[p]?.getD undef = .pointer (some ⟨g, 0, none⟩) := by simpa using hp
  have hv' : tmps[u]?.getD undef = v := by simpa using hv
  have hl := load56 g cs t fr hg hz
  simp [results, h, hp', hv', asAddr, hl]
theorem z52 : zeroIs Try.prog 52 (.agg (bs z32).toArray) := by show (Try.prog.info? 52).bind (·.zero) = _; kernel_rfl
/-- An eye's number. -/
def numN (k : Nat) (l : List UInt8) : Nat := if k ≤ l.length then leNum (l.take k) else 0
def numM (k : Nat) (l : List UInt8) : List UInt8 := if k ≤ l.length then l.drop k else l
theorem St.updNew {w W W' : World} {L : List Res} {Fs : List (World → Prop)} (h : St w W L Fs) {i : Nat} {r r' s : Res} (hi : L[i]? = some r) (hc : Chg r.fp W W') (hok : r'.ok W') (hfp : ∀ k ∈ r'.fp, k ∈ r.fp) (hsok : s.ok W') (hs : ∀ k ∈ s.fp, W.heap.size ≤ k ∧ k < W'.heap.size) : St w W' (s :: L.set i r') Fs := by
  have hr := h.own r (List.mem_of_getElem? hi)
  have h1 := h.upd hi hc hok (fun k hk => ⟨.inl (hfp k hk), Nat.lt_of_lt_of_le (hr.2 k (hfp k hk)).2 hc.size⟩)
  have old : ∀ x ∈ L.set i r', ∀ k ∈ x.fp, ∃ y ∈ L, k ∈ y.fp := by
    intro x hx k hk
    obtain ⟨j, hj⟩ := List.mem_iff_getElem?.1 hx
    by_cases hji : i = j
    · subst hji
      rw [List.getElem?_set_self (List.getElem?_eq_some_iff.1 hi).1] at hj
      injection hj with hj
      subst hj
      exact ⟨r, List.mem_of_getElem? hi, hfp k hk⟩
    · rw [List.getElem?_set_ne hji] at hj
      exact ⟨x, List.mem_of_getElem? hj, hk⟩
  have lt : ∀ x ∈ L.set i r', ∀ k ∈ x.fp, k < W.heap.size := fun x hx k hk => by
    obtain ⟨y, hy, hk'⟩ := old x hx k hk
    exact ((h.own y hy).2 k hk').2
  refine ⟨h1.below, ?_, ?_, ?_⟩
  · intro x hx
    rcases List.mem_cons.1 hx with rfl | hx
    · exact ⟨hsok, fun k hk => ⟨Nat.le_trans h.below.size (hs k hk).1, (hs k hk).2⟩⟩
    · exact h1.own x hx
  · intro a b x y ha hb hab k hk hk'
    cases a with
    | zero =>
      simp at ha; subst ha
      cases b with
      | zero => exact hab rfl
      | succ b =>
        have h2 := lt y (List.mem_of_getElem? (by simpa using hb)) k hk'
        have h3 := (hs k hk).1
        omega
    | succ a =>
      cases b with
      | zero =>
        simp at hb; subst hb
        have h2 := lt x (List.mem_of_getElem? (by simpa using ha)) k hk
        have h3 := (hs k hk').1
        omega
      | succ b => exact h1.apart a b x y (by simpa using ha) (by simpa using hb) (by omega) k hk hk'
  · intro F hF W'' hsm
    refine h.facts F hF W'' ⟨Nat.le_trans hc.size hsm.size, fun k o hn ho hcl => ?_⟩
    have hk := (Array.getElem?_eq_some_iff.1 ho).1
    have hkr : k ∉ r.fp := fun hm => hn ⟨r, List.mem_of_getElem? hi, hm⟩
    refine hsm.blk k o ?_ ((hc.block k hk hkr).trans ho) hcl
    rintro ⟨x, hx, hm⟩
    rcases List.mem_cons.1 hx with rfl | hx
    · have := (hs k hm).1; omega
    · obtain ⟨y, hy, hm'⟩ := old x hx k hm
      exact hn ⟨y, hy, hm'⟩
theorem St.eyeRow {w W W' : World} {L : List Res} {Fs : List (World → Prop)} (h : St w W L Fs) {i g : Nat} {u u' v : Value} {xs ys l : List UInt8} (hi : L[i]? = some (EyeR g u xs)) (hg : EyeGo W W' g u u' ys) (ho : W'.ownsRow W.heap.size 5 1 v l.length (bs l)) : St w W' (Row v 5 1 l.length (bs l) :: L.set i (EyeR g u' ys)) Fs := by
  have h1 := h.eye hi hg
  have hli := (List.getElem?_eq_some_iff.1 hi).1
  have hlt := ho.lt
  refine h.updNew hi (hg.chg.mono (fun k hk => .inl (by simp at hk; simp [EyeR, hk]))) (h1.res (List.getElem?_set_self hli)) (fun k hk => ?_) (own_base ho (fun _ _ => Nat.zero_le _)) (fun k hk => ?_)
  · simp only [EyeR, hg.same] at hk ⊢; exact hk
  · simp only [Row, Option.mem_toList] at hk
    exact hlt k hk
theorem all_bs (l : List UInt8) : ∀ v ∈ bs l, v.oneCell' = true := by
  intro v hv
  obtain ⟨x, _, rfl⟩ := List.mem_map.1 hv
  rfl
theorem row_some {W : World} {v : Value} {l : List UInt8} (h : (Row v 5 1 l.length (bs l)).ok W) (h0 : 0 < l.length) : ∃ A c, v = .slice (some A) l.length c ∧ ∀ j x, (bs l)[j]? = some x → W.cell? (A.add j) = some x := by
  have hh := HB.of_own h
  obtain ⟨p, c, rfl, _, h1, h2⟩ := hh
  cases p with
  | none => rw [h1 rfl] at h0; exact absurd h0 (by decide)
  | some A =>
    refine ⟨A, c, rfl, fun j x hx => ?_⟩
    simp only [bs, List.getElem?_map, Option.map_eq_some_iff] at hx
    obtain ⟨y, hy, rfl⟩ := hx
    exact h2 A rfl j y hy
set_option maxHeartbeats 1000000 in
set_option maxRecDepth 100000 in
theorem num51 (k q g : Nat) (u : Value) (xs : List UInt8) (w : World) (hq : w.heap[q]? = some (.cells #[.pointer (some ⟨g, 0, none⟩)] 69 (0, 0))) (he : IsEye w g u xs) (hw : wideB (k : Int) = true) :
    Calls Try.prog 51 #[.int .i64 (k : Int), .pointer (some ⟨q, 0, none⟩)] w fun e w' => ∃ u', e = .returned (.int .u64 ((numN k xs : Nat) : Int)) ∧ EyeGo w w' g u u' (numM k xs) := by
  have hc : w.cell? ⟨q, 0, none⟩ = some (.pointer (some ⟨g, 0, none⟩)) := blk_cell hq 0
  have HE := Lib.hid he
  have HW := Lib.hid hw
  clear hq he hw
  by_cases hk : k ≤ xs.length
  · have h1 : ∀ W, IsEye W g u xs → Calls Try.prog 37 #[.pointer (some ⟨g, 0, none⟩), .int .i64 (k : Int)] W fun e w' => ∃ u', e = .returned (.tuple #[.int .u64 ((numN k xs : Nat) : Int), .int .i64 0]) ∧ EyeGo W w' g u u' (numM k xs) := fun W h => by
      have := efixed_ok g (k : Int) u xs W h HW.out (by omega)
      rw [Int.toNat_natCast] at this
      unfold numN numM
      rw [if_pos hk, if_pos hk]
      exact this
    have H1 := Lib.hid h1
    clear h1
    go_enter Try.func51, Try.ntmps51
    go_wp2_with (first
      | (go_at_call 37; refine (H1.out _ HE.out).mono ?_; rintro e Wn ⟨u', rfl, hb⟩; have HB := Lib.hid hb; clear hb))
    go_ret
    exact ⟨u', rfl, HB.out⟩
  · have h0 : efixE (k : Int) xs.length = 10 := by unfold efixE; rw [HW.out]; simp; omega
    have h1 : ∀ W, IsEye W g u xs → Calls Try.prog 37 #[.pointer (some ⟨g, 0, none⟩), .int .i64 (k : Int)] W fun e w' => e = .returned (.tuple #[.int .u64 0, .int .i64 10]) ∧ W = w' := fun W h => by
      have := efixed_bad g (k : Int) u xs W h (by rw [h0]; decide)
      rwa [h0] at this
    have H1 := Lib.hid h1
    clear h1 h0
    go_enter Try.func51, Try.ntmps51
    go_wp2_with (first
      | (go_at_call 37; refine (H1.out _ HE.out).mono ?_; rintro e Wn ⟨rfl, rfl⟩))
    go_ret
    refine ⟨u, by unfold numN; rw [if_neg hk]; rfl, ?_⟩
    unfold numM
    rw [if_neg hk]
    exact EyeGo.refl HE.out
theorem St.eyeNum {w0 W : World} {L : List Res} {Fs : List (World → Prop)} (hS : St w0 W L Fs) (i : Nat) {g : Nat} {u : Value} {xs : List UInt8} (hi : L[i]? = some (EyeR g u xs)) (k : Nat) {j q : Nat} (hj : L[j]? = some (Blk q [.pointer (some ⟨g, 0, none⟩)] 69)) (hw : wideB (k : Int) = true) :
    Calls Try.prog 51 #[.int .i64 (k : Int), .pointer (some ⟨q, 0, none⟩)] W fun e w' => ∃ u', e = .returned (.int .u64 ((numN k xs : Nat) : Int)) ∧ St w0 w' (L.set i (EyeR g u' (numM k xs))) Fs := by
  refine (num51 k q g u xs W (hS.blk hj) (hS.eyeAt hi) hw).mono ?_
  rintro e w' ⟨u', rfl, hg⟩
  exact ⟨u', rfl, hS.eye hi hg⟩
theorem St.eyeRawOk {w0 W : World} {L : List Res} {Fs : List (World → Prop)} (hS : St w0 W L Fs) (i : Nat) {g : Nat} {u : Value} {xs : List UInt8} (hi : L[i]? = some (EyeR g u xs)) (k : Nat) (hk : k ≤ xs.length) (hl : xs.length ≤ 70368744177664) :
    Calls Try.prog 53 #[.pointer (some ⟨g, 0, none⟩), .int .i64 (k : Int)] W fun e w' => ∃ v u', e = .returned (.tuple #[v, .int .i64 0]) ∧ St w0 w' (Row v 5 1 (xs.take k).length (bs (xs.take k)) :: L.set i (EyeR g u' (xs.drop k))) Fs := by
  refine (eraw_ok g k u xs W (hS.eyeAt hi) hk hl).mono ?_
  rintro e w' ⟨v, u', rfl, ho, hg⟩
  have ht : (xs.take k).length = k := by simp; omega
  exact ⟨v, u', rfl, hS.eyeRow hi hg (by rw [ht]; exact ho)⟩
theorem St.eyeRawBad {w0 W : World} {L : List Res} {Fs : List (World → Prop)} (hS : St w0 W L Fs) (i : Nat) {g : Nat} {u : Value} {xs : List UInt8} (hi : L[i]? = some (EyeR g u xs)) (k : Nat) (hk : xs.length < k) (hl : xs.length ≤ 70368744177664) :
    Calls Try.prog 53 #[.pointer (some ⟨g, 0, none⟩), .int .i64 (k : Int)] W fun e w' => ∃ c, e = .returned (.tuple #[.slice none 0 0, .int .i64 c]) ∧ W = w' := by
  refine (eraw_bad g k u xs W (hS.eyeAt hi) (by omega) hl).mono ?_
  rintro e w' ⟨rfl, rfl⟩
  exact ⟨_, rfl, rfl⟩
theorem St.nilRow {w0 W : World} {L : List Res} {Fs : List (World → Prop)} (hS : St w0 W L Fs) : St w0 W (Row (.slice none 0 0) 5 1 0 (bs []) :: L) Fs :=
  hS.new (Below.refl _ _) ⟨rfl, .inl ⟨rfl, rfl⟩⟩ (fun k hk => by simp [Row, Value.ownBlock] at hk)
theorem St.eyeBytes {w0 W : World} {L : List Res} {Fs : List (World → Prop)} (hS : St w0 W L Fs) (i : Nat) {g : Nat} {u : Value} {xs : List UInt8} (hi : L[i]? = some (EyeR g u xs)) (hl : xs.length ≤ 70368744177664) :
    Calls Try.prog 54 #[.pointer (some ⟨g, 0, none⟩), .int .i64 2000] W fun e w' => ∃ v u' c ys, e = .returned (.tuple #[v, .int .i64 c]) ∧ St w0 w' (Row v 5 1 (bytV xs).length (bs (bytV xs)) :: L.set i (EyeR g u' ys)) Fs := by
  unfold bytV
  cases hb : getBytes 2000 xs with
  | some p =>
    obtain ⟨l, m⟩ := p
    refine (ebytes_ok g u xs l m 2000 W (hS.eyeAt hi) hb (by omega) hl).mono ?_
    rintro e w' ⟨v, u', rfl, ho, hg⟩
    exact ⟨v, u', 0, _, rfl, hS.eyeRow hi hg ho⟩
  | none =>
    refine (ebytes_bad g u xs 2000 W (hS.eyeAt hi) hb (by omega) hl).mono ?_
    rintro e w' ⟨rfl, hbl⟩
    have h2 := (hS.call hbl).nilRow
    have e1 : L.set i (EyeR g u xs) = L := by
      apply List.ext_getElem?
      intro j
      by_cases hj : i = j
      · subst hj; rw [List.getElem?_set_self (List.getElem?_eq_some_iff.1 hi).1, hi]
      · rw [List.getElem?_set_ne hj]
    exact ⟨_, u, 10, xs, rfl, by rw [e1]; exact h2⟩
set_option maxHeartbeats 1000000 in
set_option maxRecDepth 100000 in
theorem St.hash52 {w0 W : World} {L : List Res} {Fs : List (World → Prop)} (hS : St w0 W L Fs) (i : Nat) {g : Nat} {u : Value} {xs : List UInt8} (hi : L[i]? = some (EyeR g u xs)) {j q : Nat} (hj : L[j]? = some (Blk q [.pointer (some ⟨g, 0, none⟩)] 69)) (hl : xs.length ≤ 70368744177664) :
    Calls Try.prog 52 #[.pointer (some ⟨q, 0, none⟩)] W fun e w' => ∃ u', e = .returned (.agg (bs (hshV xs)).toArray) ∧ St w0 w' (L.set i (EyeR g u' (hshL xs))) Fs := by
  have HS := Lib.hid hS
  have HI := Lib.hid hi; have HJ := Lib.hid hj; have HL := Lib.hid hl
  clear hS hi hj hl
  unfold hshV hshL
  by_cases hk : 32 ≤ xs.length
  · have HK := Lib.hid hk
    rw [if_pos hk, if_pos hk]
    have ht : (xs.take 32).length = 32 := by simp; omega
    have HT := Lib.hid ht
    clear hk ht
    go_enter Try.func52, Try.ntmps52
    go_wp2_with (first
      | (refine atd 1 (by rfl) ?_; refine wl (by rfl) (s_al (l := bs z32) HS.out (by rfl) z52 (by rfl) ?_); intro b1 Wn hS; clear HS; have HS := Lib.hid hS; clear hS)
      | (refine atd 5 (by rfl) ?_; refine wl (by rfl) (s_ld HS.out (j + 1) (by rfl) (by rfl) (by exact HJ.out) (by kernel_rfl) (by rfl) ?_))
      | (go_at_call 53; refine (HS.out.eyeRawOk (i + 1) (by exact HI.out) 32 HK.out HL.out).mono ?_; rintro e Wn ⟨v, u', rfl, hS⟩; clear HS; have HS := Lib.hid hS; clear hS; obtain ⟨A, c, rfl, hA⟩ := row_some (HS.out.res (i := 0) rfl) (by rw [HT.out]; decide))
      | (refine atd 9 (by rfl) ?_; refine wl (by rfl) (wp_of_run (run_sla (by rfl) (by rfl)) ?_))
      | (refine atd 11 (by rfl) ?_; go_loud (refine wl (by rfl) (s_cp (cs := bs (xs.take 32)) HS.out 1 (by rfl) Try.underlying22 info5s (by rfl) (by rfl) (by rfl) (by have h1 := HK.out; rw [bs_length, HT.out]; show 32 = min (min 32 xs.length) 32; omega) (by rw [bs_length, bs_length, HT.out]; rfl) (by exact hA) (by exact all_bs _) ?_)); intro Wn hS; clear HS; have HS := Lib.hid hS; clear hS)
      | (refine atd 12 (by rfl) ?_; refine wl (by rfl) (s_lda (cs := bs (xs.take 32)) HS.out 1 32 (by rfl) (by rfl) (by rfl) ag52 (by rw [List.drop_zero]; exact List.take_of_length_le (Nat.le_of_eq (by rw [bs_length]; exact HT.out))) (by rw [bs_length]; exact HT.out) ?_))
      | (refine wl (by rfl) (s_sta (cs := bs (xs.take 32)) HS.out 1 32 (by rfl) (by rfl) (by rfl) ag52 (by rfl) (by rw [bs_length]; exact HT.out) (by exact all_bs _) (by rw [bs_length, HT.out]; exact Nat.le_refl _) ?_); intro Wn hS; rw [splice_all rfl] at hS; clear HS; have HS := Lib.hid hS; clear hS))
    exact bodyPost_ret (ret_c52 (p := 1) rfl _ b1 _ 52 (0, 0) (by rfl) (HS.out.blk (i := 1) rfl) (by rw [List.size_toArray, bs_length]; exact HT.out)) rfl ⟨_, rfl, ((HS.out.sub 0).sub 0)⟩
  · rw [if_neg hk, if_neg hk]
    have HK := Lib.hid (show xs.length < 32 by omega)
    clear hk
    have hz : z32.length = 32 := rfl
    have HT := Lib.hid hz
    clear hz
    go_enter Try.func52, Try.ntmps52
    go_wp2_with (first
      | (refine atd 1 (by rfl) ?_; refine wl (by rfl) (s_al (l := bs z32) HS.out (by rfl) z52 (by rfl) ?_); intro b1 Wn hS; clear HS; have HS := Lib.hid hS; clear hS)
      | (refine atd 5 (by rfl) ?_; refine wl (by rfl) (s_ld HS.out (j + 1) (by rfl) (by rfl) (by exact HJ.out) (by kernel_rfl) (by rfl) ?_))
      | (go_at_call 53; refine (HS.out.eyeRawBad (i + 1) (by exact HI.out) 32 HK.out HL.out).mono ?_; rintro e Wn ⟨c, rfl, rfl⟩)
      | (refine atd 9 (by rfl) ?_; refine wl (by rfl) (wp_of_run (run_sla (by rfl) (by rfl)) ?_))
      | (refine atd 11 (by rfl) ?_; refine wl (by rfl) (wp_of_run (run_cp0 (by rfl) Try.underlying22 info5s (by rfl) (by rfl)) ?_))
      | (refine atd 12 (by rfl) ?_; refine wl (by rfl) (s_lda (cs := bs z32) HS.out 0 32 (by rfl) (by rfl) (by rfl) ag52 (by rw [List.drop_zero]; exact List.take_of_length_le (Nat.le_of_eq (by rw [bs_length]; exact HT.out))) (by rw [bs_length]; exact HT.out) ?_))
      | (refine wl (by rfl) (s_sta (cs := bs z32) HS.out 0 32 (by rfl) (by rfl) (by rfl) ag52 (by rfl) (by rw [bs_length]; exact HT.out) (by exact all_bs _) (by rw [bs_length, HT.out]; exact Nat.le_refl _) ?_); intro Wn hS; rw [splice_all rfl] at hS; clear HS; have HS := Lib.hid hS; clear hS))
    have e1 : L.set i (EyeR g u xs) = L := by
      apply List.ext_getElem?
      intro j
      by_cases hj : i = j
      · subst hj; rw [List.getElem?_set_self (List.getElem?_eq_some_iff.1 HI.out).1, HI.out]
      · rw [List.getElem?_set_ne hj]
    exact bodyPost_ret (ret_c52 (p := 1) rfl _ b1 _ 52 (0, 0) (by rfl) (HS.out.blk (i := 0) rfl) rfl) rfl ⟨u, rfl, by rw [e1]; exact HS.out.sub 0⟩
end
section
open Go Go.RowKit Go.Proofs
attribute [local irreducible] Calls

theorem z56 : zeroIs Try.prog 56 (.agg (rcs (zq 0) (.slice none 0 0) (.slice none 0 0)).toArray) := by show (Try.prog.info? 56).bind (·.zero) = _; kernel_rfl
theorem z69 : zeroIs Try.prog 69 (.pointer none) := by show (Try.prog.info? 69).bind (·.zero) = _; kernel_rfl
theorem build56 (k : Int) (W : World) : (Instr.build 56 #[(0, .int .i64 k)]).run Try.prog W = .ok (.agg (rcs (zq k) (.slice none 0 0) (.slice none 0 0)).toArray) W := by kernel_rfl
theorem build56z (W : World) : (Instr.build 56 #[]).run Try.prog W = .ok (.agg (rcs (zq 0) (.slice none 0 0) (.slice none 0 0)).toArray) W := by kernel_rfl
theorem build56k (W : World) : (Instr.build 56 #[(0, .int .i64 5), (2, .int .u32 258), (3, .int .u32 3)]).run Try.prog W = .ok (.agg (rcs ⟨5, z32, 0, 258, 3, [], z32, []⟩ (.slice none 0 0) (.slice none 0 0)).toArray) W := by kernel_rfl
theorem run_b56 {W : World} {ev : Operand → Value} {o : Oper} {x : Operand} {k : Int} (ho : o.op = .build 56 #[(0, x)]) (hx : ev x = .int .i64 k) : (execOp ev o).run Try.prog W = .ok (.value (.agg (rcs (zq k) (.slice none 0 0) (.slice none 0 0)).toArray)) W := by
  unfold execOp
  simp only [ho, List.map_toArray, List.map_cons, List.map_nil, hx, Sem.run_bind, build56 k W, Result.andThen_ok, Sem.run_pure]
theorem run_b56z {W : World} {ev : Operand → Value} {o : Oper} (ho : o.op = .build 56 #[]) : (execOp ev o).run Try.prog W = .ok (.value (.agg (rcs (zq 0) (.slice none 0 0) (.slice none 0 0)).toArray)) W := by
  unfold execOp
  simp only [ho, List.map_toArray, List.map_nil, Sem.run_bind, build56z W, Result.andThen_ok, Sem.run_pure]
section
variable (k : Int) (tx : List UInt8) (n h m : Nat) (sb ha bb : List UInt8) (s b : Value)
theorem rcs_splTx (x : List UInt8) (hx : x.length = 32) (ht : tx.length = 32) : splice (rcs ⟨k, tx, n, h, m, sb, ha, bb⟩ s b) 1 (bs x) = rcs ⟨k, x, n, h, m, sb, ha, bb⟩ s b := by
  unfold splice rcs
  have e : 1 + (bs x).length = (bs tx).length + 1 := by simp [hx, ht]
  rw [e, List.drop_succ_cons, List.drop_left]
  rfl
theorem rcs_tail (i : Nat) (v : Value) (hx : tx.length = 32) : (rcs ⟨k, tx, n, h, m, sb, ha, bb⟩ s b).set (33 + i) v = .int .i64 k :: (bs tx ++ (.int .u32 (n : Int) :: .int .u32 (h : Int) :: .int .u32 (m : Int) :: s :: (bs ha ++ [b])).set i v) := by
  unfold rcs
  dsimp only
  rw [show 33 + i = ((bs tx).length + i) + 1 by simp [hx]; omega, List.set_cons_succ, List.set_append_right _ _ (by omega), Nat.add_sub_cancel_left]
theorem rcs_setN (x : Nat) (hx : tx.length = 32) : (rcs ⟨k, tx, n, h, m, sb, ha, bb⟩ s b).set 33 (.int .u32 (x : Int)) = rcs ⟨k, tx, x, h, m, sb, ha, bb⟩ s b := rcs_tail k tx n h m sb ha bb s b 0 _ hx
theorem rcs_setH (x : Nat) (hx : tx.length = 32) : (rcs ⟨k, tx, n, h, m, sb, ha, bb⟩ s b).set 34 (.int .u32 (x : Int)) = rcs ⟨k, tx, n, x, m, sb, ha, bb⟩ s b := rcs_tail k tx n h m sb ha bb s b 1 _ hx
theorem rcs_setM (x : Nat) (hx : tx.length = 32) : (rcs ⟨k, tx, n, h, m, sb, ha, bb⟩ s b).set 35 (.int .u32 (x : Int)) = rcs ⟨k, tx, n, h, x, sb, ha, bb⟩ s b := rcs_tail k tx n h m sb ha bb s b 2 _ hx
theorem rcs_setS (x : Value) (sb' : List UInt8) (hx : tx.length = 32) : (rcs ⟨k, tx, n, h, m, sb, ha, bb⟩ s b).set 36 x = rcs ⟨k, tx, n, h, m, sb', ha, bb⟩ x b := rcs_tail k tx n h m sb ha bb s b 3 _ hx
theorem rcs_setB (x : Value) (bb' : List UInt8) (hx : tx.length = 32) (hh : ha.length = 32) : (rcs ⟨k, tx, n, h, m, sb, ha, bb⟩ s b).set 69 x = rcs ⟨k, tx, n, h, m, sb, ha, bb'⟩ s x := by
  rw [show 69 = 33 + 36 from rfl, rcs_tail k tx n h m sb ha bb s b 36 x hx, show 36 = ((bs ha).length + 0) + 1 + 1 + 1 + 1 by simp [hh], List.set_cons_succ, List.set_cons_succ, List.set_cons_succ, List.set_cons_succ, List.set_append_right _ _ (by omega)]
  simp [rcs]
theorem rcs_splHa (x : List UInt8) (hx : x.length = 32) (ht : tx.length = 32) (hh : ha.length = 32) : splice (rcs ⟨k, tx, n, h, m, sb, ha, bb⟩ s b) 37 (bs x) = rcs ⟨k, tx, n, h, m, sb, x, bb⟩ s b := by
  have e : rcs ⟨k, tx, n, h, m, sb, ha, bb⟩ s b = (.int .i64 k :: (bs tx ++ (.int .u32 (n : Int) :: .int .u32 (h : Int) :: .int .u32 (m : Int) :: [s]))) ++ (bs ha ++ [b]) := by simp [rcs]
  have hl : (Value.int .i64 k :: (bs tx ++ (.int .u32 (n : Int) :: .int .u32 (h : Int) :: .int .u32 (m : Int) :: [s]))).length = 37 := by simp [ht]
  unfold splice
  rw [e, List.take_left' hl, show 37 + (bs x).length = 37 + (bs ha).length by simp [hx, hh], ← List.drop_drop, List.drop_left' hl, List.drop_left]
  simp [rcs]
end
theorem cells_rq (r : Req) {s b : Value} (hs : s.oneCell' = true) (hb : b.oneCell' = true) : ∀ v ∈ rcs r s b, v.oneCell' = true := by
  intro v hv
  simp only [rcs, List.mem_cons, List.mem_append, List.not_mem_nil, or_false] at hv
  rcases hv with rfl | hv | rfl | rfl | rfl | rfl | hv | rfl
  all_goals first | rfl | exact all_bs _ v hv | assumption
theorem numV_eq (l : List UInt8) : numN 4 l = numV l := rfl
theorem St.eyeNum4 {w0 W : World} {L : List Res} {Fs : List (World → Prop)} (hS : St w0 W L Fs) (i : Nat) {g : Nat} {u : Value} {xs : List UInt8} (hi : L[i]? = some (EyeR g u xs)) {j q : Nat} (hj : L[j]? = some (Blk q [.pointer (some ⟨g, 0, none⟩)] 69)) :
    Calls Try.prog 51 #[.int .i64 4, .pointer (some ⟨q, 0, none⟩)] W fun e w' => ∃ u', e = .returned (.int .u64 ((numV xs : Nat) : Int)) ∧ St w0 w' (L.set i (EyeR g u' (numL xs))) Fs := hS.eyeNum i hi 4 hj (by decide)
theorem St.eyeNum1 {w0 W : World} {L : List Res} {Fs : List (World → Prop)} (hS : St w0 W L Fs) (i : Nat) {g : Nat} {u : Value} {xs ys : List UInt8} {n : Nat} (hi : L[i]? = some (EyeR g u xs)) (hn : numN 1 xs = n) (hm : numM 1 xs = ys) {j q : Nat} (hj : L[j]? = some (Blk q [.pointer (some ⟨g, 0, none⟩)] 69)) :
    Calls Try.prog 51 #[.int .i64 1, .pointer (some ⟨q, 0, none⟩)] W fun e w' => ∃ u', e = .returned (.int .u64 (n : Int)) ∧ St w0 w' (L.set i (EyeR g u' ys)) Fs := by
  subst hn hm
  exact hS.eyeNum i hi 1 hj (by decide)
theorem numN1 (kb : UInt8) (l : List UInt8) : numN 1 (kb :: l) = kb.toNat ∧ numM 1 (kb :: l) = l := by
  unfold numN numM
  rw [if_pos (by simp), if_pos (by simp)]
  simp [leNum]
/-- What a reading answers. -/
def DecP (b : List UInt8) (r : Req) (e : Int) : Prop := r.ok ∧ ((e = 0 ∧ chkQ r = true ∧ encQ r = b) ∨ (e = 290 ∧ r = zq 0 ∧ ∀ r' : Req, r'.ok → chkQ r' = true → encQ r' ≠ b))
theorem encQ_inj {r : Req} {kb : UInt8} {l : List UInt8} (hr : r.ok) (hc : chkQ r = true) (h : encQ r = kb :: l) : r = rdF (fldK (kb.toNat : Int)) (kb.toNat : Int) l := by
  have h0 := (chkQ_iff.1 hc).1
  have hk := fldK_cases r.k
  have hk2 : 0 ≤ r.k ∧ r.k ≤ 11 := by omega
  unfold encQ at h
  injection h with h1 h2
  have e : (kb.toNat : Int) = r.k := by
    rw [← h1]
    simp
    omega
  rw [e, ← h2]
  exact (rdF_enc hr hc).symm
theorem DecP.no {kb : UInt8} {l : List UInt8} (h : ∀ r, r = rdF (fldK (kb.toNat : Int)) (kb.toNat : Int) l → chkQ r = true → encQ r ≠ kb :: l) : DecP (kb :: l) (zq 0) 290 :=
  ⟨zq_ok 0, .inr ⟨rfl, rfl, fun r' hr hc he => h r' (encQ_inj hr hc he) hc he⟩⟩
theorem DecP.nil : DecP [] (zq 0) 290 := ⟨zq_ok 0, .inr ⟨rfl, rfl, fun r' _ _ he => by unfold encQ at he; cases he⟩⟩
theorem DecP.uniq {b : List UInt8} {r r' : Req} {e e' : Int} (h : DecP b r e) (h' : DecP b r' e') : r = r' ∧ e = e' := by
  obtain ⟨o, ⟨rfl, c, q⟩ | ⟨rfl, rfl, n⟩⟩ := h
  · obtain ⟨o', ⟨rfl, c', q'⟩ | ⟨rfl, rfl, n'⟩⟩ := h'
    · cases b with
      | nil => unfold encQ at q; cases q
      | cons kb l => exact ⟨(encQ_inj o c q).trans (encQ_inj o' c' q').symm, rfl⟩
    · exact absurd q (n' r o c)
  · obtain ⟨o', ⟨rfl, c', q'⟩ | ⟨rfl, rfl, n'⟩⟩ := h'
    · exact absurd q' (n r' o' c')
    · exact ⟨rfl, rfl⟩
theorem equal47b (u v : Value) (xs ys : List UInt8) (w : World) (hu : HB w u xs) (hv : HB w v ys) {d : Bool} (hd : decide (xs = ys) = d) :
    Calls Try.prog 47 #[u, v] w fun e w' => e = .returned (.bool d) ∧ w = w' := by
  subst hd
  exact equal47 u v xs ys w hu hv
set_option maxHeartbeats 1000000 in
set_option maxRecDepth 100000 in
theorem enc27z (r : Req) (As Ab : Option Addr) (cs' cb' : Nat) (w : World) (hr : r.ok) (hs : HB w (.slice As r.sb.length cs') r.sb) (hb : HB w (.slice Ab r.bb.length cb') r.bb) (hc : chkI r = 290) :
    Calls Try.prog 27 #[.agg (rcs r (.slice As r.sb.length cs') (.slice Ab r.bb.length cb')).toArray] w fun e w' => ∃ v', e = .returned (.tuple #[v', .int .i64 290]) ∧ New w w' (Row v' 5 1 0 (bs [])) := by
  have HS := Lib.hid (((St.start w).addF hb.away0).addF hs.away0)
  have HR := Lib.hid hr; have HC := Lib.hid hc
  clear hb hs hr hc
  go_enter Try.func27, Try.ntmps27
  go_wp2_with (first
    | (refine atd 1 (by rfl) ?_; refine wl (by rfl) (s_bx (l := rcs r (.slice As r.sb.length cs') (.slice Ab r.bb.length cb')) HS.out (by rfl) (by rfl) ?_); intro b1 Wn hS; clear HS; have HS := Lib.hid hS; clear hS)
    | (refine atd 7 (by rfl) ?_; refine wl (by rfl) (s_lda (cs := rcs r (.slice As r.sb.length cs') (.slice Ab r.bb.length cb')) HS.out 0 70 (by rfl) (by rfl) (by rfl) ag56 (by exact rcs_all HR.out (.slice As r.sb.length cs') (.slice Ab r.bb.length cb')) (by exact rcs_length HR.out (.slice As r.sb.length cs') (.slice Ab r.bb.length cb')) ?_))
    | (go_at_call 32; refine (check32 r _ _ _ HR.out (HS.out.fact (i := 0) rfl) (HS.out.fact (i := 1) rfl)).mono ?_; rintro e Wn ⟨rfl, hb⟩; rw [HC.out]; have hS := HS.out.call hb; clear hb; clear HS; have HS := Lib.hid hS; clear hS))
  go_ret2
  exact ⟨_, rfl, HS.out.nilRow.give 0 rfl⟩
theorem enc27 (r : Req) (s b : Value) (w : World) (hr : r.ok) (hs : HB w s r.sb) (hb : HB w b r.bb) :
    Calls Try.prog 27 #[.agg (rcs r s b).toArray] w fun e w' => ∃ v', e = .returned (.tuple #[v', .int .i64 (chkI r)]) ∧ New w w' (Row v' 5 1 (encOQ r).length (bs (encOQ r))) := by
  obtain ⟨As, cs', rfl, _⟩ := hs.shape
  obtain ⟨Ab, cb', rfl, _⟩ := hb.shape
  unfold encOQ
  cases hc : chkQ r with
  | false =>
    have h1 : chkI r = 290 := by unfold chkI; rw [hc]; rfl
    rw [h1]
    exact enc27z r As Ab cs' cb' w hr hs hb h1
  | true =>
    have h1 : chkI r = 0 := by unfold chkI; rw [hc]; rfl
    rw [h1, if_pos rfl]
    obtain ⟨h0, ho, hl1, hl2⟩ := chkQ_iff.1 hc
    have hk := fldK_cases r.k
    have hkb : r.k = ((UInt8.ofNat r.k.toNat).toNat : Int) := by simp; omega
    have hbb : fldK r.k ≠ 32 → r.bb = [] := fun hne => by
      have := congrArg Req.bb ho
      simp only [onlyF, if_neg hne] at this
      exact this.symm
    rcases hk with ⟨hf, _⟩ | ⟨hf, _⟩ | ⟨hf, _⟩ | ⟨hf, _⟩ | ⟨hf, _⟩ | ⟨hf, _⟩ | ⟨hf, _⟩ | ⟨hf, _⟩
    · exact enc27a r As Ab cs' cb' w hr hs hb hf h1 _ hkb trivial ⟨hl1, hl2⟩
    · exact enc27b r As Ab cs' cb' w hr hs hb hf h1 _ hkb (hbb (by rw [hf]; decide)) ⟨hl1, hl2⟩
    · exact enc27c r As Ab cs' cb' w hr hs hb hf h1 _ hkb (hbb (by rw [hf]; decide)) ⟨hl1, hl2⟩
    · exact enc27d r As Ab cs' cb' w hr hs hb hf h1 _ hkb (hbb (by rw [hf]; decide)) ⟨hl1, hl2⟩
    · exact enc27e r As Ab cs' cb' w hr hs hb hf h1 _ hkb (hbb (by rw [hf]; decide)) ⟨hl1, hl2⟩
    · exact enc27f r As Ab cs' cb' w hr hs hb hf h1 _ hkb (hbb (by rw [hf]; decide)) ⟨hl1, hl2⟩
    · exact enc27g r As Ab cs' cb' w hr hs hb hf h1 _ hkb (hbb (by rw [hf]; decide)) ⟨hl1, hl2⟩
    · exact absurd (by rw [hf]; decide) h0
end
end Go.Proofs.Ytlpklbpaknemaaa
