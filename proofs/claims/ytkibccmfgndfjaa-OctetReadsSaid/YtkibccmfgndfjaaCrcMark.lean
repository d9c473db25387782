/- Contracts and words that the laws stand on (CrcMark). -/
import Derived.Test.YtkibccmfgndfjaaCrcSumsWalk
import Derived.Test.YtkibccmfgndfjaaShort
import Derived.Test.YtkibccmfgndfjaaRef2
set_option linter.unusedVariables false
set_option linter.unusedSimpArgs false
namespace Go.Proofs.Ytkibccmfgndfjaa
section
open Go.RowKit Go.Proofs
theorem fixed4 (n : Nat) (h : n < 4294967296) : fixedB 4 n = le 4 n := by
  have h1 : fixedE 4 n = 0 := by
    unfold fixedE
    rw [if_neg (by decide), if_neg]
    simp [goesB]; omega
  rw [fixedB, if_pos h1]; rfl
theorem fixedE4 (n : Nat) (h : n < 4294967296) : fixedE 4 n = 0 := by
  unfold fixedE
  rw [if_neg (by decide), if_neg]
  simp [goesB]; omega
/-- Bytes with their sum behind them. -/
def markB (xs : List UInt8) : List UInt8 := xs ++ le 4 (crcOn 0 xs)
set_option maxHeartbeats 1000000 in
set_option maxRecDepth 100000 in
theorem mark_any (b : Value) (xs : List UInt8) (w : World) (hb : HB w b xs) (hl : xs.length ≤ 1000000) :
    Calls Try.prog 42 #[b] w fun e w' => ∃ v', e = .returned v' ∧ w'.ownsRow w.heap.size 5 1 v' (markB xs).length (bs (markB xs)) ∧ Below w.heap.size w w' := by
  have Hb := Lib.hid hb
  obtain ⟨A, c, rfl, hlc⟩ := hb.shape
  clear hb
  have P0 := PenIn.new w
  have b0 : Below w.heap.size w (w.alloc (.cells #[.slice none 0 0] 39)) := (Below.refl _ _).alloc (Nat.le_refl _) _
  obtain ⟨w0, hw0⟩ : ∃ w0, w0 = w.alloc (.cells #[.slice none 0 0] 39) := ⟨_, rfl⟩
  have hsz : w0.heap.size = w.heap.size + 1 := by rw [hw0]; simp
  rw [← hw0] at P0 b0
  have Hb0 := Lib.hid (Hb.out.below b0)
  have HB0 := Lib.hid P0; clear P0 b0
  have hcr := crcOn_lt 0 xs
  have HCR := Lib.hid hcr; clear hcr
  have hf4 := fixed4 _ HCR.out
  have hE4 := fixedE4 _ HCR.out
  have HF4 := Lib.hid hf4; have HE4 := Lib.hid hE4
  have wc : IntKind.u64.wrap ((crcOn 0 xs : Nat) : Int) = ((crcOn 0 xs : Nat) : Int) := by rw [IntKind.wrap_u64]; have := HCR.out; omega
  have hmk : markB xs = xs ++ le 4 (crcOn 0 xs) := rfl
  generalize hq : crcOn 0 xs = q at *
  have HCQ := Lib.hid hq; clear hq
  have HMK := Lib.hid hmk; clear hf4 hE4 hmk
  go_enter Try.func42, Try.ntmps42
  go_wp2_with fail
  rw [← hw0]
  clear hw0
  have hal : Below w0.heap.size w0 (w0.alloc (.cells #[.slice A xs.length c] 29)) := (Below.refl _ _).alloc (Nat.le_refl _) _
  have hpo := Parts.one Hb0.out 29
  rw [hsz] at hpo
  refine (raw_any _ _ _ [xs] [] _ (HB0.out.pen.below hal) hpo (by simp; omega) (by simp)).mono ?_
  rintro e w1 ⟨rfl, v1, g1⟩
  simp only [List.nil_append, List.flatten_cons, List.flatten_nil, List.append_nil] at g1
  have H1 := Lib.hid ((HB0.out.chg hal HB0.out.below.size).go g1 (Nat.le_trans HB0.out.below.size hal.size))
  have Hb1 := Lib.hid (Hb.out.below H1.out.below)
  clear g1 hal hpo
  go_wp2_with fail
  refine (sum_new _ xs _ Hb1.out hl).mono ?_
  rw [HCQ.out]
  rintro e w2 ⟨rfl, hb2⟩
  have H2 := Lib.hid (H1.out.chg hb2 H1.out.below.size)
  clear hb2
  go_wp2_with fail
  refine (fixedI _ _ _ _ _ _ H2.out.pen ⟨by omega, by have := HCR.out; omega⟩ (by omega)).mono ?_
  rw [Int.toNat_natCast, HE4.out, HF4.out, ← HMK.out]
  rintro e w3 ⟨rfl, v3, g3⟩
  have H3 := Lib.hid (H2.out.go g3 H2.out.below.size)
  clear g3
  go_wp2_with fail
  have hml : (markB xs).length = xs.length + 4 := by rw [HMK.out, List.length_append, le_length]
  refine (pall_any _ _ _ _ H3.out.pen (by omega)).mono ?_
  rintro e w4 ⟨v4, rfl, hown, hb4⟩
  have hown' := own_base hown (b := w.heap.size) (fun k hk => Nat.le_trans H3.out.below.size (hown.lt k hk).1)
  have HB4 := Lib.hid (H3.out.below.trans (hb4.mono H3.out.below.size))
  clear hown hb4
  go_wp2_with fail
  go_ret
  exact ⟨_, rfl, hown', HB4.out⟩
end
section
open Go.RowKit Go.Proofs
/-- What is read where the last four bytes are the sum of the others. -/
def bareR (xs : List UInt8) : Option (List UInt8) :=
  if xs.length < 4 then none else if leNum (xs.drop (xs.length - 4)) = crcOn 0 (xs.take (xs.length - 4)) then some (xs.take (xs.length - 4)) else none
theorem leNum_32 (l : List UInt8) (h : l.length = 4) : leNum l < 4294967296 := by
  have h1 := leNum_lt l
  rw [h] at h1
  have h3 : (256 : Nat) ^ 4 = 4294967296 := by decide
  omega
set_option maxHeartbeats 1000000 in
set_option maxRecDepth 100000 in
theorem bare_short (b : Value) (xs : List UInt8) (w : World) (hb : HB w b xs) (hl : xs.length ≤ 1000000) (hs : xs.length < 4) :
    Calls Try.prog 43 #[b] w fun e w' => e = .returned (.tuple #[.slice none 0 0, .int .i64 20]) ∧ Below w.heap.size w w' := by
  have Hb := Lib.hid hb
  obtain ⟨A, c, rfl, hlc⟩ := hb.shape
  clear hb
  have hE : efixE 4 xs.length = 10 := by unfold efixE; rw [if_neg (by decide), if_pos (by omega)]
  have HE := Lib.hid hE; clear hE
  go_enter Try.func43, Try.ntmps43
  go_wp2_with fail
  refine (look_any _ xs w Hb.out (by omega)).mono ?_
  rintro e w1 ⟨g, u, rfl, hg, he, hu, hb1⟩
  have HE1 := Lib.hid he; have HB1 := Lib.hid hb1; have HG := Lib.hid hg; clear he hu hb1 hg
  go_wp2_with fail
  rw [show max (0 : Int) ((xs.length : Int) - 4) = ((0 : Nat) : Int) from by omega]
  refine (eraw_ok g 0 u xs w1 HE1.out (by omega) (by omega)).mono ?_
  rintro e w2 ⟨v', u', rfl, hown, go2⟩
  have HB2 := Lib.hid (HB1.out.trans (go2.chg.below (B := w.heap.size) (by intro k hk; simp at hk; have := HG.out; omega) HB1.out.size))
  obtain ⟨A2, c2, rfl⟩ := own_slice hown
  have he2 := go2.eye
  rw [List.drop_zero] at he2
  have HE2 := Lib.hid he2
  clear hown go2 he2
  go_wp2_with fail
  refine (efixed_bad g 4 u' xs w2 HE2.out (by rw [HE.out]; decide)).mono ?_
  rw [HE.out]
  rintro e w3 ⟨rfl, rfl⟩
  go_wp2_with fail
  go_ret2
  exact ⟨rfl, HB2.out⟩
set_option maxHeartbeats 1000000 in
set_option maxRecDepth 100000 in
theorem bare_ok (b : Value) (xs : List UInt8) (n : Nat) (w : World) (hb : HB w b xs) (hl : xs.length ≤ 1000000) (hs : xs.length = n + 4) (heq : leNum (xs.drop n) = crcOn 0 (xs.take n)) :
    Calls Try.prog 43 #[b] w fun e w' => ∃ v', e = .returned (.tuple #[v', .int .i64 0]) ∧ w'.ownsRow w.heap.size 5 1 v' n (bs (xs.take n)) ∧ Below w.heap.size w w' := by
  have Hb := Lib.hid hb
  obtain ⟨A, c, rfl, hlc⟩ := hb.shape
  clear hb
  have HEQ := Lib.hid heq
  clear heq
  have hd4 : (xs.drop n).length = 4 := by simp; omega
  have htk : (xs.drop n).take (Int.toNat 4) = xs.drop n := List.take_of_length_le (by rw [hd4]; decide)
  have hle := leNum_32 _ hd4
  have hle64 : leNum (xs.drop n) < 18446744073709551616 := by omega
  have w4 : IntKind.u32.wrap ((leNum (xs.drop n) : Nat) : Int) = ((leNum (xs.drop n) : Nat) : Int) := by rw [IntKind.wrap_u32]; omega
  have HTK := Lib.hid htk
  have HS := Lib.hid hs
  clear hs
  have HD4 := Lib.hid hd4
  go_enter Try.func43, Try.ntmps43
  go_wp2_with fail
  refine (look_any _ xs w Hb.out (by omega)).mono ?_
  rintro e w1 ⟨g, u, rfl, hg, he, hu, hb1⟩
  have HE1 := Lib.hid he; have HB1 := Lib.hid hb1; have HG := Lib.hid hg; clear he hu hb1 hg htk hd4 hle hle64
  go_wp2_with fail
  rw [show max (0 : Int) ((xs.length : Int) - 4) = (n : Int) from by have := HS.out; omega]
  refine (eraw_ok g n u xs w1 HE1.out (by have := HS.out; omega) (by omega)).mono ?_
  rintro e w2 ⟨v', u', rfl, hown, go2⟩
  have HB2 := Lib.hid (HB1.out.trans (go2.chg.below (B := w.heap.size) (by intro k hk; simp at hk; have := HG.out; omega) HB1.out.size))
  have hx2 : HB w2 v' (xs.take n) := HB.of_own (base := w1.heap.size) (e := 5) (by have h : (xs.take n).length = n := (by have := HS.out; simp; omega); rw [h]; exact hown)
  have hown' := own_base hown (b := w.heap.size) (fun k hk => Nat.le_trans HB1.out.size (hown.lt k hk).1)
  have HOW := Lib.hid hown'
  obtain ⟨A2, c2, rfl⟩ := own_slice hown
  have hvl : ∀ k, (Value.slice A2 n c2).ownBlock = some k → k < w2.heap.size := fun k hk => (hown.lt k hk).2
  have hne : (Value.slice A2 n c2).ownBlock ≠ some g := by
    intro hk
    have h1 := (hown.lt g hk).1
    have h2 := blk_lt HE1.out.blk
    omega
  have HVL := Lib.hid hvl; have HNE := Lib.hid hne
  have HE2 := Lib.hid go2.eye; have HX2 := Lib.hid hx2
  clear hown go2 hown' hx2 hvl hne
  go_wp2_with fail
  refine (efixed_ok g 4 u' (xs.drop n) w2 HE2.out (by decide) (by rw [HD4.out]; decide)).mono ?_
  rw [HTK.out]
  rintro e w3 ⟨u3, rfl, go3⟩
  have HB3 := Lib.hid (HB2.out.trans (go3.chg.below (B := w.heap.size) (by intro k hk; simp at hk; have := HG.out; omega) HB2.out.size))
  have hx3 := HX2.out.chg go3.chg (by intro k hk; simp; intro e; subst e; exact HNE.out hk)
  have ho3 := own_chg HOW.out go3.chg (by intro k hk; simp; intro e; subst e; exact HNE.out hk)
  have HX3 := Lib.hid hx3; have HO3 := Lib.hid ho3
  clear go3 hx3 ho3
  go_wp2_with fail
  refine (sum_new _ (xs.take n) w3 HX3.out (by simp; omega)).mono ?_
  rintro e w4 ⟨rfl, hb4⟩
  have HB4 := Lib.hid (HB3.out.trans (hb4.mono HB3.out.size))
  have HO4 := Lib.hid (own_chg HO3.out (Chg.of_below hb4) (by simp))
  clear hb4
  have heq := HEQ.out
  rw [heq]
  clear heq
  generalize crcOn 0 (xs.take n) = q' at *
  go_wp2_with fail
  go_ret2
  exact ⟨_, rfl, HO4.out, HB4.out⟩
set_option maxHeartbeats 1000000 in
set_option maxRecDepth 100000 in
theorem bare_no (b : Value) (xs : List UInt8) (n : Nat) (w : World) (hb : HB w b xs) (hl : xs.length ≤ 1000000) (hs : xs.length = n + 4) (heq : leNum (xs.drop n) ≠ crcOn 0 (xs.take n)) :
    Calls Try.prog 43 #[b] w fun e w' => e = .returned (.tuple #[.slice none 0 0, .int .i64 20]) ∧ Below w.heap.size w w' := by
  have Hb := Lib.hid hb
  obtain ⟨A, c, rfl, hlc⟩ := hb.shape
  clear hb
  have HEQ := Lib.hid heq
  clear heq
  have hd4 : (xs.drop n).length = 4 := by simp; omega
  have htk : (xs.drop n).take (Int.toNat 4) = xs.drop n := List.take_of_length_le (by rw [hd4]; decide)
  have hle := leNum_32 _ hd4
  have hle64 : leNum (xs.drop n) < 18446744073709551616 := by omega
  have w4 : IntKind.u32.wrap ((leNum (xs.drop n) : Nat) : Int) = ((leNum (xs.drop n) : Nat) : Int) := by rw [IntKind.wrap_u32]; omega
  have HTK := Lib.hid htk
  have HS := Lib.hid hs
  clear hs
  have HD4 := Lib.hid hd4
  go_enter Try.func43, Try.ntmps43
  go_wp2_with fail
  refine (look_any _ xs w Hb.out (by omega)).mono ?_
  rintro e w1 ⟨g, u, rfl, hg, he, hu, hb1⟩
  have HE1 := Lib.hid he; have HB1 := Lib.hid hb1; have HG := Lib.hid hg; clear he hu hb1 hg htk hd4 hle hle64
  go_wp2_with fail
  rw [show max (0 : Int) ((xs.length : Int) - 4) = (n : Int) from by have := HS.out; omega]
  refine (eraw_ok g n u xs w1 HE1.out (by have := HS.out; omega) (by omega)).mono ?_
  rintro e w2 ⟨v', u', rfl, hown, go2⟩
  have HB2 := Lib.hid (HB1.out.trans (go2.chg.below (B := w.heap.size) (by intro k hk; simp at hk; have := HG.out; omega) HB1.out.size))
  have hx2 : HB w2 v' (xs.take n) := HB.of_own (base := w1.heap.size) (e := 5) (by have h : (xs.take n).length = n := (by have := HS.out; simp; omega); rw [h]; exact hown)
  have hown' := own_base hown (b := w.heap.size) (fun k hk => Nat.le_trans HB1.out.size (hown.lt k hk).1)
  have HOW := Lib.hid hown'
  obtain ⟨A2, c2, rfl⟩ := own_slice hown
  have hvl : ∀ k, (Value.slice A2 n c2).ownBlock = some k → k < w2.heap.size := fun k hk => (hown.lt k hk).2
  have hne : (Value.slice A2 n c2).ownBlock ≠ some g := by
    intro hk
    have h1 := (hown.lt g hk).1
    have h2 := blk_lt HE1.out.blk
    omega
  have HVL := Lib.hid hvl; have HNE := Lib.hid hne
  have HE2 := Lib.hid go2.eye; have HX2 := Lib.hid hx2
  clear hown go2 hown' hx2 hvl hne
  go_wp2_with fail
  refine (efixed_ok g 4 u' (xs.drop n) w2 HE2.out (by decide) (by rw [HD4.out]; decide)).mono ?_
  rw [HTK.out]
  rintro e w3 ⟨u3, rfl, go3⟩
  have HB3 := Lib.hid (HB2.out.trans (go3.chg.below (B := w.heap.size) (by intro k hk; simp at hk; have := HG.out; omega) HB2.out.size))
  have hx3 := HX2.out.chg go3.chg (by intro k hk; simp; intro e; subst e; exact HNE.out hk)
  have ho3 := own_chg HOW.out go3.chg (by intro k hk; simp; intro e; subst e; exact HNE.out hk)
  have HX3 := Lib.hid hx3; have HO3 := Lib.hid ho3
  clear go3 hx3 ho3
  go_wp2_with fail
  refine (sum_new _ (xs.take n) w3 HX3.out (by simp; omega)).mono ?_
  rintro e w4 ⟨rfl, hb4⟩
  have HB4 := Lib.hid (HB3.out.trans (hb4.mono HB3.out.size))
  have HO4 := Lib.hid (own_chg HO3.out (Chg.of_below hb4) (by simp))
  clear hb4
  have heq := HEQ.out
  generalize leNum (xs.drop n) = q at *
  generalize crcOn 0 (xs.take n) = q' at *
  have hne : ((q : Int) == (q' : Int)) = false := by simp; omega
  clear heq
  go_wp2_with fail
  go_ret2
  exact ⟨rfl, HB4.out⟩
end
section
open Go.RowKit Go.Proofs
set_option maxHeartbeats 1000000 in
set_option maxRecDepth 100000 in
theorem leNum_le (k n : Nat) (h : n < 256 ^ k) : leNum (le k n) = n := by
  induction k generalizing n with
  | zero => simp at h; subst h; rfl
  | succ k ih =>
    rw [Nat.pow_succ] at h
    rw [le, leNum, ih (n / 256) (by omega)]
    simp
    omega
theorem leNum_le4 (n : Nat) (h : n < 4294967296) : leNum (le 4 n) = n := by
  refine leNum_le 4 n ?_
  have : (256 : Nat) ^ 4 = 4294967296 := by decide
  omega
set_option maxHeartbeats 1000000 in
set_option maxRecDepth 100000 in
theorem four_any (n : Nat) (hn : n < 4294967296) (w : World) :
    Calls Try.prog 69 #[.int .u32 (n : Int)] w fun e w' => ∃ v', e = .returned v' ∧ w'.ownsRow w.heap.size 5 1 v' 4 (bs (le 4 n)) ∧ Below w.heap.size w w' := by
  have wc : IntKind.u64.wrap (n : Int) = (n : Int) := by rw [IntKind.wrap_u64]; omega
  have hE := fixedE4 n hn
  have hB := fixed4 n hn
  have HN := Lib.hid hn
  have HE := Lib.hid hE; have HBB := Lib.hid hB
  clear hE hB hn
  go_enter Try.func69, Try.ntmps69
  go_wp2_with fail
  refine (rfixed_any 4 n w (by have := HN.out; omega)).mono ?_
  rw [HE.out, HBB.out, le_length]
  rintro e w1 ⟨v1, rfl, hown, hb⟩
  obtain ⟨A, c, rfl⟩ := own_slice hown
  have HO := Lib.hid hown; have HB1 := Lib.hid hb
  clear hown hb
  go_wp2_with fail
  go_ret
  exact ⟨_, rfl, HO.out, HB1.out⟩

set_option maxHeartbeats 1000000 in
set_option maxRecDepth 100000 in
theorem rmark_any (b : Value) (xs : List UInt8) (w : World) (hb : HB w b xs) (hl : xs.length ≤ 1000000) :
    Calls Try.prog 45 #[b] w fun e w' => ∃ v', e = .returned v' ∧ w'.ownsRow w.heap.size 5 1 v' (markB xs).length (bs (markB xs)) ∧ Below w.heap.size w w' := by
  have Hb := Lib.hid hb
  obtain ⟨A, c, rfl, hlc⟩ := hb.shape
  clear hb
  have HCR := Lib.hid (crcOn_lt 0 xs)
  have hmk : markB xs = xs ++ le 4 (crcOn 0 xs) := rfl
  generalize hq : crcOn 0 xs = q at *
  have HCQ := Lib.hid hq; have HMK := Lib.hid hmk; clear hq hmk
  go_enter Try.func45, Try.ntmps45
  go_wp2_with fail
  refine (twin_any _ xs w Hb.out (by omega)).mono ?_
  rintro e w1 ⟨v1, rfl, hown, hb1⟩
  have HO1 := Lib.hid hown; have HB1 := Lib.hid hb1; have Hb1 := Lib.hid (Hb.out.below hb1)
  obtain ⟨A1, c1, rfl⟩ := own_slice hown
  clear hown hb1
  go_wp2_with fail
  refine (rsum_any _ xs w1 Hb1.out hl).mono ?_
  rw [HCQ.out]
  rintro e w' ⟨rfl, rfl⟩
  go_wp2_with fail
  refine (four_any q HCR.out w1).mono ?_
  rintro e w2 ⟨v2, rfl, hown2, hb2⟩
  have ho1 : w2.ownsRow w.heap.size 5 1 (.slice A1 xs.length c1) xs.length (bs xs) := own_chg HO1.out (Chg.of_below hb2) (by simp)
  have hb4 : HB w2 v2 (le 4 q) := HB.of_own (base := w1.heap.size) (e := 5) (by rw [le_length]; exact hown2)
  have HB2 := Lib.hid (HB1.out.trans (hb2.mono HB1.out.size))
  obtain ⟨A2, c2, rfl⟩ := own_slice hown2
  have HO2 := Lib.hid ho1; have HF2 := Lib.hid hb4
  clear hown2 hb2 ho1 hb4
  go_wp2_with (at_builtin; go_loud (refine wpl_pushes _ rfl (.tmp 4) (.tmp 7) 29 rfl w.heap.size 5 Try.underlying29 u8_info (.slice A1 xs.length c1) xs (le 4 q) _ rfl rfl ?c1 ?c2 ?c3 ?c4 ?_))
  case c1 => exact HO2.out
  case c2 => exact HF2.out
  case c3 => rw [le_length]; omega
  case c4 => exact HB2.out.size
  intro v' w' hown hg hnx
  have hown3 : w'.ownsRow w.heap.size 5 1 v' (markB xs).length (bs (markB xs)) := by rw [HMK.out, List.length_append]; exact hown
  have hbl : Below w.heap.size w w' := HB2.out.grown hg HB2.out.size (fun k hk => (HO2.out.lt k hk).1)
  have HO3 := Lib.hid hown3; have HB3 := Lib.hid hbl
  clear hown hown3 hbl hg hnx
  go_wp2_with fail
  go_ret
  exact ⟨_, rfl, HO3.out, HB3.out⟩

set_option maxHeartbeats 1000000 in
set_option maxRecDepth 100000 in
theorem rbare_short (b : Value) (xs : List UInt8) (w : World) (hb : HB w b xs) (hs : xs.length < 4) :
    Calls Try.prog 44 #[b] w fun e w' => e = .returned (.tuple #[.slice none 0 0, .int .i64 20]) ∧ Below w.heap.size w w' := by
  have Hb := Lib.hid hb
  obtain ⟨A, c, rfl, hlc⟩ := hb.shape
  clear hb
  have ht : decide ((xs.length : Int) - 4 < 0) = true := by simp; omega
  go_enter Try.func44, Try.ntmps44
  go_wp2_with fail
  refine wp_region_pi [(0, true), (1, true), (2, true), (3, true), (4, true), (5, true), (9, true), (10, true), (11, true), (12, true), (6, false), (7, false), (8, false), (13, true), (14, true)] (by kernel_rfl) (by kernel_rfl) rfl (by kernel_rfl) (fun _ _ _ _ _ h => h) (fun w' => w' = w.drew) rfl ?_
  intro OPS hops
  iterate 10
    first | (refine wpPi_yield _ (by rw [hops.out]; simp only [List.getElem?_toArray, List.getElem?_cons_succ, List.getElem?_cons_zero]; rfl) (by first | rfl | (rw [hops.out]; rfl)) (fun w' hS => by subst hS; go_simp; rfl) ?_; simp only [Act.put, List.setIfInBounds_toArray, List.set_cons_succ, List.set_cons_zero]) | (refine wpPi_skip (by rw [hops.out]; simp only [List.getElem?_toArray, List.getElem?_cons_succ, List.getElem?_cons_zero]; rfl) (by first | rfl | (rw [hops.out]; rfl)) ?_; simp only [Act.put, List.setIfInBounds_toArray, List.set_cons_succ, List.set_cons_zero])
  refine wpPi_actSkip (by rw [hops.out]; simp only [List.getElem?_toArray, List.getElem?_cons_succ, List.getElem?_cons_zero]; rfl) (by first | rfl | (rw [hops.out]; rfl)) ?_ ?_
  · rfl
  simp only [Act.put, List.setIfInBounds_toArray, List.set_cons_succ, List.set_cons_zero]
  refine wpPi_actSkip (by rw [hops.out]; simp only [List.getElem?_toArray, List.getElem?_cons_succ, List.getElem?_cons_zero]; rfl) (by first | rfl | (rw [hops.out]; rfl)) ?_ ?_
  · rfl
  simp only [Act.put, List.setIfInBounds_toArray, List.set_cons_succ, List.set_cons_zero]
  refine wpPi_actSkip (by rw [hops.out]; simp only [List.getElem?_toArray, List.getElem?_cons_succ, List.getElem?_cons_zero]; rfl) (by first | rfl | (rw [hops.out]; rfl)) ?_ ?_
  · rfl
  simp only [Act.put, List.setIfInBounds_toArray, List.set_cons_succ, List.set_cons_zero]
  iterate 2
    first | (refine wpPi_yield _ (by rw [hops.out]; simp only [List.getElem?_toArray, List.getElem?_cons_succ, List.getElem?_cons_zero]; rfl) (by first | rfl | (rw [hops.out]; rfl)) (fun w' hS => by subst hS; go_simp; rfl) ?_; simp only [Act.put, List.setIfInBounds_toArray, List.set_cons_succ, List.set_cons_zero]) | (refine wpPi_skip (by rw [hops.out]; simp only [List.getElem?_toArray, List.getElem?_cons_succ, List.getElem?_cons_zero]; rfl) (by first | rfl | (rw [hops.out]; rfl)) ?_; simp only [Act.put, List.setIfInBounds_toArray, List.set_cons_succ, List.set_cons_zero])
  simp only [wpPi]
  go_wp2_with fail
  go_ret2
  exact ⟨rfl, (Below.refl _ _).drew⟩

set_option maxHeartbeats 1000000 in
set_option maxRecDepth 100000 in
theorem rbare_ok (b : Value) (xs : List UInt8) (n : Nat) (w : World) (hb : HB w b xs) (hl : xs.length ≤ 1000000) (hs : xs.length = n + 4) (heq : leNum (xs.drop n) = crcOn 0 (xs.take n)) :
    Calls Try.prog 44 #[b] w fun e w' => ∃ v', e = .returned (.tuple #[v', .int .i64 0]) ∧ w'.ownsRow w.heap.size 5 1 v' n (bs (xs.take n)) ∧ Below w.heap.size w w' := by
  have Hb := Lib.hid hb
  obtain ⟨A, c, rfl, hlc⟩ := hb.shape
  clear hb
  have hd4 : (xs.drop n).length = 4 := by simp; omega
  have hcr := crcOn_lt 0 (xs.take n)
  have hsb : (le 4 (crcOn 0 (xs.take n)) == xs.drop n) = true := by
    rw [← heq]
    have := le_leNum (xs.drop n)
    rw [hd4] at this
    rw [this]; simp
  have ht : decide ((xs.length : Int) - 4 < 0) = false := by simp; omega
  have hn4 : (xs.length : Int) - 4 = (n : Int) := by omega
  have hnl : n ≤ xs.length := by omega
  have hn0 : decide ((n : Int) < 0) = false := by simp
  have c1 := run_cut_h 29 5 Try.underlying29 size5 A xs.length c n hnl hlc
  have c2 := run_cut_l 29 5 Try.underlying29 size5 A xs.length c n hnl
  have hlen : xs.length - n = 4 := by omega
  rw [hlen] at c2
  have HT := Hb.out.take hnl
  have HD := Hb.out.drop hnl
  rw [hlen] at HD
  have hst : ∀ w', Below w.heap.size w w' → HB w' (.slice A n c) (xs.take n) ∧ (convert 29 9 (.slice (cutA A c n) 4 (c - n))).run Try.prog w' = .ok (.string ⟨(xs.drop n).toArray⟩) w' := fun w' h => ⟨HT.below h, (HD.below h).string (P := Try.prog) 29 9 5 Try.underlying29 Try.underlying5 Try.underlying9⟩
  have HST := Lib.hid hst
  have HCR := Lib.hid hcr
  have hlt : (xs.take n).length = n := List.length_take_of_le hnl
  have HLT := Lib.hid hlt
  have HS := Lib.hid hs
  generalize hq : crcOn 0 (xs.take n) = q at *
  have HCQ := Lib.hid hq
  clear hst HT HD hs heq hd4 hcr hq hlt hlen
  go_enter Try.func44, Try.ntmps44
  go_wp2_with fail
  refine wp_region_pi [(0, true), (1, true), (2, true), (3, true), (4, true), (5, true), (9, true), (10, true), (11, true), (12, true), (6, false), (7, false), (8, false), (13, true), (14, true)] (by kernel_rfl) (by kernel_rfl) rfl (by kernel_rfl) (fun _ _ _ _ _ h => h) (fun w' => Below w.heap.size w w') (Below.refl _ _).drew ?_
  intro OPS hops
  iterate 10
    first | (refine wpPi_yield _ (by rw [hops.out]; simp only [List.getElem?_toArray, List.getElem?_cons_succ, List.getElem?_cons_zero]; rfl) (by first | rfl | (rw [hops.out]; rfl)) (fun w' hS => by have hs1 := (HST.out w' hS).2; go_simp; rfl) ?_; simp only [Act.put, List.setIfInBounds_toArray, List.set_cons_succ, List.set_cons_zero]) | (refine wpPi_skip (by rw [hops.out]; simp only [List.getElem?_toArray, List.getElem?_cons_succ, List.getElem?_cons_zero]; rfl) (by first | rfl | (rw [hops.out]; rfl)) ?_; simp only [Act.put, List.setIfInBounds_toArray, List.set_cons_succ, List.set_cons_zero])
  refine wpPi_act (by rw [hops.out]; simp only [List.getElem?_toArray, List.getElem?_cons_succ, List.getElem?_cons_zero]; rfl) (by first | rfl | (rw [hops.out]; rfl)) ?_
  go_simp
  refine (rsum_any _ (xs.take n) _ (HST.out _ (Below.refl _ _).drew).1 (by rw [HLT.out]; omega)).mono ?_
  rw [HCQ.out]
  rintro e w' ⟨rfl, rfl⟩
  try (refine ⟨(by first | exact (Below.refl _ _).drew | exact HB2.out), ?_⟩)
  refine wpPi_act (by rw [hops.out]; simp only [List.getElem?_toArray, List.getElem?_cons_succ, List.getElem?_cons_zero]; rfl) (by first | rfl | (rw [hops.out]; rfl)) ?_
  go_simp
  refine (four_any q HCR.out _).mono ?_
  rintro e w2 ⟨v2, rfl, hown2, hb2⟩
  have hst2 := (HB.of_own (w := w2) (v := v2) (xs := le 4 q) (base := w.drew.heap.size) (e := 5) (by rw [le_length]; exact hown2)).string (P := Try.prog) 29 9 5 Try.underlying29 Try.underlying5 Try.underlying9
  obtain ⟨A2, c2, rfl⟩ := own_slice hown2
  have HB2 := Lib.hid ((Below.refl w.heap.size w).drew.trans hb2)
  clear hown2 hb2
  try (refine ⟨(by first | exact (Below.refl _ _).drew | exact HB2.out), ?_⟩)
  refine wpPi_act (by rw [hops.out]; simp only [List.getElem?_toArray, List.getElem?_cons_succ, List.getElem?_cons_zero]; rfl) (by first | rfl | (rw [hops.out]; rfl)) ?_
  go_simp
  try (refine ⟨(by first | exact (Below.refl _ _).drew | exact HB2.out), ?_⟩)
  iterate 2
    first | (refine wpPi_yield _ (by rw [hops.out]; simp only [List.getElem?_toArray, List.getElem?_cons_succ, List.getElem?_cons_zero]; rfl) (by first | rfl | (rw [hops.out]; rfl)) (fun w' hS => by have hs1 := (HST.out w' hS).2; go_simp; rfl) ?_; simp only [Act.put, List.setIfInBounds_toArray, List.set_cons_succ, List.set_cons_zero]) | (refine wpPi_skip (by rw [hops.out]; simp only [List.getElem?_toArray, List.getElem?_cons_succ, List.getElem?_cons_zero]; rfl) (by first | rfl | (rw [hops.out]; rfl)) ?_; simp only [Act.put, List.setIfInBounds_toArray, List.set_cons_succ, List.set_cons_zero])
  simp only [wpPi]
  go_wp2_with fail
  have HT2 := (HST.out _ HB2.out).1
  refine (twin_any _ (xs.take n) w2 HT2 (by rw [HLT.out]; omega)).mono ?_
  rw [HLT.out]
  rintro e w3 ⟨v3, rfl, hown3, hb3⟩
  have hown' := own_base hown3 (b := w.heap.size) (fun k hk => Nat.le_trans HB2.out.size (hown3.lt k hk).1)
  have HB3 := Lib.hid (HB2.out.trans (hb3.mono HB2.out.size))
  clear hown3 hb3
  go_wp2_with fail
  go_ret2
  exact ⟨_, rfl, hown', HB3.out⟩

set_option maxHeartbeats 1000000 in
set_option maxRecDepth 100000 in
theorem rbare_no (b : Value) (xs : List UInt8) (n : Nat) (w : World) (hb : HB w b xs) (hl : xs.length ≤ 1000000) (hs : xs.length = n + 4) (heq : leNum (xs.drop n) ≠ crcOn 0 (xs.take n)) :
    Calls Try.prog 44 #[b] w fun e w' => e = .returned (.tuple #[.slice none 0 0, .int .i64 20]) ∧ Below w.heap.size w w' := by
  have Hb := Lib.hid hb
  obtain ⟨A, c, rfl, hlc⟩ := hb.shape
  clear hb
  have hd4 : (xs.drop n).length = 4 := by simp; omega
  have hcr := crcOn_lt 0 (xs.take n)
  have hsb : (le 4 (crcOn 0 (xs.take n)) == xs.drop n) = false := by
    rw [beq_eq_false_iff_ne]
    intro h
    exact heq (by rw [← h, leNum_le4 _ hcr])
  have ht : decide ((xs.length : Int) - 4 < 0) = false := by simp; omega
  have hn4 : (xs.length : Int) - 4 = (n : Int) := by omega
  have hnl : n ≤ xs.length := by omega
  have hn0 : decide ((n : Int) < 0) = false := by simp
  have c1 := run_cut_h 29 5 Try.underlying29 size5 A xs.length c n hnl hlc
  have c2 := run_cut_l 29 5 Try.underlying29 size5 A xs.length c n hnl
  have hlen : xs.length - n = 4 := by omega
  rw [hlen] at c2
  have HT := Hb.out.take hnl
  have HD := Hb.out.drop hnl
  rw [hlen] at HD
  have hst : ∀ w', Below w.heap.size w w' → HB w' (.slice A n c) (xs.take n) ∧ (convert 29 9 (.slice (cutA A c n) 4 (c - n))).run Try.prog w' = .ok (.string ⟨(xs.drop n).toArray⟩) w' := fun w' h => ⟨HT.below h, (HD.below h).string (P := Try.prog) 29 9 5 Try.underlying29 Try.underlying5 Try.underlying9⟩
  have HST := Lib.hid hst
  have HCR := Lib.hid hcr
  have hlt : (xs.take n).length = n := List.length_take_of_le hnl
  have HLT := Lib.hid hlt
  have HS := Lib.hid hs
  generalize hq : crcOn 0 (xs.take n) = q at *
  have HCQ := Lib.hid hq
  clear hst HT HD hs heq hd4 hcr hq hlt hlen
  go_enter Try.func44, Try.ntmps44
  go_wp2_with fail
  refine wp_region_pi [(0, true), (1, true), (2, true), (3, true), (4, true), (5, true), (9, true), (10, true), (11, true), (12, true), (6, false), (7, false), (8, false), (13, true), (14, true)] (by kernel_rfl) (by kernel_rfl) rfl (by kernel_rfl) (fun _ _ _ _ _ h => h) (fun w' => Below w.heap.size w w') (Below.refl _ _).drew ?_
  intro OPS hops
  iterate 10
    first | (refine wpPi_yield _ (by rw [hops.out]; simp only [List.getElem?_toArray, List.getElem?_cons_succ, List.getElem?_cons_zero]; rfl) (by first | rfl | (rw [hops.out]; rfl)) (fun w' hS => by have hs1 := (HST.out w' hS).2; go_simp; rfl) ?_; simp only [Act.put, List.setIfInBounds_toArray, List.set_cons_succ, List.set_cons_zero]) | (refine wpPi_skip (by rw [hops.out]; simp only [List.getElem?_toArray, List.getElem?_cons_succ, List.getElem?_cons_zero]; rfl) (by first | rfl | (rw [hops.out]; rfl)) ?_; simp only [Act.put, List.setIfInBounds_toArray, List.set_cons_succ, List.set_cons_zero])
  refine wpPi_act (by rw [hops.out]; simp only [List.getElem?_toArray, List.getElem?_cons_succ, List.getElem?_cons_zero]; rfl) (by first | rfl | (rw [hops.out]; rfl)) ?_
  go_simp
  refine (rsum_any _ (xs.take n) _ (HST.out _ (Below.refl _ _).drew).1 (by rw [HLT.out]; omega)).mono ?_
  rw [HCQ.out]
  rintro e w' ⟨rfl, rfl⟩
  try (refine ⟨(by first | exact (Below.refl _ _).drew | exact HB2.out), ?_⟩)
  refine wpPi_act (by rw [hops.out]; simp only [List.getElem?_toArray, List.getElem?_cons_succ, List.getElem?_cons_zero]; rfl) (by first | rfl | (rw [hops.out]; rfl)) ?_
  go_simp
  refine (four_any q HCR.out _).mono ?_
  rintro e w2 ⟨v2, rfl, hown2, hb2⟩
  have hst2 := (HB.of_own (w := w2) (v := v2) (xs := le 4 q) (base := w.drew.heap.size) (e := 5) (by rw [le_length]; exact hown2)).string (P := Try.prog) 29 9 5 Try.underlying29 Try.underlying5 Try.underlying9
  obtain ⟨A2, c2, rfl⟩ := own_slice hown2
  have HB2 := Lib.hid ((Below.refl w.heap.size w).drew.trans hb2)
  clear hown2 hb2
  try (refine ⟨(by first | exact (Below.refl _ _).drew | exact HB2.out), ?_⟩)
  refine wpPi_act (by rw [hops.out]; simp only [List.getElem?_toArray, List.getElem?_cons_succ, List.getElem?_cons_zero]; rfl) (by first | rfl | (rw [hops.out]; rfl)) ?_
  go_simp
  try (refine ⟨(by first | exact (Below.refl _ _).drew | exact HB2.out), ?_⟩)
  iterate 2
    first | (refine wpPi_yield _ (by rw [hops.out]; simp only [List.getElem?_toArray, List.getElem?_cons_succ, List.getElem?_cons_zero]; rfl) (by first | rfl | (rw [hops.out]; rfl)) (fun w' hS => by have hs1 := (HST.out w' hS).2; go_simp; rfl) ?_; simp only [Act.put, List.setIfInBounds_toArray, List.set_cons_succ, List.set_cons_zero]) | (refine wpPi_skip (by rw [hops.out]; simp only [List.getElem?_toArray, List.getElem?_cons_succ, List.getElem?_cons_zero]; rfl) (by first | rfl | (rw [hops.out]; rfl)) ?_; simp only [Act.put, List.setIfInBounds_toArray, List.set_cons_succ, List.set_cons_zero])
  simp only [wpPi]
  go_wp2_with fail
  go_ret2
  exact ⟨rfl, HB2.out⟩
end
end Go.Proofs.Ytkibccmfgndfjaa
