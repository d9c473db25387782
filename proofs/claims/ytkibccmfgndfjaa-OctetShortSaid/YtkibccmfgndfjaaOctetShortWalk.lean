/- Contracts and words that the laws stand on (OctetShortWalk). -/
import Derived.Test.YtkibccmfgndfjaaShort
import Derived.Test.YtkibccmfgndfjaaMem
import Derived.Test.YtkibccmfgndfjaaOa
set_option linter.unusedVariables false
set_option linter.unusedSimpArgs false
namespace Go.Proofs.Ytkibccmfgndfjaa
section
open Go.RowKit Go.Proofs

theorem IsEye.drew {w : World} {p : Nat} {v : Value} {xs : List UInt8} (h : IsEye w p v xs) : IsEye w.drew p v xs := ⟨h.blk, h.left.drew⟩

set_option maxHeartbeats 4000000 in
set_option maxRecDepth 100000 in
theorem octetShort_none (b : Value) (xs : List UInt8) (most : Int) (hg : getSize xs = none) (w : World) (hb : HB w b xs) (hmo : most ≤ 9223372036854775807) (hx : xs.length ≤ 20000) :
    Calls Try.prog 12 #[b, .int .i64 most] w fun e w' => e = .returned (.bool true) ∧ Below w.heap.size w w' := by
  have Hb := Lib.hid hb
  obtain ⟨A, c, rfl, hlc⟩ := hb.shape
  clear hb
  have HGS := Lib.hid hg; clear hg
  have hgb : getBytes most xs = none := by unfold getBytes; rw [HGS.out]
  have HGB := Lib.hid hgb; clear hgb
  go_enter Try.func12, Try.ntmps12
  go_wp2_with (go_at_call 23; refine (alive1_any _).mono ?_; rintro e w1 ⟨rfl, hb1⟩)
  have HB1 := Lib.hid hb1; clear hb1
  refine (look_any _ xs _ (Hb.out.below HB1.out) (by omega)).mono ?_
  rintro e w2 ⟨g1, u1, rfl, hg1, he1, hu1, hb2⟩
  have HE1 := Lib.hid he1; have HU1 := Lib.hid hu1; have HB2 := Lib.hid (HB1.out.trans (hb2.mono HB1.out.size)); have HG1 := Lib.hid hg1
  clear he1 hu1 hb2 hg1
  go_wp2_with fail
  refine (look_any _ xs _ (Hb.out.below HB2.out) (by omega)).mono ?_
  rintro e w3 ⟨g2, u2, rfl, hg2, he2, hu2, hb3⟩
  have HE2 := Lib.hid he2; have HU2 := Lib.hid hu2; have HB3 := Lib.hid (HB2.out.trans (hb3.mono HB2.out.size)); have HG2 := Lib.hid hg2
  have HE1b := Lib.hid (HE1.out.below hb3)
  have hlt12 := Lib.hid (show g1 < g2 from Nat.lt_of_lt_of_le (blk_lt HE1.out.blk) hg2)
  clear he2 hu2 hb3 hg2
  go_wp2_with fail
  refine (esz_bad g1 u1 xs w3 HE1b.out HGS.out).mono ?_
  rintro e w4 ⟨rfl, hb4⟩
  have go1 := Below.eye hb4 HE1b.out
  have HE1c := Lib.hid go1.eye
  have hge1 : w.heap.size ≤ g1 := Nat.le_trans HB1.out.size HG1.out
  have hge2 : w.heap.size ≤ g2 := Nat.le_trans HB2.out.size HG2.out
  have HB4 := Lib.hid (HB3.out.trans (go1.chg.below (B := w.heap.size) (by intro k hk; simp at hk; omega) HB3.out.size))
  have HE2b := Lib.hid (show IsEye w4 g2 u2 xs from ⟨go1.chg.blk HE2.out.blk (by have := hlt12.out; simp; omega), HE2.out.left.chgN go1.chg (by intro k hk; simp at hk; subst hk; exact HE1b.out.no)⟩)
  have HN1 := Lib.hid HE1c.out.no
  have HGE1 := Lib.hid hge1; have HGE2 := Lib.hid hge2
  clear go1 hge1 hge2
  go_wp2_with fail
  refine (ebytes_bad g2 u2 xs most w4 HE2b.out HGB.out hmo (by omega)).mono ?_
  rintro e w5 ⟨rfl, hb5⟩
  have go2 := Below.eye hb5 HE2b.out
  have HE2c := Lib.hid go2.eye
  have HB5 := Lib.hid (HB4.out.trans (go2.chg.below (B := w.heap.size) (by intro k hk; simp at hk; have := HGE2.out; omega) HB4.out.size))
  have HE1d := Lib.hid (show IsEye w5 g1 _ _ from ⟨go2.chg.blk HE1c.out.blk (by have := hlt12.out; simp; omega), HE1c.out.left.chgN go2.chg (by intro k hk; simp at hk; subst hk; exact HE2b.out.no)⟩)
  clear go2
  obtain ⟨W5, hW5⟩ : ∃ W5, (w5.alloc (.cells #[.slice none 0 0] 39)).alloc (.cells #[.slice none 0 0] 39) = W5 := ⟨_, rfl⟩
  have hb55 : Below w5.heap.size w5 W5 := by rw [← hW5]; exact ((Below.refl _ _).alloc (Nat.le_refl _) _).alloc (by simp) _
  have hp5 : IsPen W5 w5.heap.size (.slice none 0 0) [] := by rw [← hW5]; exact (IsPen.new w5).below ((Below.refl _ _).alloc (Nat.le_refl _) _)
  have hq5 : IsPen W5 (w5.heap.size + 1) (.slice none 0 0) [] := by rw [← hW5]; simpa using IsPen.new (w5.alloc (.cells #[.slice none 0 0] 39))
  have HP := Lib.hid hp5; have HQ := Lib.hid hq5; have HB6 := Lib.hid (HB5.out.trans (hb55.mono HB5.out.size))
  have HE1e := Lib.hid (HE1d.out.below hb55); have HE2e := Lib.hid (HE2c.out.below hb55); have HBB := Lib.hid hb55
  have HL1 := Lib.hid (blk_lt HE1d.out.blk); have HL2 := Lib.hid (blk_lt HE2c.out.blk)
  clear hp5 hq5 hb55
  go_wp2_with fail
  clear hW5
  refine (pall_any w5.heap.size (.slice none 0 0) [] W5 HP.out (by simp <;> omega)).mono ?_
  rintro e w8 ⟨v8, rfl, hown8, hbl8⟩
  have HV8 := Lib.hid (HB.of_own hown8)
  have HQ9 := Lib.hid (HQ.out.below hbl8); have HB9 := Lib.hid (HB6.out.trans (hbl8.mono HB6.out.size))
  have HE1h := Lib.hid (HE1e.out.below hbl8); have HE2h := Lib.hid (HE2e.out.below hbl8)
  clear hown8 hbl8
  go_wp2_with fail
  refine (pall_any (w5.heap.size + 1) (.slice none 0 0) [] w8 HQ9.out (by simp <;> omega)).mono ?_
  rintro e w9 ⟨v9, rfl, hown9, hbl9⟩
  have HV9 := Lib.hid (HB.of_own hown9)
  have HV8b := Lib.hid (HV8.out.below hbl9); have HB10 := Lib.hid (HB9.out.trans (hbl9.mono HB9.out.size))
  have HE1i := Lib.hid (HE1h.out.below hbl9); have HE2i := Lib.hid (HE2h.out.below hbl9)
  clear hown9 hbl9
  go_wp2_with fail
  have hs8 := HV8b.out.drew.string (P := Try.prog) 29 9 5 Try.underlying29 Try.underlying5 Try.underlying9
  have hs9 := HV9.out.drew.string (P := Try.prog) 29 9 5 Try.underlying29 Try.underlying5 Try.underlying9
  have HBx := Lib.hid (Hb.out.below HB10.out)
  have c1 := run_cut_h 29 5 Try.underlying29 size5 A xs.length c 0 (Nat.zero_le _) hlc
  have c2 := run_cut_h 29 5 Try.underlying29 size5 A xs.length c 0 (Nat.zero_le _) hlc
  have hs1 := (HBx.out.take (b := 0) (Nat.zero_le _)).drew.string (P := Try.prog) 29 9 5 Try.underlying29 Try.underlying5 Try.underlying9
  have hs2 := (HBx.out.take (b := 0) (Nat.zero_le _)).drew.string (P := Try.prog) 29 9 5 Try.underlying29 Try.underlying5 Try.underlying9
  have e1 := Lib.hid (show ((xs.length : Nat) : Int) = (xs.length : Int) - (0 : Nat) from by simp)
  have e2 := Lib.hid (show ((xs.length : Nat) : Int) = (xs.length : Int) - (0 : Nat) from by simp)
  have w1' : IntKind.i64.wrap ((xs.length : Int) - ((xs.length : Int) - ((0 : Nat) : Int))) = ((0 : Nat) : Int) := by rw [IntKind.wrap_i64]; omega
  have w0' : IntKind.i64.wrap (0 : Int) = 0 := by decide
  have w2' : IntKind.i64.wrap ((xs.length : Int) - ((xs.length : Int) - ((0 : Nat) : Int))) = ((0 : Nat) : Int) := by rw [IntKind.wrap_i64]; omega
  refine wp_region_pi [(0, true), (1, true), (2, true), (3, true), (4, true), (5, true), (6, true), (7, true), (8, false), (9, true), (10, true), (11, false), (12, true), (13, true), (14, true), (15, true), (16, true), (17, true), (18, true), (19, true), (20, true), (21, false), (22, true), (23, true), (24, false), (25, true), (26, true), (27, true), (28, true), (29, true), (30, true), (31, true), (32, true), (33, true), (34, true), (35, true), (36, true), (37, true), (38, true), (39, true), (40, true), (41, true), (42, true), (43, true), (44, true), (45, true), (46, true), (47, true), (48, true), (49, true), (50, true), (51, true), (52, true), (53, true), (54, true), (55, false), (56, true), (57, true), (58, true), (59, true)] (by kernel_rfl) (by kernel_rfl) rfl (by kernel_rfl) (fun _ _ _ _ _ h => h) (fun w' => w' = w9.drew) rfl ?_
  intro OPS hops
  iterate 8
    first | (refine wpPi_yield _ (by rw [hops.out]; simp only [List.getElem?_toArray, List.getElem?_cons_succ, List.getElem?_cons_zero]; rfl) (by first | rfl | (rw [hops.out]; rfl)) (fun w' hS => by subst hS; go_simp; rfl) ?_; simp only [Act.put, List.setIfInBounds_toArray, List.set_cons_succ, List.set_cons_zero]) | (refine wpPi_skip (by rw [hops.out]; simp only [List.getElem?_toArray, List.getElem?_cons_succ, List.getElem?_cons_zero]; rfl) (by first | rfl | (rw [hops.out]; rfl)) ?_; simp only [Act.put, List.setIfInBounds_toArray, List.set_cons_succ, List.set_cons_zero])
  refine wpPi_act (by rw [hops.out]; simp only [List.getElem?_toArray, List.getElem?_cons_succ, List.getElem?_cons_zero]; rfl) (by first | rfl | (rw [hops.out]; rfl)) ?_
  go_simp
  refine (left_any g1 _ _ _ HE1i.out.drew).mono ?_
  rw [e1.out]
  rintro e w' ⟨rfl, rfl⟩
  try (refine ⟨rfl, ?_⟩)
  iterate 2
    first | (refine wpPi_yield _ (by rw [hops.out]; simp only [List.getElem?_toArray, List.getElem?_cons_succ, List.getElem?_cons_zero]; rfl) (by first | rfl | (rw [hops.out]; rfl)) (fun w' hS => by subst hS; go_simp; rfl) ?_; simp only [Act.put, List.setIfInBounds_toArray, List.set_cons_succ, List.set_cons_zero]) | (refine wpPi_skip (by rw [hops.out]; simp only [List.getElem?_toArray, List.getElem?_cons_succ, List.getElem?_cons_zero]; rfl) (by first | rfl | (rw [hops.out]; rfl)) ?_; simp only [Act.put, List.setIfInBounds_toArray, List.set_cons_succ, List.set_cons_zero])
  refine wpPi_act (by rw [hops.out]; simp only [List.getElem?_toArray, List.getElem?_cons_succ, List.getElem?_cons_zero]; rfl) (by first | rfl | (rw [hops.out]; rfl)) ?_
  go_simp
  try (refine ⟨rfl, ?_⟩)
  iterate 9
    first | (refine wpPi_yield _ (by rw [hops.out]; simp only [List.getElem?_toArray, List.getElem?_cons_succ, List.getElem?_cons_zero]; rfl) (by first | rfl | (rw [hops.out]; rfl)) (fun w' hS => by subst hS; go_simp; rfl) ?_; simp only [Act.put, List.setIfInBounds_toArray, List.set_cons_succ, List.set_cons_zero]) | (refine wpPi_skip (by rw [hops.out]; simp only [List.getElem?_toArray, List.getElem?_cons_succ, List.getElem?_cons_zero]; rfl) (by first | rfl | (rw [hops.out]; rfl)) ?_; simp only [Act.put, List.setIfInBounds_toArray, List.set_cons_succ, List.set_cons_zero])
  refine wpPi_act (by rw [hops.out]; simp only [List.getElem?_toArray, List.getElem?_cons_succ, List.getElem?_cons_zero]; rfl) (by first | rfl | (rw [hops.out]; rfl)) ?_
  go_simp
  refine (left_any g2 _ _ _ HE2i.out.drew).mono ?_
  rw [e2.out]
  rintro e w' ⟨rfl, rfl⟩
  try (refine ⟨rfl, ?_⟩)
  iterate 2
    first | (refine wpPi_yield _ (by rw [hops.out]; simp only [List.getElem?_toArray, List.getElem?_cons_succ, List.getElem?_cons_zero]; rfl) (by first | rfl | (rw [hops.out]; rfl)) (fun w' hS => by subst hS; go_simp; rfl) ?_; simp only [Act.put, List.setIfInBounds_toArray, List.set_cons_succ, List.set_cons_zero]) | (refine wpPi_skip (by rw [hops.out]; simp only [List.getElem?_toArray, List.getElem?_cons_succ, List.getElem?_cons_zero]; rfl) (by first | rfl | (rw [hops.out]; rfl)) ?_; simp only [Act.put, List.setIfInBounds_toArray, List.set_cons_succ, List.set_cons_zero])
  refine wpPi_act (by rw [hops.out]; simp only [List.getElem?_toArray, List.getElem?_cons_succ, List.getElem?_cons_zero]; rfl) (by first | rfl | (rw [hops.out]; rfl)) ?_
  go_simp
  try (refine ⟨rfl, ?_⟩)
  iterate 30
    first | (refine wpPi_yield _ (by rw [hops.out]; simp only [List.getElem?_toArray, List.getElem?_cons_succ, List.getElem?_cons_zero]; rfl) (by first | rfl | (rw [hops.out]; rfl)) (fun w' hS => by subst hS; go_simp; rfl) ?_; simp only [Act.put, List.setIfInBounds_toArray, List.set_cons_succ, List.set_cons_zero]) | (refine wpPi_skip (by rw [hops.out]; simp only [List.getElem?_toArray, List.getElem?_cons_succ, List.getElem?_cons_zero]; rfl) (by first | rfl | (rw [hops.out]; rfl)) ?_; simp only [Act.put, List.setIfInBounds_toArray, List.set_cons_succ, List.set_cons_zero])
  refine wpPi_actSkip (by rw [hops.out]; simp only [List.getElem?_toArray, List.getElem?_cons_succ, List.getElem?_cons_zero]; rfl) (by first | rfl | (rw [hops.out]; rfl)) ?_ ?_
  · rfl
  simp only [Act.put, List.setIfInBounds_toArray, List.set_cons_succ, List.set_cons_zero]
  iterate 4
    first | (refine wpPi_yield _ (by rw [hops.out]; simp only [List.getElem?_toArray, List.getElem?_cons_succ, List.getElem?_cons_zero]; rfl) (by first | rfl | (rw [hops.out]; rfl)) (fun w' hS => by subst hS; go_simp; rfl) ?_; simp only [Act.put, List.setIfInBounds_toArray, List.set_cons_succ, List.set_cons_zero]) | (refine wpPi_skip (by rw [hops.out]; simp only [List.getElem?_toArray, List.getElem?_cons_succ, List.getElem?_cons_zero]; rfl) (by first | rfl | (rw [hops.out]; rfl)) ?_; simp only [Act.put, List.setIfInBounds_toArray, List.set_cons_succ, List.set_cons_zero])
  simp only [wpPi]
  go_wp2_with fail
  go_ret
  exact ⟨ret_bool (by simp), HB10.out.drew⟩

set_option maxHeartbeats 4000000 in
set_option maxRecDepth 100000 in
theorem octetShort_one (b : Value) (xs : List UInt8) (most : Int) (n k : Nat) (hg : getSize xs = some (n, k)) (hgb : getBytes most xs = none) (w : World) (hb : HB w b xs) (hmo : most ≤ 9223372036854775807) (hx : xs.length ≤ 20000) :
    Calls Try.prog 12 #[b, .int .i64 most] w fun e w' => e = .returned (.bool true) ∧ Below w.heap.size w w' := by
  have Hb := Lib.hid hb
  obtain ⟨A, c, rfl, hlc⟩ := hb.shape
  clear hb
  have HGS := Lib.hid hg
  have HGB := Lib.hid hgb
  have HCS := Lib.hid (getSize_csize hg)
  have hk := getSize_some hg
  have HK := Lib.hid hk
  clear hg hgb hk
  go_enter Try.func12, Try.ntmps12
  go_wp2_with (go_at_call 23; refine (alive1_any _).mono ?_; rintro e w1 ⟨rfl, hb1⟩)
  have HB1 := Lib.hid hb1; clear hb1
  refine (look_any _ xs _ (Hb.out.below HB1.out) (by omega)).mono ?_
  rintro e w2 ⟨g1, u1, rfl, hg1, he1, hu1, hb2⟩
  have HE1 := Lib.hid he1; have HU1 := Lib.hid hu1; have HB2 := Lib.hid (HB1.out.trans (hb2.mono HB1.out.size)); have HG1 := Lib.hid hg1
  clear he1 hu1 hb2 hg1
  go_wp2_with fail
  refine (look_any _ xs _ (Hb.out.below HB2.out) (by omega)).mono ?_
  rintro e w3 ⟨g2, u2, rfl, hg2, he2, hu2, hb3⟩
  have HE2 := Lib.hid he2; have HU2 := Lib.hid hu2; have HB3 := Lib.hid (HB2.out.trans (hb3.mono HB2.out.size)); have HG2 := Lib.hid hg2
  have HE1b := Lib.hid (HE1.out.below hb3)
  have hlt12 := Lib.hid (show g1 < g2 from Nat.lt_of_lt_of_le (blk_lt HE1.out.blk) hg2)
  clear he2 hu2 hb3 hg2
  go_wp2_with fail
  refine (esz_ok g1 u1 xs _ _ w3 HE1b.out HGS.out).mono ?_
  rintro e w4 ⟨u1', rfl, go1⟩
  have HE1c := Lib.hid go1.eye
  have hge1 : w.heap.size ≤ g1 := Nat.le_trans HB1.out.size HG1.out
  have hge2 : w.heap.size ≤ g2 := Nat.le_trans HB2.out.size HG2.out
  have HB4 := Lib.hid (HB3.out.trans (go1.chg.below (B := w.heap.size) (by intro k hk; simp at hk; omega) HB3.out.size))
  have HE2b := Lib.hid (show IsEye w4 g2 u2 xs from ⟨go1.chg.blk HE2.out.blk (by have := hlt12.out; simp; omega), HE2.out.left.chgN go1.chg (by intro k hk; simp at hk; subst hk; exact HE1b.out.no)⟩)
  have HN1 := Lib.hid HE1c.out.no
  have HGE1 := Lib.hid hge1; have HGE2 := Lib.hid hge2
  clear go1 hge1 hge2
  go_wp2_with fail
  refine (ebytes_bad g2 u2 xs most w4 HE2b.out HGB.out hmo (by omega)).mono ?_
  rintro e w5 ⟨rfl, hb5⟩
  have go2 := Below.eye hb5 HE2b.out
  have HE2c := Lib.hid go2.eye
  have HB5 := Lib.hid (HB4.out.trans (go2.chg.below (B := w.heap.size) (by intro k hk; simp at hk; have := HGE2.out; omega) HB4.out.size))
  have HE1d := Lib.hid (show IsEye w5 g1 _ _ from ⟨go2.chg.blk HE1c.out.blk (by have := hlt12.out; simp; omega), HE1c.out.left.chgN go2.chg (by intro k hk; simp at hk; subst hk; exact HE2b.out.no)⟩)
  clear go2
  obtain ⟨W5, hW5⟩ : ∃ W5, (w5.alloc (.cells #[.slice none 0 0] 39)).alloc (.cells #[.slice none 0 0] 39) = W5 := ⟨_, rfl⟩
  have hb55 : Below w5.heap.size w5 W5 := by rw [← hW5]; exact ((Below.refl _ _).alloc (Nat.le_refl _) _).alloc (by simp) _
  have hp5 : IsPen W5 w5.heap.size (.slice none 0 0) [] := by rw [← hW5]; exact (IsPen.new w5).below ((Below.refl _ _).alloc (Nat.le_refl _) _)
  have hq5 : IsPen W5 (w5.heap.size + 1) (.slice none 0 0) [] := by rw [← hW5]; simpa using IsPen.new (w5.alloc (.cells #[.slice none 0 0] 39))
  have HP := Lib.hid hp5; have HQ := Lib.hid hq5; have HB6 := Lib.hid (HB5.out.trans (hb55.mono HB5.out.size))
  have HE1e := Lib.hid (HE1d.out.below hb55); have HE2e := Lib.hid (HE2c.out.below hb55); have HBB := Lib.hid hb55
  have HL1 := Lib.hid (blk_lt HE1d.out.blk); have HL2 := Lib.hid (blk_lt HE2c.out.blk)
  clear hp5 hq5 hb55
  go_wp2_with fail
  clear hW5
  refine (psize_any w5.heap.size _ (.slice none 0 0) [] W5 HP.out (U64.of (by have := HK.out.2.2.2; exact this)) (by simp)).mono ?_
  rintro e w6 ⟨rfl, vp, gp⟩
  rw [Int.toNat_natCast, List.nil_append, HCS.out.1] at gp
  have HP6 := Lib.hid gp.pen
  have HB7 := Lib.hid (HB6.out.trans (gp.chg.below (B := w.heap.size) (by intro k hk; simp [Value.ownBlock] at hk; have := HB5.out.size; omega) HB6.out.size))
  have HQ6 := Lib.hid (HQ.out.chg gp.chg (by simp [Value.ownBlock]) (by simp [Value.ownBlock]))
  have HE1f := Lib.hid (show IsEye w6 g1 _ _ from ⟨gp.chg.blk HE1e.out.blk (by have := HL1.out; simp [Value.ownBlock]; omega), HE1e.out.left.chgN gp.chg (by intro k hk; simp [Value.ownBlock] at hk; subst hk; exact HP.out.no)⟩)
  have HE2f := Lib.hid (show IsEye w6 g2 _ _ from ⟨gp.chg.blk HE2e.out.blk (by have := HL2.out; simp [Value.ownBlock]; omega), HE2e.out.left.chgN gp.chg (by intro k hk; simp [Value.ownBlock] at hk; subst hk; exact HP.out.no)⟩)
  clear gp
  go_wp2_with fail
  refine (pall_any w5.heap.size vp (xs.take k) w6 HP6.out (by simp <;> omega)).mono ?_
  rintro e w8 ⟨v8, rfl, hown8, hbl8⟩
  have HV8 := Lib.hid (HB.of_own hown8)
  rw [show (xs.take k).length = k from by have := HK.out; simp; omega] at hown8
  obtain ⟨A8, c8, rfl⟩ := own_slice hown8
  have HQ9 := Lib.hid (HQ6.out.below hbl8); have HB9 := Lib.hid (HB7.out.trans (hbl8.mono HB7.out.size))
  have HE1h := Lib.hid (HE1f.out.below hbl8); have HE2h := Lib.hid (HE2f.out.below hbl8)
  clear hown8 hbl8
  go_wp2_with fail
  refine (pall_any (w5.heap.size + 1) (.slice none 0 0) [] w8 HQ9.out (by simp <;> omega)).mono ?_
  rintro e w9 ⟨v9, rfl, hown9, hbl9⟩
  have HV9 := Lib.hid (HB.of_own hown9)
  have HV8b := Lib.hid (HV8.out.below hbl9); have HB10 := Lib.hid (HB9.out.trans (hbl9.mono HB9.out.size))
  have HE1i := Lib.hid (HE1h.out.below hbl9); have HE2i := Lib.hid (HE2h.out.below hbl9)
  clear hown9 hbl9
  go_wp2_with fail
  have hs8 := HV8b.out.drew.string (P := Try.prog) 29 9 5 Try.underlying29 Try.underlying5 Try.underlying9
  have hs9 := HV9.out.drew.string (P := Try.prog) 29 9 5 Try.underlying29 Try.underlying5 Try.underlying9
  have HBx := Lib.hid (Hb.out.below HB10.out)
  have c1 := run_cut_h 29 5 Try.underlying29 size5 A xs.length c k (by have := HK.out; omega) hlc
  have c2 := run_cut_h 29 5 Try.underlying29 size5 A xs.length c 0 (Nat.zero_le _) hlc
  have hs1 := (HBx.out.take (b := k) (by have := HK.out; omega)).drew.string (P := Try.prog) 29 9 5 Try.underlying29 Try.underlying5 Try.underlying9
  have hs2 := (HBx.out.take (b := 0) (Nat.zero_le _)).drew.string (P := Try.prog) 29 9 5 Try.underlying29 Try.underlying5 Try.underlying9
  have e1 := Lib.hid (show (((xs.drop k).length : Nat) : Int) = (xs.length : Int) - (k : Nat) from by have := HK.out; simp; omega)
  have e2 := Lib.hid (show ((xs.length : Nat) : Int) = (xs.length : Int) - (0 : Nat) from by simp)
  have w1' : IntKind.i64.wrap ((xs.length : Int) - ((xs.length : Int) - ((k : Nat) : Int))) = ((k : Nat) : Int) := by rw [IntKind.wrap_i64]; have := HK.out; omega
  have w0' : IntKind.i64.wrap (0 : Int) = 0 := by decide
  have w2' : IntKind.i64.wrap ((xs.length : Int) - ((xs.length : Int) - ((0 : Nat) : Int))) = ((0 : Nat) : Int) := by rw [IntKind.wrap_i64]; omega
  refine wp_region_pi [(0, true), (1, true), (2, true), (3, true), (4, true), (5, true), (6, true), (7, true), (8, false), (9, true), (10, true), (11, false), (12, true), (13, true), (14, true), (15, true), (16, true), (17, true), (18, true), (19, true), (20, true), (21, false), (22, true), (23, true), (24, false), (25, true), (26, true), (27, true), (28, true), (29, true), (30, true), (31, true), (32, true), (33, true), (34, true), (35, true), (36, true), (37, true), (38, true), (39, true), (40, true), (41, true), (42, true), (43, true), (44, true), (45, true), (46, true), (47, true), (48, true), (49, true), (50, true), (51, true), (52, true), (53, true), (54, true), (55, false), (56, true), (57, true), (58, true), (59, true)] (by kernel_rfl) (by kernel_rfl) rfl (by kernel_rfl) (fun _ _ _ _ _ h => h) (fun w' => w' = w9.drew) rfl ?_
  intro OPS hops
  iterate 8
    first | (refine wpPi_yield _ (by rw [hops.out]; simp only [List.getElem?_toArray, List.getElem?_cons_succ, List.getElem?_cons_zero]; rfl) (by first | rfl | (rw [hops.out]; rfl)) (fun w' hS => by subst hS; go_simp; rfl) ?_; simp only [Act.put, List.setIfInBounds_toArray, List.set_cons_succ, List.set_cons_zero]) | (refine wpPi_skip (by rw [hops.out]; simp only [List.getElem?_toArray, List.getElem?_cons_succ, List.getElem?_cons_zero]; rfl) (by first | rfl | (rw [hops.out]; rfl)) ?_; simp only [Act.put, List.setIfInBounds_toArray, List.set_cons_succ, List.set_cons_zero])
  refine wpPi_act (by rw [hops.out]; simp only [List.getElem?_toArray, List.getElem?_cons_succ, List.getElem?_cons_zero]; rfl) (by first | rfl | (rw [hops.out]; rfl)) ?_
  go_simp
  refine (left_any g1 _ _ _ HE1i.out.drew).mono ?_
  rw [e1.out]
  rintro e w' ⟨rfl, rfl⟩
  try (refine ⟨rfl, ?_⟩)
  iterate 2
    first | (refine wpPi_yield _ (by rw [hops.out]; simp only [List.getElem?_toArray, List.getElem?_cons_succ, List.getElem?_cons_zero]; rfl) (by first | rfl | (rw [hops.out]; rfl)) (fun w' hS => by subst hS; go_simp; rfl) ?_; simp only [Act.put, List.setIfInBounds_toArray, List.set_cons_succ, List.set_cons_zero]) | (refine wpPi_skip (by rw [hops.out]; simp only [List.getElem?_toArray, List.getElem?_cons_succ, List.getElem?_cons_zero]; rfl) (by first | rfl | (rw [hops.out]; rfl)) ?_; simp only [Act.put, List.setIfInBounds_toArray, List.set_cons_succ, List.set_cons_zero])
  refine wpPi_act (by rw [hops.out]; simp only [List.getElem?_toArray, List.getElem?_cons_succ, List.getElem?_cons_zero]; rfl) (by first | rfl | (rw [hops.out]; rfl)) ?_
  go_simp
  try (refine ⟨rfl, ?_⟩)
  iterate 9
    first | (refine wpPi_yield _ (by rw [hops.out]; simp only [List.getElem?_toArray, List.getElem?_cons_succ, List.getElem?_cons_zero]; rfl) (by first | rfl | (rw [hops.out]; rfl)) (fun w' hS => by subst hS; go_simp; rfl) ?_; simp only [Act.put, List.setIfInBounds_toArray, List.set_cons_succ, List.set_cons_zero]) | (refine wpPi_skip (by rw [hops.out]; simp only [List.getElem?_toArray, List.getElem?_cons_succ, List.getElem?_cons_zero]; rfl) (by first | rfl | (rw [hops.out]; rfl)) ?_; simp only [Act.put, List.setIfInBounds_toArray, List.set_cons_succ, List.set_cons_zero])
  refine wpPi_act (by rw [hops.out]; simp only [List.getElem?_toArray, List.getElem?_cons_succ, List.getElem?_cons_zero]; rfl) (by first | rfl | (rw [hops.out]; rfl)) ?_
  go_simp
  refine (left_any g2 _ _ _ HE2i.out.drew).mono ?_
  rw [e2.out]
  rintro e w' ⟨rfl, rfl⟩
  try (refine ⟨rfl, ?_⟩)
  iterate 2
    first | (refine wpPi_yield _ (by rw [hops.out]; simp only [List.getElem?_toArray, List.getElem?_cons_succ, List.getElem?_cons_zero]; rfl) (by first | rfl | (rw [hops.out]; rfl)) (fun w' hS => by subst hS; go_simp; rfl) ?_; simp only [Act.put, List.setIfInBounds_toArray, List.set_cons_succ, List.set_cons_zero]) | (refine wpPi_skip (by rw [hops.out]; simp only [List.getElem?_toArray, List.getElem?_cons_succ, List.getElem?_cons_zero]; rfl) (by first | rfl | (rw [hops.out]; rfl)) ?_; simp only [Act.put, List.setIfInBounds_toArray, List.set_cons_succ, List.set_cons_zero])
  refine wpPi_act (by rw [hops.out]; simp only [List.getElem?_toArray, List.getElem?_cons_succ, List.getElem?_cons_zero]; rfl) (by first | rfl | (rw [hops.out]; rfl)) ?_
  go_simp
  try (refine ⟨rfl, ?_⟩)
  iterate 30
    first | (refine wpPi_yield _ (by rw [hops.out]; simp only [List.getElem?_toArray, List.getElem?_cons_succ, List.getElem?_cons_zero]; rfl) (by first | rfl | (rw [hops.out]; rfl)) (fun w' hS => by subst hS; go_simp; rfl) ?_; simp only [Act.put, List.setIfInBounds_toArray, List.set_cons_succ, List.set_cons_zero]) | (refine wpPi_skip (by rw [hops.out]; simp only [List.getElem?_toArray, List.getElem?_cons_succ, List.getElem?_cons_zero]; rfl) (by first | rfl | (rw [hops.out]; rfl)) ?_; simp only [Act.put, List.setIfInBounds_toArray, List.set_cons_succ, List.set_cons_zero])
  refine wpPi_act (by rw [hops.out]; simp only [List.getElem?_toArray, List.getElem?_cons_succ, List.getElem?_cons_zero]; rfl) (by first | rfl | (rw [hops.out]; rfl)) ?_
  go_simp
  refine (compact_any _ _ (by have := HK.out; omega)).mono ?_
  rw [← HCS.out.2]
  rintro e w' ⟨rfl, rfl⟩
  try (refine ⟨rfl, ?_⟩)
  iterate 4
    first | (refine wpPi_yield _ (by rw [hops.out]; simp only [List.getElem?_toArray, List.getElem?_cons_succ, List.getElem?_cons_zero]; rfl) (by first | rfl | (rw [hops.out]; rfl)) (fun w' hS => by subst hS; go_simp; rfl) ?_; simp only [Act.put, List.setIfInBounds_toArray, List.set_cons_succ, List.set_cons_zero]) | (refine wpPi_skip (by rw [hops.out]; simp only [List.getElem?_toArray, List.getElem?_cons_succ, List.getElem?_cons_zero]; rfl) (by first | rfl | (rw [hops.out]; rfl)) ?_; simp only [Act.put, List.setIfInBounds_toArray, List.set_cons_succ, List.set_cons_zero])
  simp only [wpPi]
  go_wp2_with fail
  go_ret
  exact ⟨ret_bool (by simp), HB10.out.drew⟩

set_option maxHeartbeats 4000000 in
set_option maxRecDepth 100000 in
theorem octetShort_both (b : Value) (xs : List UInt8) (most : Int) (l : List UInt8) (m : Nat) (hgb : getBytes most xs = some (l, m)) (w : World) (hb : HB w b xs) (hmo : most ≤ 9223372036854775807) (hx : xs.length ≤ 20000) :
    Calls Try.prog 12 #[b, .int .i64 most] w fun e w' => e = .returned (.bool true) ∧ Below w.heap.size w w' := by
  have Hb := Lib.hid hb
  obtain ⟨A, c, rfl, hlc⟩ := hb.shape
  clear hb
  obtain ⟨hcs, k, hg, hlm, hmk, hml⟩ := getBytes_csize hgb
  have HMK := Lib.hid hmk; clear hmk
  have HGS := Lib.hid hg
  have HGB := Lib.hid hgb
  have HCS := Lib.hid (getSize_csize hg)
  have HCB := Lib.hid hcs
  have hk := getSize_some hg
  have HK := Lib.hid hk
  clear hg hgb hk hcs
  go_enter Try.func12, Try.ntmps12
  go_wp2_with (go_at_call 23; refine (alive1_any _).mono ?_; rintro e w1 ⟨rfl, hb1⟩)
  have HB1 := Lib.hid hb1; clear hb1
  refine (look_any _ xs _ (Hb.out.below HB1.out) (by omega)).mono ?_
  rintro e w2 ⟨g1, u1, rfl, hg1, he1, hu1, hb2⟩
  have HE1 := Lib.hid he1; have HU1 := Lib.hid hu1; have HB2 := Lib.hid (HB1.out.trans (hb2.mono HB1.out.size)); have HG1 := Lib.hid hg1
  clear he1 hu1 hb2 hg1
  go_wp2_with fail
  refine (look_any _ xs _ (Hb.out.below HB2.out) (by omega)).mono ?_
  rintro e w3 ⟨g2, u2, rfl, hg2, he2, hu2, hb3⟩
  have HE2 := Lib.hid he2; have HU2 := Lib.hid hu2; have HB3 := Lib.hid (HB2.out.trans (hb3.mono HB2.out.size)); have HG2 := Lib.hid hg2
  have HE1b := Lib.hid (HE1.out.below hb3)
  have hlt12 := Lib.hid (show g1 < g2 from Nat.lt_of_lt_of_le (blk_lt HE1.out.blk) hg2)
  clear he2 hu2 hb3 hg2
  go_wp2_with fail
  refine (esz_ok g1 u1 xs _ _ w3 HE1b.out HGS.out).mono ?_
  rintro e w4 ⟨u1', rfl, go1⟩
  have HE1c := Lib.hid go1.eye
  have hge1 : w.heap.size ≤ g1 := Nat.le_trans HB1.out.size HG1.out
  have hge2 : w.heap.size ≤ g2 := Nat.le_trans HB2.out.size HG2.out
  have HB4 := Lib.hid (HB3.out.trans (go1.chg.below (B := w.heap.size) (by intro k hk; simp at hk; omega) HB3.out.size))
  have HE2b := Lib.hid (show IsEye w4 g2 u2 xs from ⟨go1.chg.blk HE2.out.blk (by have := hlt12.out; simp; omega), HE2.out.left.chgN go1.chg (by intro k hk; simp at hk; subst hk; exact HE1b.out.no)⟩)
  have HN1 := Lib.hid HE1c.out.no
  have HGE1 := Lib.hid hge1; have HGE2 := Lib.hid hge2
  clear go1 hge1 hge2
  go_wp2_with fail
  refine (ebytes_ok g2 u2 xs l _ most w4 HE2b.out HGB.out hmo (by omega)).mono ?_
  rintro e w5 ⟨x, u2', rfl, hown, go2⟩
  have HX := Lib.hid (HB.of_own hown)
  have hxl : ∀ k, x.ownBlock = some k → k < w5.heap.size := fun k hk => (hown.lt k hk).2
  have HXL := Lib.hid hxl
  clear hxl
  obtain ⟨Ax, cx, rfl⟩ := own_slice hown
  clear hown
  have HE2c := Lib.hid go2.eye
  have HB5 := Lib.hid (HB4.out.trans (go2.chg.below (B := w.heap.size) (by intro k hk; simp at hk; have := HGE2.out; omega) HB4.out.size))
  have HE1d := Lib.hid (show IsEye w5 g1 _ _ from ⟨go2.chg.blk HE1c.out.blk (by have := hlt12.out; simp; omega), HE1c.out.left.chgN go2.chg (by intro k hk; simp at hk; subst hk; exact HE2b.out.no)⟩)
  clear go2
  obtain ⟨W5, hW5⟩ : ∃ W5, (w5.alloc (.cells #[.slice none 0 0] 39)).alloc (.cells #[.slice none 0 0] 39) = W5 := ⟨_, rfl⟩
  have hb55 : Below w5.heap.size w5 W5 := by rw [← hW5]; exact ((Below.refl _ _).alloc (Nat.le_refl _) _).alloc (by simp) _
  have hp5 : IsPen W5 w5.heap.size (.slice none 0 0) [] := by rw [← hW5]; exact (IsPen.new w5).below ((Below.refl _ _).alloc (Nat.le_refl _) _)
  have hq5 : IsPen W5 (w5.heap.size + 1) (.slice none 0 0) [] := by rw [← hW5]; simpa using IsPen.new (w5.alloc (.cells #[.slice none 0 0] 39))
  have HP := Lib.hid hp5; have HQ := Lib.hid hq5; have HB6 := Lib.hid (HB5.out.trans (hb55.mono HB5.out.size))
  have HE1e := Lib.hid (HE1d.out.below hb55); have HE2e := Lib.hid (HE2c.out.below hb55); have HBB := Lib.hid hb55
  have HL1 := Lib.hid (blk_lt HE1d.out.blk); have HL2 := Lib.hid (blk_lt HE2c.out.blk)
  clear hp5 hq5 hb55
  go_wp2_with fail
  clear hW5
  refine (psize_any w5.heap.size _ (.slice none 0 0) [] W5 HP.out (U64.of (by have := HK.out.2.2.2; exact this)) (by simp)).mono ?_
  rintro e w6 ⟨rfl, vp, gp⟩
  rw [Int.toNat_natCast, List.nil_append, HCS.out.1] at gp
  have HP6 := Lib.hid gp.pen
  have HB7 := Lib.hid (HB6.out.trans (gp.chg.below (B := w.heap.size) (by intro k hk; simp [Value.ownBlock] at hk; have := HB5.out.size; omega) HB6.out.size))
  have HQ6 := Lib.hid (HQ.out.chg gp.chg (by simp [Value.ownBlock]) (by simp [Value.ownBlock]))
  have HE1f := Lib.hid (show IsEye w6 g1 _ _ from ⟨gp.chg.blk HE1e.out.blk (by have := HL1.out; simp [Value.ownBlock]; omega), HE1e.out.left.chgN gp.chg (by intro k hk; simp [Value.ownBlock] at hk; subst hk; exact HP.out.no)⟩)
  have HE2f := Lib.hid (show IsEye w6 g2 _ _ from ⟨gp.chg.blk HE2e.out.blk (by have := HL2.out; simp [Value.ownBlock]; omega), HE2e.out.left.chgN gp.chg (by intro k hk; simp [Value.ownBlock] at hk; subst hk; exact HP.out.no)⟩)
  have HX6 := Lib.hid ((HX.out.below HBB.out).chgN gp.chg (by intro k hk; simp [Value.ownBlock] at hk; subst hk; exact HP.out.no))
  clear gp
  go_wp2_with fail
  refine (pbytes_any (w5.heap.size + 1) _ (.slice none 0 0) l [] w6 HQ6.out HX6.out (by have := HK.out; have := HMK.out; simp; omega) (by intro k hk; have := HXL.out k hk; simp [Value.ownBlock]; omega)).mono ?_
  rintro e w7 ⟨rfl, vq, gq⟩
  rw [List.nil_append, HCB.out] at gq
  have HQ7 := Lib.hid gq.pen
  have HB8 := Lib.hid (HB7.out.trans (gq.chg.below (B := w.heap.size) (by intro k hk; simp [Value.ownBlock] at hk; have := HB5.out.size; omega) HB7.out.size))
  have HP7 := Lib.hid (HP6.out.chg gq.chg (by simp [Value.ownBlock]) (by intro k hk; have := own_ne HP6.out.row HQ6.out.blk (by decide); simp [Value.ownBlock]; intro e; subst e; exact this hk))
  have HE1g := Lib.hid (show IsEye w7 g1 _ _ from ⟨gq.chg.blk HE1f.out.blk (by have := HL1.out; simp [Value.ownBlock]; omega), HE1f.out.left.chgN gq.chg (by intro k hk; simp [Value.ownBlock] at hk; subst hk; exact HQ6.out.no)⟩)
  have HE2g := Lib.hid (show IsEye w7 g2 _ _ from ⟨gq.chg.blk HE2f.out.blk (by have := HL2.out; simp [Value.ownBlock]; omega), HE2f.out.left.chgN gq.chg (by intro k hk; simp [Value.ownBlock] at hk; subst hk; exact HQ6.out.no)⟩)
  clear gq
  go_wp2_with fail
  refine (pall_any w5.heap.size vp (xs.take k) w7 HP7.out (by simp <;> omega)).mono ?_
  rintro e w8 ⟨v8, rfl, hown8, hbl8⟩
  have HV8 := Lib.hid (HB.of_own hown8)
  rw [show (xs.take k).length = k from by have := HK.out; simp; omega] at hown8
  obtain ⟨A8, c8, rfl⟩ := own_slice hown8
  have HQ9 := Lib.hid (HQ7.out.below hbl8); have HB9 := Lib.hid (HB8.out.trans (hbl8.mono HB8.out.size))
  have HE1h := Lib.hid (HE1g.out.below hbl8); have HE2h := Lib.hid (HE2g.out.below hbl8)
  clear hown8 hbl8
  go_wp2_with fail
  refine (pall_any (w5.heap.size + 1) vq (xs.take m) w8 HQ9.out (by simp <;> omega)).mono ?_
  rintro e w9 ⟨v9, rfl, hown9, hbl9⟩
  have HV9 := Lib.hid (HB.of_own hown9)
  have HV8b := Lib.hid (HV8.out.below hbl9); have HB10 := Lib.hid (HB9.out.trans (hbl9.mono HB9.out.size))
  have HE1i := Lib.hid (HE1h.out.below hbl9); have HE2i := Lib.hid (HE2h.out.below hbl9)
  clear hown9 hbl9
  go_wp2_with fail
  have hs8 := HV8b.out.drew.string (P := Try.prog) 29 9 5 Try.underlying29 Try.underlying5 Try.underlying9
  have hs9 := HV9.out.drew.string (P := Try.prog) 29 9 5 Try.underlying29 Try.underlying5 Try.underlying9
  have HBx := Lib.hid (Hb.out.below HB10.out)
  have c1 := run_cut_h 29 5 Try.underlying29 size5 A xs.length c k (by have := HK.out; omega) hlc
  have c2 := run_cut_h 29 5 Try.underlying29 size5 A xs.length c m hml hlc
  have hs1 := (HBx.out.take (b := k) (by have := HK.out; omega)).drew.string (P := Try.prog) 29 9 5 Try.underlying29 Try.underlying5 Try.underlying9
  have hs2 := (HBx.out.take (b := m) hml).drew.string (P := Try.prog) 29 9 5 Try.underlying29 Try.underlying5 Try.underlying9
  have e1 := Lib.hid (show (((xs.drop k).length : Nat) : Int) = (xs.length : Int) - (k : Nat) from by have := HK.out; simp; omega)
  have e2 := Lib.hid (show (((xs.drop m).length : Nat) : Int) = (xs.length : Int) - (m : Nat) from by simp; omega)
  have w1' : IntKind.i64.wrap ((xs.length : Int) - ((xs.length : Int) - ((k : Nat) : Int))) = ((k : Nat) : Int) := by rw [IntKind.wrap_i64]; have := HK.out; omega
  have w0' : IntKind.i64.wrap (0 : Int) = 0 := by decide
  have wl : IntKind.u64.wrap (l.length : Int) = (l.length : Int) := by rw [IntKind.wrap_u64]; have := HMK.out; omega
  have w2' : IntKind.i64.wrap ((xs.length : Int) - ((xs.length : Int) - ((m : Nat) : Int))) = ((m : Nat) : Int) := by rw [IntKind.wrap_i64]; omega
  refine wp_region_pi [(0, true), (1, true), (2, true), (3, true), (4, true), (5, true), (6, true), (7, true), (8, false), (9, true), (10, true), (11, false), (12, true), (13, true), (14, true), (15, true), (16, true), (17, true), (18, true), (19, true), (20, true), (21, false), (22, true), (23, true), (24, false), (25, true), (26, true), (27, true), (28, true), (29, true), (30, true), (31, true), (32, true), (33, true), (34, true), (35, true), (36, true), (37, true), (38, true), (39, true), (40, true), (41, true), (42, true), (43, true), (44, true), (45, true), (46, true), (47, true), (48, true), (49, true), (50, true), (51, true), (52, true), (53, true), (54, true), (55, false), (56, true), (57, true), (58, true), (59, true)] (by kernel_rfl) (by kernel_rfl) rfl (by kernel_rfl) (fun _ _ _ _ _ h => h) (fun w' => w' = w9.drew) rfl ?_
  intro OPS hops
  iterate 8
    first | (refine wpPi_yield _ (by rw [hops.out]; simp only [List.getElem?_toArray, List.getElem?_cons_succ, List.getElem?_cons_zero]; rfl) (by first | rfl | (rw [hops.out]; rfl)) (fun w' hS => by subst hS; go_simp; rfl) ?_; simp only [Act.put, List.setIfInBounds_toArray, List.set_cons_succ, List.set_cons_zero]) | (refine wpPi_skip (by rw [hops.out]; simp only [List.getElem?_toArray, List.getElem?_cons_succ, List.getElem?_cons_zero]; rfl) (by first | rfl | (rw [hops.out]; rfl)) ?_; simp only [Act.put, List.setIfInBounds_toArray, List.set_cons_succ, List.set_cons_zero])
  refine wpPi_act (by rw [hops.out]; simp only [List.getElem?_toArray, List.getElem?_cons_succ, List.getElem?_cons_zero]; rfl) (by first | rfl | (rw [hops.out]; rfl)) ?_
  go_simp
  refine (left_any g1 _ _ _ HE1i.out.drew).mono ?_
  rw [e1.out]
  rintro e w' ⟨rfl, rfl⟩
  try (refine ⟨rfl, ?_⟩)
  iterate 2
    first | (refine wpPi_yield _ (by rw [hops.out]; simp only [List.getElem?_toArray, List.getElem?_cons_succ, List.getElem?_cons_zero]; rfl) (by first | rfl | (rw [hops.out]; rfl)) (fun w' hS => by subst hS; go_simp; rfl) ?_; simp only [Act.put, List.setIfInBounds_toArray, List.set_cons_succ, List.set_cons_zero]) | (refine wpPi_skip (by rw [hops.out]; simp only [List.getElem?_toArray, List.getElem?_cons_succ, List.getElem?_cons_zero]; rfl) (by first | rfl | (rw [hops.out]; rfl)) ?_; simp only [Act.put, List.setIfInBounds_toArray, List.set_cons_succ, List.set_cons_zero])
  refine wpPi_act (by rw [hops.out]; simp only [List.getElem?_toArray, List.getElem?_cons_succ, List.getElem?_cons_zero]; rfl) (by first | rfl | (rw [hops.out]; rfl)) ?_
  go_simp
  try (refine ⟨rfl, ?_⟩)
  iterate 9
    first | (refine wpPi_yield _ (by rw [hops.out]; simp only [List.getElem?_toArray, List.getElem?_cons_succ, List.getElem?_cons_zero]; rfl) (by first | rfl | (rw [hops.out]; rfl)) (fun w' hS => by subst hS; go_simp; rfl) ?_; simp only [Act.put, List.setIfInBounds_toArray, List.set_cons_succ, List.set_cons_zero]) | (refine wpPi_skip (by rw [hops.out]; simp only [List.getElem?_toArray, List.getElem?_cons_succ, List.getElem?_cons_zero]; rfl) (by first | rfl | (rw [hops.out]; rfl)) ?_; simp only [Act.put, List.setIfInBounds_toArray, List.set_cons_succ, List.set_cons_zero])
  refine wpPi_act (by rw [hops.out]; simp only [List.getElem?_toArray, List.getElem?_cons_succ, List.getElem?_cons_zero]; rfl) (by first | rfl | (rw [hops.out]; rfl)) ?_
  go_simp
  refine (left_any g2 _ _ _ HE2i.out.drew).mono ?_
  rw [e2.out]
  rintro e w' ⟨rfl, rfl⟩
  try (refine ⟨rfl, ?_⟩)
  iterate 2
    first | (refine wpPi_yield _ (by rw [hops.out]; simp only [List.getElem?_toArray, List.getElem?_cons_succ, List.getElem?_cons_zero]; rfl) (by first | rfl | (rw [hops.out]; rfl)) (fun w' hS => by subst hS; go_simp; rfl) ?_; simp only [Act.put, List.setIfInBounds_toArray, List.set_cons_succ, List.set_cons_zero]) | (refine wpPi_skip (by rw [hops.out]; simp only [List.getElem?_toArray, List.getElem?_cons_succ, List.getElem?_cons_zero]; rfl) (by first | rfl | (rw [hops.out]; rfl)) ?_; simp only [Act.put, List.setIfInBounds_toArray, List.set_cons_succ, List.set_cons_zero])
  refine wpPi_act (by rw [hops.out]; simp only [List.getElem?_toArray, List.getElem?_cons_succ, List.getElem?_cons_zero]; rfl) (by first | rfl | (rw [hops.out]; rfl)) ?_
  go_simp
  try (refine ⟨rfl, ?_⟩)
  iterate 30
    first | (refine wpPi_yield _ (by rw [hops.out]; simp only [List.getElem?_toArray, List.getElem?_cons_succ, List.getElem?_cons_zero]; rfl) (by first | rfl | (rw [hops.out]; rfl)) (fun w' hS => by subst hS; go_simp; rfl) ?_; simp only [Act.put, List.setIfInBounds_toArray, List.set_cons_succ, List.set_cons_zero]) | (refine wpPi_skip (by rw [hops.out]; simp only [List.getElem?_toArray, List.getElem?_cons_succ, List.getElem?_cons_zero]; rfl) (by first | rfl | (rw [hops.out]; rfl)) ?_; simp only [Act.put, List.setIfInBounds_toArray, List.set_cons_succ, List.set_cons_zero])
  refine wpPi_act (by rw [hops.out]; simp only [List.getElem?_toArray, List.getElem?_cons_succ, List.getElem?_cons_zero]; rfl) (by first | rfl | (rw [hops.out]; rfl)) ?_
  go_simp
  refine (compact_any _ _ (by have := HK.out; omega)).mono ?_
  rw [← HCS.out.2]
  rintro e w' ⟨rfl, rfl⟩
  try (refine ⟨rfl, ?_⟩)
  iterate 4
    first | (refine wpPi_yield _ (by rw [hops.out]; simp only [List.getElem?_toArray, List.getElem?_cons_succ, List.getElem?_cons_zero]; rfl) (by first | rfl | (rw [hops.out]; rfl)) (fun w' hS => by subst hS; go_simp; rfl) ?_; simp only [Act.put, List.setIfInBounds_toArray, List.set_cons_succ, List.set_cons_zero]) | (refine wpPi_skip (by rw [hops.out]; simp only [List.getElem?_toArray, List.getElem?_cons_succ, List.getElem?_cons_zero]; rfl) (by first | rfl | (rw [hops.out]; rfl)) ?_; simp only [Act.put, List.setIfInBounds_toArray, List.set_cons_succ, List.set_cons_zero])
  simp only [wpPi]
  go_wp2_with fail
  go_ret
  exact ⟨ret_bool (by simp), HB10.out.drew⟩

set_option maxHeartbeats 400000 in
set_option maxRecDepth 100000 in
theorem octetShort_walk (b : Value) (xs : List UInt8) (most : Int) (w : World) (hb : HB w b xs) (hmo : most ≤ 9223372036854775807) :
    Calls Try.prog 12 #[b, .int .i64 most] w fun e w' => e = .returned (.bool true) ∧ Below w.heap.size w w' := by
  by_cases hx : xs.length ≤ 20000
  · rcases hg : getSize xs with _ | ⟨n, k⟩
    · exact octetShort_none b xs most hg w hb hmo hx
    · rcases hgb : getBytes most xs with _ | ⟨l, m⟩
      · exact octetShort_one b xs most n k hg hgb w hb hmo hx
      · exact octetShort_both b xs most l m hgb w hb hmo hx
  · obtain ⟨A, c, rfl, hlc⟩ := hb.shape
    clear hb
    go_enter Try.func12, Try.ntmps12
    go_wp2_with (go_at_call 23; refine (alive1_any _).mono ?_; rintro e w1 ⟨rfl, hb1⟩)
    go_ret
    exact ⟨rfl, hb1⟩
end
end Go.Proofs.Ytkibccmfgndfjaa
