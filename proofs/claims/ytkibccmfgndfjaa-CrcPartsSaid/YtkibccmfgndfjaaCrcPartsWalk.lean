/- Contracts and words that the laws stand on (CrcPartsWalk). -/
import Derived.Test.YtkibccmfgndfjaaCrcAlive
import Derived.Test.YtkibccmfgndfjaaCrcLin
import Derived.Test.YtkibccmfgndfjaaInv
set_option linter.unusedVariables false
set_option linter.unusedSimpArgs false
namespace Go.Proofs.Ytkibccmfgndfjaa
section
open Go.RowKit Go.Proofs
def X3Rel (xs ys zs : List UInt8) (m : Nat) (w : World) (s17 s16 : Value) (w' : World) : Prop :=
  ∃ k : Nat, k ≤ m ∧ s17 = .int .i64 k ∧ w'.ownsRow w.heap.size 5 1 s16 (x3 xs ys zs k).length (bs (x3 xs ys zs k)) ∧ Below w.heap.size w w'
set_option maxHeartbeats 4000000 in
set_option maxRecDepth 100000 in
theorem tmod_nat (N L : Nat) : (N : Int).tmod ((L : Int) + 1) = ((N % (L + 1) : Nat) : Int) := by
  rw [Int.tmod_eq_emod_of_nonneg (by omega)]
  rfl
set_option maxHeartbeats 4000000 in
set_option maxRecDepth 100000 in
theorem crcParts_walk (b0 b1 b2 : Value) (xs ys zs : List UInt8) (n m : Int) (w : World) (h0 : HB w b0 xs) (h1 : HB w b1 ys) (h2 : HB w b2 zs) (hn : 0 ≤ n ∧ n < 65536) (hm : 0 ≤ m ∧ m < 65536) :
    Calls Try.prog 5 #[b0, b1, b2, .int .u16 n, .int .u16 m] w fun e w' => e = .returned (.bool true) ∧ Below w.heap.size w w' := by
  have H0 := Lib.hid h0; have H1 := Lib.hid h1; have H2 := Lib.hid h2
  obtain ⟨A0, c0, rfl, hl0⟩ := h0.shape
  obtain ⟨A1, c1, rfl, hl1⟩ := h1.shape
  obtain ⟨A2, c2, rfl, hl2⟩ := h2.shape
  clear h0 h1 h2
  obtain ⟨N, rfl⟩ := Int.eq_ofNat_of_zero_le hn.1
  obtain ⟨M, rfl⟩ := Int.eq_ofNat_of_zero_le hm.1
  have wN : IntKind.i64.wrap (N : Int) = (N : Int) := by rw [IntKind.wrap_i64]; omega
  have wM : IntKind.i64.wrap (M : Int) = (M : Int) := by rw [IntKind.wrap_i64]; omega
  by_cases hx : xs.length ≤ 3000
  · by_cases hy : ys.length ≤ 3000
    · by_cases hz : zs.length ≤ 3000
      · obtain ⟨i, hi, hil⟩ : ∃ i : Nat, (N : Int).tmod ((xs.length : Int) + 1) = (i : Int) ∧ i ≤ xs.length := ⟨N % (xs.length + 1), tmod_nat N xs.length, by have := Nat.mod_lt N (show 0 < xs.length + 1 by omega); omega⟩
        obtain ⟨d, hd, hdl⟩ : ∃ d : Nat, (M : Int).tmod ((xs.length : Int) - (i : Int) + 1) = (d : Int) ∧ d ≤ xs.length - i := ⟨M % (xs.length - i + 1), by rw [show (xs.length : Int) - (i : Int) = ((xs.length - i : Nat) : Int) by omega]; exact tmod_nat M _, by have := Nat.mod_lt M (show 0 < xs.length - i + 1 by omega); omega⟩
        obtain ⟨j, hj⟩ : ∃ j, j = i + d := ⟨_, rfl⟩
        have hij : i ≤ j := by omega
        have hjl : j ≤ xs.length := by omega
        have hxb : decide ((3000 : Int) < (xs.length : Int)) = false := by simp; omega
        have hyb : decide ((3000 : Int) < (ys.length : Int)) = false := by simp; omega
        have hzb : decide ((3000 : Int) < (zs.length : Int)) = false := by simp; omega
        obtain ⟨m1, hm1, hm1x, hm1y⟩ : ∃ m1 : Nat, (if ys.length < xs.length then ((ys.length : Nat) : Int) else ((xs.length : Nat) : Int)) = (m1 : Int) ∧ m1 ≤ xs.length ∧ m1 ≤ ys.length := ⟨if ys.length < xs.length then ys.length else xs.length, by split <;> rfl, by split <;> omega, by split <;> omega⟩
        obtain ⟨m0, hm2, hm0x, hm0z⟩ : ∃ m0 : Nat, (if zs.length < m1 then ((zs.length : Nat) : Int) else (m1 : Int)) = (m0 : Int) ∧ m0 ≤ m1 ∧ m0 ≤ zs.length := ⟨if zs.length < m1 then zs.length else m1, by split <;> rfl, by split <;> omega, by split <;> omega⟩
        clear hn hm
        go_enter Try.func5, Try.ntmps5
        go_wp2_with (go_at_call 22; refine (alive2_any _).mono ?_; rintro e w1 ⟨rfl, hb1⟩; have HB1 := Lib.hid hb1; clear hb1)
        have Hx := Lib.hid (H0.out.below HB1.out)
        refine (sum_new _ xs w1 Hx.out (by omega)).mono ?_
        rintro e w2 ⟨rfl, hb2⟩
        have HB2 := Lib.hid (HB1.out.trans (hb2.mono HB1.out.size))
        have Hx2 := Lib.hid (Hx.out.below hb2)
        clear hb2 HB1 Hx
        rw [show (i : Int) + (d : Int) = (j : Int) by omega]
        have e1 : xs.take i ++ ((xs.drop i).take (j - i)) = xs.take j := by rw [← List.take_add]; congr 1; omega
        have e2 : xs.take j ++ xs.drop j = xs := List.take_append_drop j xs
        have hT := Hx2.out.take (b := i) (by omega)
        have hM := Hx2.out.cut hij hjl
        have hD := Hx2.out.drop hjl
        have k1 := run_cut_h 29 5 Try.underlying29 size5 A0 xs.length c0 i hil hl0
        have k2 := run_cut_lh 29 5 Try.underlying29 size5 A0 xs.length c0 i j hij hjl hl0
        have k3 := run_cut_l 29 5 Try.underlying29 size5 A0 xs.length c0 j hjl
        have hfl : [xs.take i, (xs.drop i).take (j - i), xs.drop j].flatten = xs := by
          simp only [List.flatten_cons, List.flatten_nil, List.append_nil]
          rw [← List.append_assoc, e1, e2]
        have q1 := crcOn_lt 0 (xs.take i)
        have q2 := crcOn_append 0 (by omega) (xs.take i) ((xs.drop i).take (j - i))
        have q3 := crcOn_append 0 (by omega) (xs.take j) (xs.drop j)
        rw [e2] at q3
        rw [e1] at q2
        have q4 := crcOn_lt 0 (xs.take j)
        have lT : (xs.take i).length ≤ 1000000 := by simp; omega
        have lM : ((xs.drop i).take (j - i)).length ≤ 1000000 := by simp; omega
        have lD : (xs.drop j).length ≤ 1000000 := by simp; omega
        generalize xs.take i = tx at *
        generalize (xs.drop i).take (j - i) = mx at *
        generalize xs.drop j = dx at *
        generalize xs.take j = jx at *
        generalize hqx : crcOn 0 xs = q at *
        generalize hqi : crcOn 0 tx = qi at *
        generalize crcOn 0 jx = qj at *
        have Q1 := Lib.hid q1; have Q2 := Lib.hid q2.symm; have Q3 := Lib.hid q3.symm; have Q4 := Lib.hid q4; have QI := Lib.hid hqi; have HFL := Lib.hid hfl; have QX := Lib.hid hqx
        have HT := Lib.hid hT; have HM := Lib.hid hM; have HD := Lib.hid hD
        have hqq : ((q : Int) != (q : Int)) = false := by simp
        have hqe : (!((q : Int) == (q : Int))) = false := by simp
        clear q1 q2 q3 q4 hqi hqx hfl hT hM hD e1 e2 hi hd hdl hil hj
        go_wp2_with fail
        refine wp_region_pi [(0, true), (1, true), (2, true), (3, true), (4, true), (5, true), (6, true), (7, true), (8, true), (9, true), (12, true), (10, false), (11, false), (13, true), (14, true), (15, true), (16, true), (17, true), (20, true), (21, true), (22, true), (23, true), (25, true), (26, true), (27, true), (29, true), (18, false), (19, false), (24, false), (28, false), (30, true), (31, true)] (by kernel_rfl) (by kernel_rfl) rfl (by kernel_rfl) (fun _ _ _ _ _ h => h) (fun w' => Below w2.heap.size w2 w') (Below.refl _ _).drew ?_
        intro OPS hops
        iterate 11
          first | (refine wpPi_yield _ (by rw [hops.out]; simp only [List.getElem?_toArray, List.getElem?_cons_succ, List.getElem?_cons_zero]; rfl) (by first | rfl | (rw [hops.out]; rfl)) (fun w' hS => by go_simp; rfl) ?_; simp only [Act.put, List.setIfInBounds_toArray, List.set_cons_succ, List.set_cons_zero]) | (refine wpPi_skip (by rw [hops.out]; simp only [List.getElem?_toArray, List.getElem?_cons_succ, List.getElem?_cons_zero]; rfl) (by first | rfl | (rw [hops.out]; rfl)) ?_; simp only [Act.put, List.setIfInBounds_toArray, List.set_cons_succ, List.set_cons_zero])
        refine wpPi_act (by rw [hops.out]; simp only [List.getElem?_toArray, List.getElem?_cons_succ, List.getElem?_cons_zero]; rfl) (by first | rfl | (rw [hops.out]; rfl)) ?_
        go_simp
        have HBa := Lib.hid ((Below.refl w2.heap.size w2).drew.alloc (Nat.le_refl _) (.cells #[.slice A0 i c0, .slice (cutA A0 c0 i) (j - i) (c0 - i), .slice (cutA A0 c0 j) (xs.length - j) (c0 - j)] 29))
        try (refine ⟨(by first | exact (Below.refl _ _).drew | exact HBa.out | exact HBb.out | exact HBc.out | exact HBd.out | exact HBe.out | exact HBf.out), ?_⟩)
        refine wpPi_act (by rw [hops.out]; simp only [List.getElem?_toArray, List.getElem?_cons_succ, List.getElem?_cons_zero]; rfl) (by first | rfl | (rw [hops.out]; rfl)) ?_
        go_simp
        refine (sum_any _ [tx, mx, dx] _ (HParts.three (w := w2.drew) HT.out.drew HM.out.drew HD.out.drew 29) (by rw [HFL.out]; omega) (by simp)).mono ?_
        rw [HFL.out, QX.out]
        rintro e w3 ⟨rfl, hb3⟩
        have HBb := Lib.hid (HBa.out.trans (hb3.mono HBa.out.size))
        clear hb3
        try (refine ⟨(by first | exact (Below.refl _ _).drew | exact HBa.out | exact HBb.out | exact HBc.out | exact HBd.out | exact HBe.out | exact HBf.out), ?_⟩)
        iterate 13
          first | (refine wpPi_yield _ (by rw [hops.out]; simp only [List.getElem?_toArray, List.getElem?_cons_succ, List.getElem?_cons_zero]; rfl) (by first | rfl | (rw [hops.out]; rfl)) (fun w' hS => by go_simp; rfl) ?_; simp only [Act.put, List.setIfInBounds_toArray, List.set_cons_succ, List.set_cons_zero]) | (refine wpPi_skip (by rw [hops.out]; simp only [List.getElem?_toArray, List.getElem?_cons_succ, List.getElem?_cons_zero]; rfl) (by first | rfl | (rw [hops.out]; rfl)) ?_; simp only [Act.put, List.setIfInBounds_toArray, List.set_cons_succ, List.set_cons_zero])
        refine wpPi_act (by rw [hops.out]; simp only [List.getElem?_toArray, List.getElem?_cons_succ, List.getElem?_cons_zero]; rfl) (by first | rfl | (rw [hops.out]; rfl)) ?_
        go_simp
        have HBc := Lib.hid (HBb.out.alloc HBb.out.size (.cells #[.slice A0 i c0] 29))
        try (refine ⟨(by first | exact (Below.refl _ _).drew | exact HBa.out | exact HBb.out | exact HBc.out | exact HBd.out | exact HBe.out | exact HBf.out), ?_⟩)
        refine wpPi_act (by rw [hops.out]; simp only [List.getElem?_toArray, List.getElem?_cons_succ, List.getElem?_cons_zero]; rfl) (by first | rfl | (rw [hops.out]; rfl)) ?_
        go_simp
        refine (sum_new _ tx _ (HT.out.below HBb.out) lT).mono ?_
        rw [QI.out]
        rintro e w4 ⟨rfl, hb4⟩
        have HBd := Lib.hid (HBb.out.trans (hb4.mono HBb.out.size))
        clear hb4
        try (refine ⟨(by first | exact (Below.refl _ _).drew | exact HBa.out | exact HBb.out | exact HBc.out | exact HBd.out | exact HBe.out | exact HBf.out), ?_⟩)
        refine wpPi_act (by rw [hops.out]; simp only [List.getElem?_toArray, List.getElem?_cons_succ, List.getElem?_cons_zero]; rfl) (by first | rfl | (rw [hops.out]; rfl)) ?_
        go_simp
        refine (on_any qi Q1.out _ mx _ (HM.out.below HBd.out) lM).mono ?_
        rw [Q2.out]
        rintro e w5 ⟨rfl, hb5⟩
        have HBe := Lib.hid (HBd.out.trans (hb5.mono HBd.out.size))
        clear hb5
        try (refine ⟨(by first | exact (Below.refl _ _).drew | exact HBa.out | exact HBb.out | exact HBc.out | exact HBd.out | exact HBe.out | exact HBf.out), ?_⟩)
        refine wpPi_act (by rw [hops.out]; simp only [List.getElem?_toArray, List.getElem?_cons_succ, List.getElem?_cons_zero]; rfl) (by first | rfl | (rw [hops.out]; rfl)) ?_
        go_simp
        refine (on_any qj Q4.out _ dx _ (HD.out.below HBe.out) lD).mono ?_
        rw [Q3.out]
        rintro e w6 ⟨rfl, hb6⟩
        have HBf := Lib.hid (HBe.out.trans (hb6.mono HBe.out.size))
        clear hb6
        try (refine ⟨(by first | exact (Below.refl _ _).drew | exact HBa.out | exact HBb.out | exact HBc.out | exact HBd.out | exact HBe.out | exact HBf.out), ?_⟩)
        iterate 2
          first | (refine wpPi_yield _ (by rw [hops.out]; simp only [List.getElem?_toArray, List.getElem?_cons_succ, List.getElem?_cons_zero]; rfl) (by first | rfl | (rw [hops.out]; rfl)) (fun w' hS => by go_simp; rfl) ?_; simp only [Act.put, List.setIfInBounds_toArray, List.set_cons_succ, List.set_cons_zero]) | (refine wpPi_skip (by rw [hops.out]; simp only [List.getElem?_toArray, List.getElem?_cons_succ, List.getElem?_cons_zero]; rfl) (by first | rfl | (rw [hops.out]; rfl)) ?_; simp only [Act.put, List.setIfInBounds_toArray, List.set_cons_succ, List.set_cons_zero])
        simp only [wpPi]
        have HBW := Lib.hid (HB2.out.trans (HBf.out.mono HB2.out.size))
        clear HBa HBb HBc HBd HBe HBf HT HM HD HFL QI QX Q1 Q2 Q3 Q4 k1 k2 k3 lT lM lD
        go_wp2_with fail
        clear hm1 hm2 hqq hqe
        go_loopw [17, 16] (fun s17 s16 w' => X3Rel xs ys zs m0 w s17 s16 w') (fun s17 _ _ => m0 - (intOf s17).toNat)
        case atStart => exact ⟨0, by omega, rfl, World.ownsRow_nil _ _ _ _, HBW.out⟩
        case round =>
          obtain ⟨k, hk, rfl, hown, hbk⟩ := hrel
          have HO := Lib.hid hown; have HBk := Lib.hid hbk
          obtain ⟨A5, c5, rfl⟩ := own_slice hown
          clear hown hbk
          by_cases hlt : k < m0
          · obtain ⟨a0, rfl, hc0⟩ := H0.out.at_ (i := k) (by omega) (by omega)
            obtain ⟨a1, rfl, hc1⟩ := H1.out.at_ (i := k) (by omega) (by omega)
            obtain ⟨a2, rfl, hc2⟩ := H2.out.at_ (i := k) (by omega) (by omega)
            have hsn := x3_succ xs ys zs k (by omega) (by omega) (by omega)
            have hx3l := x3_length xs ys zs k
            generalize xs[k] = x at *
            generalize ys[k] = y at *
            generalize zs[k] = z at *
            obtain ⟨p, hp⟩ : ∃ p : UInt8, p = x ^^^ y := ⟨_, rfl⟩
            obtain ⟨q2, hq2⟩ : ∃ q : UInt8, q = p ^^^ z := ⟨_, rfl⟩
            have b1 : bits .xor .u8 (x.toNat : Int) (y.toNat : Int) = (p.toNat : Int) := by
              have := u8_xor_nat x.toNat y.toNat x.toNat_lt y.toNat_lt
              rw [this, hp, UInt8.toNat_xor]
            have b2 : bits .xor .u8 (p.toNat : Int) (z.toNat : Int) = (q2.toNat : Int) := by
              have := u8_xor_nat p.toNat z.toNat p.toNat_lt z.toNat_lt
              rw [this, hq2, UInt8.toNat_xor]
            rw [← hp, ← hq2] at hsn
            have ki0 : (0 : Int) ≤ (k : Int) := by omega
            have ki1 : (k : Int) < (xs.length : Int) := by omega
            have ki2 : (k : Int) < (ys.length : Int) := by omega
            have ki3 : (k : Int) < (zs.length : Int) := by omega
            have hcell : ∀ w', Below w.heap.size w w' → w'.cell? (a0.add k) = some (.int .u8 (x.toNat : Int)) ∧ w'.cell? (a1.add k) = some (.int .u8 (y.toNat : Int)) ∧ w'.cell? (a2.add k) = some (.int .u8 (z.toNat : Int)) := fun w' hb =>
              ⟨(World.cell?_of_block (hb.block _ (World.block_lt_of_cell? w _ hc0))).trans hc0, (World.cell?_of_block (hb.block _ (World.block_lt_of_cell? w _ hc1))).trans hc1, (World.cell?_of_block (hb.block _ (World.block_lt_of_cell? w _ hc2))).trans hc2⟩
            have HCELL := Lib.hid hcell; have HSN := Lib.hid hsn; have HXL := Lib.hid hx3l
            clear hcell hsn hx3l hc0 hc1 hc2 hp hq2
            go_wp2_with fail
            refine wp_region_pi [(0, true), (1, true), (2, true), (3, true), (4, true), (5, true), (6, true), (7, true), (8, true), (9, true), (10, true), (11, true), (12, true), (13, true), (14, true), (15, false), (16, false), (17, true)] (by kernel_rfl) (by kernel_rfl) rfl (by kernel_rfl) (fun _ _ _ _ _ h => h) (fun w' => Below w.heap.size w w') HBk.out.drew ?_
            intro OPS hops
            iterate 15
              first | (refine wpPi_yield _ (by rw [hops.out]; simp only [List.getElem?_toArray, List.getElem?_cons_succ, List.getElem?_cons_zero]; rfl) (by first | rfl | (rw [hops.out]; rfl)) (fun w' hS => by obtain ⟨t1, t2, t3⟩ := HCELL.out w' hS; go_simp; rfl) ?_; simp only [Act.put, List.setIfInBounds_toArray, List.set_cons_succ, List.set_cons_zero]) | (refine wpPi_skip (by rw [hops.out]; simp only [List.getElem?_toArray, List.getElem?_cons_succ, List.getElem?_cons_zero]; rfl) (by first | rfl | (rw [hops.out]; rfl)) ?_; simp only [Act.put, List.setIfInBounds_toArray, List.set_cons_succ, List.set_cons_zero])
            refine wpPi_act (by rw [hops.out]; simp only [List.getElem?_toArray, List.getElem?_cons_succ, List.getElem?_cons_zero]; rfl) (by first | rfl | (rw [hops.out]; rfl)) ?_
            go_simp
            have HBy := Lib.hid (HBk.out.drew.alloc HBk.out.size (.cells #[.int .u8 (q2.toNat : Int)] 5))
            try (refine ⟨(by first | exact HBy.out | exact HBz.out), ?_⟩)
            refine wpPi_act (by rw [hops.out]; simp only [List.getElem?_toArray, List.getElem?_cons_succ, List.getElem?_cons_zero]; rfl) (by first | rfl | (rw [hops.out]; rfl)) ?_
            refine wp_pushes _ (.tmp 100) (.tmp 115) 29 rfl w.heap.size 5 Try.underlying29 u8_info _ (x3 xs ys zs k) [q2] _ rfl rfl (own_chg HO.out ((Chg.refl [] wr).drew.alloc _) (by simp)) (HB.lit wr.drew [q2] 5 (0, 0)) (by rw [HXL.out]; simp; omega) HBy.out.size ?_
            intro v' w' hown' hg hnx
            rw [← HSN.out] at hown'
            have HBz := Lib.hid (HBy.out.grown hg HBy.out.size (fun k hk => (HO.out.lt k hk).1))
            obtain ⟨A6, c6, rfl⟩ := own_slice hown'
            have HO6 := Lib.hid hown'
            clear hown' hg hnx
            try (refine ⟨(by first | exact HBy.out | exact HBz.out), ?_⟩)
            iterate 1
              first | (refine wpPi_yield _ (by rw [hops.out]; simp only [List.getElem?_toArray, List.getElem?_cons_succ, List.getElem?_cons_zero]; rfl) (by first | rfl | (rw [hops.out]; rfl)) (fun w' hS => by obtain ⟨t1, t2, t3⟩ := HCELL.out w' hS; go_simp; rfl) ?_; simp only [Act.put, List.setIfInBounds_toArray, List.set_cons_succ, List.set_cons_zero]) | (refine wpPi_skip (by rw [hops.out]; simp only [List.getElem?_toArray, List.getElem?_cons_succ, List.getElem?_cons_zero]; rfl) (by first | rfl | (rw [hops.out]; rfl)) ?_; simp only [Act.put, List.setIfInBounds_toArray, List.set_cons_succ, List.set_cons_zero])
            simp only [wpPi]
            go_wp2_with fail
            go_roundw
            case rel => exact ⟨k + 1, by omega, by go_num, HO6.out, HBz.out⟩
            case measure => simp [intOf]; omega
          · obtain rfl : k = m0 := by omega
            have hm0xx : k ≤ xs.length := by omega
            have hm1yy : k ≤ ys.length := by omega
            have hX := HB.of_own HO.out
            have hx3l := x3_length xs ys zs k
            have hcx := crc_x3 xs ys zs k hm0xx hm1yy hm0z
            have k0 := run_cut_h 29 5 Try.underlying29 size5 A0 xs.length c0 k hm0xx hl0
            have k1 := run_cut_h 29 5 Try.underlying29 size5 A1 ys.length c1 k hm1yy hl1
            have k2 := run_cut_h 29 5 Try.underlying29 size5 A2 zs.length c2 k hm0z hl2
            have hY0 := (H0.out.below HBk.out).take (b := k) hm0xx
            have hY1 := (H1.out.below HBk.out).take (b := k) hm1yy
            have hY2 := (H2.out.below HBk.out).take (b := k) hm0z
            have b0 : (xs.take k).length ≤ 1000000 := by simp; omega
            have b1 : (ys.take k).length ≤ 1000000 := by simp; omega
            have b2 : (zs.take k).length ≤ 1000000 := by simp; omega
            have bX : (x3 xs ys zs k).length ≤ 1000000 := by omega
            have q0 := crcOn_lt 0 (xs.take k)
            have q1 := crcOn_lt 0 (ys.take k)
            have q2 := crcOn_lt 0 (zs.take k)
            generalize hxx : x3 xs ys zs k = X at *
            generalize xs.take k = x0 at *
            generalize ys.take k = y0 at *
            generalize zs.take k = z0 at *
            generalize hr0 : crcOn 0 x0 = r0 at *
            generalize hr1 : crcOn 0 y0 = r1 at *
            generalize hr2 : crcOn 0 z0 = r2 at *
            generalize hrX : crcOn 0 X = rX at *
            have R0 := Lib.hid hr0; have R1 := Lib.hid hr1; have R2 := Lib.hid hr2; have RX := Lib.hid hrX
            have e1 := u32_xor_nat r0 r1 q0 q1
            have e2 := u32_xor_nat (r0 ^^^ r1) r2 (Nat.xor_lt_two_pow (n := 32) q0 q1) q2
            rw [← hcx] at e2
            generalize r0 ^^^ r1 = r01 at *
            have HX := Lib.hid hX; have HY0 := Lib.hid hY0; have HY1 := Lib.hid hY1; have HY2 := Lib.hid hY2
            clear hX hY0 hY1 hY2 hr0 hr1 hr2 hrX hcx hx3l hxx q0 q1 q2
            go_wp2_with fail
            refine wp_region_inv2 [0, 1, 2, 5, 6, 7, 10, 11, 12, 16, 17, 18] [3, 4, 8, 9, 13, 14, 15, 19, 20, 21, 22, 23, 24] (wr.heap.size) wr (Nat.le_refl _) (by kernel_rfl) (by kernel_rfl) rfl (by kernel_rfl) (by kernel_rfl) (by kernel_rfl) (by kernel_rfl) (by kernel_rfl) (fun _ _ _ _ _ h => h) ((Below.refl _ _).drew) ?_
            intro OPS hops
            iterate 12
              first | (refine wpPre_yield _ (by rw [hops.out]; simp only [List.getElem?_toArray, List.getElem?_cons_succ, List.getElem?_cons_zero]; rfl) (by first | rfl | (rw [hops.out]; rfl)) (fun w' hS => by go_simp; rfl) ?_; simp only [Act.put, List.setIfInBounds_toArray, List.set_cons_succ, List.set_cons_zero]) | (refine wpPre_skip (by rw [hops.out]; simp only [List.getElem?_toArray, List.getElem?_cons_succ, List.getElem?_cons_zero]; rfl) (by first | rfl | (rw [hops.out]; rfl)) ?_; simp only [Act.put, List.setIfInBounds_toArray, List.set_cons_succ, List.set_cons_zero])
            simp only [wpPre]
            refine ⟨⟨(fun (i : Nat) (v : Value) (w' : World) => (i = 3 → HParts w' v [X]) ∧ (i = 4 → v = .int .u32 (rX : Int)) ∧ (i = 8 → HParts w' v [x0]) ∧ (i = 9 → v = .int .u32 (r0 : Int)) ∧ (i = 13 → HParts w' v [y0]) ∧ (i = 14 → v = .int .u32 (r1 : Int)) ∧ (i = 15 → v = .int .u32 (r01 : Int)) ∧ (i = 19 → HParts w' v [z0]) ∧ (i = 20 → v = .int .u32 (r2 : Int)) ∧ (i = 21 → v = .int .u32 (rX : Int)) ∧ (i = 22 → v = .bool true) ∧ (i = 23 → v = .bool true) ∧ (i = 24 → v = .bool true)), ?hT, ?hT0, ?hop, ?hend⟩⟩
            case hT =>
              intro i v w' w'' h hb
              exact ⟨fun e => (h.1 e).below hb, h.2.1, fun e => (h.2.2.1 e).below hb, h.2.2.2.1, fun e => (h.2.2.2.2.1 e).below hb, h.2.2.2.2.2.1, h.2.2.2.2.2.2.1, fun e => (h.2.2.2.2.2.2.2.1 e).below hb, h.2.2.2.2.2.2.2.2.1, h.2.2.2.2.2.2.2.2.2.1, h.2.2.2.2.2.2.2.2.2.2.1, h.2.2.2.2.2.2.2.2.2.2.2.1, h.2.2.2.2.2.2.2.2.2.2.2.2⟩
            case hT0 =>
              intro i v w' hi
              exact ⟨fun e => absurd (by rw [e]; decide) hi, fun e => absurd (by rw [e]; decide) hi, fun e => absurd (by rw [e]; decide) hi, fun e => absurd (by rw [e]; decide) hi, fun e => absurd (by rw [e]; decide) hi, fun e => absurd (by rw [e]; decide) hi, fun e => absurd (by rw [e]; decide) hi, fun e => absurd (by rw [e]; decide) hi, fun e => absurd (by rw [e]; decide) hi, fun e => absurd (by rw [e]; decide) hi, fun e => absurd (by rw [e]; decide) hi, fun e => absurd (by rw [e]; decide) hi, fun e => absurd (by rw [e]; decide) hi⟩
            case hop =>
              intro i hi
              simp only [List.mem_cons, List.not_mem_nil, or_false] at hi
              rcases hi with rfl | rfl | rfl | rfl | rfl | rfl | rfl | rfl | rfl | rfl | rfl | rfl | rfl
              · intro o ho x w' hw' hx
                rw [hops.out] at ho
                simp only [List.getElem?_toArray, List.getElem?_cons_succ, List.getElem?_cons_zero, Option.some.injEq] at ho
                subst ho
                clear hx
                refine StepI.go (by simp only [mkA, mkT, setO, dstOf, hops.out, List.getElem?_toArray, List.getElem?_cons_succ, List.getElem?_cons_zero, Option.bind_some, List.setIfInBounds_toArray, List.set_cons_succ, List.set_cons_zero]; first | rfl | (rw [hops.out]; rfl)) fun K hK => ?_
                simp only [mkA, mkT, setO, dstOf, hops.out, List.getElem?_toArray, List.getElem?_cons_succ, List.getElem?_cons_zero, Option.bind_some, List.setIfInBounds_toArray, List.set_cons_succ, List.set_cons_zero]
                go_simp
                exact hK _ _ _ ⟨fun _ => HParts.one (HX.out.below hw') 29, fun h => absurd h (by decide), fun h => absurd h (by decide), fun h => absurd h (by decide), fun h => absurd h (by decide), fun h => absurd h (by decide), fun h => absurd h (by decide), fun h => absurd h (by decide), fun h => absurd h (by decide), fun h => absurd h (by decide), fun h => absurd h (by decide), fun h => absurd h (by decide), fun h => absurd h (by decide)⟩ ((Below.refl _ _).alloc (Nat.le_refl _) _) (by first | rfl | (simp only [mkA, mkT, setO, dstOf, hops.out, List.getElem?_toArray, List.getElem?_cons_succ, List.getElem?_cons_zero, Option.bind_some, List.setIfInBounds_toArray, List.set_cons_succ, List.set_cons_zero]; rfl) | (simp only [mkA, mkT, setO, dstOf, hops.out, List.getElem?_toArray, List.getElem?_cons_succ, List.getElem?_cons_zero, Option.bind_some, List.setIfInBounds_toArray, List.set_cons_succ, List.set_cons_zero]; simp only [upd, Nat.reduceEqDiff, reduceIte, ]; first | done | rfl))
              · intro o ho x w' hw' hx
                rw [hops.out] at ho
                simp only [List.getElem?_toArray, List.getElem?_cons_succ, List.getElem?_cons_zero, Option.some.injEq] at ho
                subst ho
                have d3 := (hx 3 (by decide) (by kernel_rfl)).1 rfl
                clear hx
                refine StepI.go (by simp only [mkA, mkT, setO, dstOf, hops.out, List.getElem?_toArray, List.getElem?_cons_succ, List.getElem?_cons_zero, Option.bind_some, List.setIfInBounds_toArray, List.set_cons_succ, List.set_cons_zero]; first | rfl | (rw [hops.out]; rfl)) fun K hK => ?_
                simp only [mkA, mkT, setO, dstOf, hops.out, List.getElem?_toArray, List.getElem?_cons_succ, List.getElem?_cons_zero, Option.bind_some, List.setIfInBounds_toArray, List.set_cons_succ, List.set_cons_zero]
                go_simp
                refine (sum_one _ X _ d3 bX).mono ?_
                rw [RX.out]
                rintro e w'' ⟨rfl, hb⟩
                exact hK _ _ _ ⟨fun h => absurd h (by decide), fun _ => rfl, fun h => absurd h (by decide), fun h => absurd h (by decide), fun h => absurd h (by decide), fun h => absurd h (by decide), fun h => absurd h (by decide), fun h => absurd h (by decide), fun h => absurd h (by decide), fun h => absurd h (by decide), fun h => absurd h (by decide), fun h => absurd h (by decide), fun h => absurd h (by decide)⟩ (hb) (by first | rfl | (simp only [mkA, mkT, setO, dstOf, hops.out, List.getElem?_toArray, List.getElem?_cons_succ, List.getElem?_cons_zero, Option.bind_some, List.setIfInBounds_toArray, List.set_cons_succ, List.set_cons_zero]; rfl) | (simp only [mkA, mkT, setO, dstOf, hops.out, List.getElem?_toArray, List.getElem?_cons_succ, List.getElem?_cons_zero, Option.bind_some, List.setIfInBounds_toArray, List.set_cons_succ, List.set_cons_zero]; simp only [upd, Nat.reduceEqDiff, reduceIte, d3]; first | done | rfl))
              · intro o ho x w' hw' hx
                rw [hops.out] at ho
                simp only [List.getElem?_toArray, List.getElem?_cons_succ, List.getElem?_cons_zero, Option.some.injEq] at ho
                subst ho
                clear hx
                refine StepI.go (by simp only [mkA, mkT, setO, dstOf, hops.out, List.getElem?_toArray, List.getElem?_cons_succ, List.getElem?_cons_zero, Option.bind_some, List.setIfInBounds_toArray, List.set_cons_succ, List.set_cons_zero]; first | rfl | (rw [hops.out]; rfl)) fun K hK => ?_
                simp only [mkA, mkT, setO, dstOf, hops.out, List.getElem?_toArray, List.getElem?_cons_succ, List.getElem?_cons_zero, Option.bind_some, List.setIfInBounds_toArray, List.set_cons_succ, List.set_cons_zero]
                go_simp
                exact hK _ _ _ ⟨fun h => absurd h (by decide), fun h => absurd h (by decide), fun _ => HParts.one (HY0.out.below hw') 29, fun h => absurd h (by decide), fun h => absurd h (by decide), fun h => absurd h (by decide), fun h => absurd h (by decide), fun h => absurd h (by decide), fun h => absurd h (by decide), fun h => absurd h (by decide), fun h => absurd h (by decide), fun h => absurd h (by decide), fun h => absurd h (by decide)⟩ ((Below.refl _ _).alloc (Nat.le_refl _) _) (by first | rfl | (simp only [mkA, mkT, setO, dstOf, hops.out, List.getElem?_toArray, List.getElem?_cons_succ, List.getElem?_cons_zero, Option.bind_some, List.setIfInBounds_toArray, List.set_cons_succ, List.set_cons_zero]; rfl) | (simp only [mkA, mkT, setO, dstOf, hops.out, List.getElem?_toArray, List.getElem?_cons_succ, List.getElem?_cons_zero, Option.bind_some, List.setIfInBounds_toArray, List.set_cons_succ, List.set_cons_zero]; simp only [upd, Nat.reduceEqDiff, reduceIte, ]; first | done | rfl))
              · intro o ho x w' hw' hx
                rw [hops.out] at ho
                simp only [List.getElem?_toArray, List.getElem?_cons_succ, List.getElem?_cons_zero, Option.some.injEq] at ho
                subst ho
                have d8 := (hx 8 (by decide) (by kernel_rfl)).2.2.1 rfl
                clear hx
                refine StepI.go (by simp only [mkA, mkT, setO, dstOf, hops.out, List.getElem?_toArray, List.getElem?_cons_succ, List.getElem?_cons_zero, Option.bind_some, List.setIfInBounds_toArray, List.set_cons_succ, List.set_cons_zero]; first | rfl | (rw [hops.out]; rfl)) fun K hK => ?_
                simp only [mkA, mkT, setO, dstOf, hops.out, List.getElem?_toArray, List.getElem?_cons_succ, List.getElem?_cons_zero, Option.bind_some, List.setIfInBounds_toArray, List.set_cons_succ, List.set_cons_zero]
                go_simp
                refine (sum_one _ x0 _ d8 b0).mono ?_
                rw [R0.out]
                rintro e w'' ⟨rfl, hb⟩
                exact hK _ _ _ ⟨fun h => absurd h (by decide), fun h => absurd h (by decide), fun h => absurd h (by decide), fun _ => rfl, fun h => absurd h (by decide), fun h => absurd h (by decide), fun h => absurd h (by decide), fun h => absurd h (by decide), fun h => absurd h (by decide), fun h => absurd h (by decide), fun h => absurd h (by decide), fun h => absurd h (by decide), fun h => absurd h (by decide)⟩ (hb) (by first | rfl | (simp only [mkA, mkT, setO, dstOf, hops.out, List.getElem?_toArray, List.getElem?_cons_succ, List.getElem?_cons_zero, Option.bind_some, List.setIfInBounds_toArray, List.set_cons_succ, List.set_cons_zero]; rfl) | (simp only [mkA, mkT, setO, dstOf, hops.out, List.getElem?_toArray, List.getElem?_cons_succ, List.getElem?_cons_zero, Option.bind_some, List.setIfInBounds_toArray, List.set_cons_succ, List.set_cons_zero]; simp only [upd, Nat.reduceEqDiff, reduceIte, d8]; first | done | rfl))
              · intro o ho x w' hw' hx
                rw [hops.out] at ho
                simp only [List.getElem?_toArray, List.getElem?_cons_succ, List.getElem?_cons_zero, Option.some.injEq] at ho
                subst ho
                clear hx
                refine StepI.go (by simp only [mkA, mkT, setO, dstOf, hops.out, List.getElem?_toArray, List.getElem?_cons_succ, List.getElem?_cons_zero, Option.bind_some, List.setIfInBounds_toArray, List.set_cons_succ, List.set_cons_zero]; first | rfl | (rw [hops.out]; rfl)) fun K hK => ?_
                simp only [mkA, mkT, setO, dstOf, hops.out, List.getElem?_toArray, List.getElem?_cons_succ, List.getElem?_cons_zero, Option.bind_some, List.setIfInBounds_toArray, List.set_cons_succ, List.set_cons_zero]
                go_simp
                exact hK _ _ _ ⟨fun h => absurd h (by decide), fun h => absurd h (by decide), fun h => absurd h (by decide), fun h => absurd h (by decide), fun _ => HParts.one (HY1.out.below hw') 29, fun h => absurd h (by decide), fun h => absurd h (by decide), fun h => absurd h (by decide), fun h => absurd h (by decide), fun h => absurd h (by decide), fun h => absurd h (by decide), fun h => absurd h (by decide), fun h => absurd h (by decide)⟩ ((Below.refl _ _).alloc (Nat.le_refl _) _) (by first | rfl | (simp only [mkA, mkT, setO, dstOf, hops.out, List.getElem?_toArray, List.getElem?_cons_succ, List.getElem?_cons_zero, Option.bind_some, List.setIfInBounds_toArray, List.set_cons_succ, List.set_cons_zero]; rfl) | (simp only [mkA, mkT, setO, dstOf, hops.out, List.getElem?_toArray, List.getElem?_cons_succ, List.getElem?_cons_zero, Option.bind_some, List.setIfInBounds_toArray, List.set_cons_succ, List.set_cons_zero]; simp only [upd, Nat.reduceEqDiff, reduceIte, ]; first | done | rfl))
              · intro o ho x w' hw' hx
                rw [hops.out] at ho
                simp only [List.getElem?_toArray, List.getElem?_cons_succ, List.getElem?_cons_zero, Option.some.injEq] at ho
                subst ho
                have d13 := (hx 13 (by decide) (by kernel_rfl)).2.2.2.2.1 rfl
                clear hx
                refine StepI.go (by simp only [mkA, mkT, setO, dstOf, hops.out, List.getElem?_toArray, List.getElem?_cons_succ, List.getElem?_cons_zero, Option.bind_some, List.setIfInBounds_toArray, List.set_cons_succ, List.set_cons_zero]; first | rfl | (rw [hops.out]; rfl)) fun K hK => ?_
                simp only [mkA, mkT, setO, dstOf, hops.out, List.getElem?_toArray, List.getElem?_cons_succ, List.getElem?_cons_zero, Option.bind_some, List.setIfInBounds_toArray, List.set_cons_succ, List.set_cons_zero]
                go_simp
                refine (sum_one _ y0 _ d13 b1).mono ?_
                rw [R1.out]
                rintro e w'' ⟨rfl, hb⟩
                exact hK _ _ _ ⟨fun h => absurd h (by decide), fun h => absurd h (by decide), fun h => absurd h (by decide), fun h => absurd h (by decide), fun h => absurd h (by decide), fun _ => rfl, fun h => absurd h (by decide), fun h => absurd h (by decide), fun h => absurd h (by decide), fun h => absurd h (by decide), fun h => absurd h (by decide), fun h => absurd h (by decide), fun h => absurd h (by decide)⟩ (hb) (by first | rfl | (simp only [mkA, mkT, setO, dstOf, hops.out, List.getElem?_toArray, List.getElem?_cons_succ, List.getElem?_cons_zero, Option.bind_some, List.setIfInBounds_toArray, List.set_cons_succ, List.set_cons_zero]; rfl) | (simp only [mkA, mkT, setO, dstOf, hops.out, List.getElem?_toArray, List.getElem?_cons_succ, List.getElem?_cons_zero, Option.bind_some, List.setIfInBounds_toArray, List.set_cons_succ, List.set_cons_zero]; simp only [upd, Nat.reduceEqDiff, reduceIte, d13]; first | done | rfl))
              · intro o ho x w' hw' hx
                rw [hops.out] at ho
                simp only [List.getElem?_toArray, List.getElem?_cons_succ, List.getElem?_cons_zero, Option.some.injEq] at ho
                subst ho
                have d9 := (hx 9 (by decide) (by kernel_rfl)).2.2.2.1 rfl
                have d14 := (hx 14 (by decide) (by kernel_rfl)).2.2.2.2.2.1 rfl
                clear hx
                refine StepI.go (by simp only [mkA, mkT, setO, dstOf, hops.out, List.getElem?_toArray, List.getElem?_cons_succ, List.getElem?_cons_zero, Option.bind_some, List.setIfInBounds_toArray, List.set_cons_succ, List.set_cons_zero]; first | rfl | (rw [hops.out]; rfl)) fun K hK => ?_
                simp only [mkA, mkT, setO, dstOf, hops.out, List.getElem?_toArray, List.getElem?_cons_succ, List.getElem?_cons_zero, Option.bind_some, List.setIfInBounds_toArray, List.set_cons_succ, List.set_cons_zero]
                simp only [d9, d14]
                go_simp
                exact hK _ _ _ ⟨fun h => absurd h (by decide), fun h => absurd h (by decide), fun h => absurd h (by decide), fun h => absurd h (by decide), fun h => absurd h (by decide), fun h => absurd h (by decide), fun _ => rfl, fun h => absurd h (by decide), fun h => absurd h (by decide), fun h => absurd h (by decide), fun h => absurd h (by decide), fun h => absurd h (by decide), fun h => absurd h (by decide)⟩ (Below.refl _ _) (by first | rfl | (simp only [mkA, mkT, setO, dstOf, hops.out, List.getElem?_toArray, List.getElem?_cons_succ, List.getElem?_cons_zero, Option.bind_some, List.setIfInBounds_toArray, List.set_cons_succ, List.set_cons_zero]; rfl) | (simp only [mkA, mkT, setO, dstOf, hops.out, List.getElem?_toArray, List.getElem?_cons_succ, List.getElem?_cons_zero, Option.bind_some, List.setIfInBounds_toArray, List.set_cons_succ, List.set_cons_zero]; simp only [upd, Nat.reduceEqDiff, reduceIte, d9, d14]; first | done | rfl))
              · intro o ho x w' hw' hx
                rw [hops.out] at ho
                simp only [List.getElem?_toArray, List.getElem?_cons_succ, List.getElem?_cons_zero, Option.some.injEq] at ho
                subst ho
                clear hx
                refine StepI.go (by simp only [mkA, mkT, setO, dstOf, hops.out, List.getElem?_toArray, List.getElem?_cons_succ, List.getElem?_cons_zero, Option.bind_some, List.setIfInBounds_toArray, List.set_cons_succ, List.set_cons_zero]; first | rfl | (rw [hops.out]; rfl)) fun K hK => ?_
                simp only [mkA, mkT, setO, dstOf, hops.out, List.getElem?_toArray, List.getElem?_cons_succ, List.getElem?_cons_zero, Option.bind_some, List.setIfInBounds_toArray, List.set_cons_succ, List.set_cons_zero]
                go_simp
                exact hK _ _ _ ⟨fun h => absurd h (by decide), fun h => absurd h (by decide), fun h => absurd h (by decide), fun h => absurd h (by decide), fun h => absurd h (by decide), fun h => absurd h (by decide), fun h => absurd h (by decide), fun _ => HParts.one (HY2.out.below hw') 29, fun h => absurd h (by decide), fun h => absurd h (by decide), fun h => absurd h (by decide), fun h => absurd h (by decide), fun h => absurd h (by decide)⟩ ((Below.refl _ _).alloc (Nat.le_refl _) _) (by first | rfl | (simp only [mkA, mkT, setO, dstOf, hops.out, List.getElem?_toArray, List.getElem?_cons_succ, List.getElem?_cons_zero, Option.bind_some, List.setIfInBounds_toArray, List.set_cons_succ, List.set_cons_zero]; rfl) | (simp only [mkA, mkT, setO, dstOf, hops.out, List.getElem?_toArray, List.getElem?_cons_succ, List.getElem?_cons_zero, Option.bind_some, List.setIfInBounds_toArray, List.set_cons_succ, List.set_cons_zero]; simp only [upd, Nat.reduceEqDiff, reduceIte, ]; first | done | rfl))
              · intro o ho x w' hw' hx
                rw [hops.out] at ho
                simp only [List.getElem?_toArray, List.getElem?_cons_succ, List.getElem?_cons_zero, Option.some.injEq] at ho
                subst ho
                have d19 := (hx 19 (by decide) (by kernel_rfl)).2.2.2.2.2.2.2.1 rfl
                clear hx
                refine StepI.go (by simp only [mkA, mkT, setO, dstOf, hops.out, List.getElem?_toArray, List.getElem?_cons_succ, List.getElem?_cons_zero, Option.bind_some, List.setIfInBounds_toArray, List.set_cons_succ, List.set_cons_zero]; first | rfl | (rw [hops.out]; rfl)) fun K hK => ?_
                simp only [mkA, mkT, setO, dstOf, hops.out, List.getElem?_toArray, List.getElem?_cons_succ, List.getElem?_cons_zero, Option.bind_some, List.setIfInBounds_toArray, List.set_cons_succ, List.set_cons_zero]
                go_simp
                refine (sum_one _ z0 _ d19 b2).mono ?_
                rw [R2.out]
                rintro e w'' ⟨rfl, hb⟩
                exact hK _ _ _ ⟨fun h => absurd h (by decide), fun h => absurd h (by decide), fun h => absurd h (by decide), fun h => absurd h (by decide), fun h => absurd h (by decide), fun h => absurd h (by decide), fun h => absurd h (by decide), fun h => absurd h (by decide), fun _ => rfl, fun h => absurd h (by decide), fun h => absurd h (by decide), fun h => absurd h (by decide), fun h => absurd h (by decide)⟩ (hb) (by first | rfl | (simp only [mkA, mkT, setO, dstOf, hops.out, List.getElem?_toArray, List.getElem?_cons_succ, List.getElem?_cons_zero, Option.bind_some, List.setIfInBounds_toArray, List.set_cons_succ, List.set_cons_zero]; rfl) | (simp only [mkA, mkT, setO, dstOf, hops.out, List.getElem?_toArray, List.getElem?_cons_succ, List.getElem?_cons_zero, Option.bind_some, List.setIfInBounds_toArray, List.set_cons_succ, List.set_cons_zero]; simp only [upd, Nat.reduceEqDiff, reduceIte, d19]; first | done | rfl))
              · intro o ho x w' hw' hx
                rw [hops.out] at ho
                simp only [List.getElem?_toArray, List.getElem?_cons_succ, List.getElem?_cons_zero, Option.some.injEq] at ho
                subst ho
                have d15 := (hx 15 (by decide) (by kernel_rfl)).2.2.2.2.2.2.1 rfl
                have d20 := (hx 20 (by decide) (by kernel_rfl)).2.2.2.2.2.2.2.2.1 rfl
                clear hx
                refine StepI.go (by simp only [mkA, mkT, setO, dstOf, hops.out, List.getElem?_toArray, List.getElem?_cons_succ, List.getElem?_cons_zero, Option.bind_some, List.setIfInBounds_toArray, List.set_cons_succ, List.set_cons_zero]; first | rfl | (rw [hops.out]; rfl)) fun K hK => ?_
                simp only [mkA, mkT, setO, dstOf, hops.out, List.getElem?_toArray, List.getElem?_cons_succ, List.getElem?_cons_zero, Option.bind_some, List.setIfInBounds_toArray, List.set_cons_succ, List.set_cons_zero]
                simp only [d15, d20]
                go_simp
                exact hK _ _ _ ⟨fun h => absurd h (by decide), fun h => absurd h (by decide), fun h => absurd h (by decide), fun h => absurd h (by decide), fun h => absurd h (by decide), fun h => absurd h (by decide), fun h => absurd h (by decide), fun h => absurd h (by decide), fun h => absurd h (by decide), fun _ => rfl, fun h => absurd h (by decide), fun h => absurd h (by decide), fun h => absurd h (by decide)⟩ (Below.refl _ _) (by first | rfl | (simp only [mkA, mkT, setO, dstOf, hops.out, List.getElem?_toArray, List.getElem?_cons_succ, List.getElem?_cons_zero, Option.bind_some, List.setIfInBounds_toArray, List.set_cons_succ, List.set_cons_zero]; rfl) | (simp only [mkA, mkT, setO, dstOf, hops.out, List.getElem?_toArray, List.getElem?_cons_succ, List.getElem?_cons_zero, Option.bind_some, List.setIfInBounds_toArray, List.set_cons_succ, List.set_cons_zero]; simp only [upd, Nat.reduceEqDiff, reduceIte, d15, d20]; first | done | rfl))
              · intro o ho x w' hw' hx
                rw [hops.out] at ho
                simp only [List.getElem?_toArray, List.getElem?_cons_succ, List.getElem?_cons_zero, Option.some.injEq] at ho
                subst ho
                have d4 := (hx 4 (by decide) (by kernel_rfl)).2.1 rfl
                have d21 := (hx 21 (by decide) (by kernel_rfl)).2.2.2.2.2.2.2.2.2.1 rfl
                clear hx
                refine StepI.go (by simp only [mkA, mkT, setO, dstOf, hops.out, List.getElem?_toArray, List.getElem?_cons_succ, List.getElem?_cons_zero, Option.bind_some, List.setIfInBounds_toArray, List.set_cons_succ, List.set_cons_zero]; first | rfl | (rw [hops.out]; rfl)) fun K hK => ?_
                simp only [mkA, mkT, setO, dstOf, hops.out, List.getElem?_toArray, List.getElem?_cons_succ, List.getElem?_cons_zero, Option.bind_some, List.setIfInBounds_toArray, List.set_cons_succ, List.set_cons_zero]
                simp only [d4, d21]
                go_simp
                exact hK _ _ _ ⟨fun h => absurd h (by decide), fun h => absurd h (by decide), fun h => absurd h (by decide), fun h => absurd h (by decide), fun h => absurd h (by decide), fun h => absurd h (by decide), fun h => absurd h (by decide), fun h => absurd h (by decide), fun h => absurd h (by decide), fun h => absurd h (by decide), fun _ => rfl, fun h => absurd h (by decide), fun h => absurd h (by decide)⟩ (Below.refl _ _) (by first | rfl | (simp only [mkA, mkT, setO, dstOf, hops.out, List.getElem?_toArray, List.getElem?_cons_succ, List.getElem?_cons_zero, Option.bind_some, List.setIfInBounds_toArray, List.set_cons_succ, List.set_cons_zero]; rfl) | (simp only [mkA, mkT, setO, dstOf, hops.out, List.getElem?_toArray, List.getElem?_cons_succ, List.getElem?_cons_zero, Option.bind_some, List.setIfInBounds_toArray, List.set_cons_succ, List.set_cons_zero]; simp only [upd, Nat.reduceEqDiff, reduceIte, d4, d21]; first | done | rfl))
              · intro o ho x w' hw' hx
                rw [hops.out] at ho
                simp only [List.getElem?_toArray, List.getElem?_cons_succ, List.getElem?_cons_zero, Option.some.injEq] at ho
                subst ho
                have d22 := (hx 22 (by decide) (by kernel_rfl)).2.2.2.2.2.2.2.2.2.2.1 rfl
                clear hx
                refine StepI.go (by simp only [mkA, mkT, setO, dstOf, hops.out, List.getElem?_toArray, List.getElem?_cons_succ, List.getElem?_cons_zero, Option.bind_some, List.setIfInBounds_toArray, List.set_cons_succ, List.set_cons_zero]; first | rfl | (rw [hops.out]; rfl)) fun K hK => ?_
                simp only [mkA, mkT, setO, dstOf, hops.out, List.getElem?_toArray, List.getElem?_cons_succ, List.getElem?_cons_zero, Option.bind_some, List.setIfInBounds_toArray, List.set_cons_succ, List.set_cons_zero]
                simp only [d22]
                go_simp
                exact hK _ _ _ ⟨fun h => absurd h (by decide), fun h => absurd h (by decide), fun h => absurd h (by decide), fun h => absurd h (by decide), fun h => absurd h (by decide), fun h => absurd h (by decide), fun h => absurd h (by decide), fun h => absurd h (by decide), fun h => absurd h (by decide), fun h => absurd h (by decide), fun h => absurd h (by decide), fun _ => rfl, fun h => absurd h (by decide)⟩ (Below.refl _ _) (by first | rfl | (simp only [mkA, mkT, setO, dstOf, hops.out, List.getElem?_toArray, List.getElem?_cons_succ, List.getElem?_cons_zero, Option.bind_some, List.setIfInBounds_toArray, List.set_cons_succ, List.set_cons_zero]; rfl) | (simp only [mkA, mkT, setO, dstOf, hops.out, List.getElem?_toArray, List.getElem?_cons_succ, List.getElem?_cons_zero, Option.bind_some, List.setIfInBounds_toArray, List.set_cons_succ, List.set_cons_zero]; simp only [upd, Nat.reduceEqDiff, reduceIte, d22]; first | done | rfl))
              · intro o ho x w' hw' hx
                rw [hops.out] at ho
                simp only [List.getElem?_toArray, List.getElem?_cons_succ, List.getElem?_cons_zero, Option.some.injEq] at ho
                subst ho
                have d23 := (hx 23 (by decide) (by kernel_rfl)).2.2.2.2.2.2.2.2.2.2.2.1 rfl
                clear hx
                refine StepI.go (by simp only [mkA, mkT, setO, dstOf, hops.out, List.getElem?_toArray, List.getElem?_cons_succ, List.getElem?_cons_zero, Option.bind_some, List.setIfInBounds_toArray, List.set_cons_succ, List.set_cons_zero]; first | rfl | (rw [hops.out]; rfl)) fun K hK => ?_
                simp only [mkA, mkT, setO, dstOf, hops.out, List.getElem?_toArray, List.getElem?_cons_succ, List.getElem?_cons_zero, Option.bind_some, List.setIfInBounds_toArray, List.set_cons_succ, List.set_cons_zero]
                simp only [d23]
                go_simp
                exact hK _ _ _ ⟨fun h => absurd h (by decide), fun h => absurd h (by decide), fun h => absurd h (by decide), fun h => absurd h (by decide), fun h => absurd h (by decide), fun h => absurd h (by decide), fun h => absurd h (by decide), fun h => absurd h (by decide), fun h => absurd h (by decide), fun h => absurd h (by decide), fun h => absurd h (by decide), fun h => absurd h (by decide), fun _ => rfl⟩ (Below.refl _ _) (by first | rfl | (simp only [mkA, mkT, setO, dstOf, hops.out, List.getElem?_toArray, List.getElem?_cons_succ, List.getElem?_cons_zero, Option.bind_some, List.setIfInBounds_toArray, List.set_cons_succ, List.set_cons_zero]; rfl) | (simp only [mkA, mkT, setO, dstOf, hops.out, List.getElem?_toArray, List.getElem?_cons_succ, List.getElem?_cons_zero, Option.bind_some, List.setIfInBounds_toArray, List.set_cons_succ, List.set_cons_zero]; simp only [upd, Nat.reduceEqDiff, reduceIte, d23]; first | done | rfl))
            case hend =>
              intro x w' hw' hx
              have d24 := (hx 24 (by decide)).2.2.2.2.2.2.2.2.2.2.2.2 rfl
              clear hx
              simp only [mkA, mkT, setO, dstOf, hops.out, List.getElem?_toArray, List.getElem?_cons_succ, List.getElem?_cons_zero, Option.bind_some, List.setIfInBounds_toArray, List.set_cons_succ, List.set_cons_zero]
              go_wp2_with fail
              go_ret
              exact ⟨by simp [d24], HBk.out.trans (hw'.mono HBk.out.size)⟩
      · go_enter Try.func5, Try.ntmps5
        go_wp2_with (go_at_call 22; refine (alive2_any _).mono ?_; rintro e w1 ⟨rfl, hb1⟩)
        go_ret
        exact ⟨rfl, hb1⟩
    · go_enter Try.func5, Try.ntmps5
      go_wp2_with (go_at_call 22; refine (alive2_any _).mono ?_; rintro e w1 ⟨rfl, hb1⟩)
      go_ret
      exact ⟨rfl, hb1⟩
  · go_enter Try.func5, Try.ntmps5
    go_wp2_with (go_at_call 22; refine (alive2_any _).mono ?_; rintro e w1 ⟨rfl, hb1⟩)
    go_ret
    exact ⟨rfl, hb1⟩
end
end Go.Proofs.Ytkibccmfgndfjaa
