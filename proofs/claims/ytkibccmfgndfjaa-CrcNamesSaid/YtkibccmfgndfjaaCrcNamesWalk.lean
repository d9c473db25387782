/- Contracts and words that the laws stand on (CrcNamesWalk). -/
import Derived.Lib.SlBytesConst
import Derived.Test.YtkibccmfgndfjaaCrcAlive
import Derived.Test.YtkibccmfgndfjaaCrcMarksWalk
set_option linter.unusedVariables false
set_option linter.unusedSimpArgs false
namespace Go.Proofs.Ytkibccmfgndfjaa
section
open Go.RowKit Go.Proofs
/-- So many bytes, from one on, by a step. -/
def rowB (a d : Int) (n : Nat) : List UInt8 := (List.range n).map fun (i : Nat) => UInt8.ofNat (((a + (i : Int) * d) % 256).toNat)
theorem rowB_length (a d : Int) (n : Nat) : (rowB a d n).length = n := by simp [rowB]
theorem rowB_succ (a d : Int) (n : Nat) : rowB a d (n + 1) = rowB a d n ++ [UInt8.ofNat (((a + (n : Int) * d) % 256).toNat)] := by simp [rowB, List.range_succ]
set_option maxHeartbeats 1000000 in
set_option maxRecDepth 100000 in
theorem row46 (a d : Int) (n : Nat) (ha : -1000 ≤ a ∧ a ≤ 1000) (hd : d = 0 ∨ d = 1 ∨ d = -1) (hn : n ≤ 1000) (w : World) :
    Calls Try.prog 46 #[.int .i64 a, .int .i64 d, .int .i64 (n : Int)] w fun e w' => ∃ v', e = .returned v' ∧ w'.ownsRow w.heap.size 5 1 v' n (bs (rowB a d n)) ∧ Below w.heap.size w w' := by
  go_enter Try.func46, Try.ntmps46
  go_wp2_with fail
  go_loopw [8, 7] (fun s8 s7 w' => ∃ k : Nat, k ≤ n ∧ s8 = .int .i64 k ∧ w'.ownsRow w.heap.size 5 1 s7 k (bs (rowB a d k)) ∧ Below w.heap.size w w') (fun s8 _ _ => n - (intOf s8).toNat)
  case atStart => exact ⟨0, by omega, rfl, World.ownsRow_nil _ _ _ _, Below.refl _ _⟩
  case round =>
    obtain ⟨k, hk, rfl, hown, hbk⟩ := hrel
    have HO := Lib.hid hown; have HBk := Lib.hid hbk
    obtain ⟨A5, c5, rfl⟩ := own_slice hown
    clear hown hbk
    by_cases hlt : k < n
    · have e0 : wrap64 ((k : Int) * d) = (k : Int) * d := by
        unfold wrap64
        rcases hd with rfl | rfl | rfl <;> omega
      have e2' : wrap64 (a + (k : Int) * d) = a + (k : Int) * d := by
        unfold wrap64
        rcases hd with rfl | rfl | rfl <;> omega
      obtain ⟨kd, hkd⟩ : ∃ y, y = (k : Int) * d := ⟨_, rfl⟩
      obtain ⟨x, hx⟩ : ∃ x : UInt8, x = UInt8.ofNat (((a + kd) % 256).toNat) := ⟨_, rfl⟩
      have hsn := rowB_succ a d k
      rw [← hkd, ← hx] at hsn
      have e1 : wrap64 ((k : Int) * d) = kd := e0.trans hkd.symm
      rw [← hkd] at e2'
      have e2 := e2'
      have e3 : (a + kd) % 256 = (x.toNat : Int) := by
        rw [hx]
        simp
        omega
      clear e0 e2' hkd
      have HSN := Lib.hid hsn; have HXL := Lib.hid (rowB_length a d k)
      clear hsn hx
      go_wp2_with (at_builtin; go_loud (refine wpl_pushes _ rfl (.tmp 14) (.tmp 21) 29 rfl w.heap.size 5 Try.underlying29 u8_info (.slice A5 k c5) (rowB a d k) [x] _ rfl rfl ?c1 ?c2 ?c3 ?c4 ?_))
      case c1 => rw [HXL.out]; exact own_chg HO.out ((Chg.refl [] wr).alloc _) (by simp)
      case c2 => exact HB.lit wr [x] 5 (0, 0)
      case c3 => rw [HXL.out]; simp; omega
      case c4 => exact (HBk.out.alloc HBk.out.size _).size
      intro v' w' hown hg hnx
      rw [← HSN.out, HXL.out] at hown
      have hbl : Below w.heap.size w w' := (HBk.out.alloc HBk.out.size _).grown hg (HBk.out.alloc HBk.out.size _).size (fun j hj => (HO.out.lt j hj).1)
      have HO2 := Lib.hid hown; have HB2 := Lib.hid hbl
      obtain ⟨A6, c6, rfl⟩ := own_slice hown
      clear hown hbl hg hnx
      go_wp2_with fail
      go_roundw
      case rel => exact ⟨k + 1, by omega, by go_num, HO2.out, HB2.out⟩
      case measure => simp [intOf]; omega
    · obtain rfl : k = n := by omega
      go_wp2_with fail
      go_ret
      exact ⟨_, rfl, HO.out, HBk.out⟩
end
section
open Go.RowKit Go.Proofs
theorem mk3 (w : World) : (Instr.makeSlice 29 (.int .i64 3) (.int .i64 3)).run Try.prog w = .ok (.slice (some ⟨w.heap.size, 0, none⟩) 3 3) (w.alloc (.cells #[.int .u8 0, .int .u8 0, .int .u8 0] 5)) := by kernel_rfl
theorem mk4 (w : World) : (Instr.makeSlice 29 (.int .i64 4) (.int .i64 4)).run Try.prog w = .ok (.slice (some ⟨w.heap.size, 0, none⟩) 4 4) (w.alloc (.cells #[.int .u8 0, .int .u8 0, .int .u8 0, .int .u8 0] 5)) := by kernel_rfl
theorem Below.al {a w : World} (h : Below a.heap.size a w) (o : Obj) : Below a.heap.size a (w.alloc o) := h.alloc h.size o
theorem Below.thn {a w w' : World} (h : Below a.heap.size a w) (k : Below w.heap.size w w') : Below a.heap.size a w' := h.trans (k.mono h.size)
set_option maxHeartbeats 4000000 in
set_option maxRecDepth 100000 in
theorem crcNames_walk (w : World) : Calls Try.prog 10 #[] w fun e w' => e = .returned (.bool true) ∧ Below w.heap.size w w' := by
  have kc := fun (w : World) (C : Array Value) (n c : Nat) => Lib.run_convert_bytes_const (P := Try.prog) w 29 5 C n c Try.underlying29 Try.underlying5
  have kc2 := fun (w : World) (X : Obj) (C : Array Value) (n c : Nat) => (show (convert 29 29 (.slice (some ⟨w.heap.size + 1, 0, none⟩) n c)).run Try.prog ((w.alloc X).alloc (.cells C 5)) = .ok (.slice (some ⟨w.heap.size + 1, 0, none⟩) n c) ((w.alloc X).alloc (.cells C 5 (C.size, C.size + 1))) from by have := kc (w.alloc X) C n c; rwa [World.size_alloc] at this)
  have hmk3 := mk3; have hmk4 := mk4
  have HX := Lib.hid (Below.refl w.heap.size w)
  go_enter Try.func10, Try.ntmps10
  go_wp2_with fail
  refine (row46 0 0 32 (by decide) (by decide) (by decide) _).mono ?_
  rintro e w1 ⟨v1, rfl, hown, hb⟩
  have h1 : HB w1 v1 (rowB 0 0 32) := HB.of_own (by rw [rowB_length]; exact hown)
  obtain ⟨A1, c1, rfl⟩ := own_slice hown
  replace HX := Lib.hid (HX.out.trans (hb.mono HX.out.size))
  clear hb hown
  go_wp2_with fail
  refine (sum_new _ (rowB 0 0 32) w1 h1 (by rw [rowB_length]; decide)).mono ?_
  rw [show crcOn 0 (rowB 0 0 32) = 2324772522 from by kernel_rfl]
  rintro e w2 ⟨rfl, hb⟩
  replace HX := Lib.hid (HX.out.trans (hb.mono HX.out.size))
  clear hb h1
  go_wp2_with fail
  refine (row46 255 0 32 (by decide) (by decide) (by decide) _).mono ?_
  rintro e w1 ⟨v1, rfl, hown, hb⟩
  have h1 : HB w1 v1 (rowB 255 0 32) := HB.of_own (by rw [rowB_length]; exact hown)
  obtain ⟨A1, c1, rfl⟩ := own_slice hown
  replace HX := Lib.hid (HX.out.trans (hb.mono HX.out.size))
  clear hb hown
  go_wp2_with fail
  refine (sum_new _ (rowB 255 0 32) w1 h1 (by rw [rowB_length]; decide)).mono ?_
  rw [show crcOn 0 (rowB 255 0 32) = 1655221059 from by kernel_rfl]
  rintro e w2 ⟨rfl, hb⟩
  replace HX := Lib.hid (HX.out.trans (hb.mono HX.out.size))
  clear hb h1
  go_wp2_with fail
  refine (row46 0 1 32 (by decide) (by decide) (by decide) _).mono ?_
  rintro e w1 ⟨v1, rfl, hown, hb⟩
  have h1 : HB w1 v1 (rowB 0 1 32) := HB.of_own (by rw [rowB_length]; exact hown)
  obtain ⟨A1, c1, rfl⟩ := own_slice hown
  replace HX := Lib.hid (HX.out.trans (hb.mono HX.out.size))
  clear hb hown
  go_wp2_with fail
  refine (sum_new _ (rowB 0 1 32) w1 h1 (by rw [rowB_length]; decide)).mono ?_
  rw [show crcOn 0 (rowB 0 1 32) = 1188919630 from by kernel_rfl]
  rintro e w2 ⟨rfl, hb⟩
  replace HX := Lib.hid (HX.out.trans (hb.mono HX.out.size))
  clear hb h1
  go_wp2_with fail
  refine (row46 31 (-1) 32 (by decide) (by decide) (by decide) _).mono ?_
  rintro e w1 ⟨v1, rfl, hown, hb⟩
  have h1 : HB w1 v1 (rowB 31 (-1) 32) := HB.of_own (by rw [rowB_length]; exact hown)
  obtain ⟨A1, c1, rfl⟩ := own_slice hown
  replace HX := Lib.hid (HX.out.trans (hb.mono HX.out.size))
  clear hb hown
  go_wp2_with fail
  refine (sum_new _ (rowB 31 (-1) 32) w1 h1 (by rw [rowB_length]; decide)).mono ?_
  rw [show crcOn 0 (rowB 31 (-1) 32) = 289397596 from by kernel_rfl]
  rintro e w2 ⟨rfl, hb⟩
  replace HX := Lib.hid (HX.out.trans (hb.mono HX.out.size))
  clear hb h1
  go_wp2_with fail
  have ha : HB ((w2.alloc (.cells #[.int .u8 49, .int .u8 50, .int .u8 51, .int .u8 52] 5 (4, 5))).alloc (.cells #[.int .u8 53, .int .u8 54, .int .u8 55, .int .u8 56, .int .u8 57] 5 (5, 6))) (.slice (some ⟨w2.heap.size, 0, none⟩) 4 4) [49, 50, 51, 52] := HB.below (HB.lit w2 [49, 50, 51, 52] 5 (4, 5)) ((Below.refl _ _).alloc (Nat.le_refl _) _)
  have hc : HB ((w2.alloc (.cells #[.int .u8 49, .int .u8 50, .int .u8 51, .int .u8 52] 5 (4, 5))).alloc (.cells #[.int .u8 53, .int .u8 54, .int .u8 55, .int .u8 56, .int .u8 57] 5 (5, 6))) (.slice (some ⟨w2.heap.size + 1, 0, none⟩) 5 5) [53, 54, 55, 56, 57] := by have := HB.lit (w2.alloc (.cells #[.int .u8 49, .int .u8 50, .int .u8 51, .int .u8 52] 5 (4, 5))) [53, 54, 55, 56, 57] 5 (5, 6); rw [World.size_alloc] at this; exact this
  have hP := HParts.three ha (HB.nil _ none 0) hc 29
  simp only [World.size_alloc] at hP
  refine (sum_any _ [[49, 50, 51, 52], [], [53, 54, 55, 56, 57]] _ hP (by decide) (by decide)).mono ?_
  rw [show crcOn 0 (List.flatten [[49, 50, 51, 52], [], [53, 54, 55, 56, 57]]) = 3808858755 from by kernel_rfl]
  rintro e w3 ⟨rfl, hb⟩
  replace HX := Lib.hid (Below.thn (Below.al (Below.al (Below.al HX.out _) _) _) hb)
  clear hb ha hc hP
  go_wp2_with fail
  have hs := sum_new _ [49, 50, 51, 52, 53, 54, 55, 56] (w3.alloc (.cells #[.int .u8 49, .int .u8 50, .int .u8 51, .int .u8 52, .int .u8 53, .int .u8 54, .int .u8 55, .int .u8 56] 5 (8, 9))) (HB.lit w3 [49, 50, 51, 52, 53, 54, 55, 56] 5 (8, 9)) (by decide)
  rw [World.size_alloc, show crcOn 0 [49, 50, 51, 52, 53, 54, 55, 56] = 1619493018 from by kernel_rfl] at hs
  refine hs.mono ?_
  rintro e w4 ⟨rfl, hb⟩
  replace HX := Lib.hid (Below.thn (Below.al HX.out _) (by rw [World.size_alloc]; exact hb))
  clear hb hs
  go_wp2_with fail
  have hs := on_any 1619493018 (by decide) _ [57] (w4.alloc (.cells #[.int .u8 57] 5 (1, 2))) (HB.lit w4 [57] 5 (1, 2)) (by decide)
  rw [show crcOn 1619493018 [57] = 3808858755 from by kernel_rfl] at hs
  refine hs.mono ?_
  rintro e w5 ⟨rfl, hb⟩
  replace HX := Lib.hid (Below.thn (Below.al HX.out _) hb)
  clear hb hs
  go_wp2_with fail
  have hs := on_any 7 (by decide) (.slice none 0 0) [] w5 (HB.nil _ _ _) (by decide)
  rw [show crcOn 7 [] = 7 from by kernel_rfl] at hs
  refine hs.mono ?_
  rintro e w6 ⟨rfl, hb⟩
  replace HX := Lib.hid (Below.thn HX.out hb)
  clear hb hs
  go_wp2_with fail
  have hs := mark_any _ [49, 50, 51, 52, 53, 54, 55, 56, 57] (w6.alloc (.cells #[.int .u8 49, .int .u8 50, .int .u8 51, .int .u8 52, .int .u8 53, .int .u8 54, .int .u8 55, .int .u8 56, .int .u8 57] 5 (9, 10))) (HB.lit w6 [49, 50, 51, 52, 53, 54, 55, 56, 57] 5 (9, 10)) (by decide)
  obtain ⟨mk, hmk⟩ : ∃ m, m = markB [49, 50, 51, 52, 53, 54, 55, 56, 57] := ⟨_, rfl⟩
  have hm1 : mk.length = 13 := by rw [hmk]; kernel_rfl
  have hm2 : leNum (mk.drop 9) = crcOn 0 (mk.take 9) := by rw [hmk]; kernel_rfl
  have hm3 : mk.take 9 = [49, 50, 51, 52, 53, 54, 55, 56, 57] := by rw [hmk]; kernel_rfl
  have hm4 : mk = [49, 50, 51, 52, 53, 54, 55, 56, 57]  ++ [131, 146, 6, 227] := by rw [hmk]; kernel_rfl
  rw [← hmk, hm1] at hs
  clear hmk
  refine hs.mono ?_
  rintro e w7 ⟨v7, rfl, hown, hb⟩
  have h7 : HB w7 v7 mk := HB.of_own (by rw [hm1]; exact hown)
  obtain ⟨A7, c7, rfl⟩ := own_slice hown
  replace HX := Lib.hid (Below.thn (Below.al HX.out _) hb)
  have H7 := Lib.hid h7
  clear hb hs hown h7
  go_wp2_with fail
  refine (bare_ok _ mk 9 w7 H7.out (by omega) (by omega) hm2).mono ?_
  rw [hm3]
  rintro e w8 ⟨v8, rfl, hown, hb⟩
  have H8 := Lib.hid (show HB w8 v8 [49, 50, 51, 52, 53, 54, 55, 56, 57] from HB.of_own hown)
  obtain ⟨A8, c8, rfl⟩ := own_slice hown
  replace HX := Lib.hid (Below.thn HX.out hb)
  replace H7 := Lib.hid (H7.out.below hb)
  clear hb hown hm1 hm2 hm3
  go_wp2_with fail
  refine (bare_short _ [0, 0, 0] _ (HB.lit w8 [0, 0, 0] 5 (0, 0)) (by decide) (by decide)).mono ?_
  rintro e w9 ⟨rfl, hb⟩
  replace HX := Lib.hid (Below.thn (Below.al HX.out _) hb)
  replace H7 := Lib.hid ((H7.out.below ((Below.refl _ _).alloc (Nat.le_refl _) _)).below hb)
  replace H8 := Lib.hid ((H8.out.below ((Below.refl _ _).alloc (Nat.le_refl _) _)).below hb)
  clear hb
  go_wp2_with fail
  refine (bare_short (.slice none 0 0) [] _ (HB.nil _ _ _) (by decide) (by decide)).mono ?_
  rintro e w10 ⟨rfl, hb⟩
  replace HX := Lib.hid (Below.thn HX.out hb)
  replace H7 := Lib.hid (H7.out.below hb)
  replace H8 := Lib.hid (H8.out.below hb)
  clear hb
  go_wp2_with fail
  refine (bare_ok _ [0, 0, 0, 0] 0 _ (HB.lit w10 [0, 0, 0, 0] 5 (0, 0)) (by decide) (by decide) (by kernel_rfl)).mono ?_
  rintro e w11 ⟨v11, rfl, hown, hb⟩
  obtain ⟨A11, c11, rfl⟩ := own_slice hown
  replace HX := Lib.hid (Below.thn (Below.al HX.out _) hb)
  replace H7 := Lib.hid ((H7.out.below ((Below.refl _ _).alloc (Nat.le_refl _) _)).below hb)
  replace H8 := Lib.hid ((H8.out.below ((Below.refl _ _).alloc (Nat.le_refl _) _)).below hb)
  clear hb hown
  go_wp2_with fail
  refine (bare_no _ [1, 0, 0, 0] 0 _ (HB.lit w11 [1, 0, 0, 0] 5 (0, 0)) (by decide) (by decide) (by rw [show leNum (List.drop 0 [1, 0, 0, 0]) = 1 from by kernel_rfl, show crcOn 0 (List.take 0 [1, 0, 0, 0]) = 0 from by kernel_rfl]; decide)).mono ?_
  rintro e w12 ⟨rfl, hb⟩
  replace HX := Lib.hid (Below.thn (Below.al HX.out _) hb)
  replace H7 := Lib.hid ((H7.out.below ((Below.refl _ _).alloc (Nat.le_refl _) _)).below hb)
  replace H8 := Lib.hid ((H8.out.below ((Below.refl _ _).alloc (Nat.le_refl _) _)).below hb)
  clear hb
  go_wp2_with fail
  refine (alive2_any _).mono ?_
  rintro e w13 ⟨rfl, hb⟩
  replace HX := Lib.hid (Below.thn HX.out hb)
  have s7 := (H7.out.below hb).string (P := Try.prog) 29 9 5 Try.underlying29 Try.underlying5 Try.underlying9
  have s8 := (H8.out.below hb).string (P := Try.prog) 29 9 5 Try.underlying29 Try.underlying5 Try.underlying9
  rw [hm4] at s7
  clear hb hm4
  go_wp2_with fail
  go_ret
  exact ⟨rfl, HX.out⟩
end
end Go.Proofs.Ytkibccmfgndfjaa
