/- Contracts and words that the laws stand on (OctetNamesWalk). -/
import Derived.Test.YtkibccmfgndfjaaShort
set_option linter.unusedVariables false
set_option linter.unusedSimpArgs false
namespace Go.Proofs.Ytkibccmfgndfjaa
section
open Go.RowKit Go.Proofs
/-! Calls on none. -/
theorem n51 (k n : Int) (w : World) : Calls Try.prog 51 #[.pointer none, .int .i64 k, .int .u64 n] w fun e w' => e = .returned (.int .i64 1) ∧ w' = w := by
  go_enter Try.func51, Try.ntmps51
  go_wp2
  go_ret
  exact ⟨rfl, rfl⟩
theorem n47 (n : Int) (w : World) : Calls Try.prog 47 #[.pointer none, .int .u64 n] w fun e w' => e = .returned (.int .i64 1) ∧ w' = w := by
  go_enter Try.func47, Try.ntmps47
  go_wp2
  go_ret
  exact ⟨rfl, rfl⟩
theorem n48 (w : World) : Calls Try.prog 48 #[.pointer none, .slice none 0 0] w fun e w' => e = .returned (.int .i64 1) ∧ w' = w := by
  go_enter Try.func48, Try.ntmps48
  go_wp2_with (go_at_call 47; refine (n47 _ _).mono ?_; rintro e w' ⟨rfl, rfl⟩)
  go_ret
  exact ⟨rfl, rfl⟩
theorem n24 (w : World) : Calls Try.prog 24 #[.pointer none, .slice none 0 0] w fun e w' => e = .returned (.int .i64 1) ∧ w' = w := by
  go_enter Try.func24, Try.ntmps24
  go_wp2
  go_ret
  exact ⟨rfl, rfl⟩
theorem n28 (w : World) : Calls Try.prog 28 #[.pointer none] w fun e w' => e = .returned (.int .i64 0) ∧ w' = w := by
  go_enter Try.func28, Try.ntmps28
  go_wp2
  go_ret
  exact ⟨rfl, rfl⟩
theorem n25 (w : World) : Calls Try.prog 25 #[.pointer none] w fun e w' => e = .returned (.slice none 0 0) ∧ w' = w := by
  go_enter Try.func25, Try.ntmps25
  go_wp2
  go_ret
  exact ⟨rfl, rfl⟩
theorem n64 (w : World) : Calls Try.prog 64 #[.pointer none] w fun e w' => e = .returned (.bool true) ∧ w' = w := by
  go_enter Try.func64, Try.ntmps64
  go_wp2
  go_ret
  exact ⟨rfl, rfl⟩
theorem s64 (p : Nat) (w : World) (hc : w.cell? ⟨p, 0, none⟩ = some (.bool false)) : Calls Try.prog 64 #[.pointer (some ⟨p, 0, none⟩)] w fun e w' => e = .returned (.bool true) ∧ w' = w := by
  go_enter Try.func64, Try.ntmps64
  go_wp2
  go_ret
  exact ⟨rfl, rfl⟩
theorem s32 (p : Nat) (k : Int) (w : World) (hc : w.cell? ⟨p, 0, none⟩ = some (.bool false)) : Calls Try.prog 32 #[.pointer (some ⟨p, 0, none⟩), .int .i64 k] w fun e w' => e = .returned (.tuple #[.int .u64 0, .int .i64 1]) ∧ w' = w := by
  go_enter Try.func32, Try.ntmps32
  go_wp2_with (go_at_call 64; refine (s64 p _ hc).mono ?_; rintro e w' ⟨rfl, rfl⟩)
  go_ret2
  exact ⟨rfl, rfl⟩
theorem n34 (w : World) : Calls Try.prog 34 #[.pointer none] w fun e w' => e = .returned (.tuple #[.int .u64 0, .int .i64 1]) ∧ w' = w := by
  go_enter Try.func34, Try.ntmps34
  go_wp2_with (go_at_call 64; refine (n64 _).mono ?_; rintro e w' ⟨rfl, rfl⟩)
  go_ret2
  exact ⟨rfl, rfl⟩
theorem s37 (p : Nat) (k : Int) (w : World) (hc : w.cell? ⟨p, 0, none⟩ = some (.bool false)) : Calls Try.prog 37 #[.pointer (some ⟨p, 0, none⟩), .int .i64 k] w fun e w' => e = .returned (.tuple #[.slice none 0 0, .int .i64 1]) ∧ w' = w := by
  go_enter Try.func37, Try.ntmps37
  go_wp2_with (go_at_call 64; refine (s64 p _ hc).mono ?_; rintro e w' ⟨rfl, rfl⟩)
  go_ret2
  exact ⟨rfl, rfl⟩
theorem n36 (k : Int) (w : World) : Calls Try.prog 36 #[.pointer none, .int .i64 k] w fun e w' => e = .returned (.tuple #[.slice none 0 0, .int .i64 1]) ∧ w' = w := by
  go_enter Try.func36, Try.ntmps36
  go_wp2_with (go_at_call 64; refine (n64 _).mono ?_; rintro e w' ⟨rfl, rfl⟩)
  go_ret2
  exact ⟨rfl, rfl⟩
theorem s40 (p : Nat) (w : World) (hc : w.cell? ⟨p, 0, none⟩ = some (.bool false)) : Calls Try.prog 40 #[.pointer (some ⟨p, 0, none⟩)] w fun e w' => e = .returned (.int .i64 0) ∧ w' = w := by
  go_enter Try.func40, Try.ntmps40
  go_wp2_with (go_at_call 64; refine (s64 p _ hc).mono ?_; rintro e w' ⟨rfl, rfl⟩)
  go_ret
  exact ⟨rfl, rfl⟩
theorem n41 (w : World) : Calls Try.prog 41 #[.pointer none] w fun e w' => e = .returned (.int .i64 1) ∧ w' = w := by
  go_enter Try.func41, Try.ntmps41
  go_wp2_with (go_at_call 64; refine (n64 _).mono ?_; rintro e w' ⟨rfl, rfl⟩)
  go_ret
  exact ⟨rfl, rfl⟩
end
section
open Go.RowKit Go.Proofs
theorem alo {a w : World} (h : Below a.heap.size a w) (o : Obj) : Below a.heap.size a (w.alloc o) := h.alloc h.size o
theorem thx {a w w' : World} (h : Below a.heap.size a w) (k : Below w.heap.size w w') : Below a.heap.size a w' := h.trans (k.mono h.size)
/-- An eye that lies from w's end on, and all that was there is as it was. -/
structure EyeIn (w w' : World) (g : Nat) (u : Value) (xs : List UInt8) : Prop where
  eye : IsEye w' g u xs
  lo : w.heap.size ≤ g
  below : Below w.heap.size w w'
theorem EyeIn.go {w w1 w2 : World} {g : Nat} {u u' : Value} {xs ys : List UInt8} (h : EyeIn w w1 g u xs) (k : EyeGo w1 w2 g u u' ys) : EyeIn w w2 g u' ys :=
  ⟨k.eye, h.lo, h.below.trans (k.chg.below (fun i hi => by simp at hi; have := h.lo; omega) h.below.size)⟩
theorem EyeIn.blw {w w1 w2 : World} {g : Nat} {u : Value} {xs : List UInt8} (h : EyeIn w w1 g u xs) (k : Below w1.heap.size w1 w2) : EyeIn w w2 g u xs := ⟨h.eye.below k, h.lo, thx h.below k⟩
theorem HB.eyego {w1 w2 : World} {g : Nat} {u u' v : Value} {xs ys : List UInt8} (h : HB w1 v xs) (k : EyeGo w1 w2 g u u' ys) (hn : ∀ i, v.ownBlock = some i → i ≠ g) : HB w2 v xs := h.chg k.chg (fun i hi => by simp; exact hn i hi)
theorem own_ge {w : World} {base n : Nat} {e : TypeId} {size : Nat} {v : Value} {xs : List Value} (h : w.ownsRow base e size v n xs) {i : Nat} (hi : v.ownBlock = some i) : base ≤ i := by
  rcases h.2 with ⟨rfl, _⟩ | ⟨g, cap, cur, rfl, hb, _⟩
  · cases hi
  · injection hi with hi; subst hi; exact hb
attribute [local irreducible] Calls
set_option maxHeartbeats 8000000 in
set_option maxRecDepth 100000 in
theorem octetNames_walk (w : World) : Calls Try.prog 14 #[] w fun e w' => e = .returned (.bool true) ∧ Below w.heap.size w w' := by
  have P0 := PenIn.new w
  have HP := Lib.hid P0
  clear P0
  go_enter Try.func14, Try.ntmps14
  go_wp2_with fail
  refine (fixedI _ 1 256 _ ([] : List UInt8) _ HP.out.pen ⟨by decide, by decide⟩ (by decide)).mono ?_
  rw [show fixedE 1 (Int.toNat 256) = 10 from by decide, show ([] : List UInt8) ++ fixedB 1 (Int.toNat 256) = ([] : List UInt8) from by decide]
  rintro e w1 ⟨rfl, v1, g1⟩
  replace HP := Lib.hid (HP.out.go g1 HP.out.below.size)
  clear g1
  go_wp2_with fail
  refine (fixedI _ 3 0 _ ([] : List UInt8) _ HP.out.pen ⟨by decide, by decide⟩ (by decide)).mono ?_
  rw [show fixedE 3 (Int.toNat 0) = 2 from by decide, show ([] : List UInt8) ++ fixedB 3 (Int.toNat 0) = ([] : List UInt8) from by decide]
  rintro e w1 ⟨rfl, v1, g1⟩
  replace HP := Lib.hid (HP.out.go g1 HP.out.below.size)
  clear g1
  go_wp2_with fail
  refine (fixedI _ 0 0 _ ([] : List UInt8) _ HP.out.pen ⟨by decide, by decide⟩ (by decide)).mono ?_
  rw [show fixedE 0 (Int.toNat 0) = 2 from by decide, show ([] : List UInt8) ++ fixedB 0 (Int.toNat 0) = ([] : List UInt8) from by decide]
  rintro e w1 ⟨rfl, v1, g1⟩
  replace HP := Lib.hid (HP.out.go g1 HP.out.below.size)
  clear g1
  go_wp2_with fail
  refine (fixedI _ 16 0 _ ([] : List UInt8) _ HP.out.pen ⟨by decide, by decide⟩ (by decide)).mono ?_
  rw [show fixedE 16 (Int.toNat 0) = 2 from by decide, show ([] : List UInt8) ++ fixedB 16 (Int.toNat 0) = ([] : List UInt8) from by decide]
  rintro e w1 ⟨rfl, v1, g1⟩
  replace HP := Lib.hid (HP.out.go g1 HP.out.below.size)
  clear g1
  go_wp2_with fail
  refine (fixedI _ 4 4294967296 _ ([] : List UInt8) _ HP.out.pen ⟨by decide, by decide⟩ (by decide)).mono ?_
  rw [show fixedE 4 (Int.toNat 4294967296) = 10 from by decide, show ([] : List UInt8) ++ fixedB 4 (Int.toNat 4294967296) = ([] : List UInt8) from by decide]
  rintro e w1 ⟨rfl, v1, g1⟩
  replace HP := Lib.hid (HP.out.go g1 HP.out.below.size)
  clear g1
  go_wp2_with fail
  refine (fixedI _ 8 18446744073709551615 _ ([] : List UInt8) _ HP.out.pen ⟨by decide, by decide⟩ (by decide)).mono ?_
  rw [show fixedE 8 (Int.toNat 18446744073709551615) = 0 from by decide, show ([] : List UInt8) ++ fixedB 8 (Int.toNat 18446744073709551615) = [255, 255, 255, 255, 255, 255, 255, 255] from by decide]
  rintro e w1 ⟨rfl, v1, g1⟩
  replace HP := Lib.hid (HP.out.go g1 HP.out.below.size)
  clear g1
  go_wp2_with fail
  refine (plen_any _ _ _ _ HP.out.pen).mono ?_
  rintro e w1' ⟨rfl, rfl⟩
  go_wp2_with fail
  refine (compact_any 252 _ (by decide)).mono ?_
  rw [show compact 252 = 1 from by decide]
  rintro e w1' ⟨rfl, rfl⟩
  go_wp2_with fail
  refine (compact_any 253 _ (by decide)).mono ?_
  rw [show compact 253 = 3 from by decide]
  rintro e w1' ⟨rfl, rfl⟩
  go_wp2_with fail
  refine (compact_any 65535 _ (by decide)).mono ?_
  rw [show compact 65535 = 3 from by decide]
  rintro e w1' ⟨rfl, rfl⟩
  go_wp2_with fail
  refine (compact_any 65536 _ (by decide)).mono ?_
  rw [show compact 65536 = 5 from by decide]
  rintro e w1' ⟨rfl, rfl⟩
  go_wp2_with fail
  refine (compact_any 4294967295 _ (by decide)).mono ?_
  rw [show compact 4294967295 = 5 from by decide]
  rintro e w1' ⟨rfl, rfl⟩
  go_wp2_with fail
  refine (compact_any 4294967296 _ (by decide)).mono ?_
  rw [show compact 4294967296 = 9 from by decide]
  rintro e w1' ⟨rfl, rfl⟩
  have HX := Lib.hid HP.out.below
  clear HP
  go_wp2_with fail
  have HQ := Lib.hid (PenIn.new w1)
  refine (psize_any _ 65536 _ _ _ HQ.out.pen ⟨by decide, by decide⟩ (by decide)).mono ?_
  rw [show ([] : List UInt8) ++ csize (Int.toNat 65536) = [254, 0, 0, 1, 0] from by decide]
  rintro e w2 ⟨rfl, v2, g2⟩
  replace HQ := Lib.hid (HQ.out.go g2 HQ.out.below.size)
  clear g2
  go_wp2_with fail
  refine (psize_any _ 4294967296 _ _ _ HQ.out.pen ⟨by decide, by decide⟩ (by decide)).mono ?_
  rw [show ([254, 0, 0, 1, 0] : List UInt8) ++ csize (Int.toNat 4294967296) = [254, 0, 0, 1, 0, 255, 0, 0, 0, 0, 1, 0, 0, 0] from by decide]
  rintro e w3 ⟨rfl, v3, g3⟩
  replace HQ := Lib.hid (HQ.out.go g3 HQ.out.below.size)
  clear g3
  go_wp2_with fail
  refine (pall_any _ _ _ _ HQ.out.pen (by decide)).mono ?_
  rintro e w4 ⟨v4, rfl, hown, hb⟩
  have s4 := (HB.of_own hown).string (P := Try.prog) 29 9 5 Try.underlying29 Try.underlying5 Try.underlying9
  replace HX := Lib.hid (thx (thx HX.out HQ.out.below) hb)
  clear HQ hown hb
  go_wp2_with fail
  clear s4
  refine (look_any _ [253, 252, 0] _ (HB.lit w4 [253, 252, 0] 5 (0, 0)) (by decide)).mono ?_
  rintro e w5 ⟨g, u, rfl, hg, he, hu, hb⟩
  have hlo := (alo HX.out (.cells (bs [253, 252, 0]).toArray 5)).size
  have HE := Lib.hid (show EyeIn w w5 g u [253, 252, 0] from ⟨he, Nat.le_trans hlo hg, thx (alo HX.out _) hb⟩)
  have HU := Lib.hid hu
  replace HX := Lib.hid HE.out.below
  clear hg he hu hb hlo
  go_wp2_with fail
  refine (esz_bad g u [253, 252, 0] _ HE.out.eye (by decide)).mono ?_
  rintro e w6 ⟨rfl, hb⟩
  replace HE := Lib.hid (HE.out.blw hb)
  replace HX := Lib.hid HE.out.below
  clear hb
  go_wp2_with fail
  refine (ebytes_bad g u [253, 252, 0] 9 _ HE.out.eye (by decide) (by decide) (by decide)).mono ?_
  rintro e w7 ⟨rfl, hb⟩
  replace HE := Lib.hid (HE.out.blw hb)
  replace HX := Lib.hid HE.out.below
  clear hb
  go_wp2_with fail
  refine (left_any g u [253, 252, 0] _ HE.out.eye).mono ?_
  rintro e w' ⟨rfl, rfl⟩
  go_wp2_with fail
  refine (look_any _ [2, 97] _ (HB.lit w7 [2, 97] 5 (0, 0)) (by decide)).mono ?_
  rintro e w8 ⟨g, u, rfl, hg, he, hu, hb⟩
  have hlo := (alo HX.out (.cells (bs [2, 97]).toArray 5)).size
  have HE := Lib.hid (show EyeIn w w8 g u [2, 97] from ⟨he, Nat.le_trans hlo hg, thx (alo HX.out _) hb⟩)
  have HU := Lib.hid hu
  replace HX := Lib.hid HE.out.below
  clear hg he hu hb hlo
  go_wp2_with fail
  refine (ebytes_bad g u [2, 97] 9 _ HE.out.eye (by decide) (by decide) (by decide)).mono ?_
  rintro e w9 ⟨rfl, hb⟩
  replace HE := Lib.hid (HE.out.blw hb)
  replace HX := Lib.hid HE.out.below
  clear hb
  go_wp2_with fail
  refine (look_any _ [2, 97, 98, 7, 0] _ (HB.lit w9 [2, 97, 98, 7, 0] 5 (0, 0)) (by decide)).mono ?_
  rintro e w10 ⟨g, u, rfl, hg, he, hu, hb⟩
  have hlo := (alo HX.out (.cells (bs [2, 97, 98, 7, 0]).toArray 5)).size
  have HE := Lib.hid (show EyeIn w w10 g u [2, 97, 98, 7, 0] from ⟨he, Nat.le_trans hlo hg, thx (alo HX.out _) hb⟩)
  have HU := Lib.hid hu
  replace HX := Lib.hid HE.out.below
  clear hg he hu hb hlo
  go_wp2_with fail
  refine (ebytes_bad g u [2, 97, 98, 7, 0] 1 _ HE.out.eye (by decide) (by decide) (by decide)).mono ?_
  rintro e w11 ⟨rfl, hb⟩
  replace HE := Lib.hid (HE.out.blw hb)
  replace HX := Lib.hid HE.out.below
  clear hb
  go_wp2_with fail
  refine (ebytes_ok g u [2, 97, 98, 7, 0] [97, 98] 3 2 _ HE.out.eye (by decide) (by decide) (by decide)).mono ?_
  rintro e w12 ⟨vb, u2, rfl, hown, hgo⟩
  rw [show List.drop 3 ([2, 97, 98, 7, 0] : List UInt8) = [7, 0] from rfl] at hgo
  have HBB := Lib.hid (HB.of_own hown)
  have hne : ∀ i, vb.ownBlock = some i → i ≠ g := fun i hi => by have h1 := own_ge hown hi; have h2 := blk_lt HE.out.eye.blk; omega
  have HNE := Lib.hid hne
  replace HE := Lib.hid (HE.out.go hgo)
  replace HX := Lib.hid HE.out.below
  obtain ⟨Ab, cb, rfl⟩ := own_slice hown
  clear hown hgo hne HU
  go_wp2_with fail
  refine (end_any g u2 [7, 0] _ HE.out.eye).mono ?_
  rw [if_neg (by decide)]
  rintro e w' ⟨rfl, rfl⟩
  go_wp2_with fail
  refine (efixed_ok g 2 u2 [7, 0] _ HE.out.eye (by decide) (by decide)).mono ?_
  rw [show List.drop (Int.toNat 2) ([7, 0] : List UInt8) = [] from rfl, show leNum (List.take (Int.toNat 2) ([7, 0] : List UInt8)) = 7 from by decide]
  rintro e w13 ⟨u3, rfl, hgo⟩
  replace HBB := Lib.hid (HBB.out.eyego hgo HNE.out)
  replace HE := Lib.hid (HE.out.go hgo)
  replace HX := Lib.hid HE.out.below
  clear hgo
  go_wp2_with fail
  refine (esz_bad g u3 [] _ HE.out.eye (by decide)).mono ?_
  rintro e w14 ⟨rfl, hb⟩
  replace HE := Lib.hid (HE.out.blw hb)
  replace HX := Lib.hid HE.out.below
  replace HBB := Lib.hid (HBB.out.below hb)
  clear hb
  go_wp2_with fail
  refine (efixed_bad g 1 u3 [] _ HE.out.eye (by decide)).mono ?_
  rw [show efixE 1 ([] : List UInt8).length = 10 from by decide]
  rintro e w' ⟨rfl, rfl⟩
  go_wp2_with fail
  refine (eraw_bad g (-1) u3 [] _ HE.out.eye (by decide) (by decide)).mono ?_
  rw [show rawE (-1) ([] : List UInt8).length = 2 from by decide]
  rintro e w' ⟨rfl, rfl⟩
  go_wp2_with fail
  refine (eraw_bad g 1 u3 [] _ HE.out.eye (by decide) (by decide)).mono ?_
  rw [show rawE 1 ([] : List UInt8).length = 10 from by decide]
  rintro e w' ⟨rfl, rfl⟩
  go_wp2_with fail
  refine (efixed_bad g 5 u3 [] _ HE.out.eye (by decide)).mono ?_
  rw [show efixE 5 ([] : List UInt8).length = 2 from by decide]
  rintro e w' ⟨rfl, rfl⟩
  go_wp2_with fail
  refine (look_any _ [255, 0, 0, 0, 0, 0, 0, 0] _ (HB.lit w14 [255, 0, 0, 0, 0, 0, 0, 0] 5 (0, 0)) (by decide)).mono ?_
  rintro e w15 ⟨g', u', rfl, hg, he, hu, hb⟩
  have hb2 := ((Below.refl w14.heap.size w14).alloc (Nat.le_refl _) (.cells (bs [255, 0, 0, 0, 0, 0, 0, 0]).toArray 5)).trans (hb.mono (by simp))
  replace HE := Lib.hid (HE.out.blw hb2)
  replace HBB := Lib.hid (HBB.out.below hb2)
  have HE2 := Lib.hid he
  clear hg he hu hb hb2
  go_wp2_with fail
  refine (esz_bad g' u' [255, 0, 0, 0, 0, 0, 0, 0] _ HE2.out (by decide)).mono ?_
  rintro e w16 ⟨rfl, hb⟩
  replace HE := Lib.hid (HE.out.blw hb)
  replace HX := Lib.hid HE.out.below
  replace HBB := Lib.hid (HBB.out.below hb)
  clear hb HE2
  go_wp2_with fail
  refine (look_any _ [0] _ (HB.lit w16 [0] 5 (0, 0)) (by decide)).mono ?_
  rintro e w17 ⟨g', u', rfl, hg, he, hu, hb⟩
  have hb2 := ((Below.refl w16.heap.size w16).alloc (Nat.le_refl _) (.cells (bs [0]).toArray 5)).trans (hb.mono (by simp))
  replace HE := Lib.hid (HE.out.blw hb2)
  replace HBB := Lib.hid (HBB.out.below hb2)
  have HE2 := Lib.hid he
  clear hg he hu hb hb2
  go_wp2_with fail
  refine (ebytes_bad g' u' [0] (-1) _ HE2.out (by decide) (by decide) (by decide)).mono ?_
  rintro e w18 ⟨rfl, hb⟩
  replace HE := Lib.hid (HE.out.blw hb)
  replace HX := Lib.hid HE.out.below
  replace HBB := Lib.hid (HBB.out.below hb)
  clear hb HE2
  have sb : (convert 29 9 (.slice Ab 2 cb)).run Try.prog w18 = .ok (.string ⟨#[97, 98]⟩) w18 := HBB.out.string (P := Try.prog) 29 9 5 Try.underlying29 Try.underlying5 Try.underlying9
  go_wp2_with fail
  refine (end_any g u3 [] _ HE.out.eye).mono ?_
  rw [if_pos rfl]
  rintro e w' ⟨rfl, rfl⟩
  clear sb HBB HE
  have hcs := blk_cell (heap_alloc_new w18 (.cells #[.bool false, .slice none 0 0] 85)) 0
  have HCS := Lib.hid hcs
  clear hcs
  replace HX := Lib.hid (alo HX.out (.cells #[.bool false, .slice none 0 0] 85))
  go_wp2_with (first | (go_at_call 32; refine (s32 _ _ _ HCS.out).mono ?_; rintro e w' ⟨rfl, rfl⟩) | (go_at_call 34; refine (n34 _).mono ?_; rintro e w' ⟨rfl, rfl⟩) | (go_at_call 37; refine (s37 _ _ _ HCS.out).mono ?_; rintro e w' ⟨rfl, rfl⟩) | (go_at_call 36; refine (n36 _ _).mono ?_; rintro e w' ⟨rfl, rfl⟩) | (go_at_call 51; refine (n51 _ _ _).mono ?_; rintro e w' ⟨rfl, rfl⟩) | (go_at_call 47; refine (n47 _ _).mono ?_; rintro e w' ⟨rfl, rfl⟩) | (go_at_call 48; refine (n48 _).mono ?_; rintro e w' ⟨rfl, rfl⟩) | (go_at_call 24; refine (n24 _).mono ?_; rintro e w' ⟨rfl, rfl⟩) | (go_at_call 28; refine (n28 _).mono ?_; rintro e w' ⟨rfl, rfl⟩) | (go_at_call 25; refine (n25 _).mono ?_; rintro e w' ⟨rfl, rfl⟩) | (go_at_call 40; refine (s40 _ _ HCS.out).mono ?_; rintro e w' ⟨rfl, rfl⟩) | (go_at_call 41; refine (n41 _).mono ?_; rintro e w' ⟨rfl, rfl⟩) | (go_at_call 23; refine (alive1_any _).mono ?_; rintro e wz ⟨rfl, hb⟩; replace HX := Lib.hid (thx HX.out hb); clear hb))
  go_ret
  exact ⟨rfl, HX.out⟩
end
end Go.Proofs.Ytkibccmfgndfjaa
