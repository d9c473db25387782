/- Contracts and words that the laws stand on (SegmentOrderWalk). -/
import Derived.Test.YtakeggdpnfibpaaSegmentOnlyWalk
set_option linter.unusedVariables false
set_option linter.unusedSimpArgs false
namespace Go.Proofs.Ytakeggdpnfibpaa
section
open Go Go.RowKit Go.Proofs
attribute [local irreducible] Calls

/-- The bytes of the j first groups without group k. -/
def oBy (Z : List (Value × Grp)) (k : Nat) (j : Nat) : List UInt8 := if j ≤ k then gBy 1 Z j else gBy 1 Z k ++ encG (k + 2) (((Z.drop (k + 1)).take (j - (k + 1))).map (·.2))
theorem gBy_next (num : Nat) {Z : List (Value × Grp)} {j : Nat} {x : Value × Grp} (h : Z[j]? = some x) : gBy num Z (j + 1) = gBy num Z j ++ encL (segL (num + j) x.2) := by
  have hi := (List.getElem?_eq_some_iff.1 h).1
  have hl : ((Z.take j).map (·.2)).length = j := by rw [List.length_map, List.length_take, Nat.min_eq_left (by omega)]
  unfold gBy
  rw [take_snoc Z j x h, List.map_append, List.map_cons, List.map_nil, encG_snoc, hl]
theorem oBy_skip (Z : List (Value × Grp)) (k : Nat) : oBy Z k (k + 1) = oBy Z k k := by
  unfold oBy
  rw [if_neg (by omega), if_pos (Nat.le_refl _), Nat.sub_self]
  simp [encG]
theorem oBy_next {Z : List (Value × Grp)} {k j : Nat} {x : Value × Grp} (h : Z[j]? = some x) (hk : j ≠ k) : oBy Z k (j + 1) = oBy Z k j ++ encL (segL (1 + j) x.2) := by
  unfold oBy
  by_cases hj : j < k
  · rw [if_pos (by omega), if_pos (by omega), gBy_next 1 h]
  · rw [if_neg (by omega), if_neg (by omega), List.append_assoc]
    congr 1
    obtain ⟨d, rfl⟩ : ∃ d, j = k + 1 + d := ⟨j - (k + 1), by omega⟩
    have hd : (Z.drop (k + 1))[d]? = some x := by rw [List.getElem?_drop]; exact h
    have e := gBy_next (k + 2) hd
    unfold gBy at e
    rw [show k + 1 + d + 1 - (k + 1) = d + 1 by omega, show k + 1 + d - (k + 1) = d by omega, e, show k + 2 + d = 1 + (k + 1 + d) by omega]
theorem oBy_zero (Z : List (Value × Grp)) (k : Nat) : oBy Z k 0 = [] := by unfold oBy gBy; rw [if_pos (Nat.zero_le _)]; simp [encG]
theorem oBy_len (Z : List (Value × Grp)) (k j : Nat) (h : ∀ x ∈ Z, grt x.2 = true) : (oBy Z k j).length ≤ 30805 * j := by
  induction j with
  | zero => rw [oBy_zero]; exact Nat.le_refl _
  | succ j ih =>
    by_cases hk : j = k
    · subst hk; rw [oBy_skip]; omega
    · by_cases hj : j < Z.length
      · have h1 := List.getElem?_eq_getElem hj
        have h2 := encL_small (n := 1 + j) (h _ (List.mem_of_getElem? h1))
        rw [oBy_next h1 hk, List.length_append]
        omega
      · have : oBy Z k (j + 1) = oBy Z k j := by
          unfold oBy
          by_cases hj2 : j < k
          · rw [if_pos (by omega), if_pos (by omega)]; unfold gBy; rw [List.take_of_length_le (by omega), List.take_of_length_le (by omega)]
          · rw [if_neg (by omega), if_neg (by omega)]
            rw [List.take_of_length_le (l := Z.drop (k + 1)) (by rw [List.length_drop]; omega), List.take_of_length_le (l := Z.drop (k + 1)) (by rw [List.length_drop]; omega)]
        rw [this]; omega
theorem mkr_ne {n n' m m' : Nat} (hn : n < 256) (hn' : n' < 256) (h : mkr n m = mkr n' m') : n = n' := by
  have h6 := congrArg (fun x => x.2.take 1) h
  simp only [mkr] at h6
  rw [List.take_append_of_le_length (by simp [le_length]), List.take_append_of_le_length (by simp [le_length])] at h6
  have e : ∀ n, (le 8 n).take 1 = [UInt8.ofNat (n % 256)] := fun n => by simp [le]
  rw [e, e] at h6
  injection h6 with h6
  have := congrArg UInt8.toNat h6
  simp at this
  omega
/-- With group k left out just those ahead of it are read. -/
theorem order_read {Z : List (Value × Grp)} {k : Nat} (hk : k < Z.length) (hz : Z.length ≤ 20) (hok : allOk 1 (Z.map (·.2))) : ReadP (oBy Z k Z.length) 1 ((Z.take k).map (·.2)) (gBy 1 Z k).length := by
  have hl : ((Z.take k).map (·.2)).length = k := by rw [List.length_map, List.length_take, Nat.min_eq_left (by omega)]
  refine ⟨rfl, by rw [List.map_take]; exact allOk_take hok k, by rw [hl]; omega, encG (k + 2) ((Z.drop (k + 1)).map (·.2)), ?_, fun _ g q hg e => ?_⟩
  · unfold oBy
    rw [if_neg (by omega), List.take_of_length_le (l := Z.drop (k + 1)) (by rw [List.length_drop]; omega)]
    rfl
  · rw [hl] at hg e
    obtain ⟨_, _, h3, h4, _⟩ := segOk_iff.1 hg
    cases hd : Z.drop (k + 1) with
    | nil =>
      rw [hd] at e
      have h1 := congrArg List.length e
      have h2 := encL_segL_pos (1 + k) g
      simp [encG] at h1
      omega
    | cons y ys =>
      rw [hd] at e
      have hy : Z[k + 1]? = some y := by
        have := congrArg (fun q => q[0]?) hd
        simpa [List.getElem?_drop] using this
      have h5 := allOk_get hok (show (Z.map (·.2))[k + 1]? = some y.2 by rw [List.getElem?_map, hy]; rfl)
      obtain ⟨_, _, g3, g4, _⟩ := segOk_iff.1 h5
      rw [List.map_cons, encG] at e
      have h6 := grp_same g3 g4 h3 h4 e
      have h7 := mkr_ne (by have := (List.getElem?_eq_some_iff.1 hy).1; omega) (by omega) h6.2.1
      omega
set_option maxHeartbeats 2000000 in
set_option maxRecDepth 100000 in
theorem segmentOrder_walk (u : Value) (l : List (Value × Grp)) (n : Nat) (w : World) (hu : GSv w u l) (hn : n < 256) :
    Calls Try.prog 6 #[u, .int .u8 (n : Int)] w fun e w' => e = .returned (.bool true) ∧ Below w.heap.size w w' := by
  have HU := Lib.hid hu
  obtain ⟨A, c, rfl, hlc⟩ := hu.shape
  clear hu
  cases hg1 : grtG l with
  | false =>
    have G1 := Lib.hid (show grtGI l = 1 by unfold grtGI; rw [hg1]; rfl)
    clear hg1
    go_enter Try.func6, Try.ntmps6
    go_wp2_with (first
      | (go_at_call 8; refine (alive8 _).mono ?_; rintro e W0 ⟨rfl, hb⟩; have HB0 := Lib.hid hb; have HU0 := Lib.hid (HU.out.below hb); clear hb)
      | (go_at_call 9; refine (great9 _ l _ HU0.out).mono ?_; rintro e Wn ⟨rfl, rfl⟩; rw [G1.out]))
    go_ret
    exact ⟨rfl, HB0.out⟩
  | true =>
    have G1 := Lib.hid (show grtGI l = 0 by unfold grtGI; rw [hg1]; rfl)
    obtain ⟨hl20, hlg⟩ := grtG_true hg1
    obtain ⟨Z, hZ⟩ : ∃ Z, mayV 1 l = Z := ⟨_, rfl⟩
    have hZ20 : Z.length ≤ 20 := by rw [← hZ]; exact Nat.le_trans (mayV_len _ _) hl20
    have hZg : ∀ x ∈ Z, grt x.2 = true := fun x hx => hlg x (mayV_mem 1 l x (by rw [hZ]; exact hx))
    have hok : allOk 1 (Z.map (·.2)) := by rw [← hZ]; exact mayV_ok _ _
    obtain ⟨S, hS0⟩ : ∃ S, encG 1 (Z.map (·.2)) = S := ⟨_, rfl⟩
    have hW : ∀ W, GSv W (.slice A l.length c) l → Calls Try.prog 10 #[.int .u64 1, .slice A l.length c] W fun e w' => ∃ A c B d, e = .returned (.tuple #[.slice A S.length c, .slice B Z.length d]) ∧ St W w' [] [fun V => GSv V (.slice B Z.length d) Z, fun V => HB V (.slice A S.length c) S] := fun W h => written10_f 1 _ l W (by omega) h hl20 (fun x hx => Nat.le_trans (grt_len (hlg x hx)) (by decide)) Z S hZ hS0
    have HW := Lib.hid hW; have HOK := Lib.hid hok; have HZG := Lib.hid hZg
    have HZS := Lib.hid (show ∀ x ∈ Z, x.2.length ≤ 1000000 from fun x hx => Nat.le_trans (grt_len (hZg x hx)) (by decide))
    have HZL := Lib.hid (show Z.length ≤ 1000000 by omega)
    clear hW hZ hS0 hlg hg1
    by_cases hz0 : Z.length = 0
    · have b0 : ((Z.length : Int) == 0) = true := by rw [hz0]; rfl
      have HBZ := Lib.hid b0
      clear b0 hok hZg
      go_enter Try.func6, Try.ntmps6
      go_wp2_with (first
        | (go_at_call 8; refine (alive8 _).mono ?_; rintro e W0 ⟨rfl, hb⟩; have HB0 := Lib.hid hb; have HU0 := Lib.hid (HU.out.below hb); clear hb)
        | (go_at_call 9; refine (great9 _ l _ HU0.out).mono ?_; rintro e Wn ⟨rfl, rfl⟩; rw [G1.out])
        | (go_at_call 10; refine (HW.out _ HU0.out).mono ?_; rintro e Wn ⟨A9, c9, B10, d10, rfl, hS⟩; have HS := Lib.hid hS; have HC10 := Lib.hid (hS.fact (F := fun V => GSv V (.slice B10 Z.length d10) Z) (i := 0) rfl).cap; clear hS))
      go_ret
      exact ⟨rfl, HB0.out.trans (HS.out.below.mono HB0.out.size)⟩
    · have b0 : ((Z.length : Int) == 0) = false := beq_eq_false_iff_ne.2 (by omega)
      obtain ⟨k, hk0⟩ : ∃ k, n % Z.length = k := ⟨_, rfl⟩
      have hk : k < Z.length := by rw [← hk0]; exact Nat.mod_lt n (by omega)
      have htm : (n : Int).tmod (Z.length : Int) = (k : Int) := by
        rw [Int.tmod_eq_emod_of_nonneg (by omega), ← hk0]; push_cast; rfl
      have hz00 : (Z.length : Int) ≠ 0 := by omega
      have hR2 : ∀ v W, HB W v (oBy Z k Z.length) → Calls Try.prog 11 #[v, .int .u64 1] W fun e w' => ∃ A c gl, e = .returned (.tuple #[.slice A k c, .int .i64 (((gBy 1 Z k).length : Nat) : Int)]) ∧ gl.map (·.2) = (Z.take k).map (·.2) ∧ Below W.heap.size W w' ∧ Away (fun k => k < W.heap.size) (fun V => GSv V (.slice A k c) gl) w' := fun v W h => read11_z v _ 1 W h (by decide) ((Z.take k).map (fun y : Value × Grp => y.2)) k _ (by rw [List.length_map, List.length_take]; omega) (order_read hk hZ20 hok) (by have := oBy_len Z k Z.length hZg; omega)
      have R2 := Lib.hid hR2
      clear hR2 hok hk0 hZg
      go_enter Try.func6, Try.ntmps6
      go_wp2_with (first
        | (go_at_call 8; refine (alive8 _).mono ?_; rintro e W0 ⟨rfl, hb⟩; have HB0 := Lib.hid hb; have HU0 := Lib.hid (HU.out.below hb); clear hb)
        | (go_at_call 9; refine (great9 _ l _ HU0.out).mono ?_; rintro e Wn ⟨rfl, rfl⟩; rw [G1.out])
        | (go_at_call 10; refine (HW.out _ HU0.out).mono ?_; rintro e Wn ⟨A9, c9, B10, d10, rfl, hS⟩; have HS := Lib.hid hS; have HC10 := Lib.hid (hS.fact (F := fun V => GSv V (.slice B10 Z.length d10) Z) (i := 0) rfl).cap; clear hS))
      have hS := HS.out.new (Below.refl _ _) (r := Row (.slice none 0 0) 5 1 0 []) (World.ownsRow_nil _ _ _ _) (fun k hk => by simp [Row, Value.ownBlock] at hk)
      clear HS; have HS := Lib.hid hS; clear hS
      go_loopw [9, 40] (fun s9 s40 wr => ∃ (j : Nat) (A8 : Option Addr) (c8 : Nat), j ≤ Z.length ∧ s40 = .int .i64 (j : Int) ∧ s9 = .slice A8 (oBy Z k j).length c8 ∧ St W0 wr [Row (.slice A8 (oBy Z k j).length c8) 5 1 (oBy Z k j).length (bs (oBy Z k j))] [fun V => GSv V (.slice B10 Z.length d10) Z, fun V => HB V (.slice A9 S.length c9) S]) (fun _ s40 _ => Z.length - (intOf s40).toNat)
      case atStart => exact ⟨0, none, 0, by omega, rfl, by rw [oBy_zero]; rfl, by rw [oBy_zero]; exact HS.out⟩
      case round =>
        obtain ⟨j, A8, c8, hj, rfl, rfl, hs⟩ := hrel
        clear HS
        have hob := oBy_len Z k j HZG.out
        by_cases hlt : j < Z.length
        · have k1 : (j : Int) < (Z.length : Int) := by omega
          obtain ⟨bb, o, rfl, cz, rz⟩ := (hs.fact (F := fun V => GSv V (.slice B10 Z.length d10) Z) (i := 0) rfl).get hlt
          have hli : Z[j]? = some Z[j] := List.getElem?_eq_getElem hlt
          generalize Z[j] = x at *
          obtain ⟨xv, g⟩ := x
          dsimp only at cz rz
          have hokj := allOk_get HOK.out (show (Z.map (·.2))[j]? = some g by rw [List.getElem?_map, hli]; rfl)
          have hgr := HZG.out _ (List.mem_of_getElem? hli)
          have hb2 := encL_small (n := 1 + j) hgr
          dsimp only at hb2
          have henc : ∀ W, RS W xv g → Calls Try.prog 13 #[.int .u64 ((j : Int) + 1), xv] W fun e w' => ∃ g' c', e = .returned (.tuple #[.slice (some ⟨g', 0, none⟩) (encL (segL (1 + j) g)).length c', .int .i64 0]) ∧ New W w' (Row (.slice (some ⟨g', 0, none⟩) (encL (segL (1 + j) g)).length c') 5 1 (encL (segL (1 + j) g)).length (bs (encL (segL (1 + j) g)))) := fun W hr => by
            have h := seg13_yes (1 + j) xv g W (by omega) hr (Nat.le_trans (grt_len hgr) (by decide)) hokj
            rw [show ((1 + j : Nat) : Int) = (j : Int) + 1 by push_cast; omega] at h
            exact h
          have CZ := Lib.hid cz; have RZ := Lib.hid rz; have HENC := Lib.hid henc; have HLI := Lib.hid hli
          have HS := Lib.hid hs
          clear cz rz hokj hli hs henc hgr
          by_cases hjk : j = k
          · subst hjk
            go_wp2_with (first
              | (refine wl (by rfl) (wp_of_run (run_ld (by kernel_rfl) (by rfl) (by rfl) CZ.out) ?_))
              | (go_at_call 13; refine (HENC.out _ RZ.out).mono ?_; rintro e Wn ⟨g13, c13, rfl, hb⟩; have hS := HS.out.take hb; clear hb; clear HS; have HS := Lib.hid hS; clear hS))
            refine ⟨⟨j + 1, A8, c8, by omega, by push_cast; rfl, by rw [oBy_skip], ?_⟩, by simp [intOf]; omega⟩
            rw [oBy_skip]
            exact HS.out.sub 0
          · have hjk2 : ¬ (j : Int) = (k : Int) := by omega
            have hnx := oBy_next HLI.out hjk
            have HNX := Lib.hid hnx
            clear hnx
            go_wp2_with (first
              | (refine wl (by rfl) (wp_of_run (run_ld (by kernel_rfl) (by rfl) (by rfl) CZ.out) ?_))
              | (go_at_call 13; refine (HENC.out _ RZ.out).mono ?_; rintro e Wn ⟨g13, c13, rfl, hb⟩; have hS := HS.out.take hb; clear hb; clear HS; have HS := Lib.hid hS; clear hS)
              | (refine wl (by rfl) (s_app HS.out 1 (E := 5) (xs := oBy Z k j) (ys := encL (segL (1 + j) g)) (by rfl) Try.underlying28 (by kernel_rfl) (by rfl) (by rfl) (by rfl) (Row.hb (HS.out.res (i := 0) rfl)) (by omega) ?_); intro v50 Wn hS; obtain ⟨A50, c50, rfl⟩ := Row.sl (hS.res (i := 1) rfl); clear HS; have HS := Lib.hid hS; clear hS))
            refine ⟨⟨j + 1, A50, c50, by omega, by push_cast; rfl, by rw [HNX.out, List.length_append], ?_⟩, by simp [intOf]; omega⟩
            rw [HNX.out]
            exact HS.out.sub 0
        · have k1 : ¬ (j : Int) < (Z.length : Int) := by omega
          obtain rfl : j = Z.length := by omega
          have HS := Lib.hid hs
          clear hs
          go_wp2_with (first
            | (go_at_call 11; refine (R2.out _ _ (Row.hb (HS.out.res (i := 0) rfl))).mono ?_; rintro e Wn ⟨A13, c13, gl, rfl, hgl, hb, hw⟩; have hS := HS.out.tell hb hw; have HGL := Lib.hid hgl; clear hb hw hgl; clear HS; have HS := Lib.hid hS; clear hS))
          have hgz := HS.out.fact (F := fun V => GSv V (.slice B10 Z.length d10) Z) (i := 1) rfl
          obtain ⟨bb, o, rfl, _, _⟩ := hgz.get hk
          have hli : Z[k]? = some Z[k] := List.getElem?_eq_getElem hk
          generalize Z[k] = x at hli
          obtain ⟨xv, g⟩ := x
          have hs1 := HS.out.bare.more 1 rfl (fun V (h : GSv V (.slice (some ⟨bb, o, none⟩) Z.length d10) Z) => h.rs_mem _ (List.mem_of_getElem? hli))
          have hs2 := hs1.more 2 rfl (fun V (h : GSv V (.slice (some ⟨bb, o, none⟩) Z.length d10) Z) => h.cell hli)
          dsimp only at hs2
          have HG6 := Lib.hid (show g.length ≤ 1000000 from HZS.out _ (List.mem_of_getElem? hli))
          have h16 : ∀ W, RS W xv g → Calls Try.prog 14 #[xv, xv] W fun e w' => e = .returned (.bool true) ∧ Below W.heap.size W w' := fun W h => by
            have := rsame16 xv xv g g W h h HG6.out HG6.out
            rwa [decide_eq_true (rfl : g = g)] at this
          have H16 := Lib.hid h16
          clear HS
          have HS := Lib.hid hs2
          clear hs1 hs2 hgz hli h16
          refine wp_region_pi [(0, true), (1, true), (2, true), (3, true), (4, true), (5, true), (6, true), (7, true), (8, true), (9, true), (10, true), (11, true), (12, false), (13, true), (14, true), (15, true), (16, true), (17, true), (18, true), (19, true), (20, true), (21, true), (22, true), (23, false), (24, true), (25, true)] (by kernel_rfl) (by kernel_rfl) rfl (by kernel_rfl) (fun _ _ _ _ _ h => h) (fun w' => St W0 w' [] [fun V => V.cell? ⟨bb, o + k, none⟩ = some xv, fun V => RS V xv g, fun V => GSv V (.slice A13 k c13) gl, fun V => GSv V (.slice (some ⟨bb, o, none⟩) Z.length d10) Z, fun V => HB V (.slice A9 S.length c9) S]) HS.out.drew ?_
          intro OPS hops
          have hS := HS.out.drew
          clear HS; have HS := Lib.hid hS; clear hS
          iterate 12
            first | (refine wpPi_yield _ (by rw [hops.out]; simp only [List.getElem?_toArray, List.getElem?_cons_succ, List.getElem?_cons_zero]; rfl) (by first | rfl | (rw [hops.out]; rfl)) (fun w' hS => by first | exact run_ld (by kernel_rfl) (by rfl) (by rfl) (hS.fact (i := 0) rfl) | exact run_slG k (by rfl) (by rfl) (by rfl) (Nat.le_of_lt hk) HC10.out | (go_simp; rfl)) ?_; simp only [Act.put, List.setIfInBounds_toArray, List.set_cons_succ, List.set_cons_zero]) | (refine wpPi_skip (by rw [hops.out]; simp only [List.getElem?_toArray, List.getElem?_cons_succ, List.getElem?_cons_zero]; rfl) (by first | rfl | (rw [hops.out]; rfl)) ?_; simp only [Act.put, List.setIfInBounds_toArray, List.set_cons_succ, List.set_cons_zero])
          refine wpPi_act (by rw [hops.out]; simp only [List.getElem?_toArray, List.getElem?_cons_succ, List.getElem?_cons_zero]; rfl) (by first | rfl | (rw [hops.out]; rfl)) ?_
          go_simp
          refine (same12_d _ _ gl (Z.take k) true _ (decide_eq_true HGL.out) (HS.out.fact (i := 2) rfl) ((HS.out.fact (i := 3) rfl : GSv _ (.slice _ Z.length d10) Z).take k (Nat.le_of_lt hk)) (gl_small HGL.out (fun x hx => HZS.out x (List.mem_of_mem_take hx))) (fun x hx => HZS.out x (List.mem_of_mem_take hx)) (by rw [gl_len HGL.out, List.length_take]; have := HZL.out; omega) (by rw [List.length_take]; have := HZL.out; omega)).mono ?_
          rintro e Wn ⟨rfl, hb⟩
          have hS := HS.out.call hb
          clear HS; have HS := Lib.hid hS; clear hS
          clear hb
          refine ⟨HS.out, ?_⟩
          try simp only [Act.put, List.setIfInBounds_toArray, List.set_cons_succ, List.set_cons_zero]
          iterate 10
            first | (refine wpPi_yield _ (by rw [hops.out]; simp only [List.getElem?_toArray, List.getElem?_cons_succ, List.getElem?_cons_zero]; rfl) (by first | rfl | (rw [hops.out]; rfl)) (fun w' hS => by first | exact run_ld (by kernel_rfl) (by rfl) (by rfl) (hS.fact (i := 0) rfl) | exact run_slG k (by rfl) (by rfl) (by rfl) (Nat.le_of_lt hk) HC10.out | (go_simp; rfl)) ?_; simp only [Act.put, List.setIfInBounds_toArray, List.set_cons_succ, List.set_cons_zero]) | (refine wpPi_skip (by rw [hops.out]; simp only [List.getElem?_toArray, List.getElem?_cons_succ, List.getElem?_cons_zero]; rfl) (by first | rfl | (rw [hops.out]; rfl)) ?_; simp only [Act.put, List.setIfInBounds_toArray, List.set_cons_succ, List.set_cons_zero])
          refine wpPi_act (by rw [hops.out]; simp only [List.getElem?_toArray, List.getElem?_cons_succ, List.getElem?_cons_zero]; rfl) (by first | rfl | (rw [hops.out]; rfl)) ?_
          go_simp
          refine (H16.out _ (HS.out.fact (i := 1) rfl)).mono ?_
          rintro e Wn ⟨rfl, hb⟩
          have hS := HS.out.call hb
          clear HS; have HS := Lib.hid hS; clear hS
          clear hb
          refine ⟨HS.out, ?_⟩
          try simp only [Act.put, List.setIfInBounds_toArray, List.set_cons_succ, List.set_cons_zero]
          iterate 2
            first | (refine wpPi_yield _ (by rw [hops.out]; simp only [List.getElem?_toArray, List.getElem?_cons_succ, List.getElem?_cons_zero]; rfl) (by first | rfl | (rw [hops.out]; rfl)) (fun w' hS => by first | exact run_ld (by kernel_rfl) (by rfl) (by rfl) (hS.fact (i := 0) rfl) | exact run_slG k (by rfl) (by rfl) (by rfl) (Nat.le_of_lt hk) HC10.out | (go_simp; rfl)) ?_; simp only [Act.put, List.setIfInBounds_toArray, List.set_cons_succ, List.set_cons_zero]) | (refine wpPi_skip (by rw [hops.out]; simp only [List.getElem?_toArray, List.getElem?_cons_succ, List.getElem?_cons_zero]; rfl) (by first | rfl | (rw [hops.out]; rfl)) ?_; simp only [Act.put, List.setIfInBounds_toArray, List.set_cons_succ, List.set_cons_zero])
          simp only [wpPi]
          clear OPS hops
          go_wp2_with fail
          go_ret
          exact ⟨rfl, HB0.out.trans (HS.out.below.mono HB0.out.size)⟩
end
end Go.Proofs.Ytakeggdpnfibpaa
