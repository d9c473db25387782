/- Contracts and words that the laws stand on (SegmentBackWalk). -/
import Derived.Test.YtakeggdpnfibpaaSegD
set_option linter.unusedVariables false
set_option linter.unusedSimpArgs false
namespace Go.Proofs.Ytakeggdpnfibpaa
section
open Go Go.RowKit Go.Proofs
attribute [local irreducible] Calls

theorem grt_len {g : Grp} (h : grt g = true) : g.length ≤ 60 := (grt_true h).1
theorem encL_small {n : Nat} {g : Grp} (h : grt g = true) : (encL (segL n g)).length ≤ 30805 := by
  obtain ⟨h1, h2⟩ := grt_true h
  have key : ∀ l : Grp, (∀ x ∈ l, x.2.length ≤ 500) → (encL l).length ≤ 513 * l.length := by
    intro l
    induction l with
    | nil => intro _; simp [encL]
    | cons x l ih =>
      intro hx
      have a := ih (fun y hy => hx y (List.mem_cons_of_mem _ hy))
      have b := hx x (List.mem_cons_self ..)
      rw [encL_cons, List.length_append, recB_length, List.length_cons]
      omega
  have a := key g h2
  unfold segL
  rw [encL_app, List.length_append, encL_cons, List.length_append, recB_length]
  simp [mkr, le_length, encL]
  simp [encL] at a
  omega
theorem encG_small {num : Nat} {gs : List Grp} (h : ∀ g ∈ gs, grt g = true) : (encG num gs).length ≤ 30805 * gs.length := by
  induction gs generalizing num with
  | nil => simp [encG]
  | cons g gs ih =>
    have a := ih (num := num + 1) (fun x hx => h x (List.mem_cons_of_mem _ hx))
    have b := encL_small (n := num) (h g (List.mem_cons_self ..))
    rw [encG, List.length_append, List.length_cons]
    omega
/-- Where the i first groups end. -/
def gEnd (num : Nat) (Z : List (Value × Grp)) (i : Nat) : Nat := (encG num ((Z.take i).map (·.2))).length
theorem gEnd_zero (num : Nat) (Z : List (Value × Grp)) : gEnd num Z 0 = 0 := by simp [gEnd, encG]
theorem gEnd_next (num : Nat) {Z : List (Value × Grp)} {i : Nat} {x : Value × Grp} (h : Z[i]? = some x) : gEnd num Z (i + 1) = gEnd num Z i + (encL (segL (num + i) x.2)).length := by
  have hi := (List.getElem?_eq_some_iff.1 h).1
  have hl : ((Z.take i).map (·.2)).length = i := by rw [List.length_map, List.length_take, Nat.min_eq_left (by omega)]
  unfold gEnd
  rw [take_snoc Z i x h, List.map_append, List.map_cons, List.map_nil, encG_snoc, List.length_append, hl]
theorem gEnd_mono (num : Nat) (Z : List (Value × Grp)) {i j : Nat} (h : i ≤ j) : gEnd num Z i ≤ gEnd num Z j := by
  induction j with
  | zero => have : i = 0 := by omega
            subst this; exact Nat.le_refl _
  | succ j ih =>
    by_cases hij : i = j + 1
    · subst hij; exact Nat.le_refl _
    · refine Nat.le_trans (ih (by omega)) ?_
      by_cases hj : j < Z.length
      · rw [gEnd_next num (List.getElem?_eq_getElem hj)]; omega
      · unfold gEnd; rw [List.take_of_length_le (by omega), List.take_of_length_le (by omega)]; exact Nat.le_refl _
set_option maxHeartbeats 2000000 in
set_option maxRecDepth 100000 in
theorem segmentBack_walk (u : Value) (l : List (Value × Grp)) (num n : Nat) (w : World) (hu : GSv w u l) (hnum : num < 4294967296) (hn : n < 65536) :
    Calls Try.prog 3 #[u, .int .u32 (num : Int), .int .u16 (n : Int)] w fun e w' => e = .returned (.bool true) ∧ Below w.heap.size w w' := by
  have HU := Lib.hid hu
  obtain ⟨A, c, rfl, hlc⟩ := hu.shape
  clear hu
  cases hg1 : grtG l with
  | false =>
    have G1 := Lib.hid (show grtGI l = 1 by unfold grtGI; rw [hg1]; rfl)
    clear hg1
    go_enter Try.func3, Try.ntmps3
    go_wp2_with (first
      | (go_at_call 8; refine (alive8 _).mono ?_; rintro e W0 ⟨rfl, hb⟩; have HB0 := Lib.hid hb; have HU0 := Lib.hid (HU.out.below hb); clear hb)
      | (go_at_call 9; refine (great9 _ l _ HU0.out).mono ?_; rintro e Wn ⟨rfl, rfl⟩; rw [G1.out]))
    go_ret
    exact ⟨rfl, HB0.out⟩
  | true =>
    have G1 := Lib.hid (show grtGI l = 0 by unfold grtGI; rw [hg1]; rfl)
    obtain ⟨hl20, hlg⟩ := grtG_true hg1
    have hsm : ∀ x ∈ l, x.2.length ≤ 60 := fun x hx => grt_len (hlg x hx)
    obtain ⟨Z, hZ⟩ : ∃ Z, mayV (num + 1) l = Z := ⟨_, rfl⟩
    have hZ20 : Z.length ≤ 20 := by rw [← hZ]; exact Nat.le_trans (mayV_len _ _) hl20
    have hZs : ∀ x ∈ Z, x.2.length ≤ 60 := fun x hx => hsm x (mayV_mem (num + 1) l x (by rw [hZ]; exact hx))
    have hok : allOk (num + 1) (Z.map (·.2)) := by rw [← hZ]; exact mayV_ok _ _
    obtain ⟨S, hS0⟩ : ∃ S, encG (num + 1) (Z.map (·.2)) = S := ⟨_, rfl⟩
    have hSl : S.length ≤ 700000 := by
      have h := encG_small (num := num + 1) (gs := Z.map (·.2)) (fun g hg => by obtain ⟨x, hx, rfl⟩ := List.mem_map.1 hg; exact hlg x (mayV_mem (num + 1) l x (by rw [hZ]; exact hx)))
      rw [hS0, List.length_map] at h
      omega
    have hW : ∀ W, GSv W (.slice A l.length c) l → Calls Try.prog 10 #[.int .u64 ((num : Int) + 1), .slice A l.length c] W fun e w' => ∃ A c B d, e = .returned (.tuple #[.slice A S.length c, .slice B Z.length d]) ∧ St W w' [] [fun V => GSv V (.slice B Z.length d) Z, fun V => HB V (.slice A S.length c) S] := fun W h => written10_f (num + 1) _ l W (by omega) h hl20 (fun x hx => Nat.le_trans (hsm x hx) (by decide)) Z S hZ hS0
    have hR1 : ∀ v W, HB W v S → Calls Try.prog 11 #[v, .int .u64 ((num : Int) + 1)] W fun e w' => ∃ A c gl, e = .returned (.tuple #[.slice A Z.length c, .int .i64 (S.length : Int)]) ∧ gl.map (·.2) = Z.map (·.2) ∧ Below W.heap.size W w' ∧ Away (fun k => k < W.heap.size) (fun V => GSv V (.slice A Z.length c) gl) w' := fun v W h => read11_z v S (num + 1) W h (by omega) (Z.map (fun y : Value × Grp => y.2)) Z.length S.length (by rw [List.length_map]) (by have h := read_full hok (by rw [List.length_map]; omega); rw [hS0] at h; exact h) (by omega)
    obtain ⟨cut, hcut⟩ : ∃ cut, n % (S.length + 1) = cut := ⟨_, rfl⟩
    have hcs : cut ≤ S.length := by have := Nat.mod_lt n (show 0 < S.length + 1 by omega); omega
    have htm : (n : Int).tmod ((S.length : Int) + 1) = (cut : Int) := by
      rw [Int.tmod_eq_emod_of_nonneg (by omega), ← hcut]; push_cast; rfl
    obtain ⟨i, hstop⟩ := GStop.ex (num + 1) (Z.map (·.2)) cut
    have hrc := read_cut hok (by rw [List.length_map]; omega) hstop (by rw [hS0]; exact hcs)
    obtain ⟨hs1, hs2, hs3⟩ := hstop
    rw [List.length_map] at hs1
    rw [← List.map_take] at hrc hs2 hs3
    rw [hS0] at hrc
    obtain ⟨N, hN⟩ : ∃ N, gEnd (num + 1) Z i = N := ⟨_, rfl⟩
    have hN' : (encG (num + 1) ((Z.take i).map (·.2))).length = N := hN
    rw [hN'] at hrc hs2 hs3
    have hR2 : ∀ v W, HB W v (S.take cut) → Calls Try.prog 11 #[v, .int .u64 ((num : Int) + 1)] W fun e w' => ∃ A c gl, e = .returned (.tuple #[.slice A i c, .int .i64 (N : Int)]) ∧ gl.map (·.2) = (Z.take i).map (·.2) ∧ Below W.heap.size W w' ∧ Away (fun k => k < W.heap.size) (fun V => GSv V (.slice A i c) gl) w' := fun v W h => read11_z v _ (num + 1) W h (by omega) ((Z.take i).map (fun y : Value × Grp => y.2)) i N (by rw [List.length_map, List.length_take]; omega) hrc (by rw [List.length_take]; omega)
    have HW := Lib.hid hW; have R1 := Lib.hid hR1; have R2 := Lib.hid hR2; have HN := Lib.hid hN; have HS3 := Lib.hid hs3; have HOK := Lib.hid hok
    have HZS := Lib.hid (show ∀ x ∈ Z, x.2.length ≤ 1000000 from fun x hx => Nat.le_trans (hZs x hx) (by decide))
    have HZS6 := Lib.hid hZs
    have HZL := Lib.hid (show Z.length ≤ 1000000 by omega)
    clear hW hR1 hR2 hN hN' hs3 hok hZs hsm hlg hg1 hZ hS0 hcut hrc
    go_enter Try.func3, Try.ntmps3
    go_wp2_with (first
      | (go_at_call 8; refine (alive8 _).mono ?_; rintro e W0 ⟨rfl, hb⟩; have HB0 := Lib.hid hb; have HU0 := Lib.hid (HU.out.below hb); clear hb)
      | (go_at_call 9; refine (great9 _ l _ HU0.out).mono ?_; rintro e Wn ⟨rfl, rfl⟩; rw [G1.out])
      | (go_at_call 10; refine (HW.out _ HU0.out).mono ?_; rintro e Wn ⟨A9, c9, B10, d10, rfl, hS⟩; have HS := Lib.hid hS; have HC9 := Lib.hid (hS.fact (F := fun V => HB V (.slice A9 S.length c9) S) (i := 1) rfl).cap; have HC10 := Lib.hid (hS.fact (F := fun V => GSv V (.slice B10 Z.length d10) Z) (i := 0) rfl).cap; clear hS)
      | (go_at_call 11; refine (R1.out _ _ (HS.out.fact (i := 1) rfl)).mono ?_; rintro e Wn ⟨A11, c11, gl, rfl, hgl, hb, hw⟩; have hS := HS.out.tell hb hw; have HGL := Lib.hid hgl; clear hb hw hgl; clear HS; have HS := Lib.hid hS; clear hS)
      | (go_at_call 12; refine (same12_d _ _ gl Z true _ (decide_eq_true HGL.out) (HS.out.fact (i := 0) rfl) (HS.out.fact (i := 1) rfl) (gl_small HGL.out HZS.out) HZS.out (by rw [gl_len HGL.out]; exact HZL.out) HZL.out).mono ?_; rintro e Wn ⟨rfl, hb⟩; have hS := HS.out.call hb; clear hb; clear HS; have HS := Lib.hid hS; clear hS)
      | (refine atd 63 (by rfl) ?_; refine wl (by rfl) (wp_of_run (run_slh cut (by rfl) (by rfl) (by rfl) hcs HC9.out) ?_))
      | (go_at_call 11; refine (R2.out _ _ ((HS.out.fact (F := fun V => HB V (.slice A9 S.length c9) S) (i := 2) rfl).take hcs)).mono ?_; rintro e Wn ⟨A14, c14, gl2, rfl, hgl2, hb, hw⟩; have hS := HS.out.tell hb hw; have HGL2 := Lib.hid hgl2; clear hb hw hgl2; clear HS; have HS := Lib.hid hS; clear hS))
    go_loopw [16, 17] (fun s16 s17 wr => ∃ j : Nat, j ≤ i ∧ s16 = .int .i64 (j : Int) ∧ s17 = .int .i64 ((gEnd (num + 1) Z j : Nat) : Int) ∧ St W0 wr [] [fun V => GSv V (.slice A14 i c14) gl2, fun V => GSv V (.slice A11 Z.length c11) gl, fun V => GSv V (.slice B10 Z.length d10) Z, fun V => HB V (.slice A9 S.length c9) S]) (fun s16 _ _ => Z.length - (intOf s16).toNat)
    case atStart => exact ⟨0, by omega, rfl, by rw [gEnd_zero]; rfl, HS.out⟩
    case round =>
      obtain ⟨j, hj, rfl, rfl, hs⟩ := hrel
      clear HS
      have HS := Lib.hid hs
      clear hs
      obtain ⟨M, hM⟩ : ∃ M, gEnd (num + 1) Z j = M := ⟨_, rfl⟩
      have hMc : M ≤ cut := by have := gEnd_mono (num + 1) Z hj; have := HN.out; omega
      rw [hM]
      by_cases hlt : j < Z.length
      · have j1 : (j : Int) < (Z.length : Int) := by omega
        have hgz := HS.out.fact (F := fun V => GSv V (.slice B10 Z.length d10) Z) (i := 2) rfl
        obtain ⟨bb, o, rfl, cz, rz⟩ := hgz.get hlt
        have hli : Z[j]? = some Z[j] := List.getElem?_eq_getElem hlt
        generalize Z[j] = x at *
        obtain ⟨xv, g⟩ := x
        dsimp only at cz rz
        have hokj := allOk_get HOK.out (show (Z.map (·.2))[j]? = some g by rw [List.getElem?_map, hli]; rfl)
        obtain ⟨E, hE⟩ : ∃ E, (encL (segL (num + 1 + j) g)).length = E := ⟨_, rfl⟩
        have hEb : E ≤ 1500000 := by rw [← hE]; exact (segOk_iff.1 hokj).2.2.2.2
        have hnext := gEnd_next (num + 1) hli
        rw [hM] at hnext
        dsimp only at hnext
        rw [hE] at hnext
        have CZ := Lib.hid cz; have RZ := Lib.hid rz; have HG5 := Lib.hid (show g.length ≤ 100000 from Nat.le_trans (HZS6.out _ (List.mem_of_getElem? hli)) (by decide)); have HOKJ := Lib.hid hokj; have HEJ := Lib.hid hE; have HNX := Lib.hid hnext; have HLI := Lib.hid hli; have HM := Lib.hid hM
        clear cz rz hokj hE hnext hli hgz hM
        by_cases hji : j < i
        · have j3 : (M : Int) + (E : Int) ≤ (cut : Int) := by
            have h1 := gEnd_mono (num + 1) Z (show j + 1 ≤ i by omega)
            have h2 := HNX.out; have h3 := HN.out
            omega
          go_wp2_with (first
            | (refine wl (by rfl) (wp_of_run (run_ld (by kernel_rfl) (by rfl) (by rfl) CZ.out) ?_))
            | (go_at_call 13; refine (seg13_yes (num + 1 + j) xv g _ (by omega) RZ.out HG5.out HOKJ.out).mono ?_; rintro e Wn ⟨g13, c13, rfl, hb⟩; have hS := HS.out.call hb.1; clear hb; rw [HEJ.out]; clear HS; have HS := Lib.hid hS; clear hS))
          refine ⟨⟨j + 1, by omega, by push_cast; rfl, ?_, HS.out⟩, by simp [intOf]; omega⟩
          rw [HNX.out]
          push_cast
          rfl
        · obtain rfl : j = i := by omega
          have hMN : M = N := by have := HN.out; have := HM.out; omega
          have h3 := HS3.out g (by rw [List.getElem?_map, HLI.out]; rfl)
          rw [HEJ.out] at h3
          have j3 : ¬ (M : Int) + (E : Int) ≤ (cut : Int) := by omega
          subst hMN
          go_wp2_with (first
            | (refine wl (by rfl) (wp_of_run (run_ld (by kernel_rfl) (by rfl) (by rfl) CZ.out) ?_))
            | (go_at_call 13; refine (seg13_yes (num + 1 + j) xv g _ (by omega) RZ.out HG5.out HOKJ.out).mono ?_; rintro e Wn ⟨g13, c13, rfl, hb⟩; have hS := HS.out.call hb.1; clear hb; rw [HEJ.out]; clear HS; have HS := Lib.hid hS; clear hS)
            | (refine atd 114 (by rfl) ?_; refine wl (by rfl) (wp_of_run (run_slG j (by rfl) (by rfl) (by rfl) hs1 HC10.out) ?_))
            | (go_at_call 12; refine (same12_d _ _ gl2 (Z.take j) true _ (decide_eq_true HGL2.out) (HS.out.fact (i := 0) rfl) ((HS.out.fact (i := 2) rfl : GSv _ (.slice _ Z.length d10) Z).take j hs1) (gl_small HGL2.out (fun x hx => HZS.out x (List.mem_of_mem_take hx))) (fun x hx => HZS.out x (List.mem_of_mem_take hx)) (by rw [gl_len HGL2.out, List.length_take]; have := HZL.out; omega) (by rw [List.length_take]; have := HZL.out; omega)).mono ?_; rintro e Wn ⟨rfl, hb⟩; have hS := HS.out.call hb; clear hb; clear HS; have HS := Lib.hid hS; clear hS))
          go_ret
          exact ⟨rfl, HB0.out.trans (HS.out.below.mono HB0.out.size)⟩
      · have j1 : ¬ (j : Int) < (Z.length : Int) := by omega
        obtain rfl : j = i := by omega
        have hMN : M = N := by have := HN.out; omega
        subst hMN
        clear hM
        go_wp2_with (first
          | (refine atd 114 (by rfl) ?_; refine wl (by rfl) (wp_of_run (run_slG j (by rfl) (by rfl) (by rfl) hs1 HC10.out) ?_))
          | (go_at_call 12; refine (same12_d _ _ gl2 (Z.take j) true _ (decide_eq_true HGL2.out) (HS.out.fact (i := 0) rfl) ((HS.out.fact (i := 2) rfl : GSv _ (.slice _ Z.length d10) Z).take j hs1) (gl_small HGL2.out (fun x hx => HZS.out x (List.mem_of_mem_take hx))) (fun x hx => HZS.out x (List.mem_of_mem_take hx)) (by rw [gl_len HGL2.out, List.length_take]; have := HZL.out; omega) (by rw [List.length_take]; have := HZL.out; omega)).mono ?_; rintro e Wn ⟨rfl, hb⟩; have hS := HS.out.call hb; clear hb; clear HS; have HS := Lib.hid hS; clear hS))
        go_ret
        exact ⟨rfl, HB0.out.trans (HS.out.below.mono HB0.out.size)⟩
end
end Go.Proofs.Ytakeggdpnfibpaa
