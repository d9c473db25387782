/- Contracts and words that the laws stand on (SegmentRunsWalk). -/
import Derived.Test.YtakeggdpnfibpaaSegmentOrderWalk
import Derived.Test.YtakeggdpnfibpaaSegE
set_option linter.unusedVariables false
set_option linter.unusedSimpArgs false
namespace Go.Proofs.Ytakeggdpnfibpaa
section
open Go Go.RowKit Go.Proofs
attribute [local irreducible] Calls

theorem own_set {w : World} {base g n cap : Nat} {xs : List UInt8} (h : w.ownsRow base 5 1 (.slice (some ⟨g, 0, none⟩) n cap) n (bs xs)) (j : Nat) (hj : j < n) (y : UInt8) :
    (w.setCell ⟨g, j, none⟩ (.int .u8 (y.toNat : Int))).ownsRow base 5 1 (.slice (some ⟨g, 0, none⟩) n cap) n (bs (xs.set j y)) ∧ base ≤ g ∧ w.frozen? ⟨g, j, none⟩ = false := by
  obtain ⟨h1, h2⟩ := h
  rcases h2 with ⟨e, hn⟩ | ⟨g', cap', cur, e, hb, hg, hnc, hm, hz, ht⟩
  · omega
  · injection e with e1 e2 e3
    injection e1 with e1
    injection e1 with e1
    subst e1 e3
    refine ⟨⟨by simp [bs] at h1 ⊢; exact h1, .inr ⟨g, cap, cur.setIfInBounds j (.int .u8 (y.toNat : Int)), rfl, hb, heap_setCell_same w g j cur 5 _ hg, hnc, hm, by simpa using hz, ?_⟩⟩, hb, frozen_of_row w g j cur 5 hg⟩
    simp only [Nat.mul_one] at ht ⊢
    rw [Array.toList_setIfInBounds, List.take_set, ht]
    simp [bs, List.map_set]
theorem St.setRow {w W : World} {L : List Res} {Fs : List (World → Prop)} (h : St w W L Fs) (i : Nat) {g n c : Nat} {T : List UInt8} (hi : L[i]? = some (Row (.slice (some ⟨g, 0, none⟩) n c) 5 1 n (bs T))) {j : Nat} (hj : j < n) (y : UInt8) : St w (W.setCell ⟨g, j, none⟩ (.int .u8 (y.toNat : Int))) (L.set i (Row (.slice (some ⟨g, 0, none⟩) n c) 5 1 n (bs (T.set j y)))) Fs := by
  have ho := (own_set (h.res hi) j hj y).1
  refine h.upd hi ((Chg.refl _ _).setCell (.inl (by simp [Row, Value.ownBlock])) _) ho (fun k hk => ?_)
  have hk' : k = g := by simpa [Row, Value.ownBlock] using hk
  exact ⟨.inl (by simpa [Row, Value.ownBlock] using hk), (ho.lt k (by rw [hk']; rfl)).2⟩
theorem row_cell {W : World} {B g n c j : Nat} {T : List UInt8} {x : UInt8} (h : W.ownsRow B 5 1 (.slice (some ⟨g, 0, none⟩) n c) n (bs T)) (hx : T[j]? = some x) : W.cell? ⟨g, j, none⟩ = some (.int .u8 (x.toNat : Int)) := by
  have h1 := h.cells rfl j (.int .u8 (x.toNat : Int)) (by simp [bs, hx])
  rwa [show (⟨g, 0, none⟩ : Addr).add j = ⟨g, j, none⟩ by simp [Addr.add]; intro h; exact h.symm] at h1
theorem hb_row {W : World} {B n : Nat} {v : Value} {T : List UInt8} (h : W.ownsRow B 5 1 v n (bs T)) (hn : T.length = n) : HB W v T := by subst hn; exact HB.of_own h

/-- What is turned by now, from behind. -/
def TurnD (S T : List UInt8) (a k F : Nat) : Prop := T.length = S.length ∧ (∀ q, q < a + k ∨ a + 4 ≤ q → T[q]? = S[q]?) ∧ ((F = S.length ∧ T = S) ∨ (F < S.length ∧ a + k ≤ F ∧ T[F]? ≠ S[F]? ∧ ∀ q, q < F → T[q]? = S[q]?))
theorem TurnD.skip {S T : List UInt8} {a k F : Nat} (h : TurnD S T a (k + 1) F) : TurnD S T a k F := by
  obtain ⟨h1, h2, h3⟩ := h
  refine ⟨h1, fun q hq => h2 q (by omega), ?_⟩
  rcases h3 with h3 | ⟨a1, a2, a3⟩
  · exact .inl h3
  · exact .inr ⟨a1, by omega, a3⟩
theorem TurnD.turn {S T : List UInt8} {a k F : Nat} (h : TurnD S T a (k + 1) F) {y : UInt8} (hl : a + k < S.length) (hk : k < 4) (hy : ∀ x, T[a + k]? = some x → y ≠ x) : TurnD S (T.set (a + k) y) a k (a + k) := by
  obtain ⟨h1, h2, h3⟩ := h
  refine ⟨by rw [List.length_set]; exact h1, fun q hq => ?_, .inr ⟨hl, Nat.le_refl _, ?_, fun q hq => ?_⟩⟩
  · rw [List.getElem?_set_ne (by omega)]
    exact h2 q (by omega)
  · rw [← h2 (a + k) (.inl (by omega)), List.getElem?_set_self (by omega)]
    intro e
    exact hy y e.symm rfl
  · rw [List.getElem?_set_ne (by omega)]
    exact h2 q (.inl (by omega))
/-- What is read of what was turned. -/
theorem TurnD.read {M : List Grp} {T : List UInt8} {cut a F i : Nat} (hok : allOk 1 M) (ht : 1 + M.length ≤ 18446744073709551616) (hcut : cut ≤ (encG 1 M).length) (h : TurnD ((encG 1 M).take cut) T a 0 F) (hst : GStop 1 M F i) : ReadP T 1 (M.take i) (encG 1 (M.take i)).length := by
  obtain ⟨h1, h2, h3⟩ := h
  have hl : ((encG 1 M).take cut).length = cut := by rw [List.length_take]; omega
  rcases h3 with ⟨e1, e2⟩ | ⟨a1, _, a3, a4⟩
  · rw [e2]
    rw [hl] at e1
    rw [e1] at hst
    exact read_cut hok ht hst hcut
  · rw [hl] at a1
    refine runs_read (cut := cut) (j := a) hok ht ⟨h1.symm, fun q hq => h2 q (by omega)⟩ a1 hcut ?_ (fun q hq => ?_) hst
    · rw [List.getElem?_take_of_lt a1] at a3; exact a3
    · have := a4 q hq
      rwa [List.getElem?_take_of_lt (by omega)] at this
set_option maxHeartbeats 8000000 in
set_option maxRecDepth 100000 in
theorem segmentRuns_walk (u : Value) (l : List (Value × Grp)) (n p t : Nat) (w : World) (hu : GSv w u l) (hn : n < 65536) (hp : p < 65536) (ht : t < 4294967296) :
    Calls Try.prog 4 #[u, .int .u16 (n : Int), .int .u16 (p : Int), .int .u32 (t : Int)] w fun e w' => e = .returned (.bool true) ∧ Below w.heap.size w w' := by
  have HU := Lib.hid hu
  obtain ⟨A, c, rfl, hlc⟩ := hu.shape
  clear hu
  cases hg1 : grtG l with
  | false =>
    have G1 := Lib.hid (show grtGI l = 1 by unfold grtGI; rw [hg1]; rfl)
    clear hg1
    go_enter Try.func4, Try.ntmps4
    go_wp2_with (first
      | (go_at_call 8; refine (alive8 _).mono ?_; rintro e W0 ⟨rfl, hb⟩; have HB0 := Lib.hid hb; have HU0 := Lib.hid (HU.out.below hb); clear hb)
      | (go_at_call 9; refine (great9 _ l _ HU0.out).mono ?_; rintro e Wn ⟨rfl, rfl⟩; rw [G1.out]))
    go_ret
    exact ⟨rfl, HB0.out⟩
  | true =>
    have G1 := Lib.hid (show grtGI l = 0 by unfold grtGI; rw [hg1]; rfl)
    obtain ⟨hl20, hlg⟩ := grtG_true hg1
    obtain ⟨Z, hZ⟩ : ∃ Z, mayV 1 l = Z := ⟨_, rfl⟩
    have hZ20 : Z.length ≤ 20 := by rw [← hZ]; exact Nat.le_trans (mayV_len _ _) hl20
    have hZg : ∀ x ∈ Z, grt x.2 = true := fun x hx => hlg x (mayV_mem 1 l x (by rw [hZ]; exact hx))
    have hok : allOk 1 (Z.map (·.2)) := by rw [← hZ]; exact mayV_ok _ _
    obtain ⟨S, hS0⟩ : ∃ S, encG 1 (Z.map (·.2)) = S := ⟨_, rfl⟩
    have hSl : S.length ≤ 700000 := by
      have h := encG_small (num := 1) (gs := Z.map (·.2)) (fun g hg => by obtain ⟨x, hx, rfl⟩ := List.mem_map.1 hg; exact hZg x hx)
      rw [hS0, List.length_map] at h
      omega
    have hW : ∀ W, GSv W (.slice A l.length c) l → Calls Try.prog 10 #[.int .u64 1, .slice A l.length c] W fun e w' => ∃ A c B d, e = .returned (.tuple #[.slice A S.length c, .slice B Z.length d]) ∧ St W w' [] [fun V => GSv V (.slice B Z.length d) Z, fun V => HB V (.slice A S.length c) S] := fun W h => written10_f 1 _ l W (by omega) h hl20 (fun x hx => Nat.le_trans (grt_len (hlg x hx)) (by decide)) Z S hZ hS0
    obtain ⟨cut, hcut⟩ : ∃ cut, n % (S.length + 1) = cut := ⟨_, rfl⟩
    have hcs : cut ≤ S.length := by have := Nat.mod_lt n (show 0 < S.length + 1 by omega); omega
    have htm : (n : Int).tmod ((S.length : Int) + 1) = (cut : Int) := by
      rw [Int.tmod_eq_emod_of_nonneg (by omega), ← hcut]; push_cast; rfl
    obtain ⟨a, ha⟩ : ∃ a, p % (cut + 1) = a := ⟨_, rfl⟩
    have hac : a ≤ cut := by have := Nat.mod_lt p (show 0 < cut + 1 by omega); omega
    have htp : (p : Int).tmod ((cut : Int) + 1) = (a : Int) := by
      rw [Int.tmod_eq_emod_of_nonneg (by omega), ← ha]; push_cast; rfl
    obtain ⟨B0, hB0⟩ : ∃ B0, S.take cut = B0 := ⟨_, rfl⟩
    have HBL := Lib.hid (show B0.length = cut by rw [← hB0, List.length_take]; omega)
    have HTKB := Lib.hid (show ∀ (V : World) (A : Option Addr) (c : Nat), HB V (.slice A S.length c) S → HB V (.slice A cut c) B0 from fun V A c h => by have := h.take hcs; rwa [hB0] at this)
    have HTR := Lib.hid (show ∀ T F i, TurnD B0 T a 0 F → GStop 1 (Z.map (·.2)) F i → ReadP T 1 ((Z.map (·.2)).take i) (encG 1 ((Z.map (·.2)).take i)).length from fun T F i h h2 => TurnD.read hok (by rw [List.length_map]; omega) (by rw [hS0]; exact hcs) (by rw [hS0, hB0]; exact h) h2)
    have HW := Lib.hid hW; have HOK := Lib.hid hok; have HZG := Lib.hid hZg
    have HZS := Lib.hid (show ∀ x ∈ Z, x.2.length ≤ 1000000 from fun x hx => Nat.le_trans (grt_len (hZg x hx)) (by decide))
    have HZL := Lib.hid (show Z.length ≤ 1000000 by omega)
    clear hW hZ hS0 hlg hg1 hcut ha hB0 hZg hok
    go_enter Try.func4, Try.ntmps4
    go_wp2_with (first
      | (go_at_call 8; refine (alive8 _).mono ?_; rintro e W0 ⟨rfl, hb⟩; have HB0 := Lib.hid hb; have HU0 := Lib.hid (HU.out.below hb); clear hb)
      | (go_at_call 9; refine (great9 _ l _ HU0.out).mono ?_; rintro e Wn ⟨rfl, rfl⟩; rw [G1.out])
      | (go_at_call 10; refine (HW.out _ HU0.out).mono ?_; rintro e Wn ⟨A9, c9, B10, d10, rfl, hS⟩; have HS := Lib.hid hS; have HC9 := Lib.hid (hS.fact (F := fun V => HB V (.slice A9 S.length c9) S) (i := 1) rfl).cap; have HC10 := Lib.hid (hS.fact (F := fun V => GSv V (.slice B10 Z.length d10) Z) (i := 0) rfl).cap; clear hS)
      | (refine atd 37 (by rfl) ?_; refine wl (by rfl) (s_bs0 (E := 5) HS.out 1 (by rfl) Try.underlying28 (by kernel_rfl) (by rfl) ?_); intro b37 Wn hS; clear HS; have HS := Lib.hid hS; clear hS)
      | (refine atd 45 (by rfl) ?_; refine wl (by rfl) (wp_of_run (run_slh cut (by rfl) (by rfl) (by rfl) hcs HC9.out) ?_))
      | (refine atd 46 (by rfl) ?_; refine wl (by rfl) (s_app (xs := []) (ys := B0) HS.out 0 (by rfl) Try.underlying28 u8_info (by rfl) (by rfl) (by rfl) (HTKB.out _ _ _ (HS.out.fact (F := fun V => HB V (.slice A9 S.length c9) S) (i := 1) rfl)) (by have := HBL.out; simp; omega) ?_); intro v46 Wn hS; rw [List.nil_append, HBL.out] at hS; obtain ⟨A46, c46, rfl⟩ := Row.sl (hS.res (i := 0) rfl); clear HS; have HS := Lib.hid hS; clear hS))
    go_loopw [13, 14] (fun s13 s14 wr => ∃ (k : Nat) (kk : Int) (T : List UInt8) (F : Nat), k ≤ 4 ∧ kk = (k : Int) - 1 ∧ s14 = .int .i64 kk ∧ s13 = .int .i64 (F : Int) ∧ TurnD B0 T a k F ∧ St W0 wr [Row (.slice A46 cut c46) 5 1 cut (bs T)] [fun V => GSv V (.slice B10 Z.length d10) Z, fun V => HB V (.slice A9 S.length c9) S]) (fun _ s14 _ => (intOf s14 + 1).toNat)
    case atStart => exact ⟨4, 3, B0, cut, by omega, rfl, rfl, rfl, ⟨rfl, fun _ _ => rfl, .inl ⟨HBL.out.symm, rfl⟩⟩, HS.out⟩
    case round =>
      obtain ⟨k, kk, T, F, hk, hkk, rfl, rfl, htu, hs⟩ := hrel
      clear HS
      have HTU := Lib.hid htu; have HS := Lib.hid hs
      clear htu hs
      by_cases hk0 : k = 0
      · subst hk0
        obtain rfl : kk = -1 := by omega
        clear hkk hk
        obtain ⟨i, hstop⟩ := GStop.ex 1 (Z.map (·.2)) F
        have hF : F ≤ cut := by
          have h1 := HBL.out
          rcases HTU.out.2.2 with ⟨h, _⟩ | ⟨h, _⟩ <;> omega
        have hrd := HTR.out T F i HTU.out hstop
        obtain ⟨hs1, hs2, hs3⟩ := hstop
        rw [List.length_map] at hs1
        rw [← List.map_take] at hrd hs2 hs3
        obtain ⟨N, hN⟩ : ∃ N, gEnd 1 Z i = N := ⟨_, rfl⟩
        have hN' : (encG 1 ((Z.take i).map (·.2))).length = N := hN
        rw [hN'] at hrd hs2 hs3
        have hTL : T.length = cut := by rw [HTU.out.1, HBL.out]
        have hR2 : ∀ v W, HB W v T → Calls Try.prog 11 #[v, .int .u64 1] W fun e w' => ∃ A c gl, e = .returned (.tuple #[.slice A i c, .int .i64 (N : Int)]) ∧ gl.map (·.2) = (Z.take i).map (·.2) ∧ Below W.heap.size W w' ∧ Away (fun k => k < W.heap.size) (fun V => GSv V (.slice A i c) gl) w' := fun v W h => read11_z v _ 1 W h (by decide) ((Z.take i).map (fun y : Value × Grp => y.2)) i N (by rw [List.length_map, List.length_take]; omega) hrd (by omega)
        have R2 := Lib.hid hR2; have HN := Lib.hid hN; have HS3 := Lib.hid hs3; have HTL := Lib.hid hTL
        clear hR2 hN hN' hs3 hrd HTU HTR
        go_wp2_with fail
        go_loopw [17, 18] (fun s17 s18 wq => ∃ j : Nat, j ≤ i ∧ s17 = .int .i64 (j : Int) ∧ s18 = .int .i64 ((gEnd 1 Z j : Nat) : Int) ∧ St W0 wq [Row (.slice A46 cut c46) 5 1 cut (bs T)] [fun V => GSv V (.slice B10 Z.length d10) Z, fun V => HB V (.slice A9 S.length c9) S]) (fun s17 _ _ => Z.length - (intOf s17).toNat)
        case atStart => exact ⟨0, by omega, rfl, by rw [gEnd_zero]; rfl, HS.out⟩
        case round =>
          obtain ⟨j, hj, rfl, rfl, hs⟩ := hrel
          clear HS
          have HS := Lib.hid hs
          clear hs
          obtain ⟨M, hM⟩ : ∃ M, gEnd 1 Z j = M := ⟨_, rfl⟩
          have hMc : M ≤ F := by have := gEnd_mono 1 Z hj; have := HN.out; omega
          rw [hM]
          by_cases hlt : j < Z.length
          · have j1 : (j : Int) < (Z.length : Int) := by omega
            have hgz := HS.out.fact (F := fun V => GSv V (.slice B10 Z.length d10) Z) (i := 0) rfl
            obtain ⟨bb, o, rfl, cz, rz⟩ := hgz.get hlt
            have hli : Z[j]? = some Z[j] := List.getElem?_eq_getElem hlt
            generalize Z[j] = x at *
            obtain ⟨xv, g⟩ := x
            dsimp only at cz rz
            have hokj := allOk_get HOK.out (show (Z.map (·.2))[j]? = some g by rw [List.getElem?_map, hli]; rfl)
            obtain ⟨E, hE⟩ : ∃ E, (encL (segL (1 + j) g)).length = E := ⟨_, rfl⟩
            have hEb : E ≤ 1500000 := by rw [← hE]; exact (segOk_iff.1 hokj).2.2.2.2
            have hnext := gEnd_next 1 hli
            rw [hM] at hnext
            dsimp only at hnext
            rw [hE] at hnext
            have hgr := HZG.out _ (List.mem_of_getElem? hli)
            have henc : ∀ W, RS W xv g → Calls Try.prog 13 #[.int .u64 ((j : Int) + 1), xv] W fun e w' => ∃ g' c', e = .returned (.tuple #[.slice (some ⟨g', 0, none⟩) (encL (segL (1 + j) g)).length c', .int .i64 0]) ∧ New W w' (Row (.slice (some ⟨g', 0, none⟩) (encL (segL (1 + j) g)).length c') 5 1 (encL (segL (1 + j) g)).length (bs (encL (segL (1 + j) g)))) := fun W hr => by
              have h := seg13_yes (1 + j) xv g W (by omega) hr (Nat.le_trans (grt_len hgr) (by decide)) hokj
              rw [show ((1 + j : Nat) : Int) = (j : Int) + 1 by push_cast; omega] at h
              exact h
            have CZ := Lib.hid cz; have RZ := Lib.hid rz; have HENC := Lib.hid henc; have HEJ := Lib.hid hE; have HNX := Lib.hid hnext; have HLI := Lib.hid hli; have HM := Lib.hid hM
            clear cz rz hokj hE hnext hli hgz hM henc hgr
            by_cases hji : j < i
            · have j3 : (M : Int) + (E : Int) ≤ (F : Int) := by
                have h1 := gEnd_mono 1 Z (show j + 1 ≤ i by omega)
                have h2 := HNX.out; have h3 := HN.out
                omega
              go_wp2_with (first
                | (refine wl (by rfl) (wp_of_run (run_ld (by kernel_rfl) (by rfl) (by rfl) CZ.out) ?_))
                | (go_at_call 13; refine (HENC.out _ RZ.out).mono ?_; rintro e Wn ⟨g13, c13, rfl, hb⟩; have hS := HS.out.call hb.1; clear hb; rw [HEJ.out]; clear HS; have HS := Lib.hid hS; clear hS))
              refine ⟨⟨j + 1, by omega, by push_cast; rfl, ?_, HS.out⟩, by simp [intOf]; omega⟩
              rw [HNX.out]
              push_cast
              rfl
            · obtain rfl : j = i := by omega
              have hMN : M = N := by have := HN.out; have := HM.out; omega
              have h3 := HS3.out g (by rw [List.getElem?_map, HLI.out]; rfl)
              rw [HEJ.out] at h3
              have j3 : ¬ (M : Int) + (E : Int) ≤ (F : Int) := by omega
              subst hMN
              go_wp2_with (first
                | (refine wl (by rfl) (wp_of_run (run_ld (by kernel_rfl) (by rfl) (by rfl) CZ.out) ?_))
                | (go_at_call 13; refine (HENC.out _ RZ.out).mono ?_; rintro e Wn ⟨g13, c13, rfl, hb⟩; have hS := HS.out.call hb.1; clear hb; rw [HEJ.out]; clear HS; have HS := Lib.hid hS; clear hS)
                | (go_at_call 11; refine (R2.out _ _ (hb_row (HS.out.res (i := 0) rfl) HTL.out)).mono ?_; rintro e Wn ⟨A21, c21, gl2, rfl, hgl2, hb, hw⟩; have hS := HS.out.tell hb hw; have HGL2 := Lib.hid hgl2; clear hb hw hgl2; clear HS; have HS := Lib.hid hS; clear hS)
                | (refine atd 124 (by rfl) ?_; refine wl (by rfl) (wp_of_run (run_slG j (by rfl) (by rfl) (by rfl) hs1 HC10.out) ?_))
                | (go_at_call 12; refine (same12_d _ _ gl2 (Z.take j) true _ (decide_eq_true HGL2.out) (HS.out.fact (i := 0) rfl) ((HS.out.fact (i := 1) rfl : GSv _ (.slice _ Z.length d10) Z).take j hs1) (gl_small HGL2.out (fun x hx => HZS.out x (List.mem_of_mem_take hx))) (fun x hx => HZS.out x (List.mem_of_mem_take hx)) (by rw [gl_len HGL2.out, List.length_take]; have := HZL.out; omega) (by rw [List.length_take]; have := HZL.out; omega)).mono ?_; rintro e Wn ⟨rfl, hb⟩; have hS := HS.out.call hb; clear hb; clear HS; have HS := Lib.hid hS; clear hS))
              go_ret
              exact ⟨rfl, HB0.out.trans (HS.out.below.mono HB0.out.size)⟩
          · have j1 : ¬ (j : Int) < (Z.length : Int) := by omega
            obtain rfl : j = i := by omega
            have hMN : M = N := by have := HN.out; omega
            subst hMN
            clear hM
            go_wp2_with (first
              | (go_at_call 11; refine (R2.out _ _ (hb_row (HS.out.res (i := 0) rfl) HTL.out)).mono ?_; rintro e Wn ⟨A21, c21, gl2, rfl, hgl2, hb, hw⟩; have hS := HS.out.tell hb hw; have HGL2 := Lib.hid hgl2; clear hb hw hgl2; clear HS; have HS := Lib.hid hS; clear hS)
              | (refine atd 124 (by rfl) ?_; refine wl (by rfl) (wp_of_run (run_slG j (by rfl) (by rfl) (by rfl) hs1 HC10.out) ?_))
              | (go_at_call 12; refine (same12_d _ _ gl2 (Z.take j) true _ (decide_eq_true HGL2.out) (HS.out.fact (i := 0) rfl) ((HS.out.fact (i := 1) rfl : GSv _ (.slice _ Z.length d10) Z).take j hs1) (gl_small HGL2.out (fun x hx => HZS.out x (List.mem_of_mem_take hx))) (fun x hx => HZS.out x (List.mem_of_mem_take hx)) (by rw [gl_len HGL2.out, List.length_take]; have := HZL.out; omega) (by rw [List.length_take]; have := HZL.out; omega)).mono ?_; rintro e Wn ⟨rfl, hb⟩; have hS := HS.out.call hb; clear hb; clear HS; have HS := Lib.hid hS; clear hS))
            go_ret
            exact ⟨rfl, HB0.out.trans (HS.out.below.mono HB0.out.size)⟩
      · have hkc : k = 4 ∨ k = 3 ∨ k = 2 ∨ k = 1 := by omega
        rcases hkc with rfl | rfl | rfl | rfl
        · obtain rfl : kk = 3 := by omega
          clear hkk hk hk0
          have hsk : TurnD B0 T a 3 F := HTU.out.skip
          by_cases hin : a + 3 < cut
          · have i1 : (a : Int) + 3 < (cut : Int) := by omega
            obtain ⟨B, hB⟩ : ∃ B, t / 16777216 = B := ⟨_, rfl⟩
            have hbv : (t : Int) / 16777216 = (B : Int) := by omega
            have hB256 : B < 256 := by omega
            clear hB
            by_cases hB0 : B = 0
            · subst hB0
              have hsk2 := Lib.hid hsk
              clear hsk
              go_wp2_with fail
              exact ⟨⟨3, 3-1, T, F, by omega, by decide, by first | rfl | (push_cast; rfl), rfl, hsk2.out, HS.out⟩, by simp [intOf]⟩
            · have b0 : ¬ (B : Int) = 0 := by omega
              obtain ⟨g, c0, e⟩ := Row.some' (HS.out.res (i := 0) rfl) (by omega)
              injection e with e1 e2 e3
              subst e1 e3
              clear e2
              have hTl : a + 3 < T.length := by rw [HTU.out.1, HBL.out]; exact hin
              have hx : T[a + 3]? = some T[a + 3] := List.getElem?_eq_getElem hTl
              generalize T[a + 3] = x at *
              have hxor : bits BinOp.xor IntKind.u8 (x.toNat : Int) (B : Int) = ((x ^^^ UInt8.ofNat B).toNat : Int) := by
                rw [u8_xor_nat _ _ x.toNat_lt hB256, UInt8.toNat_xor, UInt8.toNat_ofNat_of_lt' (by simpa using hB256)]
              have hyx : ∀ z, T[a + 3]? = some z → x ^^^ UInt8.ofNat B ≠ z := fun z hz e => by
                rw [hx] at hz
                injection hz with hz
                subst hz
                have h1 := congrArg UInt8.toNat e
                rw [UInt8.toNat_xor, UInt8.toNat_ofNat_of_lt' (by simpa using hB256)] at h1
                have h2 := congrArg (x.toNat ^^^ ·) h1
                simp only [← Nat.xor_assoc, Nat.xor_self, Nat.zero_xor] at h2
                exact hB0 h2
              generalize x ^^^ UInt8.ofNat B = y at *
              have htn := Lib.hid (HTU.out.turn (by rw [HBL.out]; exact hin) (by decide) hyx)
              have hcell : wr.cell? ⟨g, a + 3, none⟩ = some (.int .u8 (x.toNat : Int)) := row_cell (HS.out.res (i := 0) rfl) hx
              have HC := Lib.hid hcell; have HF := Lib.hid (own_set (HS.out.res (i := 0) rfl) (a + 3) hin y).2.2
              clear hcell hx hyx hsk hTl
              go_wp2_with (first
                | (refine wl (by rfl) (wp_of_run (run_ld (by kernel_rfl) (by rfl) (by rfl) HC.out) ?_))
                | (refine wl (by rfl) (wp_of_skip (run_stc (v := .int .u8 (y.toNat : Int)) (by kernel_rfl) (by rfl) (by rfl) (by first | rfl | exact congrArg (Value.int .u8) hxor) (by rfl) HC.out HF.out) ?_); have hS := HS.out.setRow 0 rfl hin y; clear HS; have HS := Lib.hid hS; clear hS))
              exact ⟨⟨3, 3-1, T.set (a + 3) y, a + 3, by omega, by decide, by first | rfl | (push_cast; rfl), by first | rfl | (push_cast; rfl), htn.out, HS.out⟩, by simp [intOf]⟩
          · have i1 : ¬ (a : Int) + 3 < (cut : Int) := by omega
            have hsk2 := Lib.hid hsk
            clear hsk
            go_wp2_with fail
            exact ⟨⟨3, 3-1, T, F, by omega, by decide, by first | rfl | (push_cast; rfl), rfl, hsk2.out, HS.out⟩, by simp [intOf]⟩
        · obtain rfl : kk = 2 := by omega
          clear hkk hk hk0
          have hsk : TurnD B0 T a 2 F := HTU.out.skip
          by_cases hin : a + 2 < cut
          · have i1 : (a : Int) + 2 < (cut : Int) := by omega
            obtain ⟨B, hB⟩ : ∃ B, t / 65536 % 256 = B := ⟨_, rfl⟩
            have hbv : (t : Int) / 65536 % 256 = (B : Int) := by omega
            have hB256 : B < 256 := by omega
            clear hB
            by_cases hB0 : B = 0
            · subst hB0
              have hsk2 := Lib.hid hsk
              clear hsk
              go_wp2_with fail
              exact ⟨⟨2, 2-1, T, F, by omega, by decide, by first | rfl | (push_cast; rfl), rfl, hsk2.out, HS.out⟩, by simp [intOf]⟩
            · have b0 : ¬ (B : Int) = 0 := by omega
              obtain ⟨g, c0, e⟩ := Row.some' (HS.out.res (i := 0) rfl) (by omega)
              injection e with e1 e2 e3
              subst e1 e3
              clear e2
              have hTl : a + 2 < T.length := by rw [HTU.out.1, HBL.out]; exact hin
              have hx : T[a + 2]? = some T[a + 2] := List.getElem?_eq_getElem hTl
              generalize T[a + 2] = x at *
              have hxor : bits BinOp.xor IntKind.u8 (x.toNat : Int) (B : Int) = ((x ^^^ UInt8.ofNat B).toNat : Int) := by
                rw [u8_xor_nat _ _ x.toNat_lt hB256, UInt8.toNat_xor, UInt8.toNat_ofNat_of_lt' (by simpa using hB256)]
              have hyx : ∀ z, T[a + 2]? = some z → x ^^^ UInt8.ofNat B ≠ z := fun z hz e => by
                rw [hx] at hz
                injection hz with hz
                subst hz
                have h1 := congrArg UInt8.toNat e
                rw [UInt8.toNat_xor, UInt8.toNat_ofNat_of_lt' (by simpa using hB256)] at h1
                have h2 := congrArg (x.toNat ^^^ ·) h1
                simp only [← Nat.xor_assoc, Nat.xor_self, Nat.zero_xor] at h2
                exact hB0 h2
              generalize x ^^^ UInt8.ofNat B = y at *
              have htn := Lib.hid (HTU.out.turn (by rw [HBL.out]; exact hin) (by decide) hyx)
              have hcell : wr.cell? ⟨g, a + 2, none⟩ = some (.int .u8 (x.toNat : Int)) := row_cell (HS.out.res (i := 0) rfl) hx
              have HC := Lib.hid hcell; have HF := Lib.hid (own_set (HS.out.res (i := 0) rfl) (a + 2) hin y).2.2
              clear hcell hx hyx hsk hTl
              go_wp2_with (first
                | (refine wl (by rfl) (wp_of_run (run_ld (by kernel_rfl) (by rfl) (by rfl) HC.out) ?_))
                | (refine wl (by rfl) (wp_of_skip (run_stc (v := .int .u8 (y.toNat : Int)) (by kernel_rfl) (by rfl) (by rfl) (by first | rfl | exact congrArg (Value.int .u8) hxor) (by rfl) HC.out HF.out) ?_); have hS := HS.out.setRow 0 rfl hin y; clear HS; have HS := Lib.hid hS; clear hS))
              exact ⟨⟨2, 2-1, T.set (a + 2) y, a + 2, by omega, by decide, by first | rfl | (push_cast; rfl), by first | rfl | (push_cast; rfl), htn.out, HS.out⟩, by simp [intOf]⟩
          · have i1 : ¬ (a : Int) + 2 < (cut : Int) := by omega
            have hsk2 := Lib.hid hsk
            clear hsk
            go_wp2_with fail
            exact ⟨⟨2, 2-1, T, F, by omega, by decide, by first | rfl | (push_cast; rfl), rfl, hsk2.out, HS.out⟩, by simp [intOf]⟩
        · obtain rfl : kk = 1 := by omega
          clear hkk hk hk0
          have hsk : TurnD B0 T a 1 F := HTU.out.skip
          by_cases hin : a + 1 < cut
          · have i1 : (a : Int) + 1 < (cut : Int) := by omega
            obtain ⟨B, hB⟩ : ∃ B, t / 256 % 256 = B := ⟨_, rfl⟩
            have hbv : (t : Int) / 256 % 256 = (B : Int) := by omega
            have hB256 : B < 256 := by omega
            clear hB
            by_cases hB0 : B = 0
            · subst hB0
              have hsk2 := Lib.hid hsk
              clear hsk
              go_wp2_with fail
              exact ⟨⟨1, 1-1, T, F, by omega, by decide, by first | rfl | (push_cast; rfl), rfl, hsk2.out, HS.out⟩, by simp [intOf]⟩
            · have b0 : ¬ (B : Int) = 0 := by omega
              obtain ⟨g, c0, e⟩ := Row.some' (HS.out.res (i := 0) rfl) (by omega)
              injection e with e1 e2 e3
              subst e1 e3
              clear e2
              have hTl : a + 1 < T.length := by rw [HTU.out.1, HBL.out]; exact hin
              have hx : T[a + 1]? = some T[a + 1] := List.getElem?_eq_getElem hTl
              generalize T[a + 1] = x at *
              have hxor : bits BinOp.xor IntKind.u8 (x.toNat : Int) (B : Int) = ((x ^^^ UInt8.ofNat B).toNat : Int) := by
                rw [u8_xor_nat _ _ x.toNat_lt hB256, UInt8.toNat_xor, UInt8.toNat_ofNat_of_lt' (by simpa using hB256)]
              have hyx : ∀ z, T[a + 1]? = some z → x ^^^ UInt8.ofNat B ≠ z := fun z hz e => by
                rw [hx] at hz
                injection hz with hz
                subst hz
                have h1 := congrArg UInt8.toNat e
                rw [UInt8.toNat_xor, UInt8.toNat_ofNat_of_lt' (by simpa using hB256)] at h1
                have h2 := congrArg (x.toNat ^^^ ·) h1
                simp only [← Nat.xor_assoc, Nat.xor_self, Nat.zero_xor] at h2
                exact hB0 h2
              generalize x ^^^ UInt8.ofNat B = y at *
              have htn := Lib.hid (HTU.out.turn (by rw [HBL.out]; exact hin) (by decide) hyx)
              have hcell : wr.cell? ⟨g, a + 1, none⟩ = some (.int .u8 (x.toNat : Int)) := row_cell (HS.out.res (i := 0) rfl) hx
              have HC := Lib.hid hcell; have HF := Lib.hid (own_set (HS.out.res (i := 0) rfl) (a + 1) hin y).2.2
              clear hcell hx hyx hsk hTl
              go_wp2_with (first
                | (refine wl (by rfl) (wp_of_run (run_ld (by kernel_rfl) (by rfl) (by rfl) HC.out) ?_))
                | (refine wl (by rfl) (wp_of_skip (run_stc (v := .int .u8 (y.toNat : Int)) (by kernel_rfl) (by rfl) (by rfl) (by first | rfl | exact congrArg (Value.int .u8) hxor) (by rfl) HC.out HF.out) ?_); have hS := HS.out.setRow 0 rfl hin y; clear HS; have HS := Lib.hid hS; clear hS))
              exact ⟨⟨1, 1-1, T.set (a + 1) y, a + 1, by omega, by decide, by first | rfl | (push_cast; rfl), by first | rfl | (push_cast; rfl), htn.out, HS.out⟩, by simp [intOf]⟩
          · have i1 : ¬ (a : Int) + 1 < (cut : Int) := by omega
            have hsk2 := Lib.hid hsk
            clear hsk
            go_wp2_with fail
            exact ⟨⟨1, 1-1, T, F, by omega, by decide, by first | rfl | (push_cast; rfl), rfl, hsk2.out, HS.out⟩, by simp [intOf]⟩
        · obtain rfl : kk = 0 := by omega
          clear hkk hk hk0
          have hsk : TurnD B0 T a 0 F := HTU.out.skip
          by_cases hin : a + 0 < cut
          · have i1 : (a : Int) < (cut : Int) := by omega
            obtain ⟨B, hB⟩ : ∃ B, t % 256 = B := ⟨_, rfl⟩
            have hbv : (t : Int) % 256 = (B : Int) := by omega
            have hB256 : B < 256 := by omega
            clear hB
            by_cases hB0 : B = 0
            · subst hB0
              have hsk2 := Lib.hid hsk
              clear hsk
              go_wp2_with fail
              exact ⟨⟨0, 0-1, T, F, by omega, by decide, by first | rfl | (push_cast; rfl), rfl, hsk2.out, HS.out⟩, by simp [intOf]⟩
            · have b0 : ¬ (B : Int) = 0 := by omega
              obtain ⟨g, c0, e⟩ := Row.some' (HS.out.res (i := 0) rfl) (by omega)
              injection e with e1 e2 e3
              subst e1 e3
              clear e2
              have hTl : a + 0 < T.length := by rw [HTU.out.1, HBL.out]; exact hin
              have hx : T[a + 0]? = some T[a + 0] := List.getElem?_eq_getElem hTl
              generalize T[a + 0] = x at *
              have hxor : bits BinOp.xor IntKind.u8 (x.toNat : Int) (B : Int) = ((x ^^^ UInt8.ofNat B).toNat : Int) := by
                rw [u8_xor_nat _ _ x.toNat_lt hB256, UInt8.toNat_xor, UInt8.toNat_ofNat_of_lt' (by simpa using hB256)]
              have hyx : ∀ z, T[a + 0]? = some z → x ^^^ UInt8.ofNat B ≠ z := fun z hz e => by
                rw [hx] at hz
                injection hz with hz
                subst hz
                have h1 := congrArg UInt8.toNat e
                rw [UInt8.toNat_xor, UInt8.toNat_ofNat_of_lt' (by simpa using hB256)] at h1
                have h2 := congrArg (x.toNat ^^^ ·) h1
                simp only [← Nat.xor_assoc, Nat.xor_self, Nat.zero_xor] at h2
                exact hB0 h2
              generalize x ^^^ UInt8.ofNat B = y at *
              have htn := Lib.hid (HTU.out.turn (by rw [HBL.out]; exact hin) (by decide) hyx)
              have hcell : wr.cell? ⟨g, a + 0, none⟩ = some (.int .u8 (x.toNat : Int)) := row_cell (HS.out.res (i := 0) rfl) hx
              have HC := Lib.hid hcell; have HF := Lib.hid (own_set (HS.out.res (i := 0) rfl) (a + 0) hin y).2.2
              clear hcell hx hyx hsk hTl
              go_wp2_with (first
                | (refine wl (by rfl) (wp_of_run (run_ld (by kernel_rfl) (by rfl) (by rfl) HC.out) ?_))
                | (refine wl (by rfl) (wp_of_skip (run_stc (v := .int .u8 (y.toNat : Int)) (by kernel_rfl) (by rfl) (by rfl) (by first | rfl | exact congrArg (Value.int .u8) hxor) (by rfl) HC.out HF.out) ?_); have hS := HS.out.setRow 0 rfl hin y; clear HS; have HS := Lib.hid hS; clear hS))
              exact ⟨⟨0, 0-1, T.set (a + 0) y, a + 0, by omega, by decide, by first | rfl | (push_cast; rfl), by first | rfl | (push_cast; rfl), htn.out, HS.out⟩, by simp [intOf]⟩
          · have i1 : ¬ (a : Int) < (cut : Int) := by omega
            have hsk2 := Lib.hid hsk
            clear hsk
            go_wp2_with fail
            exact ⟨⟨0, 0-1, T, F, by omega, by decide, by first | rfl | (push_cast; rfl), rfl, hsk2.out, HS.out⟩, by simp [intOf]⟩
end
end Go.Proofs.Ytakeggdpnfibpaa
