/- Contracts and words that the laws stand on (SegmentOnlyWalk). -/
import Derived.Test.YtakeggdpnfibpaaSegmentBackWalk
import Derived.Test.YtakeggdpnfibpaaRecF
set_option linter.unusedVariables false
set_option linter.unusedSimpArgs false
namespace Go.Proofs.Ytakeggdpnfibpaa
section
open Go Go.RowKit Go.Proofs
attribute [local irreducible] Calls

/-- The bytes of the j first groups. -/
def gBy (num : Nat) (Z : List (Value × Grp)) (j : Nat) : List UInt8 := encG num ((Z.take j).map (·.2))
theorem read11_any (v : Value) (xs : List UInt8) (num : Nat) (w : World) (h : HB w v xs) (hn : num < 18446744073709551616) (hl : xs.length ≤ 1000000) :
    Calls Try.prog 11 #[v, .int .u64 (num : Int)] w fun e w' => ∃ A c gl m, e = .returned (.tuple #[.slice A gl.length c, .int .i64 ((m : Nat) : Int)]) ∧ ReadP xs num (gl.map (·.2)) m ∧ Below w.heap.size w w' ∧ Away (fun k => k < w.heap.size) (fun V => GSv V (.slice A gl.length c) gl) w' := by
  refine (read11 v xs num w h hn hl).mono ?_
  rintro e w' ⟨pr, u, m', hp', rfl, hb, hr, hg⟩
  obtain ⟨A, c, rfl⟩ := own_slice hr
  have el : (glOf pr).length = pr.length := by simp [glOf]
  refine ⟨A, c, glOf pr, m', by rw [el], by rw [glOf_snd]; exact hp', hb, fun V hs => ?_⟩
  rw [el]
  exact GSv.of_read (Away.row hr (K := fun k => k < w.heap.size) (fun k hk h => by have := (hr.lt k hk).1; omega) V hs) (hg.away (fun k hk => hk) V hs)
/-- Behind what was read no group stands. -/
theorem ReadP.rest {xs : List UInt8} {num : Nat} {gs : List Grp} {m : Nat} (h : ReadP xs num gs m) (ht : num + gs.length < 18446744073709551616) : ReadP (xs.drop m) (num + gs.length) [] 0 := by
  obtain ⟨post, e, hn⟩ := h.split
  have e2 : xs.drop m = post := by rw [e, h.len, List.drop_left' rfl]
  rw [e2]
  exact ⟨rfl, trivial, by simpa using Nat.le_of_lt ht, post, rfl, fun _ g q hg => hn ht g q (by simpa using hg)⟩
theorem ReadP.zero (xs : List UInt8) : ReadP xs 0 [] 0 := ⟨rfl, trivial, by decide, xs, rfl, fun _ g q hg => absurd rfl (segOk_iff.1 hg).1⟩
theorem ReadP.le {xs : List UInt8} {num : Nat} {gs : List Grp} {m : Nat} (h : ReadP xs num gs m) : m ≤ xs.length ∧ xs.take m = encG num gs := by
  obtain ⟨post, e, _⟩ := h.split
  have h1 := congrArg List.length e
  rw [List.length_append, ← h.len] at h1
  exact ⟨by omega, by rw [e, h.len, List.take_left' rfl]⟩
theorem encG_ge {num : Nat} : ∀ {gs : List Grp}, gs.length ≤ (encG num gs).length := by
  intro gs
  induction gs generalizing num with
  | nil => simp
  | cons g gs ih => have := @ih (num + 1); have := encL_segL_pos num g; rw [encG, List.length_append, List.length_cons]; omega
theorem encL_many (l : Grp) : l.length ≤ (encL l).length := encL_ge l
theorem seg_many {n : Nat} {g : Grp} : g.length ≤ (encL (segL n g)).length := by
  have := encL_many (segL n g)
  unfold segL at *
  simp at this
  omega
set_option maxHeartbeats 2000000 in
set_option maxRecDepth 100000 in
theorem segmentOnly_walk (v : Value) (xs : List UInt8) (num : Nat) (w : World) (hv : HB w v xs) (hn : num < 18446744073709551616) :
    Calls Try.prog 5 #[v, .int .u64 (num : Int)] w fun e w' => e = .returned (.bool true) ∧ Below w.heap.size w w' := by
  obtain ⟨A, c, rfl, hlc⟩ := hv.shape
  have HS := Lib.hid ((St.start w).addF hv.away0)
  clear hv
  by_cases h2 : xs.length ≤ 20000
  · have j1 : ¬ (20000 : Int) < (xs.length : Int) := by omega
    have hR1 : ∀ W, HB W (.slice A xs.length c) xs → Calls Try.prog 11 #[.slice A xs.length c, .int .u64 (num : Int)] W fun e w' => ∃ A c gl m, e = .returned (.tuple #[.slice A gl.length c, .int .i64 ((m : Nat) : Int)]) ∧ ReadP xs num (gl.map (·.2)) m ∧ Below W.heap.size W w' ∧ Away (fun k => k < W.heap.size) (fun V => GSv V (.slice A gl.length c) gl) w' := fun W h => read11_any _ xs num W h hn (by omega)
    have R1 := Lib.hid hR1
    clear hR1
    go_enter Try.func5, Try.ntmps5
    go_wp2_with (first
      | (go_at_call 8; refine (alive8 _).mono ?_; rintro e Wn ⟨rfl, hb⟩; have hS := HS.out.call hb; clear hb; clear HS; have HS := Lib.hid hS; clear hS)
      | (go_at_call 11; refine (R1.out _ (HS.out.fact (i := 0) rfl)).mono ?_; rintro e Wn ⟨A6, c6, gl, m, rfl, hp, hb, hw⟩; have hS := HS.out.tell hb hw; have HP := Lib.hid hp; clear hb hw hp; clear HS; have HS := Lib.hid hS; clear hS))
    have hml := HP.out.le
    have HML := Lib.hid hml.1
    have HTK := Lib.hid hml.2
    have hbl : (encG num (gl.map (·.2))).length ≤ 20000 := by rw [← hml.2, List.length_take]; omega
    have hgl : gl.length ≤ 20000 := by have := @encG_ge num (gl.map (·.2)); rw [List.length_map] at this; omega
    have htop : num + gl.length ≤ 18446744073709551616 := by have := HP.out.top; rw [List.length_map] at this; exact this
    have HMI := Lib.hid (show m ≤ 20000 by have := hml.1; omega)
    clear hml
    have hS := HS.out.new (Below.refl _ _) (r := Row (.slice none 0 0) 5 1 0 []) (World.ownsRow_nil _ _ _ _) (fun k hk => by simp [Row, Value.ownBlock] at hk)
    clear HS; have HS := Lib.hid hS; clear hS
    go_loopw [8, 31] (fun s8 s31 wr => ∃ (j : Nat) (A8 : Option Addr) (c8 : Nat), j ≤ gl.length ∧ s31 = .int .i64 (j : Int) ∧ s8 = .slice A8 (gBy num gl j).length c8 ∧ St w wr [Row (.slice A8 (gBy num gl j).length c8) 5 1 (gBy num gl j).length (bs (gBy num gl j))] [fun V => GSv V (.slice A6 gl.length c6) gl, fun V => HB V (.slice A xs.length c) xs]) (fun _ s31 _ => gl.length - (intOf s31).toNat)
    case atStart => exact ⟨0, none, 0, by omega, rfl, rfl, HS.out⟩
    case round =>
      obtain ⟨j, A8, c8, hj, rfl, rfl, hs⟩ := hrel
      clear HS
      by_cases hlt : j < gl.length
      · have k1 : (j : Int) < (gl.length : Int) := by omega
        obtain ⟨bb, o, rfl, cz, rz⟩ := (hs.fact (F := fun V => GSv V (.slice A6 gl.length c6) gl) (i := 0) rfl).get hlt
        have hli : gl[j]? = some gl[j] := List.getElem?_eq_getElem hlt
        generalize gl[j] = x at *
        obtain ⟨xv, g⟩ := x
        dsimp only at cz rz
        have hokj := allOk_get HP.out.ok (show (gl.map (·.2))[j]? = some g by rw [List.getElem?_map, hli]; rfl)
        have htl : ((gl.take j).map (·.2)).length = j := by rw [List.length_map, List.length_take, Nat.min_eq_left hj]
        have hnext : gBy num gl (j + 1) = gBy num gl j ++ encL (segL (num + j) g) := by
          unfold gBy
          rw [take_snoc gl j _ hli, List.map_append, List.map_cons, List.map_nil, encG_snoc, htl]
        have hb1 : (gBy num gl j).length ≤ 20000 := Nat.le_trans (gEnd_mono num gl hj) (by unfold gEnd; rw [List.take_length]; exact hbl)
        have hb2 : (encL (segL (num + j) g)).length ≤ 20000 := by
          have h1 := gEnd_mono num gl (show j + 1 ≤ gl.length by omega)
          have h2 := gEnd_next num hli
          have h3 : gEnd num gl gl.length ≤ 20000 := by unfold gEnd; rw [List.take_length]; exact hbl
          dsimp only at h2
          omega
        have CZ := Lib.hid cz; have RZ := Lib.hid rz; have HG5 := Lib.hid (show g.length ≤ 100000 from Nat.le_trans (@seg_many (num + j) g) (by omega)); have HOKJ := Lib.hid hokj; have HNX := Lib.hid hnext
        have HS := Lib.hid hs
        clear cz rz hokj hnext hli hs htl
        go_wp2_with (first
          | (refine wl (by rfl) (wp_of_run (run_ld (by kernel_rfl) (by rfl) (by rfl) CZ.out) ?_))
          | (go_at_call 13; refine (seg13_yes (num + j) xv g _ (by omega) RZ.out HG5.out HOKJ.out).mono ?_; rintro e Wn ⟨g13, c13, rfl, hb⟩; have hS := HS.out.take hb; clear hb; clear HS; have HS := Lib.hid hS; clear hS)
          | (refine wl (by rfl) (s_app HS.out 1 (E := 5) (xs := gBy num gl j) (ys := encL (segL (num + j) g)) (by rfl) Try.underlying28 (by kernel_rfl) (by rfl) (by rfl) (by rfl) (Row.hb (HS.out.res (i := 0) rfl)) (by omega) ?_); intro v50 Wn hS; obtain ⟨A50, c50, rfl⟩ := Row.sl (hS.res (i := 1) rfl); clear HS; have HS := Lib.hid hS; clear hS))
        refine ⟨⟨j + 1, A50, c50, by omega, by push_cast; rfl, by rw [HNX.out, List.length_append], ?_⟩, by simp [intOf]; omega⟩
        rw [HNX.out]
        exact HS.out.sub 0
      · have k1 : ¬ (j : Int) < (gl.length : Int) := by omega
        have hjl : gBy num gl j = encG num (gl.map (·.2)) := by unfold gBy; rw [List.take_of_length_le (by omega)]
        rw [hjl] at hs
        have HS := Lib.hid hs
        have HJL := Lib.hid hjl
        clear hs
        rw [hjl]
        clear hjl
        by_cases htp : num + gl.length < 18446744073709551616
        · have hR2 : ∀ v W, HB W v (xs.drop m) → Calls Try.prog 11 #[v, .int .u64 ((num : Int) + (gl.length : Int))] W fun e w' => ∃ A c gl, e = .returned (.tuple #[.slice A 0 c, .int .i64 ((0 : Nat) : Int)]) ∧ gl.map (·.2) = [] ∧ Below W.heap.size W w' ∧ Away (fun k => k < W.heap.size) (fun V => GSv V (.slice A 0 c) gl) w' := fun v W h => read11_z v _ (num + gl.length) W h htp [] 0 0 rfl (by have := HP.out.rest (by rw [List.length_map]; exact htp); rw [List.length_map] at this; exact this) (by rw [List.length_drop]; omega)
          have R2 := Lib.hid hR2
          clear hR2
          have jm : ¬ (xs.length : Int) < (m : Int) := by have := HML.out; omega
          go_wp2_with (first
            | (refine atd 63 (by rfl) ?_; refine wl (by rfl) (wp_of_run (run_sll m (by rfl) (by rfl) (by rfl) HML.out) ?_))
            | (go_at_call 11; refine (R2.out _ _ ((HS.out.fact (F := fun V => HB V (.slice A xs.length c) xs) (i := 1) rfl).drop HML.out)).mono ?_; rintro e Wn ⟨A12, c12, gl2, rfl, hgl2, hb, hw⟩; have hS := HS.out.call hb; clear hb hw hgl2; clear HS; have HS := Lib.hid hS; clear hS))
          have H8 := Lib.hid (Row.hb (HS.out.res (i := 0) rfl))
          have hcu := (HS.out.fact (i := 1) rfl : HB _ (.slice A xs.length c) xs).take HML.out
          rw [HTK.out] at hcu
          have HCU := Lib.hid hcu
          clear hcu
          refine wp_region_pi [(0, true), (1, true), (2, true), (3, true), (4, true), (5, true), (6, true), (7, true), (8, true), (9, true), (10, true), (11, true), (12, true), (13, true), (14, true), (15, true)] (by kernel_rfl) (by kernel_rfl) rfl (by kernel_rfl) (fun _ _ _ _ _ h => h) (fun V => V = Wn.drew) rfl ?_
          intro OPS hops
          iterate 16
            first | (refine wpPi_yield _ (by rw [hops.out]; simp only [List.getElem?_toArray, List.getElem?_cons_succ, List.getElem?_cons_zero]; rfl) (by first | rfl | (rw [hops.out]; rfl)) (fun w' hS => by subst hS; first | exact run_str (by rfl) (by rfl) H8.out | exact run_str (by rfl) (by rfl) HCU.out | exact run_slh m (by rfl) (by rfl) (by rfl) HML.out hlc | (go_simp; rfl)) ?_; simp only [Act.put, List.setIfInBounds_toArray, List.set_cons_succ, List.set_cons_zero]) | (refine wpPi_skip (by rw [hops.out]; simp only [List.getElem?_toArray, List.getElem?_cons_succ, List.getElem?_cons_zero]; rfl) (by first | rfl | (rw [hops.out]; rfl)) ?_; simp only [Act.put, List.setIfInBounds_toArray, List.set_cons_succ, List.set_cons_zero])
          simp only [wpPi]
          clear OPS hops
          go_wp2_with fail
          go_ret
          exact ⟨rfl, HS.out.below.drew⟩
        · have hwz : IntKind.u64.wrap ((num : Int) + (gl.length : Int)) = 0 := by rw [show (num : Int) + (gl.length : Int) = 18446744073709551616 by omega]; rfl
          have hR2 : ∀ v W, HB W v (xs.drop m) → Calls Try.prog 11 #[v, .int .u64 0] W fun e w' => ∃ A c gl, e = .returned (.tuple #[.slice A 0 c, .int .i64 ((0 : Nat) : Int)]) ∧ gl.map (·.2) = [] ∧ Below W.heap.size W w' ∧ Away (fun k => k < W.heap.size) (fun V => GSv V (.slice A 0 c) gl) w' := fun v W h => read11_z v _ 0 W h (by decide) [] 0 0 rfl (ReadP.zero _) (by rw [List.length_drop]; omega)
          have R2 := Lib.hid hR2
          clear hR2
          have jm : ¬ (xs.length : Int) < (m : Int) := by have := HML.out; omega
          go_wp2_with (first
            | (refine atd 63 (by rfl) ?_; refine wl (by rfl) (wp_of_run (run_sll m (by rfl) (by rfl) (by rfl) HML.out) ?_))
            | (go_at_call 11; refine (R2.out _ _ ((HS.out.fact (F := fun V => HB V (.slice A xs.length c) xs) (i := 1) rfl).drop HML.out)).mono ?_; rintro e Wn ⟨A12, c12, gl2, rfl, hgl2, hb, hw⟩; have hS := HS.out.call hb; clear hb hw hgl2; clear HS; have HS := Lib.hid hS; clear hS))
          have H8 := Lib.hid (Row.hb (HS.out.res (i := 0) rfl))
          have hcu := (HS.out.fact (i := 1) rfl : HB _ (.slice A xs.length c) xs).take HML.out
          rw [HTK.out] at hcu
          have HCU := Lib.hid hcu
          clear hcu
          refine wp_region_pi [(0, true), (1, true), (2, true), (3, true), (4, true), (5, true), (6, true), (7, true), (8, true), (9, true), (10, true), (11, true), (12, true), (13, true), (14, true), (15, true)] (by kernel_rfl) (by kernel_rfl) rfl (by kernel_rfl) (fun _ _ _ _ _ h => h) (fun V => V = Wn.drew) rfl ?_
          intro OPS hops
          iterate 16
            first | (refine wpPi_yield _ (by rw [hops.out]; simp only [List.getElem?_toArray, List.getElem?_cons_succ, List.getElem?_cons_zero]; rfl) (by first | rfl | (rw [hops.out]; rfl)) (fun w' hS => by subst hS; first | exact run_str (by rfl) (by rfl) H8.out | exact run_str (by rfl) (by rfl) HCU.out | exact run_slh m (by rfl) (by rfl) (by rfl) HML.out hlc | (go_simp; rfl)) ?_; simp only [Act.put, List.setIfInBounds_toArray, List.set_cons_succ, List.set_cons_zero]) | (refine wpPi_skip (by rw [hops.out]; simp only [List.getElem?_toArray, List.getElem?_cons_succ, List.getElem?_cons_zero]; rfl) (by first | rfl | (rw [hops.out]; rfl)) ?_; simp only [Act.put, List.setIfInBounds_toArray, List.set_cons_succ, List.set_cons_zero])
          simp only [wpPi]
          clear OPS hops
          go_wp2_with fail
          go_ret
          exact ⟨rfl, HS.out.below.drew⟩
  · have j1 : (20000 : Int) < (xs.length : Int) := by omega
    go_enter Try.func5, Try.ntmps5
    go_wp2_with (first
      | (go_at_call 8; refine (alive8 _).mono ?_; rintro e Wn ⟨rfl, hb⟩; have hS := HS.out.call hb; clear hb; clear HS; have HS := Lib.hid hS; clear hS))
    go_ret
    exact ⟨rfl, HS.out.below⟩
end
end Go.Proofs.Ytakeggdpnfibpaa
