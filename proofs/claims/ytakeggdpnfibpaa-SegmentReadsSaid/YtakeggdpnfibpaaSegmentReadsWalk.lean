/- Contracts and words that the laws stand on (SegmentReadsWalk). -/
import Derived.Test.YtakeggdpnfibpaaSegG
set_option linter.unusedVariables false
set_option linter.unusedSimpArgs false
namespace Go.Proofs.Ytakeggdpnfibpaa
section
open Go Go.RowKit Go.Proofs
attribute [local irreducible] Calls

/-- All that a Read's items say of their lengths. -/
theorem read_items {xs : List UInt8} {num m : Nat} {pr : List GIt} (h : ReadP xs num (strip pr) m) (hx : xs.length ≤ 20000) : (∀ x ∈ pr, okL x.l.dropLast = true ∧ 0 < x.l.length ∧ x.l.length ≤ 1000000) ∧ pr.length ≤ 1000000 := by
  have hle := h.le
  have hge := @encG_ge num (strip pr)
  have hml : (encG num (strip pr)).length ≤ 20000 := by rw [← hle.2, List.length_take]; omega
  refine ⟨fun x hx => ?_, by rw [strip_len] at hge; omega⟩
  have hm : x.l.dropLast ∈ strip pr := List.mem_map_of_mem hx
  obtain ⟨i, hi, e⟩ := List.mem_iff_getElem.1 hm
  have hok := allOk_get h.ok (List.getElem?_eq_getElem hi)
  rw [e] at hok
  obtain ⟨_, h2, _, h4, _⟩ := segOk_iff.1 hok
  have h5 : 0 < x.l.dropLast.length := List.length_pos_iff.2 h2
  rw [List.length_dropLast] at h5
  refine ⟨h4, by omega, ?_⟩
  have h6 : (encL (segL (num + i) x.l.dropLast)).length ≤ 20000 := by
    have e1 : encG num (strip pr) = encG num ((strip pr).take i) ++ encG (num + i) ((strip pr).drop i) := by
      have := encG_app num ((strip pr).take i) ((strip pr).drop i)
      rwa [List.take_append_drop, List.length_take, Nat.min_eq_left (Nat.le_of_lt hi)] at this
    rw [List.drop_eq_getElem_cons hi, e, encG] at e1
    have := congrArg List.length e1
    simp only [List.length_append] at this
    omega
  have h7 := @seg_many (num + i) x.l.dropLast
  rw [List.length_dropLast] at h7
  omega
theorem gl_big {xs : List UInt8} {num m : Nat} {gl : List (Value × Grp)} (h : ReadP xs num (gl.map (·.2)) m) (hx : xs.length ≤ 20000) : (∀ x ∈ gl, x.2.length ≤ 1000000) ∧ gl.length ≤ 1000000 := by
  have hle := h.le
  have hge := @encG_ge num (gl.map (·.2))
  have hml : (encG num (gl.map (·.2))).length ≤ 20000 := by rw [← hle.2, List.length_take]; omega
  refine ⟨fun x hx => ?_, by rw [List.length_map] at hge; omega⟩
  obtain ⟨i, hi, rfl⟩ := List.mem_iff_getElem.1 hx
  have h1 := gEnd_next num (List.getElem?_eq_getElem hi)
  have h2 := gEnd_mono num gl (show i + 1 ≤ gl.length by omega)
  have h3 : gEnd num gl gl.length ≤ 20000 := by unfold gEnd; rw [List.take_length]; exact hml
  have h4 := @seg_many (num + i) gl[i].2
  omega
/-- In each world that has these blocks. -/
def Rob (B T : Nat) (F : World → Prop) (V : World) : Prop := Away (fun k => B ≤ k ∧ k < T) F V
theorem Rob.of0 {F : World → Prop} {W1 W2 : World} (h : Away (Keys []) F W1) (hb : Below W1.heap.size W1 W2) (T : Nat) : Away (Keys []) (Rob W1.heap.size T F) W2 := by
  intro V hs V' hs'
  refine h V' ⟨Nat.le_trans hb.size (Nat.le_trans hs.size hs'.size), fun k o _ ho hc => ?_⟩
  have hk := (Array.getElem?_eq_some_iff.1 ho).1
  exact hs'.blk k o (fun h => by omega) (hs.blk k o (fun ⟨r, hr, _⟩ => by cases hr) ((hb.block k hk).trans ho) hc) hc
theorem Rob.of1 {F : World → Prop} {B T : Nat} {W : World} (h : Away (fun k => k < T) F W) : Away (Keys []) (Rob B T F) W := by
  intro V hs V' hs'
  refine h V' ⟨Nat.le_trans hs.size hs'.size, fun k o hn ho hc => ?_⟩
  exact hs'.blk k o (fun h => hn h.2) (hs.blk k o (fun ⟨r, hr, _⟩ => by cases hr) ho hc) hc
theorem Rob.after {F : World → Prop} {B T : Nat} {W W' : World} (h : Rob B T F W) (hc : ChgP (fun k => B ≤ k ∧ k < T) W W') : F W' :=
  h W' ⟨hc.size, fun k o hn ho _ => (hc.block k (Array.getElem?_eq_some_iff.1 ho).1 hn).trans ho⟩
theorem own_away0 {lo hi : Nat} {u : Value} {pr : List GIt} {W : World} (hr : W.ownsRow lo 37 1 u pr.length (itCells pr)) (hg : GsOwn lo hi pr W) : Away (Keys []) (fun V => V.ownsRow lo 37 1 u pr.length (itCells pr) ∧ GsOwn lo hi pr V) W := fun V hs =>
  ⟨Away.row hr (K := Keys []) (fun k _ ⟨r, hr, _⟩ => by cases hr) V hs, hg.away (K := Keys []) (fun k ⟨r, hr, _⟩ => by cases hr) V hs⟩
set_option maxHeartbeats 4000000 in
set_option maxRecDepth 100000 in
theorem segmentReads_walk (v u : Value) (xs : List UInt8) (l : List (Value × Grp)) (num : Nat) (w : World) (hv : HB w v xs) (hu : GSv w u l) (hn : num < 18446744073709551616) :
    Calls Try.prog 7 #[v, .int .u64 (num : Int), u] w fun e w' => e = .returned (.bool true) ∧ Below w.heap.size w w' := by
  obtain ⟨A, c, rfl, hlc⟩ := hv.shape
  obtain ⟨Au, cu, rfl, hluc⟩ := hu.shape
  have HU := Lib.hid hu
  have HS := Lib.hid (((St.start w).addF hv.away0).addF hu.away0)
  clear hv hu
  by_cases h2 : xs.length ≤ 20000
  · have j1 : ¬ (20000 : Int) < (xs.length : Int) := by omega
    cases hg1 : grtG l with
    | false =>
      have G1 := Lib.hid (show grtGI l = 1 by unfold grtGI; rw [hg1]; rfl)
      clear hg1
      go_enter Try.func7, Try.ntmps7
      go_wp2_with (first
        | (go_at_call 9; refine (great9 _ l _ HU.out).mono ?_; rintro e Wn ⟨rfl, rfl⟩; rw [G1.out]))
      go_ret
      exact ⟨rfl, HS.out.below⟩
    | true =>
      have G1 := Lib.hid (show grtGI l = 0 by unfold grtGI; rw [hg1]; rfl)
      obtain ⟨hl20, hlg⟩ := grtG_true hg1
      have HLS := Lib.hid (show ∀ x ∈ l, x.2.length ≤ 1000000 from fun x hx => Nat.le_trans (grt_len (hlg x hx)) (by decide))
      have HLL := Lib.hid (show l.length ≤ 1000000 by omega)
      clear hg1 hlg hl20
      go_enter Try.func7, Try.ntmps7
      go_wp2_with (first
        | (go_at_call 9; refine (great9 _ l _ HU.out).mono ?_; rintro e Wn ⟨rfl, rfl⟩; rw [G1.out])
        | (go_at_call 15; refine (twinN _ xs _ (HS.out.fact (F := fun V => HB V (.slice A xs.length c) xs) (i := 1) rfl) (by omega)).mono ?_; rintro e Wn ⟨v7, rfl, hb⟩; have hS := HS.out.take hb; clear hb; obtain ⟨A7, c7, rfl⟩ := Row.sl (hS.res (i := 0) rfl); replace hS := ((hS.freeze (i := 0) rfl).more 0 rfl (fun V (h : (Row (.slice A7 xs.length c7) 5 1 xs.length (bs xs)).ok V) => (Row.hb h : HB V (.slice A7 xs.length c7) xs))).dropF (Gs := [fun V => HB V (.slice A7 xs.length c7) xs, fun V => GSv V (.slice Au l.length cu) l, fun V => HB V (.slice A xs.length c) xs]) (by simp); clear HS; have HS := Lib.hid hS; clear hS))
      refine (read11 _ xs num _ (HS.out.fact (i := 0) rfl) hn (by omega)).mono ?_
      rintro e W2 ⟨pr, u8, m, hp, rfl, hb, hr, hg⟩
      obtain ⟨A8, c8, rfl⟩ := own_slice hr
      have q1 := Rob.of0 (HS.out.facts (fun V => HB V (.slice A7 xs.length c7) xs) (List.mem_of_getElem? (i := 0) rfl)) hb W2.heap.size
      have q2 := Rob.of0 (HS.out.facts (fun V => HB V (.slice A xs.length c) xs) (List.mem_of_getElem? (i := 2) rfl)) hb W2.heap.size
      have hS := (((HS.out.call hb).addF q1).addF q2).addF (own_away0 hr hg)
      have hS := hS.more 0 rfl (fun V (h : V.ownsRow Wn.heap.size 37 1 (.slice A8 pr.length c8) pr.length (itCells pr) ∧ GsOwn Wn.heap.size W2.heap.size pr V) => GSv.of_read h.1 h.2)
      have HBT := Lib.hid (show w.heap.size ≤ Wn.heap.size ∧ Wn.heap.size ≤ W2.heap.size from ⟨HS.out.below.size, hb.size⟩)
      obtain ⟨B, hB⟩ : ∃ B, Wn.heap.size = B := ⟨_, rfl⟩
      rw [hB] at hS HBT
      obtain ⟨T, hT⟩ : ∃ T, W2.heap.size = T := ⟨_, rfl⟩
      rw [hT] at hS HBT
      have HT := Lib.hid hT
      have HIT := Lib.hid (read_items hp h2)
      clear HS hb hr hg q1 q2 hB hT
      have HS := Lib.hid hS
      have HP := Lib.hid hp
      clear hS hp
      go_wp2_with fail
      refine (rread16 _ xs num _ (HS.out.fact (F := fun V => HB V (.slice A xs.length c) xs) (i := 6) rfl) hn h2).mono ?_
      rintro e W3 ⟨A10, c10, gm, m2, rfl, hp2, hb, hw⟩
      have hw1 := hw
      rw [HT.out] at hw1
      have hS := ((HS.out.call hb).addF (Rob.of1 (B := B) hw1)).addF (hw.mono (K' := Keys []) (fun k ⟨r, hr, _⟩ => by cases hr))
      obtain ⟨e1, rfl⟩ := HP.out.uniq hp2
      have HBG := Lib.hid (gl_big hp2 h2)
      have HP2 := Lib.hid hp2
      have e2 : (glOf pr).map (·.2) = gm.map (·.2) := by rw [glOf_snd, e1]
      have HE := Lib.hid e2
      have HGP := Lib.hid (show (∀ x ∈ glOf pr, x.2.length ≤ 1000000) ∧ (glOf pr).length ≤ 1000000 from ⟨gl_small e2 (gl_big hp2 h2).1, by rw [gl_len e2]; exact (gl_big hp2 h2).2⟩)
      obtain ⟨dd, hdd⟩ : ∃ dd, decide (gm.map (·.2) = l.map (·.2)) = dd := ⟨_, rfl⟩
      have HD1 := Lib.hid hdd
      have HD2 := Lib.hid (show decide ((glOf pr).map (·.2) = l.map (·.2)) = dd by rw [e2]; exact hdd)
      clear HS hb hw hw1 hp2 e1 e2 hdd
      have HS := Lib.hid hS
      clear hS
      cases dd with
      | true =>
        go_wp2_with (first
          | (go_at_call 12; refine (same12_d (.slice A8 pr.length c8) (.slice A10 gm.length c10) (glOf pr) gm true _ (decide_eq_true HE.out) (HS.out.fact (F := fun V => GSv V (.slice A8 pr.length c8) (glOf pr)) (i := 2) rfl) (HS.out.fact (F := fun V => GSv V (.slice A10 gm.length c10) gm) (i := 0) rfl) HGP.out.1 HBG.out.1 HGP.out.2 HBG.out.2).mono ?_; rintro e Wn ⟨rfl, hb⟩; have hS := HS.out.call hb; clear hb; clear HS; have HS := Lib.hid hS; clear hS)
          | (go_at_call 17; refine (same17_d (.slice A8 pr.length c8) (.slice Au l.length cu) (glOf pr) l true _ HD2.out (HS.out.fact (F := fun V => GSv V (.slice A8 pr.length c8) (glOf pr)) (i := 2) rfl) (HS.out.fact (F := fun V => GSv V (.slice Au l.length cu) l) (i := 7) rfl) HGP.out.1 HLS.out HGP.out.2 HLL.out).mono ?_; rintro e Wn ⟨rfl, hb⟩; have hS := HS.out.call hb; clear hb; clear HS; have HS := Lib.hid hS; clear hS)
          | (go_at_call 12; refine (same12_d (.slice A10 gm.length c10) (.slice Au l.length cu) gm l true _ HD1.out (HS.out.fact (F := fun V => GSv V (.slice A10 gm.length c10) gm) (i := 0) rfl) (HS.out.fact (F := fun V => GSv V (.slice Au l.length cu) l) (i := 7) rfl) HBG.out.1 HLS.out HBG.out.2 HLL.out).mono ?_; rintro e Wn ⟨rfl, hb⟩; have hS := HS.out.call hb; clear hb; clear HS; have HS := Lib.hid hS; clear hS)
          | (go_at_call 17; refine (same17_d (.slice A8 pr.length c8) (.slice A10 gm.length c10) (glOf pr) gm true _ (decide_eq_true HE.out) (HS.out.fact (F := fun V => GSv V (.slice A8 pr.length c8) (glOf pr)) (i := 2) rfl) (HS.out.fact (F := fun V => GSv V (.slice A10 gm.length c10) gm) (i := 0) rfl) HGP.out.1 HBG.out.1 HGP.out.2 HBG.out.2).mono ?_; rintro e Wn ⟨rfl, hb⟩; have hS := HS.out.call hb; clear hb; clear HS; have HS := Lib.hid hS; clear hS))
        refine (spoil_any (HS.out.fact (i := 3) rfl).1 (HS.out.fact (i := 3) rfl).2 HIT.out.1 HIT.out.2).mono ?_
        rintro e W6 ⟨rfl, hc⟩
        have r1 := Rob.after (HS.out.fact (F := Rob B T (fun V => HB V (.slice A7 xs.length c7) xs)) (i := 5) rfl) hc
        have r2 := Rob.after (HS.out.fact (F := Rob B T (fun V => HB V (.slice A xs.length c) xs)) (i := 4) rfl) hc
        have r3 := Rob.after (HS.out.fact (F := Rob B T (fun V => GSv V (.slice A10 gm.length c10) gm)) (i := 1) rfl) hc
        have HB6 := Lib.hid (HS.out.below.trans (hc.below (B := w.heap.size) (fun k hk => by have := HBT.out; omega) HS.out.below.size))
        clear HS hc
        have HS := Lib.hid ((((St.start W6).addF r2.away0).addF r1.away0).addF r3.away0)
        clear r1 r2 r3
        go_wp2_with (first
          | (go_at_call 11; refine (read11_any _ xs num _ (HS.out.fact (F := fun V => HB V (.slice A7 xs.length c7) xs) (i := 1) rfl) hn (by omega)).mono ?_; rintro e Wn ⟨A12, c12, g3, m3, rfl, hp3, hb, hw⟩; have hS := HS.out.tell hb hw; have HE3 := Lib.hid (HP2.out.uniq hp3).1; clear hb hw hp3; clear HS; have HS := Lib.hid hS; clear hS)
          | (refine atd 69 (by rfl) ?_; refine wl (by rfl) (wp_of_run (run_str (by rfl) (by rfl) (HS.out.fact (F := fun V => HB V (.slice A7 xs.length c7) xs) (i := 2) rfl)) ?_))
          | (refine atd 71 (by rfl) ?_; refine wl (by rfl) (wp_of_run (run_str (by rfl) (by rfl) (HS.out.fact (F := fun V => HB V (.slice A xs.length c) xs) (i := 3) rfl)) ?_))
          | (go_at_call 12; refine (same12_d (.slice A12 g3.length c12) (.slice A10 gm.length c10) g3 gm true _ (decide_eq_true HE3.out.symm) (HS.out.fact (F := fun V => GSv V (.slice A12 g3.length c12) g3) (i := 0) rfl) (HS.out.fact (F := fun V => GSv V (.slice A10 gm.length c10) gm) (i := 1) rfl) (gl_small HE3.out.symm HBG.out.1) HBG.out.1 (by rw [gl_len HE3.out.symm]; exact HBG.out.2) HBG.out.2).mono ?_; rintro e Wn ⟨rfl, hb⟩; have hS := HS.out.call hb; clear hb; clear HS; have HS := Lib.hid hS; clear hS))
        go_ret
        exact ⟨rfl, HB6.out.trans (HS.out.below.mono HB6.out.size)⟩
      | false =>
        go_wp2_with (first
          | (go_at_call 12; refine (same12_d (.slice A8 pr.length c8) (.slice A10 gm.length c10) (glOf pr) gm true _ (decide_eq_true HE.out) (HS.out.fact (F := fun V => GSv V (.slice A8 pr.length c8) (glOf pr)) (i := 2) rfl) (HS.out.fact (F := fun V => GSv V (.slice A10 gm.length c10) gm) (i := 0) rfl) HGP.out.1 HBG.out.1 HGP.out.2 HBG.out.2).mono ?_; rintro e Wn ⟨rfl, hb⟩; have hS := HS.out.call hb; clear hb; clear HS; have HS := Lib.hid hS; clear hS)
          | (go_at_call 17; refine (same17_d (.slice A8 pr.length c8) (.slice Au l.length cu) (glOf pr) l false _ HD2.out (HS.out.fact (F := fun V => GSv V (.slice A8 pr.length c8) (glOf pr)) (i := 2) rfl) (HS.out.fact (F := fun V => GSv V (.slice Au l.length cu) l) (i := 7) rfl) HGP.out.1 HLS.out HGP.out.2 HLL.out).mono ?_; rintro e Wn ⟨rfl, hb⟩; have hS := HS.out.call hb; clear hb; clear HS; have HS := Lib.hid hS; clear hS)
          | (go_at_call 12; refine (same12_d (.slice A10 gm.length c10) (.slice Au l.length cu) gm l false _ HD1.out (HS.out.fact (F := fun V => GSv V (.slice A10 gm.length c10) gm) (i := 0) rfl) (HS.out.fact (F := fun V => GSv V (.slice Au l.length cu) l) (i := 7) rfl) HBG.out.1 HLS.out HBG.out.2 HLL.out).mono ?_; rintro e Wn ⟨rfl, hb⟩; have hS := HS.out.call hb; clear hb; clear HS; have HS := Lib.hid hS; clear hS)
          | (go_at_call 17; refine (same17_d (.slice A8 pr.length c8) (.slice A10 gm.length c10) (glOf pr) gm true _ (decide_eq_true HE.out) (HS.out.fact (F := fun V => GSv V (.slice A8 pr.length c8) (glOf pr)) (i := 2) rfl) (HS.out.fact (F := fun V => GSv V (.slice A10 gm.length c10) gm) (i := 0) rfl) HGP.out.1 HBG.out.1 HGP.out.2 HBG.out.2).mono ?_; rintro e Wn ⟨rfl, hb⟩; have hS := HS.out.call hb; clear hb; clear HS; have HS := Lib.hid hS; clear hS))
        refine (spoil_any (HS.out.fact (i := 3) rfl).1 (HS.out.fact (i := 3) rfl).2 HIT.out.1 HIT.out.2).mono ?_
        rintro e W6 ⟨rfl, hc⟩
        have r1 := Rob.after (HS.out.fact (F := Rob B T (fun V => HB V (.slice A7 xs.length c7) xs)) (i := 5) rfl) hc
        have r2 := Rob.after (HS.out.fact (F := Rob B T (fun V => HB V (.slice A xs.length c) xs)) (i := 4) rfl) hc
        have r3 := Rob.after (HS.out.fact (F := Rob B T (fun V => GSv V (.slice A10 gm.length c10) gm)) (i := 1) rfl) hc
        have HB6 := Lib.hid (HS.out.below.trans (hc.below (B := w.heap.size) (fun k hk => by have := HBT.out; omega) HS.out.below.size))
        clear HS hc
        have HS := Lib.hid ((((St.start W6).addF r2.away0).addF r1.away0).addF r3.away0)
        clear r1 r2 r3
        go_wp2_with (first
          | (go_at_call 11; refine (read11_any _ xs num _ (HS.out.fact (F := fun V => HB V (.slice A7 xs.length c7) xs) (i := 1) rfl) hn (by omega)).mono ?_; rintro e Wn ⟨A12, c12, g3, m3, rfl, hp3, hb, hw⟩; have hS := HS.out.tell hb hw; have HE3 := Lib.hid (HP2.out.uniq hp3).1; clear hb hw hp3; clear HS; have HS := Lib.hid hS; clear hS)
          | (refine atd 69 (by rfl) ?_; refine wl (by rfl) (wp_of_run (run_str (by rfl) (by rfl) (HS.out.fact (F := fun V => HB V (.slice A7 xs.length c7) xs) (i := 2) rfl)) ?_))
          | (refine atd 71 (by rfl) ?_; refine wl (by rfl) (wp_of_run (run_str (by rfl) (by rfl) (HS.out.fact (F := fun V => HB V (.slice A xs.length c) xs) (i := 3) rfl)) ?_))
          | (go_at_call 12; refine (same12_d (.slice A12 g3.length c12) (.slice A10 gm.length c10) g3 gm true _ (decide_eq_true HE3.out.symm) (HS.out.fact (F := fun V => GSv V (.slice A12 g3.length c12) g3) (i := 0) rfl) (HS.out.fact (F := fun V => GSv V (.slice A10 gm.length c10) gm) (i := 1) rfl) (gl_small HE3.out.symm HBG.out.1) HBG.out.1 (by rw [gl_len HE3.out.symm]; exact HBG.out.2) HBG.out.2).mono ?_; rintro e Wn ⟨rfl, hb⟩; have hS := HS.out.call hb; clear hb; clear HS; have HS := Lib.hid hS; clear hS))
        go_ret
        exact ⟨rfl, HB6.out.trans (HS.out.below.mono HB6.out.size)⟩
  · have j1 : (20000 : Int) < (xs.length : Int) := by omega
    go_enter Try.func7, Try.ntmps7
    go_wp2_with fail
    go_ret
    exact ⟨rfl, HS.out.below⟩
end
end Go.Proofs.Ytakeggdpnfibpaa
