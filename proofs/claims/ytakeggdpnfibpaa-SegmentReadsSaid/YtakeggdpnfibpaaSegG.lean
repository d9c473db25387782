/- Contracts and words that the laws stand on (SegG). -/
import Derived.Test.YtakeggdpnfibpaaSegF
import Derived.Test.YtakeggdpnfibpaaRecG
import Derived.Test.YtakeggdpnfibpaaRecH
set_option linter.unusedVariables false
set_option linter.unusedSimpArgs false
namespace Go.Proofs.Ytakeggdpnfibpaa
section
open Go Go.RowKit Go.Proofs
attribute [local irreducible] Calls

theorem sndfact {w W : World} {L : List Res} {Gs : List (World → Prop)} {zs : List (Int × Value × List UInt8)} {k : Int} {p : List UInt8} {A : Option Addr} {c B : Nat} (hS : St w W L ((Row (.slice A p.length c) 5 1 p.length (bs p)).ok :: (fun V => ∀ z ∈ zs, V.ownsRow B 5 1 z.2.1 z.2.2.length (bs z.2.2)) :: Gs)) (hg : ∀ r, (Value.slice A p.length c).ownBlock = some r → B ≤ r) : St w W L ((fun V => ∀ z ∈ zs ++ [(k, .slice A p.length c, p)], V.ownsRow B 5 1 z.2.1 z.2.2.length (bs z.2.2)) :: Gs) := by
  have hn : Away (Keys L) (fun V => ∀ z ∈ zs ++ [(k, .slice A p.length c, p)], V.ownsRow B 5 1 z.2.1 z.2.2.length (bs z.2.2)) W := by
    intro V hs z hz
    rcases List.mem_append.1 hz with hz | hz
    · exact hS.facts (fun V => ∀ z ∈ zs, V.ownsRow B 5 1 z.2.1 z.2.2.length (bs z.2.2)) (by simp) V hs z hz
    · simp at hz
      subst hz
      exact own_base (hS.facts _ (List.mem_cons_self ..) V hs) hg
  refine (hS.addF hn).dropF fun G hG => ?_
  simp only [List.mem_cons] at hG ⊢
  rcases hG with h | h
  · exact .inl h
  · exact .inr (.inr (.inr h))
theorem rs_away {w W : World} {L : List Res} {Gs : List (World → Prop)} {zs : List (Int × Value × List UInt8)} {A : Option Addr} {c i : Nat} (hS : St w W L ((fun V => ∀ z ∈ zs, V.ownsRow w.heap.size 5 1 z.2.1 z.2.2.length (bs z.2.2)) :: Gs)) (hi : L[i]? = some (Row (.slice A zs.length c) 48 2 zs.length (gcells zs))) : Away (fun k => k < w.heap.size) (fun V => RS V (.slice A (zs.map gkp).length c) (zs.map gkp)) W := by
  intro V hs
  have hz := hS.fact (F := fun V => ∀ z ∈ zs, V.ownsRow w.heap.size 5 1 z.2.1 z.2.2.length (bs z.2.2)) (i := 0) rfl
  have ho := hS.own_row hi
  have h1 := Away.row ho (K := fun k => k < w.heap.size) (fun k hk h => by have := (ho.lt k hk).1; omega) V hs
  have h2 : GPays zs V := fun z hm => HB.of_own (Away.row (hz z hm) (K := fun k => k < w.heap.size) (fun k hk h => by have := ((hz z hm).lt k hk).1; omega) V hs)
  rw [List.length_map]
  exact RS.of_g h1 h2
def GrpPost (xs : List UInt8) (at0 : Int) (num : Nat) (w : World) (e : Ending) (w' : World) : Prop :=
  Below w.heap.size w w' ∧ ((∃ (A : Option Addr) (c : Nat) (g : Grp) (q : Nat), e = .returned (.tuple #[.slice A g.length c, .int .i64 (q : Int)]) ∧ segOk num g = true ∧ Itm xs at0 (segL num g) q ∧ Away (fun k => k < w.heap.size) (fun V => RS V (.slice A g.length c) g) w') ∨ (e = .returned (.tuple #[.slice none 0 0, .int .i64 (-1)]) ∧ ∀ g r, segOk num g = true → xs.drop at0.toNat ≠ encL (segL num g) ++ r))
theorem map_len {zs : List (Int × Value × List UInt8)} : (zs.map gkp).length = zs.length := List.length_map ..
set_option maxHeartbeats 4000000 in
set_option maxRecDepth 100000 in
theorem rgroup28 (v : Value) (xs : List UInt8) (a0 num : Nat) (w : World) (hv : HB w v xs) (hl : xs.length ≤ 20000) (ha : a0 ≤ xs.length) (hn : num < 18446744073709551616) :
    Calls Try.prog 28 #[v, .int .i64 (a0 : Int), .int .u64 (num : Int)] w (GrpPost xs a0 num w) := by
  obtain ⟨Av, cv, rfl, hlc⟩ := hv.shape
  have HS := Lib.hid ((((St.start w).addF hv.away0).new (Below.refl _ _) (r := Row (.slice none 0 0) 48 2 0 (gcells [])) (World.ownsRow_nil _ _ _ _) (fun k hk => by simp [Row, Value.ownBlock] at hk)).addF (F := fun V => ∀ z ∈ ([] : List (Int × Value × List UInt8)), V.ownsRow w.heap.size 5 1 z.2.1 z.2.2.length (bs z.2.2)) (fun _ _ z hz => by cases hz))
  clear hv
  go_enter Try.func28, Try.ntmps28
  go_wp2_with fail
  go_loopw [1, 8, 10] (fun s1 s8 s10 wr => ∃ (zs : List (Int × Value × List UInt8)) (q : Int) (A : Option Addr) (c : Nat), Recs xs a0 (zs.map gkp) q ∧ no255 (zs.map gkp) = true ∧ s1 = .int .i64 q ∧ s8 = .slice A zs.length c ∧ s10 = .int .i64 (zs.length : Int) ∧ St w wr [Row (.slice A zs.length c) 48 2 zs.length (gcells zs)] ((fun V => ∀ z ∈ zs, V.ownsRow w.heap.size 5 1 z.2.1 z.2.2.length (bs z.2.2)) :: [fun V => HB V (.slice Av xs.length cv) xs])) (fun _ _ s10 _ => xs.length + 1 - (intOf s10).toNat)
  case atStart => exact ⟨[], a0, none, 0, Recs.nil (by omega) (by omega), rfl, rfl, rfl, rfl, HS.out⟩
  case round =>
    obtain ⟨zs, q, A, c, hrec, h255, rfl, rfl, rfl, hs⟩ := hrel
    clear HS
    have hmany := hrec.many
    rw [map_len] at hmany
    have j1 : (zs.length : Int) ≤ (xs.length : Int) := by omega
    have hz2 : zs.length ≤ 20000 := by omega
    have HS := Lib.hid hs
    have HREC := Lib.hid hrec; have H255 := Lib.hid h255; have HMANY := Lib.hid hmany
    clear hs hrec h255 hmany
    cases hd : decR xs q with
    | none =>
      have HD := Lib.hid (show ∀ V, HB V (.slice Av xs.length cv) xs → Calls Try.prog 39 #[.slice Av xs.length cv, .int .i64 q] V fun e w' => e = .returned (.tuple #[.agg #[.int .i64 0, .slice none 0 0], .int .i64 0, .int .i64 160]) ∧ Below V.heap.size V w' from fun V hV => by
        refine (dec13_any _ xs q V hV (by omega)).mono fun e w' hp => ?_
        unfold DecPost at hp
        rw [hd] at hp
        exact hp)
      have HNO := Lib.hid (show ∀ g r, segOk num g = true → xs.drop ((a0 : Nat) : Int).toNat ≠ encL (segL num g) ++ r from fun g r hg => (HREC.out.stop H255.out hd).no hg)
      clear hd
      go_wp2_with (first
        | (go_at_call 39; refine (HD.out _ (HS.out.fact (F := fun V => HB V (.slice Av xs.length cv) xs) (i := 1) rfl)).mono ?_; rintro e Wn ⟨rfl, hb⟩; have hS := HS.out.call hb; clear hb; clear HS; have HS := Lib.hid hS; clear hS)
        | (refine atd 11 (by rfl) ?_; refine wl (by rfl) (s_al HS.out (by rfl) z25 (by rfl) ?_); intro b11 Wn hS; clear HS; have HS := Lib.hid hS; clear hS)
        | (refine sto 11 (by rfl) ?_; refine wl (by rfl) (s_sta (cs := [.int .i64 0, .slice none 0 0]) HS.out 0 2 (by rfl) (by rfl) (by rfl) ag25 (by rfl) (by rfl) (by intro v hv; simp at hv; rcases hv with rfl | rfl <;> rfl) (by decide) ?_); intro Wn hS; clear HS; have HS := Lib.hid hS; clear hS))
      go_ret2
      exact ⟨HS.out.below, .inr ⟨rfl, HNO.out⟩⟩
    | some kp =>
      obtain ⟨k, p⟩ := kp
      have HD := Lib.hid (show ∀ V, HB V (.slice Av xs.length cv) xs → Calls Try.prog 39 #[.slice Av xs.length cv, .int .i64 q] V fun e w' => ∃ v', e = .returned (.tuple #[.agg #[.int .i64 (k.toNat : Int), v'], .int .i64 (q + 13 + (p.length : Int)), .int .i64 0]) ∧ New V w' (Row v' 5 1 p.length (bs p)) from fun V hV => by
        refine (dec13_any _ xs q V hV (by omega)).mono fun e w' hp => ?_
        unfold DecPost at hp
        rw [hd] at hp
        exact hp)
      have HSN := Lib.hid (HREC.out.snoc hd)
      have HDR := Lib.hid hd
      clear hd
      cases hk : ((k.toNat : Int) == 255) with
      | false =>
        have HK := Lib.hid hk
        have hk5 : ¬ (k.toNat : Int) = 255 := fun e => by rw [e] at hk; simp at hk
        go_wp2_with (first
          | (go_at_call 39; refine (HD.out _ (HS.out.fact (F := fun V => HB V (.slice Av xs.length cv) xs) (i := 1) rfl)).mono ?_; rintro e Wn ⟨v1, rfl, hb⟩; have HPG := Lib.hid (show ∀ q, v1.ownBlock = some q → w.heap.size ≤ q from fun q hq => Nat.le_trans HS.out.below.size (hb.2.2 q (by simp [Row, hq])).1); have hS := HS.out.take hb; clear hb; obtain ⟨Ap, cp, rfl⟩ := Row.sl (hS.res (i := 0) rfl); replace hS := sndfact (k := (k.toNat : Int)) (hS.freeze (i := 0) rfl) HPG.out; clear HS; have HS := Lib.hid hS; clear hS)
          | (refine atd 11 (by rfl) ?_; refine wl (by rfl) (s_al HS.out (by rfl) z25 (by rfl) ?_); intro b11 Wn hS; clear HS; have HS := Lib.hid hS; clear hS)
          | (refine sto 11 (by rfl) ?_; refine wl (by rfl) (s_sta (cs := [.int .i64 (k.toNat : Int), .slice Ap p.length cp]) HS.out 0 2 (by rfl) (by rfl) (by rfl) ag25 (by rfl) (by rfl) (by intro v hv; simp at hv; rcases hv with rfl | rfl <;> rfl) (by decide) ?_); intro Wn hS; clear HS; have HS := Lib.hid hS; clear hS)
          | (refine atd 34 (by rfl) ?_; refine wl (by rfl) (s_ld HS.out 0 (by rfl) (by rfl) (by rfl) (by kernel_rfl) (by rfl) ?_))
          | (refine atd 57 (by rfl) ?_; refine wl (by rfl) (s_lda (cs := [.int .i64 (k.toNat : Int), .slice Ap p.length cp]) HS.out 0 2 (by rfl) (by rfl) (by rfl) ag25 (by rfl) (by rfl) ?_))
          | (refine atd 58 (by rfl) ?_; refine wl (by rfl) (s_bs (E := 48) (z := .agg #[.int .i64 0, .slice none 0 0]) HS.out 1 2 [.int .i64 (k.toNat : Int), .slice Ap p.length cp] (by rfl) Try.underlying37 (by kernel_rfl) (by rfl) (by decide) (by decide) (by kernel_rfl) (by rfl) (by decide) ?_); intro b58 Wn hS; clear HS; have HS := Lib.hid hS; clear hS)
          | (refine atd 59 (by rfl) ?_; refine wl (by rfl) (s_rows (size := 2) (bytes := 32) (z := .agg #[.int .i64 0, .slice none 0 0]) HS.out 2 0 (by rfl) Try.underlying37 (by kernel_rfl) (by rfl) (by decide) (by rfl) (by rfl) (by rfl) (by rfl) (by intro v hv; simp at hv; rcases hv with rfl | rfl <;> rfl) (by omega) (by omega) ?_); intro v59 Wn hS; obtain ⟨A59, c59, rfl⟩ := Row.sl (hS.res (i := 2) rfl); clear HS; have HS := Lib.hid hS; clear hS))
        have hS := ((HS.out.sub 0).sub 0)
        simp only [List.eraseIdx, ← gcells_snoc zs ((k.toNat : Int), .slice Ap p.length cp, p)] at hS
        refine ⟨⟨zs ++ [((k.toNat : Int), .slice Ap p.length cp, p)], _, A59, c59, by rw [List.map_append]; exact HSN.out, by rw [List.map_append]; exact no255_snoc H255.out HK.out, rfl, by rw [List.length_append]; rfl, by rw [List.length_append]; push_cast; rfl, by rw [List.length_append]; exact hS⟩, by simp [intOf]; omega⟩
      | true =>
        have hk5 : (k.toNat : Int) = 255 := eq_of_beq hk
        have hit := Itm.of HREC.out H255.out HDR.out hk
        have HIT := Lib.hid hit
        have hin := hit.in
        obtain ⟨Q, hQ⟩ : ∃ Q : Nat, q + 13 + (p.length : Int) = (Q : Int) := ⟨(q + 13 + (p.length : Int)).toNat, by omega⟩
        have HAQ := Lib.hid (show a0 ≤ Q ∧ Q ≤ xs.length by omega)
        have HQ := Lib.hid hQ
        have hcut := hit.cut
        rw [hQ, Int.toNat_natCast, Int.toNat_natCast, List.drop_take] at hcut
        have HCUT := Lib.hid hcut
        have hdl : (zs.map gkp ++ [((k.toNat : Int), p)]).dropLast = zs.map gkp := by simp
        rw [hk5] at HD
        simp only [hQ] at HD
        clear hit hin hcut hk
        cases hok : segOk num (zs.map gkp) with
        | false =>
          have HSE := Lib.hid (show segE num (zs.map gkp) = 170 by unfold segE; rw [hok]; rfl)
          have HNO := Lib.hid (show ∀ g r, segOk num g = true → xs.drop ((a0 : Nat) : Int).toNat ≠ encL (segL num g) ++ r from HIT.out.no (.inl (by rw [hdl]; exact hok)))
          clear hok hdl
          go_wp2_with (first
            | (go_at_call 39; refine (HD.out _ (HS.out.fact (F := fun V => HB V (.slice Av xs.length cv) xs) (i := 1) rfl)).mono ?_; rintro e Wn ⟨v1, rfl, hb⟩; have HPG := Lib.hid (show ∀ q, v1.ownBlock = some q → w.heap.size ≤ q from fun q hq => Nat.le_trans HS.out.below.size (hb.2.2 q (by simp [Row, hq])).1); have hS := HS.out.take hb; clear hb; obtain ⟨Ap, cp, rfl⟩ := Row.sl (hS.res (i := 0) rfl); replace hS := sndfact (k := 255) (hS.freeze (i := 0) rfl) HPG.out; clear HS; have HS := Lib.hid hS; clear hS)
            | (refine atd 11 (by rfl) ?_; refine wl (by rfl) (s_al HS.out (by rfl) z25 (by rfl) ?_); intro b11 Wn hS; clear HS; have HS := Lib.hid hS; clear hS)
            | (refine sto 11 (by rfl) ?_; refine wl (by rfl) (s_sta (cs := [.int .i64 255, .slice Ap p.length cp]) HS.out 0 2 (by rfl) (by rfl) (by rfl) ag25 (by rfl) (by rfl) (by intro v hv; simp at hv; rcases hv with rfl | rfl <;> rfl) (by decide) ?_); intro Wn hS; clear HS; have HS := Lib.hid hS; clear hS)
            | (refine atd 34 (by rfl) ?_; refine wl (by rfl) (s_ld HS.out 0 (by rfl) (by rfl) (by rfl) (by kernel_rfl) (by rfl) ?_))
            | (go_at_call 40; go_loud (refine (renc40 num _ (zs.map gkp) _ hn (RS.of_g (HS.out.res (i := 1) rfl) (fun z hz => HB.of_own ((HS.out.fact (i := 0) rfl) z (List.mem_append_left _ hz)))) (by rw [map_len]; omega) (by have h1 := HREC.out.2.2.2.1; have h2 := HREC.out.2.1; omega)).mono ?_); rintro e Wn ⟨v40, rfl, hb⟩; rw [HSE.out]; have hS := HS.out.take hb; clear hb; obtain ⟨A40, c40, rfl⟩ := Row.sl (hS.res (i := 0) rfl); clear HS; have HS := Lib.hid hS; clear hS))
          have H40 := Lib.hid (Row.hb (HS.out.res (i := 0) rfl))
          refine wp_region_pi [(0, true), (1, true), (2, true), (3, true), (4, true), (5, true), (6, true), (7, true), (8, true), (9, true), (10, true), (11, true)] (by kernel_rfl) (by kernel_rfl) rfl (by kernel_rfl) (fun _ _ _ _ _ h => h) (fun V => V = Wn.drew) rfl ?_
          intro OPS hops
          iterate 12
            first | (refine wpPi_yield _ (by rw [hops.out]; simp only [List.getElem?_toArray, List.getElem?_cons_succ, List.getElem?_cons_zero]; rfl) (by first | rfl | (rw [hops.out]; rfl)) (fun w' hS => by subst hS; first | exact run_str (by rfl) (by rfl) H40.out | exact run_str (by rfl) (by rfl) HCU.out | exact run_sllh a0 Q (by rfl) (by rfl) (by rfl) (by rfl) HAQ.out.1 HAQ.out.2 hlc | (go_simp; rfl)) ?_; simp only [Act.put, List.setIfInBounds_toArray, List.set_cons_succ, List.set_cons_zero]) | (refine wpPi_skip (by rw [hops.out]; simp only [List.getElem?_toArray, List.getElem?_cons_succ, List.getElem?_cons_zero]; rfl) (by first | rfl | (rw [hops.out]; rfl)) ?_; simp only [Act.put, List.setIfInBounds_toArray, List.set_cons_succ, List.set_cons_zero])
          simp only [wpPi]
          clear OPS hops
          go_wp2_with fail
          go_ret2
          exact ⟨HS.out.below.drew, .inr ⟨rfl, HNO.out⟩⟩
        | true =>
          have HSE := Lib.hid (show segE num (zs.map gkp) = 0 by unfold segE; rw [hok]; rfl)
          have HSO := Lib.hid (show segO num (zs.map gkp) = encL (segL num (zs.map gkp)) by unfold segO; rw [hok]; rfl)
          have HOK := Lib.hid hok
          have HDL := Lib.hid hdl
          clear hok hdl
          obtain ⟨X, hX⟩ : ∃ X, encL (segL num (zs.map gkp)) = X := ⟨_, rfl⟩
          obtain ⟨Y, hY⟩ : ∃ Y, (xs.drop a0).take (Q - a0) = Y := ⟨_, rfl⟩
          have HX := Lib.hid hX; have HY := Lib.hid hY
          clear hX hY
          go_wp2_with (first
            | (go_at_call 39; refine (HD.out _ (HS.out.fact (F := fun V => HB V (.slice Av xs.length cv) xs) (i := 1) rfl)).mono ?_; rintro e Wn ⟨v1, rfl, hb⟩; have HPG := Lib.hid (show ∀ q, v1.ownBlock = some q → w.heap.size ≤ q from fun q hq => Nat.le_trans HS.out.below.size (hb.2.2 q (by simp [Row, hq])).1); have hS := HS.out.take hb; clear hb; obtain ⟨Ap, cp, rfl⟩ := Row.sl (hS.res (i := 0) rfl); replace hS := sndfact (k := 255) (hS.freeze (i := 0) rfl) HPG.out; clear HS; have HS := Lib.hid hS; clear hS)
            | (refine atd 11 (by rfl) ?_; refine wl (by rfl) (s_al HS.out (by rfl) z25 (by rfl) ?_); intro b11 Wn hS; clear HS; have HS := Lib.hid hS; clear hS)
            | (refine sto 11 (by rfl) ?_; refine wl (by rfl) (s_sta (cs := [.int .i64 255, .slice Ap p.length cp]) HS.out 0 2 (by rfl) (by rfl) (by rfl) ag25 (by rfl) (by rfl) (by intro v hv; simp at hv; rcases hv with rfl | rfl <;> rfl) (by decide) ?_); intro Wn hS; clear HS; have HS := Lib.hid hS; clear hS)
            | (refine atd 34 (by rfl) ?_; refine wl (by rfl) (s_ld HS.out 0 (by rfl) (by rfl) (by rfl) (by kernel_rfl) (by rfl) ?_))
            | (go_at_call 40; go_loud (refine (renc40 num _ (zs.map gkp) _ hn (RS.of_g (HS.out.res (i := 1) rfl) (fun z hz => HB.of_own ((HS.out.fact (i := 0) rfl) z (List.mem_append_left _ hz)))) (by rw [map_len]; omega) (by have h1 := HREC.out.2.2.2.1; have h2 := HREC.out.2.1; omega)).mono ?_); rintro e Wn ⟨v40, rfl, hb⟩; rw [HSE.out]; rw [HSO.out, HX.out] at hb; have hS := HS.out.take hb; clear hb; obtain ⟨A40, c40, rfl⟩ := Row.sl (hS.res (i := 0) rfl); clear HS; have HS := Lib.hid hS; clear hS))
          have H40 := Lib.hid (Row.hb (HS.out.res (i := 0) rfl))
          have hcu := (HS.out.fact (i := 1) rfl : HB _ (.slice Av xs.length cv) xs).cut HAQ.out.1 HAQ.out.2
          rw [HY.out] at hcu
          have HCU := Lib.hid hcu
          clear hcu
          refine wp_region_pi [(0, true), (1, true), (2, true), (3, true), (4, true), (5, true), (6, true), (7, true), (8, true), (9, true), (10, true), (11, true)] (by kernel_rfl) (by kernel_rfl) rfl (by kernel_rfl) (fun _ _ _ _ _ h => h) (fun V => V = Wn.drew) rfl ?_
          intro OPS hops
          iterate 12
            first | (refine wpPi_yield _ (by rw [hops.out]; simp only [List.getElem?_toArray, List.getElem?_cons_succ, List.getElem?_cons_zero]; rfl) (by first | rfl | (rw [hops.out]; rfl)) (fun w' hS => by subst hS; first | exact run_str (by rfl) (by rfl) H40.out | exact run_str (by rfl) (by rfl) HCU.out | exact run_sllh a0 Q (by rfl) (by rfl) (by rfl) (by rfl) HAQ.out.1 HAQ.out.2 hlc | (go_simp; rfl)) ?_; simp only [Act.put, List.setIfInBounds_toArray, List.set_cons_succ, List.set_cons_zero]) | (refine wpPi_skip (by rw [hops.out]; simp only [List.getElem?_toArray, List.getElem?_cons_succ, List.getElem?_cons_zero]; rfl) (by first | rfl | (rw [hops.out]; rfl)) ?_; simp only [Act.put, List.setIfInBounds_toArray, List.set_cons_succ, List.set_cons_zero])
          simp only [wpPi]
          clear OPS hops
          by_cases hxy : X = Y
          · have hc : (X == Y) = true := beq_iff_eq.2 hxy
            rw [hc]
            have hitm : Itm xs a0 (segL num (zs.map gkp)) Q := by
              have h1 := HIT.out
              rw [HQ.out] at h1
              have h2 := h1
              obtain ⟨_, _, _, _, _, hr⟩ := h1
              have h3 := hr.2.2.2.2
              have h4 := h2.grp (r := xs.drop Q) HOK.out (by
                rw [h3]
                congr 1
                rw [HX.out, hxy, ← HY.out, HCUT.out])
              rw [h4] at h2
              exact h2
            have HITM := Lib.hid hitm
            clear hitm
            go_wp2_with fail
            go_ret2
            have h5 := (HS.out.sub 0).more 0 rfl (fun V (h : ∀ z ∈ zs ++ [((255 : Int), Value.slice Ap p.length cp, p)], V.ownsRow w.heap.size 5 1 z.2.1 z.2.2.length (bs z.2.2)) => fun z hz => h z (List.mem_append_left _ hz))
            have h6 := rs_away h5 (i := 1) (A := A) (c := c) rfl
            exact ⟨HS.out.below.drew, .inl ⟨A, c, zs.map gkp, Q, by rw [map_len]; rfl, HOK.out, HITM.out, fun V hs => h6 V ⟨hs.size, hs.blk⟩⟩⟩
          · have hc : (X == Y) = false := beq_eq_false_iff_ne.2 hxy
            rw [hc]
            have HNO := Lib.hid (show ∀ g r, segOk num g = true → xs.drop ((a0 : Nat) : Int).toNat ≠ encL (segL num g) ++ r from HIT.out.no (.inr (by rw [HDL.out, HX.out, ← HCUT.out, HY.out]; exact hxy)))
            go_wp2_with fail
            go_ret2
            exact ⟨HS.out.below.drew, .inr ⟨rfl, HNO.out⟩⟩
end
section
open Go Go.RowKit Go.Proofs
attribute [local irreducible] Calls

theorem Same.trans' {K K' : Nat → Prop} {A B C : World} (h : Same K A B) (h' : Same K' B C) : Same (fun k => K k ∨ K' k) A C :=
  ⟨Nat.le_trans h.size h'.size, fun k o hn ho hc => h'.blk k o (fun hk => hn (.inr hk)) (h.blk k o (fun hk => hn (.inl hk)) ho hc) hc⟩
/-- Each group's records, in each world that has the blocks from place B on. -/
def GsAw (B : Nat) (zs : List (Value × Grp)) (V : World) : Prop := ∀ x ∈ zs, Away (fun k => k < B) (fun V' => RS V' x.1 x.2) V
theorem GsAw.snoc {w W W' : World} {L : List Res} {Fs : List (World → Prop)} {zs : List (Value × Grp)} {x : Value × Grp} (hS : St w W L (GsAw w.heap.size zs :: Fs)) (hb : Below W.heap.size W W') (hx : Away (fun k => k < W.heap.size) (fun V => RS V x.1 x.2) W') : St w W' L (GsAw w.heap.size (zs ++ [x]) :: Fs) := by
  have h1 := hS.call hb
  have hn : Away (Keys L) (GsAw w.heap.size (zs ++ [x])) W' := by
    intro V hs y hy
    rcases List.mem_append.1 hy with hy | hy
    · exact h1.facts _ (List.mem_cons_self ..) V hs y hy
    · simp at hy
      subst hy
      intro V' hs'
      refine hx V' ?_
      have h2 := hs.trans' hs'
      refine ⟨h2.size, fun k o hn ho hc => h2.blk k o (fun h => hn ?_) ho hc⟩
      rcases h with h | h
      · exact (hS.key_lt h).2
      · exact Nat.lt_of_lt_of_le h hS.below.size
  exact (h1.addF hn).dropF fun G hG => by
    rcases List.mem_cons.1 hG with h | h
    · exact List.mem_cons.2 (.inl h)
    · exact List.mem_cons_of_mem _ (List.mem_cons_of_mem _ h)
theorem RdTo.done' {xs : List UInt8} {num : Nat} {gs : List Grp} {e : Nat} (h : RdTo xs num gs (e : Int)) (hn : num + gs.length < 18446744073709551616 → ∀ g q, segOk (num + gs.length) g = true → xs.drop e ≠ encL (segL (num + gs.length) g) ++ q) : ReadP xs num gs e := by
  obtain ⟨m, e1, h1⟩ := h.done hn
  have : e = m := by omega
  subst this
  exact h1
set_option maxHeartbeats 4000000 in
set_option maxRecDepth 100000 in
theorem rread16 (v : Value) (xs : List UInt8) (num : Nat) (w : World) (hv : HB w v xs) (hn : num < 18446744073709551616) (hl : xs.length ≤ 20000) :
    Calls Try.prog 16 #[v, .int .u64 (num : Int)] w fun e w' => ∃ A c gl m, e = .returned (.tuple #[.slice A gl.length c, .int .i64 ((m : Nat) : Int)]) ∧ ReadP xs num (gl.map (·.2)) m ∧ Below w.heap.size w w' ∧ Away (fun k => k < w.heap.size) (fun V => GSv V (.slice A gl.length c) gl) w' := by
  obtain ⟨Av, cv, rfl, hlc⟩ := hv.shape
  have HS := Lib.hid ((((St.start w).addF hv.away0).new (Below.refl _ _) (r := Row (.slice none 0 0) 37 1 0 []) (World.ownsRow_nil _ _ _ _) (fun k hk => by simp [Row, Value.ownBlock] at hk)).addF (F := GsAw w.heap.size []) (fun _ _ z hz => by cases hz))
  clear hv
  go_enter Try.func16, Try.ntmps16
  go_wp2_with fail
  go_loopw [1, 6, 7, 8] (fun s1 s6 s7 s8 wr => ∃ (zs : List (Value × Grp)) (q : Nat) (A : Option Addr) (c : Nat) (n1 : Int), RdTo xs num (zs.map (·.2)) (q : Int) ∧ ((n1 = (num : Int) + (zs.length : Int) ∧ num + zs.length < 18446744073709551616) ∨ (n1 = 0 ∧ num + zs.length = 18446744073709551616)) ∧ s1 = .int .u64 n1 ∧ s6 = .slice A zs.length c ∧ s7 = .int .i64 (q : Int) ∧ s8 = .int .i64 (zs.length : Int) ∧ St w wr [Row (.slice A zs.length c) 37 1 zs.length (zs.map (·.1))] [GsAw w.heap.size zs, fun V => HB V (.slice Av xs.length cv) xs]) (fun _ _ _ s8 _ => xs.length + 1 - (intOf s8).toNat)
  case atStart => exact ⟨[], 0, none, 0, num, RdTo.nil (by omega), .inl ⟨by simp, by simpa using hn⟩, rfl, rfl, rfl, rfl, HS.out⟩
  case round =>
    obtain ⟨zs, q, A, c, n1, hrd, hn1, rfl, rfl, rfl, rfl, hs⟩ := hrel
    clear HS
    have hsl := congrArg List.length hrd.split
    have hle := hrd.len
    have hge := @encG_ge num (zs.map (·.2))
    rw [List.length_append] at hsl
    rw [List.length_map] at hge
    have hqx : q ≤ xs.length := by omega
    have hzx : zs.length ≤ 20000 := by omega
    have j1 : (zs.length : Int) ≤ (xs.length : Int) := by omega
    clear hsl hle hge
    have GSA := Lib.hid (show ∀ V, St w V [Row (.slice A zs.length c) 37 1 zs.length (zs.map (·.1))] [GsAw w.heap.size zs, fun V => HB V (.slice Av xs.length cv) xs] → Away (fun k => k < w.heap.size) (fun V => GSv V (.slice A zs.length c) zs) V from fun V h V' hs' => by
      have ho := h.own_row (i := 0) rfl
      exact GSv.of_row (Away.row ho (K := fun k => k < w.heap.size) (fun k hk h => by have := (ho.lt k hk).1; omega) V' hs') (fun x hx => h.fact (F := GsAw w.heap.size zs) (i := 0) rfl x hx V' hs'))
    have HS := Lib.hid hs
    have HRD := Lib.hid hrd
    clear hs hrd
    by_cases hz : n1 = 0
    · subst hz
      have HP := Lib.hid (show ReadP xs num (zs.map (·.2)) q from HRD.out.done' (fun h g r hg => by
        rw [List.length_map] at h hg
        rcases hn1 with ⟨h1, _⟩ | ⟨_, h1⟩
        · have : num + zs.length = 0 := by omega
          rw [this] at hg
          exact absurd rfl (segOk_iff.1 hg).1
        · omega))
      go_wp2_with fail
      go_ret2
      exact ⟨A, c, zs, q, rfl, HP.out, HS.out.below, GSA.out _ HS.out⟩
    · obtain ⟨rfl, hlt⟩ : n1 = (num : Int) + (zs.length : Int) ∧ num + zs.length < 18446744073709551616 := by
        rcases hn1 with h | ⟨h, _⟩
        · exact h
        · exact absurd h hz
      clear hn1
      have k0 : (0 : Int) < (num : Int) + (zs.length : Int) := by omega
      go_wp2_with fail
      refine (rgroup28 _ xs q (num + zs.length) _ (HS.out.fact (F := fun V => HB V (.slice Av xs.length cv) xs) (i := 1) rfl) hl hqx hlt).mono ?_
      rintro e Wn ⟨hb, hcase⟩
      rcases hcase with ⟨A9, c9, g, Q, rfl, hok, hit, hw⟩ | ⟨rfl, hno⟩
      · have hS := GsAw.snoc (x := (.slice A9 g.length c9, g)) HS.out hb hw
        clear HS GSA
        have HS := Lib.hid hS
        have hq1 := hit.in
        have HRD2 := Lib.hid (show RdTo xs num ((zs ++ [(Value.slice A9 g.length c9, g)]).map (·.2)) (Q : Int) by
          rw [List.map_append]
          exact HRD.out.snoc hit (by rw [List.length_map]; exact hok) (by rw [List.length_map]) (by rw [List.length_map]; exact hlt))
        have kq : ¬ (Q : Int) < 0 := by omega
        clear hb hw hS hit hok
        by_cases hN : num + zs.length + 1 = 18446744073709551616
        · have hwz : IntKind.u64.wrap (((num : Int) + (zs.length : Int)) + 1) = 0 := by rw [show ((num : Int) + (zs.length : Int)) + 1 = 18446744073709551616 by omega]; rfl
          go_wp2_with (first
            | (refine atd 32 (by rfl) ?_; refine wl (by rfl) (s_bs (E := 37) (z := .slice none 0 0) HS.out 1 1 [.slice A9 g.length c9] (by rfl) Try.underlying22 (by kernel_rfl) (by rfl) (by decide) (by decide) (by kernel_rfl) (by rfl) (by decide) ?_); intro b32 Wn hS; clear HS; have HS := Lib.hid hS; clear hS)
            | (refine atd 33 (by rfl) ?_; refine wl (by rfl) (s_rows (size := 1) (bytes := 24) (z := .slice none 0 0) HS.out 1 0 (by rfl) Try.underlying22 (by kernel_rfl) (by rfl) (by decide) (by rfl) (by rfl) (by rfl) (by rfl) (by intro v hv; simp at hv; subst hv; rfl) (by omega) (by omega) ?_); intro v33 Wn hS; obtain ⟨A33, c33, rfl⟩ := Row.sl (hS.res (i := 1) rfl); clear HS; have HS := Lib.hid hS; clear hS))
          refine ⟨⟨zs ++ [(Value.slice A9 g.length c9, g)], Q, A33, c33, 0, HRD2.out, .inr ⟨rfl, by rw [List.length_append]; exact hN⟩, by first | rfl | (rw [hwz]), by rw [List.length_append]; rfl, rfl, by rw [List.length_append]; push_cast; rfl, ?_⟩, by simp [intOf]; omega⟩
          rw [List.length_append, List.map_append]
          exact HS.out.sub 0
        · have hN2 : num + zs.length + 1 < 18446744073709551616 := by omega
          go_wp2_with (first
            | (refine atd 32 (by rfl) ?_; refine wl (by rfl) (s_bs (E := 37) (z := .slice none 0 0) HS.out 1 1 [.slice A9 g.length c9] (by rfl) Try.underlying22 (by kernel_rfl) (by rfl) (by decide) (by decide) (by kernel_rfl) (by rfl) (by decide) ?_); intro b32 Wn hS; clear HS; have HS := Lib.hid hS; clear hS)
            | (refine atd 33 (by rfl) ?_; refine wl (by rfl) (s_rows (size := 1) (bytes := 24) (z := .slice none 0 0) HS.out 1 0 (by rfl) Try.underlying22 (by kernel_rfl) (by rfl) (by decide) (by rfl) (by rfl) (by rfl) (by rfl) (by intro v hv; simp at hv; subst hv; rfl) (by omega) (by omega) ?_); intro v33 Wn hS; obtain ⟨A33, c33, rfl⟩ := Row.sl (hS.res (i := 1) rfl); clear HS; have HS := Lib.hid hS; clear hS))
          refine ⟨⟨zs ++ [(Value.slice A9 g.length c9, g)], Q, A33, c33, (num : Int) + (zs.length : Int) + 1, HRD2.out, .inl ⟨by rw [List.length_append]; push_cast; simp; omega, by rw [List.length_append]; exact hN2⟩, rfl, by rw [List.length_append]; rfl, rfl, by rw [List.length_append]; push_cast; rfl, ?_⟩, by simp [intOf]; omega⟩
          rw [List.length_append, List.map_append]
          exact HS.out.sub 0
      · have hS := HS.out.call hb
        clear HS
        have HS := Lib.hid hS
        have HP := Lib.hid (show ReadP xs num (zs.map (·.2)) q from HRD.out.done' (fun h g r hg => by
          rw [List.length_map] at hg ⊢
          have := hno g r hg
          rwa [Int.toNat_natCast] at this))
        clear hb hS hno
        go_wp2_with fail
        go_ret2
        exact ⟨A, c, zs, q, rfl, HP.out, HS.out.below, GSA.out _ HS.out⟩
end
section
open Go Go.RowKit Go.Proofs
attribute [local irreducible] Calls

/-- A group that may be written over: where its memory lies, its records' block, how many there are, its capacity, its payloads' slices. -/
structure SG where
  lo : Nat
  hi : Nat
  g : Nat
  n : Nat
  c : Nat
  ps : List Value
def SG.K (b : Nat) (x : SG) (k : Nat) : Prop := k ≠ b ∧ x.lo ≤ k ∧ k < x.hi
structure TS (b o base top : Nat) (gs : List SG) (w V : World) : Prop where
  sp : ∀ (i : Nat) x, gs[i]? = some x → SP (x.K b) x.g 0 x.ps V
  apart : ∀ (i j : Nat) x y, gs[i]? = some x → gs[j]? = some y → i < j → x.hi ≤ y.lo
  chg : ChgP (fun k => k ≠ b ∧ base ≤ k ∧ k < top) w V
  old : ∀ (i : Nat) x, gs[i]? = some x → w.cell? ⟨b, o + i, none⟩ = some (.slice (some ⟨x.g, 0, none⟩) x.n x.c) ∧ x.n ≤ x.ps.length ∧ base ≤ x.lo ∧ x.hi ≤ top ∧ b < w.heap.size
section
variable {b o base top : Nat} {gs : List SG} {w V : World} {i : Nat} {x : SG}
theorem TS.drew (h : TS b o base top gs w V) : TS b o base top gs w V.drew := ⟨h.sp, h.apart, h.chg.drew, h.old⟩
theorem TS.cell (h : TS b o base top gs w V) (hx : gs[i]? = some x) : V.cell? ⟨b, o + i, none⟩ = some (.slice (some ⟨x.g, 0, none⟩) x.n x.c) := by
  obtain ⟨h1, _, _, _, h5⟩ := h.old i x hx
  exact (World.cell?_of_block (h.chg.block b h5 (fun h => h.1 rfl))).trans h1
theorem TS.pay (h : TS b o base top gs w V) (hx : gs[i]? = some x) {k : Nat} {pv : Value} (hk : x.ps[k]? = some pv) : V.cell? ⟨x.g, k * 2 + 1, none⟩ = some pv := by
  have := (h.sp i x hx).pay hk
  rwa [Nat.zero_add] at this
theorem TS.kind (h : TS b o base top gs w V) (hx : gs[i]? = some x) {k : Nat} {pv : Value} (hk : x.ps[k]? = some pv) : ∃ z : Int, V.cell? ⟨x.g, k * 2, none⟩ = some (.int .i64 z) := by
  have := (h.sp i x hx).kind hk
  rwa [Nat.zero_add] at this
theorem TS.upd (h : TS b o base top gs w V) (hx : gs[i]? = some x) {V' : World} (hs : SP (x.K b) x.g 0 x.ps V') (hc : ∀ k, ¬ x.K b k → V'.heap[k]? = V.heap[k]?) (hg : ChgP (fun k => k ≠ b ∧ base ≤ k ∧ k < top) w V') : TS b o base top gs w V' := by
  refine ⟨fun j y hy => ?_, h.apart, hg, h.old⟩
  by_cases hij : i = j
  · subst hij
    rw [hx] at hy
    injection hy with hy
    subst hy
    exact hs
  · refine (h.sp j y hy).same fun k hk => hc k ?_
    rintro ⟨h1, h2, h3⟩
    obtain ⟨k1, k2, k3⟩ := hk
    by_cases hlt : i < j
    · have := h.apart i j x y hx hy hlt; omega
    · have := h.apart j i y x hy hx (by omega); omega
theorem TS.wide (h : TS b o base top gs w V) (hx : gs[i]? = some x) {k : Nat} (hk : x.K b k) : k ≠ b ∧ base ≤ k ∧ k < top := by
  obtain ⟨_, _, h3, h4, _⟩ := h.old i x hx
  obtain ⟨k1, k2, k3⟩ := hk
  exact ⟨k1, by omega, by omega⟩
theorem TS.setK (h : TS b o base top gs w V) (hx : gs[i]? = some x) (k : Nat) (z : Int) : TS b o base top gs w (V.setCell ⟨x.g, k * 2, none⟩ (.int .i64 z)) := by
  have h1 := (h.sp i x hx).setK k z
  rw [Nat.zero_add] at h1
  have hg := (h.sp i x hx).1
  exact h.upd hx h1 (fun q hq => Below.heap_setCell V _ _ q (fun e => by subst e; exact hq hg)) (h.chg.setCell (p := ⟨x.g, k * 2, none⟩) (h.wide hx hg) _)
theorem TS.setB (h : TS b o base top gs w V) (hx : gs[i]? = some x) {k q o' n c : Nat} (hk : x.ps[k]? = some (.slice (some ⟨q, o', none⟩) n c)) (j : Nat) (z : Int) : TS b o base top gs w (V.setCell ⟨q, o' + j, none⟩ (.int .u8 z)) := by
  obtain ⟨h1, hq⟩ := (h.sp i x hx).setB hk j z
  exact h.upd hx h1 (fun k' hk' => Below.heap_setCell V _ _ k' (fun e => by subst e; exact hk' hq)) (h.chg.setCell (p := ⟨q, o' + j, none⟩) (h.wide hx hq) _)
end
set_option maxHeartbeats 1000000 in
set_option maxRecDepth 100000 in
theorem eq29 (u v : Value) (l m : List (Value × Grp)) (w : World) (hu : GSv w u l) (hv : GSv w v m) (hl : ∀ x ∈ l, x.2.length ≤ 1000000) (hm : ∀ x ∈ m, x.2.length ≤ 1000000) (hl1 : l.length ≤ 1000000) (hm1 : m.length ≤ 1000000) :
    Calls Try.prog 29 #[u, v, .func (.func 30) #[] #[]] w fun e w' => e = .returned (.bool (decide (l.map (·.2) = m.map (·.2)))) ∧ Below w.heap.size w w' := by
  have HU := Lib.hid hu; have HV := Lib.hid hv
  obtain ⟨A, c, rfl, hlc⟩ := hu.shape
  obtain ⟨B, d, rfl, hmc⟩ := hv.shape
  have HL := Lib.hid hl; have HM := Lib.hid hm
  clear hu hv hl hm
  by_cases hlen : l.length = m.length
  · have HLEN := Lib.hid hlen
    have k1 : (l.length : Int) = (m.length : Int) := by omega
    go_enter Try.func29, Try.ntmps29
    go_wp2_with fail
    go_loopw [17] (fun s17 wr => ∃ i : Nat, i ≤ l.length ∧ s17 = .int .i64 (i : Int) ∧ (∀ j, j < i → (l.map (·.2))[j]? = (m.map (·.2))[j]?) ∧ Below w.heap.size w wr) (fun s17 _ => l.length - (intOf s17).toNat)
    case atStart => exact ⟨0, by omega, rfl, fun j hj => by omega, Below.refl _ _⟩
    case round =>
      obtain ⟨i, hi, rfl, hall, hb⟩ := hrel
      have HALL := Lib.hid hall; have HB := Lib.hid hb
      have hlm : i < l.length → i < m.length := fun h => by omega
      clear hall hlen k1
      by_cases hlt : i < l.length
      · have hlm' := hlm hlt
        have hgu := HU.out.below hb
        have hgv := HV.out.below hb
        obtain ⟨ba, oa, rfl, c1, r1⟩ := hgu.get hlt
        obtain ⟨bb, ob, rfl, c2, r2⟩ := hgv.get hlm'
        have hli : l[i]? = some l[i] := List.getElem?_eq_getElem hlt
        have hmi : m[i]? = some (m[i]'hlm') := List.getElem?_eq_getElem hlm'
        generalize l[i] = x at *
        generalize m[i]'hlm' = y at *
        obtain ⟨xv, g⟩ := x
        obtain ⟨yv, g'⟩ := y
        dsimp only at c1 c2 r1 r2
        have HLI := Lib.hid hli; have HMI := Lib.hid hmi; have C1 := Lib.hid c1; have C2 := Lib.hid c2; have R1 := Lib.hid r1; have R2 := Lib.hid r2
        clear hli hmi c1 c2 r1 r2 hb hgu hgv
        have j1 : (i : Int) < (l.length : Int) := by omega
        have j2 : (i : Int) < (m.length : Int) := by omega
        have hdd : ∃ dd, decide (g = g') = dd := ⟨_, rfl⟩
        obtain ⟨dd, hdd⟩ := hdd
        have HDD := Lib.hid hdd
        clear hdd
        cases dd with
        | true =>
          go_wp2_with (first
            | (refine atd 21 (by rfl) ?_; refine wl (by rfl) (wp_of_run (run_ld (by kernel_rfl) (by rfl) (by rfl) C1.out) ?_))
            | (refine atd 25 (by rfl) ?_; refine wl (by rfl) (wp_of_run (run_ld (by kernel_rfl) (by rfl) (by rfl) C2.out) ?_))
            | (go_at_call 30; refine (same22 xv yv g g' _ R1.out R2.out (HL.out _ (List.mem_of_getElem? HLI.out)) (HM.out _ (List.mem_of_getElem? HMI.out))).mono ?_; rintro e Wn ⟨rfl, hb⟩; rw [HDD.out]; have HB2 := Lib.hid hb; clear hb))
          refine ⟨⟨i + 1, by omega, by push_cast; rfl, fun j hj => ?_, HB.out.trans (HB2.out.mono HB.out.size)⟩, by simp [intOf]; omega⟩
          by_cases hji : j < i
          · exact HALL.out j hji
          · obtain rfl : j = i := by omega
            rw [List.getElem?_map, List.getElem?_map, HLI.out, HMI.out]
            have := of_decide_eq_true HDD.out
            simp [this]
        | false =>
          have hne : decide (l.map (·.2) = m.map (·.2)) = false := decide_eq_false (fun e => by
            have h1 : (l.map (·.2))[i]? = some g := by rw [List.getElem?_map, HLI.out]; rfl
            rw [e, List.getElem?_map, HMI.out] at h1
            injection h1 with h1
            exact of_decide_eq_false HDD.out h1.symm)
          have HNE := Lib.hid hne
          clear hne
          go_wp2_with (first
            | (refine atd 21 (by rfl) ?_; refine wl (by rfl) (wp_of_run (run_ld (by kernel_rfl) (by rfl) (by rfl) C1.out) ?_))
            | (refine atd 25 (by rfl) ?_; refine wl (by rfl) (wp_of_run (run_ld (by kernel_rfl) (by rfl) (by rfl) C2.out) ?_))
            | (go_at_call 30; refine (same22 xv yv g g' _ R1.out R2.out (HL.out _ (List.mem_of_getElem? HLI.out)) (HM.out _ (List.mem_of_getElem? HMI.out))).mono ?_; rintro e Wn ⟨rfl, hb⟩; rw [HDD.out]; have HB2 := Lib.hid hb; clear hb))
          go_ret
          exact ⟨by rw [HNE.out]; rfl, HB.out.trans (HB2.out.mono HB.out.size)⟩
      · have heq : decide (l.map (·.2) = m.map (·.2)) = true := decide_eq_true (List.ext_getElem? fun j => by
          by_cases hj : j < i
          · exact HALL.out j hj
          · rw [List.getElem?_eq_none (by rw [List.length_map]; omega), List.getElem?_eq_none (by have := HLEN.out; rw [List.length_map]; omega)])
        have HEQ := Lib.hid heq
        clear heq
        have j1 : ¬ (i : Int) < (l.length : Int) := by omega
        have j2 : ¬ (i : Int) < (m.length : Int) := by have := HLEN.out; omega
        go_wp2_with fail
        go_ret
        exact ⟨by rw [HEQ.out]; rfl, HB.out⟩
  · have hne : decide (l.map (·.2) = m.map (·.2)) = false := decide_eq_false (fun e => hlen (by have := congrArg List.length e; simpa using this))
    rw [hne]
    have k1 : ¬ (l.length : Int) = (m.length : Int) := by omega
    clear hne hlen
    go_enter Try.func29, Try.ntmps29
    go_wp2_with fail
    go_ret
    exact ⟨rfl, Below.refl _ _⟩
set_option maxHeartbeats 1000000 in
set_option maxRecDepth 100000 in
theorem same17_d (u v : Value) (l m : List (Value × Grp)) (d : Bool) (w : World) (hd : decide (l.map (·.2) = m.map (·.2)) = d) (hu : GSv w u l) (hv : GSv w v m) (hl : ∀ x ∈ l, x.2.length ≤ 1000000) (hm : ∀ x ∈ m, x.2.length ≤ 1000000) (hl1 : l.length ≤ 1000000) (hm1 : m.length ≤ 1000000) :
    Calls Try.prog 17 #[u, v] w fun e w' => e = .returned (.bool d) ∧ Below w.heap.size w w' := by
  subst hd
  have HC := Lib.hid (eq29 u v l m w hu hv hl hm hl1 hm1)
  clear hu hv
  go_enter Try.func17, Try.ntmps17
  go_wp2_with (first
    | (go_at_call 29; go_loud (refine HC.out.mono ?_); rintro e Wn ⟨rfl, hb⟩; have HB := Lib.hid hb; clear hb))
  go_ret
  exact ⟨rfl, HB.out⟩
set_option maxHeartbeats 4000000 in
set_option maxRecDepth 100000 in
theorem spoil18 (b o c base top : Nat) (gs : List SG) (w : World) (h : TS b o base top gs w w) (hgl : gs.length ≤ 1000000) (hxn : ∀ x ∈ gs, x.n ≤ 1000000) :
    Calls Try.prog 18 #[.slice (some ⟨b, o, none⟩) gs.length c] w fun e w' => e = .returned (.tuple #[]) ∧ TS b o base top gs w w' := by
  have H := Lib.hid h
  clear h
  go_enter Try.func18, Try.ntmps18
  go_wp2_with fail
  go_loopw [7] (fun s7 wr => ∃ i : Nat, i ≤ gs.length ∧ s7 = .int .i64 (i : Int) ∧ TS b o base top gs w wr) (fun s7 _ => gs.length - (intOf s7).toNat)
  case atStart => exact ⟨0, by omega, rfl, H.out⟩
  case round =>
    obtain ⟨i, hi, rfl, hsp⟩ := hrel
    have HS := Lib.hid hsp
    clear hsp
    by_cases hlt : i < gs.length
    · have j1 : (i : Int) < (gs.length : Int) := by omega
      have hli : gs[i]? = some gs[i] := List.getElem?_eq_getElem hlt
      generalize gs[i] = x at *
      have HX := Lib.hid hli
      have HN := Lib.hid (HS.out.old i x hli).2.1
      have hx1 : x.n ≤ 1000000 := hxn x (List.mem_of_getElem? hli)
      clear hli
      go_wp2_with (first
        | (refine wl (by rfl) (wp_of_run (run_ld (by kernel_rfl) (by rfl) (by rfl) (HS.out.cell HX.out)) ?_)))
      go_loopw [15] (fun s15 wq => ∃ k : Nat, k ≤ x.n ∧ s15 = .int .i64 (k : Int) ∧ TS b o base top gs w wq) (fun s15 _ => x.n - (intOf s15).toNat)
      case atStart => exact ⟨0, by omega, rfl, HS.out⟩
      case round =>
        obtain ⟨k, hk, rfl, hsp⟩ := hrel
        clear HS
        have HS := Lib.hid hsp
        clear hsp
        by_cases hkn : k < x.n
        · have j2 : (k : Int) < (x.n : Int) := by omega
          have hkl : k < x.ps.length := Nat.lt_of_lt_of_le hkn HN.out
          have hki : x.ps[k]? = some x.ps[k] := List.getElem?_eq_getElem hkl
          generalize x.ps[k] = pv at *
          obtain ⟨Ap, n, d, rfl, hnl, hA⟩ := (HS.out.sp i x HX.out).shape hki
          have HK := Lib.hid hki
          clear hki
          go_wp2_with (first
            | (refine atd 21 (by rfl) ?_; refine wl (by rfl) (wp_of_run (run_ld (by kernel_rfl) (by rfl) (by rfl) (HS.out.cell HX.out)) ?_))
            | (refine atd 25 (by rfl) ?_; refine wl (by rfl) (wp_of_run (run_ld (by kernel_rfl) (by rfl) (by rfl) (HS.out.pay HX.out HK.out)) ?_)))
          by_cases hn : n = 0
          · subst hn
            go_loopw [27] (fun s27 wq => s27 = .int .i64 0 ∧ wq = wr) (fun s27 _ => 0)
            case atStart => exact ⟨rfl, rfl⟩
            case round =>
              obtain ⟨rfl, rfl⟩ := hrel
              go_wp2_with (first
                | (refine atd 56 (by rfl) ?_; refine wl (by rfl) (wp_of_run (run_ld (by kernel_rfl) (by rfl) (by rfl) (HS.out.cell HX.out)) ?_))
                | (obtain ⟨kz, hkz⟩ := HS.out.kind HX.out HK.out; refine wl (by rfl) (wp_of_skip (run_stc (v := .int .i64 (-1)) (by kernel_rfl) (by rfl) (by rfl) (by rfl) (by rfl) hkz ((HS.out.sp i x HX.out).free _)) ?_); have hS := HS.out.setK HX.out k (-1); clear hkz; clear HS; have HS := Lib.hid hS; clear hS))
              exact ⟨⟨k + 1, by omega, by push_cast; rfl, HS.out⟩, by simp [intOf]; omega⟩
          · obtain ⟨q, o', rfl⟩ := hA hn
            go_loopw [27] (fun s27 wq => ∃ j : Nat, j ≤ n ∧ s27 = .int .i64 (j : Int) ∧ TS b o base top gs w wq) (fun s27 _ => n - (intOf s27).toNat)
            case atStart => exact ⟨0, by omega, rfl, HS.out⟩
            case round =>
              obtain ⟨j, hj, rfl, hsp⟩ := hrel
              clear HS
              have HS := Lib.hid hsp
              clear hsp
              by_cases hj' : j < n
              · have j3 : (j : Int) < (n : Int) := by omega
                go_wp2_with fail
                refine wp_region_pi [(0, true), (1, true), (2, true), (3, true), (4, true), (5, true), (6, true), (7, true), (8, true), (9, true), (10, true), (11, true), (12, true), (13, true), (14, true), (15, true), (16, true), (17, true), (18, true), (19, false), (20, true), (21, true), (22, false)] (by kernel_rfl) (by kernel_rfl) rfl (by kernel_rfl) (fun _ _ _ _ _ h => h) (fun V => TS b o base top gs w V) HS.out.drew ?_
                intro OPS hops
                iterate 19
                  first | (refine wpPi_yield _ (by rw [hops.out]; simp only [List.getElem?_toArray, List.getElem?_cons_succ, List.getElem?_cons_zero]; rfl) (by first | rfl | (rw [hops.out]; rfl)) (fun w' hS => by first | exact run_ld (by kernel_rfl) (by rfl) (by rfl) (hS.cell HX.out) | exact run_ld (by kernel_rfl) (by rfl) (by rfl) (hS.pay HX.out HK.out) | (go_simp; rfl)) ?_; simp only [Act.put, List.setIfInBounds_toArray, List.set_cons_succ, List.set_cons_zero]) | (refine wpPi_skip (by rw [hops.out]; simp only [List.getElem?_toArray, List.getElem?_cons_succ, List.getElem?_cons_zero]; rfl) (by first | rfl | (rw [hops.out]; rfl)) ?_; simp only [Act.put, List.setIfInBounds_toArray, List.set_cons_succ, List.set_cons_zero])
                refine wpPi_act (by rw [hops.out]; simp only [List.getElem?_toArray, List.getElem?_cons_succ, List.getElem?_cons_zero]; rfl) (by first | rfl | (rw [hops.out]; rfl)) ?_
                have hS := HS.out.drew
                clear HS; have HS := Lib.hid hS; clear hS
                obtain ⟨z, hz⟩ := (HS.out.sp i x HX.out).byte HK.out hj'
                refine wp_of_run (run_ld (by kernel_rfl) (by rfl) (by rfl) hz) ?_
                refine ⟨HS.out, ?_⟩
                try simp only [Act.put, List.setIfInBounds_toArray, List.set_cons_succ, List.set_cons_zero]
                iterate 2
                  first | (refine wpPi_yield _ (by rw [hops.out]; simp only [List.getElem?_toArray, List.getElem?_cons_succ, List.getElem?_cons_zero]; rfl) (by first | rfl | (rw [hops.out]; rfl)) (fun w' hS => by first | exact run_ld (by kernel_rfl) (by rfl) (by rfl) (hS.cell HX.out) | exact run_ld (by kernel_rfl) (by rfl) (by rfl) (hS.pay HX.out HK.out) | (go_simp; rfl)) ?_; simp only [Act.put, List.setIfInBounds_toArray, List.set_cons_succ, List.set_cons_zero]) | (refine wpPi_skip (by rw [hops.out]; simp only [List.getElem?_toArray, List.getElem?_cons_succ, List.getElem?_cons_zero]; rfl) (by first | rfl | (rw [hops.out]; rfl)) ?_; simp only [Act.put, List.setIfInBounds_toArray, List.set_cons_succ, List.set_cons_zero])
                refine wpPi_act (by rw [hops.out]; simp only [List.getElem?_toArray, List.getElem?_cons_succ, List.getElem?_cons_zero]; rfl) (by first | rfl | (rw [hops.out]; rfl)) ?_
                obtain ⟨z', hz'⟩ := (HS.out.sp i x HX.out).byte HK.out hj'
                refine wp_of_skip (run_stc (by kernel_rfl) (by rfl) (by rfl) (by rfl) (by rfl) hz' ((HS.out.sp i x HX.out).bfree HK.out _)) ?_
                refine ⟨HS.out.setB HX.out HK.out j _, ?_⟩
                try simp only [Act.put, List.setIfInBounds_toArray, List.set_cons_succ, List.set_cons_zero]
                simp only [wpPi]
                clear OPS hops
                go_wp2_with fail
                exact ⟨⟨j + 1, by omega, by push_cast; rfl, HS.out.setB HX.out HK.out j _⟩, by simp [intOf]; omega⟩
              · have j3 : ¬ (j : Int) < (n : Int) := by omega
                go_wp2_with (first
                  | (refine atd 56 (by rfl) ?_; refine wl (by rfl) (wp_of_run (run_ld (by kernel_rfl) (by rfl) (by rfl) (HS.out.cell HX.out)) ?_))
                  | (obtain ⟨kz, hkz⟩ := HS.out.kind HX.out HK.out; refine wl (by rfl) (wp_of_skip (run_stc (v := .int .i64 (-1)) (by kernel_rfl) (by rfl) (by rfl) (by rfl) (by rfl) hkz ((HS.out.sp i x HX.out).free _)) ?_); have hS := HS.out.setK HX.out k (-1); clear hkz; clear HS; have HS := Lib.hid hS; clear hS))
                exact ⟨⟨k + 1, by omega, by push_cast; rfl, HS.out⟩, by simp [intOf]; omega⟩
        · have j2 : ¬ (k : Int) < (x.n : Int) := by omega
          go_wp2_with fail
          exact ⟨⟨i + 1, by omega, by push_cast; rfl, HS.out⟩, by simp [intOf]; omega⟩
    · have j1 : ¬ (i : Int) < (gs.length : Int) := by omega
      go_wp2_with fail
      refine bodyPost_end (results_none rfl _ _ _) rfl ?_
      exact ⟨rfl, HS.out⟩
end
section
open Go Go.RowKit Go.Proofs
attribute [local irreducible] Calls

theorem SP.of_g {W : World} {b lo m g c n k : Nat} {ys : List (Int × Value × List UInt8)} {cs : Array Value} {fr : Nat × Nat} (h : W.ownsRow lo 48 2 (.slice (some ⟨g, 0, none⟩) k c) ys.length (gcells ys)) (hg : g < m) (hp : ∀ y ∈ ys, W.ownsRow lo 5 1 y.2.1 y.2.2.length (bs y.2.2) ∧ ∀ q, y.2.1.ownBlock = some q → q < m) (hb : W.heap[b]? = some (.cells cs 37 fr)) (hl : ∀ y ∈ ys.take n, y.2.2.length ≤ 140737488355328) :
    SP (fun q => q ≠ b ∧ lo ≤ q ∧ q < m) g 0 ((ys.take n).map (·.2.1)) W := by
  have hgb : g ≠ b := fun e => own_ne h hb (by decide) (by rw [← e]; rfl)
  have hh := h
  rcases h.2 with ⟨e, he⟩ | ⟨g', cap, cur, e, h1, h2, h3, h4, h5, h6⟩
  · cases e
  · injection e with e1 e2 e3
    injection e1 with e1
    injection e1 with e1 _
    subst e1
    refine ⟨⟨hgb, h1, hg⟩, cur, h2, fun j pv hj => ?_⟩
    rw [List.getElem?_map, Option.map_eq_some_iff] at hj
    obtain ⟨y, hy, rfl⟩ := hj
    have hy2 := hy
    rw [List.getElem?_take] at hy
    split at hy
    · rename_i hjn
      obtain ⟨e1, e2⟩ := gcells_get ys j y hy
      have hlen : (gcells ys).length = ys.length * 2 := h.1
      have key : ∀ q v, (gcells ys)[q]? = some v → cur[q]? = some v := fun q v hq => by
        have hq1 := (List.getElem?_eq_some_iff.1 hq).1
        rw [← h6, List.getElem?_take_of_lt (by omega)] at hq
        rw [← Array.getElem?_toList]; exact hq
      refine ⟨⟨_, by rw [Nat.zero_add, Nat.mul_comm]; exact key _ _ e1⟩, by rw [Nat.zero_add, Nat.mul_comm]; exact key _ _ e2, ?_⟩
      obtain ⟨ho, hlt⟩ := hp y (List.mem_of_getElem? hy)
      refine SPay.of_own ho (hl y (List.mem_of_getElem? hy2)) h2 (fun q hq => ⟨fun e => own_ne ho hb (by decide) (by rw [← e]; exact hq), (ho.lt q hq).1, hlt q hq⟩)
    · cases hy
theorem sgs_of {b hi : Nat} {cs : Array Value} {fr : Nat × Nat} {W : World} (hb : W.heap[b]? = some (.cells cs 37 fr)) : ∀ (pr : List GIt) (lo : Nat), GsOwn lo hi pr W → (∀ x ∈ pr, okL x.l.dropLast = true ∧ 0 < x.l.length) →
    ∃ gs : List SG, gs.length = pr.length ∧ (∀ (i : Nat) x y, gs[i]? = some x → pr[i]? = some y → itCell y = .slice (some ⟨x.g, 0, none⟩) x.n x.c ∧ x.n ≤ x.ps.length ∧ x.n ≤ y.l.length) ∧ (∀ x ∈ gs, lo ≤ x.lo ∧ x.hi ≤ hi ∧ SP (x.K b) x.g 0 x.ps W) ∧ ∀ (i j : Nat) x y, gs[i]? = some x → gs[j]? = some y → i < j → x.hi ≤ y.lo := by
  intro pr
  induction pr with
  | nil => intro lo _ _; exact ⟨[], rfl, (fun i x y h => by simp at h), (fun x h => by cases h), fun i j x y h => by simp at h⟩
  | cons y pr ih =>
    intro lo hg hp
    obtain ⟨m, ⟨ys, e, a1, a2, a3⟩, hlm, hrest⟩ := hg
    obtain ⟨hok, hpos⟩ := hp y (List.mem_cons_self ..)
    obtain ⟨gs, g1, g2, g3, g4⟩ := ih m hrest (fun x hx => hp x (List.mem_cons_of_mem _ hx))
    have hyl : ys.length = y.l.length := by rw [← e, List.length_map]
    obtain ⟨g, c0, ev⟩ : ∃ g c0, Value.slice y.A y.l.length y.c = .slice (some ⟨g, 0, none⟩) y.l.length c0 := by
      rcases a1.2 with ⟨e', h0⟩ | ⟨g, cap, cur, e', _⟩
      · omega
      · injection e' with e1 e2 e3
        exact ⟨g, cap, by rw [e1, e3]⟩
    injection ev with ev _ ec
    rw [ev] at a1 a2
    have hl : ∀ z ∈ ys.take (y.l.length - 1), z.2.2.length ≤ 140737488355328 := fun z hz => by
      have h1 : gkp z ∈ y.l.dropLast := by
        rw [← e, List.dropLast_eq_take, ← List.map_take, List.length_map, hyl]
        exact List.mem_map_of_mem hz
      unfold okL at hok
      rw [List.all_eq_true] at hok
      have h2 := chkB_true (hok _ h1)
      obtain ⟨_, _, h3⟩ := h2
      have h4 : (gkp z).2.length = z.2.2.length := rfl
      omega
    have hsp := SP.of_g a1 (a2 g rfl) a3 hb hl
    refine ⟨⟨lo, m, g, y.l.length - 1, y.l.length - 1, (ys.take (y.l.length - 1)).map (·.2.1)⟩ :: gs, by simp [g1], ?_, ?_, ?_⟩
    · intro i x z hx hz
      cases i with
      | zero =>
        simp at hx hz
        subst hx hz
        refine ⟨by rw [itCell, ev], ?_, by dsimp only; omega⟩
        dsimp only
        rw [List.length_take, List.length_map]
        omega
      | succ i => exact g2 i x z (by simpa using hx) (by simpa using hz)
    · intro x hx
      rcases List.mem_cons.1 hx with rfl | hx
      · exact ⟨Nat.le_refl _, hrest.le, hsp⟩
      · obtain ⟨k1, k2, k3⟩ := g3 x hx
        exact ⟨Nat.le_trans hlm k1, k2, k3⟩
    · intro i j x z hx hz hij
      cases j with
      | zero => omega
      | succ j =>
        cases i with
        | zero =>
          simp at hx
          subst hx
          exact (g3 z (List.mem_of_getElem? (by simpa using hz))).1
        | succ i => exact g4 i j x z (by simpa using hx) (by simpa using hz) (by omega)
/-- What was read may be written over. -/
theorem ts_of_read {lo hi : Nat} {u : Value} {pr : List GIt} {W : World} (hr : W.ownsRow lo 37 1 u pr.length (itCells pr)) (hg : GsOwn lo hi pr W) (hp : ∀ x ∈ pr, okL x.l.dropLast = true ∧ 0 < x.l.length) (h0 : pr ≠ []) :
    ∃ (b c : Nat) (gs : List SG), u = .slice (some ⟨b, 0, none⟩) gs.length c ∧ TS b 0 lo hi gs W W ∧ gs.length = pr.length ∧ ∀ x ∈ gs, ∃ y ∈ pr, x.n ≤ y.l.length := by
  rcases hr.2 with ⟨_, e⟩ | ⟨b, cap, cur, rfl, h1, h2, h3, h4, h5, h6⟩
  · exact absurd (List.eq_nil_of_length_eq_zero e) h0
  · obtain ⟨gs, g1, g2, g3, g4⟩ := sgs_of h2 pr lo hg hp
    refine ⟨b, cap, gs, by rw [g1], ⟨fun i x hx => (g3 x (List.mem_of_getElem? hx)).2.2, g4, ChgP.refl _ _, fun i x hx => ?_⟩, g1, fun x hx => ?_⟩
    · have hi' : i < pr.length := by rw [← g1]; exact (List.getElem?_eq_some_iff.1 hx).1
      have hy : pr[i]? = some pr[i] := List.getElem?_eq_getElem hi'
      obtain ⟨k1, k2, k3⟩ := g2 i x _ hx hy
      obtain ⟨k4, k5, _⟩ := g3 x (List.mem_of_getElem? hx)
      refine ⟨?_, k2, k4, k5, blk_lt h2⟩
      have := hr.cells rfl i (itCell pr[i]) (by rw [itCells, List.getElem?_map, hy]; rfl)
      rw [k1] at this
      rw [Nat.zero_add]
      rwa [show (⟨b, 0, none⟩ : Addr).add i = ⟨b, i, none⟩ by simp [Addr.add]; intro h; exact h.symm] at this
    · obtain ⟨i, hi', rfl⟩ := List.mem_iff_getElem.1 hx
      have hy : pr[i]? = some (pr[i]'(by omega)) := List.getElem?_eq_getElem (by omega)
      exact ⟨_, List.mem_of_getElem? hy, (g2 i _ _ (List.getElem?_eq_getElem hi') hy).2.2⟩
set_option maxHeartbeats 1000000 in
set_option maxRecDepth 100000 in
theorem spoil18_nil (A : Option Addr) (c : Nat) (w : World) : Calls Try.prog 18 #[.slice A 0 c] w fun e w' => e = .returned (.tuple #[]) ∧ w = w' := by
  go_enter Try.func18, Try.ntmps18
  go_wp2_with fail
  go_loopw [7] (fun s7 wr => s7 = .int .i64 0 ∧ w = wr) (fun s7 _ => 0)
  case atStart => exact ⟨rfl, rfl⟩
  case round =>
    obtain ⟨rfl, rfl⟩ := hrel
    go_wp2_with fail
    refine bodyPost_end (results_none rfl _ _ _) rfl ?_
    exact ⟨rfl, rfl⟩
/-- Whatever groups were read: they are written over. -/
theorem spoil_any {lo hi : Nat} {u : Value} {pr : List GIt} {W : World} (hr : W.ownsRow lo 37 1 u pr.length (itCells pr)) (hg : GsOwn lo hi pr W) (hp : ∀ x ∈ pr, okL x.l.dropLast = true ∧ 0 < x.l.length ∧ x.l.length ≤ 1000000) (hl : pr.length ≤ 1000000) :
    Calls Try.prog 18 #[u] W fun e w' => e = .returned (.tuple #[]) ∧ ChgP (fun k => lo ≤ k ∧ k < hi) W w' := by
  by_cases h0 : pr = []
  · subst h0
    obtain ⟨A, c, rfl⟩ := own_slice hr
    refine (spoil18_nil A c W).mono ?_
    rintro e w' ⟨rfl, rfl⟩
    exact ⟨rfl, ChgP.refl _ _⟩
  · obtain ⟨b, c, gs, rfl, hts, hgl, hn⟩ := ts_of_read hr hg (fun x hx => ⟨(hp x hx).1, (hp x hx).2.1⟩) h0
    refine (spoil18 b 0 c lo hi gs W hts (by omega) (fun x hx => by obtain ⟨y, hy, h⟩ := hn x hx; exact Nat.le_trans h (hp y hy).2.2)).mono ?_
    rintro e w' ⟨rfl, ht⟩
    exact ⟨rfl, ht.chg.os, ht.chg.tape, ht.chg.output, ht.chg.size, fun k hk hn => ht.chg.block k hk (fun h => hn h.2)⟩
end
end Go.Proofs.Ytakeggdpnfibpaa
