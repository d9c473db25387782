/- Contracts and words that the laws stand on (CrcMarksWalk). -/
import Derived.Test.YtkibccmfgndfjaaCrcMark
set_option linter.unusedVariables false
set_option linter.unusedSimpArgs false
namespace Go.Proofs.Ytkibccmfgndfjaa
section
open Go.RowKit Go.Proofs
def bareL (xs : List UInt8) : List UInt8 := if xs.length < 4 then [] else if leNum (xs.drop (xs.length - 4)) = crcOn 0 (xs.take (xs.length - 4)) then xs.take (xs.length - 4) else []
def bareE (xs : List UInt8) : Int := if xs.length < 4 then 20 else if leNum (xs.drop (xs.length - 4)) = crcOn 0 (xs.take (xs.length - 4)) then 0 else 20
theorem bare_any (b : Value) (xs : List UInt8) (w : World) (hb : HB w b xs) (hl : xs.length ≤ 1000000) :
    Calls Try.prog 43 #[b] w fun e w' => ∃ v', e = .returned (.tuple #[v', .int .i64 (bareE xs)]) ∧ w'.ownsRow w.heap.size 5 1 v' (bareL xs).length (bs (bareL xs)) ∧ Below w.heap.size w w' := by
  by_cases h1 : xs.length < 4
  · rw [bareE, bareL, if_pos h1, if_pos h1]
    refine (bare_short b xs w hb hl h1).mono ?_
    rintro e w' ⟨rfl, h⟩
    exact ⟨_, rfl, World.ownsRow_nil _ _ _ _, h⟩
  · have hs : xs.length = (xs.length - 4) + 4 := by omega
    rw [bareE, bareL, if_neg h1, if_neg h1]
    by_cases h2 : leNum (xs.drop (xs.length - 4)) = crcOn 0 (xs.take (xs.length - 4))
    · rw [if_pos h2, if_pos h2]
      refine (bare_ok b xs _ w hb hl hs h2).mono ?_
      rintro e w' ⟨v', rfl, ho, h⟩
      refine ⟨_, rfl, ?_, h⟩
      have : (xs.take (xs.length - 4)).length = xs.length - 4 := List.length_take_of_le (by omega)
      rw [this]; exact ho
    · rw [if_neg h2, if_neg h2]
      refine (bare_no b xs _ w hb hl hs h2).mono ?_
      rintro e w' ⟨rfl, h⟩
      exact ⟨_, rfl, World.ownsRow_nil _ _ _ _, h⟩
theorem rbare_any (b : Value) (xs : List UInt8) (w : World) (hb : HB w b xs) (hl : xs.length ≤ 1000000) :
    Calls Try.prog 44 #[b] w fun e w' => ∃ v', e = .returned (.tuple #[v', .int .i64 (bareE xs)]) ∧ w'.ownsRow w.heap.size 5 1 v' (bareL xs).length (bs (bareL xs)) ∧ Below w.heap.size w w' := by
  by_cases h1 : xs.length < 4
  · rw [bareE, bareL, if_pos h1, if_pos h1]
    refine (rbare_short b xs w hb h1).mono ?_
    rintro e w' ⟨rfl, h⟩
    exact ⟨_, rfl, World.ownsRow_nil _ _ _ _, h⟩
  · have hs : xs.length = (xs.length - 4) + 4 := by omega
    rw [bareE, bareL, if_neg h1, if_neg h1]
    by_cases h2 : leNum (xs.drop (xs.length - 4)) = crcOn 0 (xs.take (xs.length - 4))
    · rw [if_pos h2, if_pos h2]
      refine (rbare_ok b xs _ w hb hl hs h2).mono ?_
      rintro e w' ⟨v', rfl, ho, h⟩
      refine ⟨_, rfl, ?_, h⟩
      have : (xs.take (xs.length - 4)).length = xs.length - 4 := List.length_take_of_le (by omega)
      rw [this]; exact ho
    · rw [if_neg h2, if_neg h2]
      refine (rbare_no b xs _ w hb hl hs h2).mono ?_
      rintro e w' ⟨rfl, h⟩
      exact ⟨_, rfl, World.ownsRow_nil _ _ _ _, h⟩

/-- A row of n bytes at block g that may be written. -/
def RowU (w : World) (g n : Nat) : Prop := ∃ cur : Array Value, w.heap[g]? = some (.cells cur 5 (0, 0)) ∧ ∀ i, i < n → ∃ y : UInt8, cur[i]? = some (.int .u8 (y.toNat : Int))
theorem RowU.cell {w : World} {g n : Nat} (h : RowU w g n) {i : Nat} (hi : i < n) : ∃ y : UInt8, w.cell? ⟨g, i, none⟩ = some (.int .u8 (y.toNat : Int)) := by
  obtain ⟨cur, h1, h2⟩ := h
  obtain ⟨y, hy⟩ := h2 i hi
  exact ⟨y, (blk_cell h1 i).trans hy⟩
theorem RowU.free {w : World} {g n : Nat} (h : RowU w g n) (i : Nat) : w.frozen? ⟨g, i, none⟩ = false := by
  obtain ⟨cur, h1, h2⟩ := h
  exact blk_free h1 i
theorem RowU.set {w : World} {g n : Nat} (h : RowU w g n) (i : Nat) (y : UInt8) : RowU (w.setCell ⟨g, i, none⟩ (.int .u8 (y.toNat : Int))) g n := by
  obtain ⟨cur, h1, h2⟩ := h
  refine ⟨_, blk_set h1 i _, fun j hj => ?_⟩
  obtain ⟨z, hz⟩ := h2 j hj
  by_cases e : j = i
  · subst e
    have := (Array.getElem?_eq_some_iff.1 hz).1
    exact ⟨y, Array.getElem?_setIfInBounds_self_of_lt this⟩
  · exact ⟨z, by rw [Array.getElem?_setIfInBounds_ne (by omega)]; exact hz⟩
theorem RowU.chg {S : List Nat} {w w' : World} {g n : Nat} (h : RowU w g n) (hc : Chg S w w') (hn : g ∉ S) : RowU w' g n := by
  obtain ⟨cur, h1, h2⟩ := h
  exact ⟨cur, hc.blk h1 hn, h2⟩
theorem RowU.of_own {w : World} {B n c : Nat} {A : Option Addr} {ys : List UInt8} (h : w.ownsRow B 5 1 (.slice A n c) ys.length (bs ys)) (hn : n ≠ 0) : ∃ g, A = some ⟨g, 0, none⟩ ∧ RowU w g n ∧ B ≤ g := by
  have h' := h
  have hlen : n = ys.length := by
    rcases h.2 with ⟨e, e2⟩ | ⟨g, cap, cur, e, _⟩
    · injection e with _ e3 _; omega
    · injection e
  rcases h.2 with ⟨e, e2⟩ | ⟨g, cap, cur, e, hg, hh, hnc, hrest⟩
  · injection e with _ e3 _; omega
  · injection e with e1 e2 e3
    subst e1
    refine ⟨g, rfl, ⟨cur, hh, fun i hi => ?_⟩, hg⟩
    have hc := h'.cells (g := g) rfl i _ (show (bs ys)[i]? = some (.int .u8 ((ys[i]'(by omega)).toNat : Int)) by simp [bs, List.getElem?_eq_getElem (show i < ys.length by omega)])
    rw [show (⟨g, 0, none⟩ : Addr).add i = ⟨g, i, none⟩ by unfold Addr.add; split <;> simp_all] at hc
    exact ⟨_, (blk_cell hh i).symm.trans hc⟩
theorem str9 (xs : List UInt8) : (⟨xs.toArray⟩ : ByteArray) ++ ⟨#[9]⟩ = ⟨(xs ++ [9]).toArray⟩ := by
  apply ByteArray.ext
  rw [ByteArray.data_append]
  simp
def IncRel (W0 : World) (A : Option Addr) (n : Nat) (s : Value) (w' : World) : Prop :=
  ∃ i : Nat, i ≤ n ∧ s = .int .i64 i ∧ (n ≠ 0 → ∃ g, A = some ⟨g, 0, none⟩ ∧ RowU w' g n) ∧ Chg (Value.slice A n 0).ownBlock.toList W0 w'
theorem u8_inc (y : UInt8) : ((y.toNat : Int) + 1) % 256 = ((UInt8.ofNat (y.toNat + 1)).toNat : Int) := by simp

set_option maxHeartbeats 4000000 in
set_option maxRecDepth 100000 in
theorem crcMarks_walk (b : Value) (xs : List UInt8) (w : World) (hb : HB w b xs) :
    Calls Try.prog 9 #[b] w fun e w' => e = .returned (.bool true) ∧ Below w.heap.size w w' := by
  have Hb := Lib.hid hb
  obtain ⟨A, c, rfl, hlc⟩ := hb.shape
  clear hb
  by_cases hx : xs.length ≤ 10000
  · go_enter Try.func9, Try.ntmps9
    go_wp2_with fail
    refine (twin_any _ xs w Hb.out (by omega)).mono ?_
    rintro e w1 ⟨v1, rfl, hown, hb1⟩
    have HO1 := Lib.hid hown; have HB1 := Lib.hid hb1
    obtain ⟨A1, c1, rfl⟩ := own_slice hown
    clear hown hb1
    go_wp2_with (at_builtin; go_loud (refine wpl_push w.heap.size rfl _ _ 29 5 (.int .u8 0) 1 rfl Try.underlying29 u8_info rfl (by decide) (.slice A1 xs.length c1) (bs xs) (.int .u8 9) rfl rfl rfl (by rw [bs_length]; exact HO1.out) HB1.out.size ?c1 ?_))
    case c1 => rw [bs_length]; omega
    intro v2 w2 hown2 hg2 hnx2
    have hl2 : (xs ++ [(9 : UInt8)]).length = xs.length + 1 := by simp
    have hown3 : w2.ownsRow w.heap.size 5 1 v2 (xs ++ [(9 : UInt8)]).length (bs (xs ++ [9])) := by
      rw [hl2, bs_append]; exact hown2
    have hb2 : Below w.heap.size w w2 := HB1.out.grown hg2 HB1.out.size (fun k hk => (HO1.out.lt k hk).1)
    have HX2 := Lib.hid (HB.of_own hown3)
    rw [hl2] at hown3
    have HB2 := Lib.hid hb2
    obtain ⟨A2, c2, rfl⟩ := own_slice hown3
    have hle2 : xs.length + 1 ≤ c2 := by
      obtain ⟨A', c', e, h⟩ := HX2.out.shape
      injection e with e1 e2 e3
      rw [hl2] at h; omega
    clear hown2 hown3 hg2 hnx2 hb2
    have hx2 : HB w2 (.slice A2 xs.length c2) xs := by
      have := HX2.out.take (b := xs.length) (by omega)
      rwa [List.take_left' rfl] at this
    have HT2 := Lib.hid hx2
    have cut := run_cut_h 29 5 Try.underlying29 size5 A2 (xs.length + 1) c2 xs.length (by omega) hle2
    clear hx2 hl2
    go_wp2_with fail
    refine (mark_any _ xs w2 HT2.out (by omega)).mono ?_
    rintro e w3 ⟨v3, rfl, hown4, hb3⟩
    have HO4 := Lib.hid hown4; have HX4 := Lib.hid (HB.of_own hown4); have HB3 := Lib.hid hb3
    obtain ⟨A4, c4, rfl⟩ := own_slice hown4
    clear hown4 hb3
    have HT3 := Lib.hid (HT2.out.below HB3.out)
    generalize hmk : markB xs = mk at *
    have HMK := Lib.hid hmk; clear hmk
    go_wp2_with fail
    refine (bare_any _ xs w3 HT3.out (by omega)).mono ?_
    rintro e w4 ⟨v5, rfl, hown5, hb4⟩
    have HO5 := Lib.hid hown5; have HX5 := Lib.hid (HB.of_own hown5); have HB4 := Lib.hid hb4
    have HB4w := Lib.hid (HB3.out.trans (hb4.mono HB3.out.size))
    obtain ⟨A5, c5, rfl⟩ := own_slice hown5
    clear hown5 hb4
    have HB4x := Lib.hid (HB2.out.trans (HB4w.out.mono HB2.out.size))
    have Hb4 := Lib.hid (Hb.out.below HB4x.out)
    go_wp2_with fail
    refine (rbare_any _ xs w4 Hb4.out (by omega)).mono ?_
    rintro e w5 ⟨v7, rfl, hown7, hb5⟩
    have HX7 := Lib.hid (HB.of_own hown7); have HB5 := Lib.hid hb5
    obtain ⟨A7, c7, rfl⟩ := own_slice hown7
    clear hown7 hb5
    generalize bareE xs = be at *
    generalize hbl : bareL xs = bl at *
    have HB5w := Lib.hid (HB4w.out.trans (HB5.out.mono HB4w.out.size))
    have HB5x := Lib.hid (HB4x.out.trans (HB5.out.mono HB4x.out.size))
    have hst : ∀ w', Below w5.heap.size w5 w' → (convert 29 9 (.slice A4 mk.length c4)).run Try.prog w' = .ok (.string ⟨mk.toArray⟩) w' ∧ (convert 29 9 (.slice A5 bl.length c5)).run Try.prog w' = .ok (.string ⟨bl.toArray⟩) w' ∧ (convert 29 9 (.slice A7 bl.length c7)).run Try.prog w' = .ok (.string ⟨bl.toArray⟩) w' := by
      intro w' h
      have h5 := HB5.out.trans (h.mono HB5.out.size)
      have h4 := HB4.out.trans (h5.mono HB4.out.size)
      exact ⟨(HX4.out.below h4).string (P := Try.prog) 29 9 5 Try.underlying29 Try.underlying5 Try.underlying9, (HX5.out.below h5).string (P := Try.prog) 29 9 5 Try.underlying29 Try.underlying5 Try.underlying9, (HX7.out.below h).string (P := Try.prog) 29 9 5 Try.underlying29 Try.underlying5 Try.underlying9⟩
    have HST := Lib.hid hst
    have Hb5 := Lib.hid (Hb.out.below HB5x.out)
    clear hst
    go_wp2_with fail
    refine wp_region_pi [(0, true), (1, true), (2, true), (3, false), (4, false), (5, true), (6, true), (7, true), (8, true), (9, true), (10, true), (11, true), (12, true), (13, true), (14, true), (15, true), (16, true), (17, true), (18, true)] (by kernel_rfl) (by kernel_rfl) rfl (by kernel_rfl) (fun _ _ _ _ _ h => h) (fun w' => Below w5.heap.size w5 w') (Below.refl _ _).drew ?_
    intro OPS hops
    iterate 3
      first | (refine wpPi_yield _ (by rw [hops.out]; simp only [List.getElem?_toArray, List.getElem?_cons_succ, List.getElem?_cons_zero]; rfl) (by first | rfl | (rw [hops.out]; rfl)) (fun w' hS => by obtain ⟨hs1, hs2, hs3⟩ := HST.out w' hS; go_simp; rfl) ?_; simp only [Act.put, List.setIfInBounds_toArray, List.set_cons_succ, List.set_cons_zero]) | (refine wpPi_skip (by rw [hops.out]; simp only [List.getElem?_toArray, List.getElem?_cons_succ, List.getElem?_cons_zero]; rfl) (by first | rfl | (rw [hops.out]; rfl)) ?_; simp only [Act.put, List.setIfInBounds_toArray, List.set_cons_succ, List.set_cons_zero])
    refine wpPi_act (by rw [hops.out]; simp only [List.getElem?_toArray, List.getElem?_cons_succ, List.getElem?_cons_zero]; rfl) (by first | rfl | (rw [hops.out]; rfl)) ?_
    go_simp
    refine (rmark_any _ xs _ Hb5.out.drew (by omega)).mono ?_
    rw [HMK.out]
    rintro e w6 ⟨v8, rfl, hown8, hb6⟩
    have hst8 := (HB.of_own hown8).string (P := Try.prog) 29 9 5 Try.underlying29 Try.underlying5 Try.underlying9
    obtain ⟨A8, c8, rfl⟩ := own_slice hown8
    have HB6 := Lib.hid ((Below.refl w5.heap.size w5).drew.trans hb6)
    clear hown8 hb6
    try (refine ⟨(by first | exact (Below.refl _ _).drew | exact HB6.out), ?_⟩)
    refine wpPi_act (by rw [hops.out]; simp only [List.getElem?_toArray, List.getElem?_cons_succ, List.getElem?_cons_zero]; rfl) (by first | rfl | (rw [hops.out]; rfl)) ?_
    go_simp
    try (refine ⟨(by first | exact (Below.refl _ _).drew | exact HB6.out), ?_⟩)
    iterate 14
      first | (refine wpPi_yield _ (by rw [hops.out]; simp only [List.getElem?_toArray, List.getElem?_cons_succ, List.getElem?_cons_zero]; rfl) (by first | rfl | (rw [hops.out]; rfl)) (fun w' hS => by obtain ⟨hs1, hs2, hs3⟩ := HST.out w' hS; go_simp; rfl) ?_; simp only [Act.put, List.setIfInBounds_toArray, List.set_cons_succ, List.set_cons_zero]) | (refine wpPi_skip (by rw [hops.out]; simp only [List.getElem?_toArray, List.getElem?_cons_succ, List.getElem?_cons_zero]; rfl) (by first | rfl | (rw [hops.out]; rfl)) ?_; simp only [Act.put, List.setIfInBounds_toArray, List.set_cons_succ, List.set_cons_zero])
    simp only [wpPi]
    have ho4 : w6.ownsRow w2.heap.size 5 1 (.slice A4 mk.length c4) mk.length (bs mk) := own_chg (own_chg HO4.out (Chg.of_below HB4.out) (by simp)) (Chg.of_below (HB5.out.trans (HB6.out.mono HB5.out.size))) (by simp)
    have ho5 : w6.ownsRow w3.heap.size 5 1 (.slice A5 bl.length c5) bl.length (bs bl) := own_chg HO5.out (Chg.of_below (HB5.out.trans (HB6.out.mono HB5.out.size))) (by simp)
    have hr4 := fun h => RowU.of_own ho4 h
    have hr5 := fun h => RowU.of_own ho5 h
    have HR4 := Lib.hid hr4; have HR5 := Lib.hid hr5
    have h45 : ∀ g4 g5, A4 = some ⟨g4, 0, none⟩ → bl.length ≠ 0 → A5 = some ⟨g5, 0, none⟩ → g4 < g5 := by
      intro g4 g5 e4 hn e5
      have h1 := (HO4.out.lt g4 (by rw [e4]; rfl)).2
      obtain ⟨g, e, _, h2⟩ := hr5 hn
      rw [e5] at e; injection e with e; injection e with e; omega
    have H45 := Lib.hid h45
    have HB6w := Lib.hid (HB5w.out.trans (HB6.out.mono HB5w.out.size))
    have hml : mk.length ≤ 1000000 := by rw [← HMK.out]; simp [markB, le_length]; omega
    have hm0 : mk.length ≠ 0 := by rw [← HMK.out]; simp [markB, le_length]
    have HM0 := Lib.hid hm0; clear hm0
    have hbll : bl.length ≤ 1000000 := by rw [← hbl]; unfold bareL; split; simp; split; simp; omega; simp
    clear ho4 ho5 hr4 hr5 h45 hbl
    go_wp2_with fail
    go_loopw [57] (fun s57 w' => IncRel w6 A4 mk.length s57 w') (fun s57 _ => mk.length - (intOf s57).toNat)
    case atStart => exact ⟨0, by omega, rfl, fun h => let ⟨g, h1, h2, _⟩ := HR4.out h; ⟨g, h1, h2⟩, Chg.refl _ _⟩
    case round =>
      obtain ⟨i, hi, rfl, hrow, hc⟩ := hrel
      have HC := Lib.hid hc; have HROW := Lib.hid hrow
      clear hc hrow
      by_cases hlt : i < mk.length
      · obtain ⟨g, rfl, hr⟩ := HROW.out (by omega)
        obtain ⟨y, hy⟩ := hr.cell hlt
        have hf := hr.free i
        have HR := Lib.hid hr; clear hr
        go_wp2_with fail
        go_roundw
        case rel =>
          rw [u8_inc]
          exact ⟨i + 1, by omega, by go_num, fun _ => ⟨g, rfl, HR.out.set i _⟩, HC.out.setCell (.inl (by simp [Value.ownBlock])) _⟩
        case measure => simp [intOf]; omega
      · obtain rfl : i = mk.length := by omega
        have hch : ∀ g5, bl.length ≠ 0 → A5 = some ⟨g5, 0, none⟩ → g5 ∉ (Value.slice A4 mk.length 0).ownBlock.toList := by
          intro g5 hn e5 hm
          rcases A4 with _ | a4
          · simp [Value.ownBlock] at hm
          · obtain ⟨g4, e4, _⟩ := HR4.out HM0.out
            injection e4 with e4; subst e4
            simp [Value.ownBlock] at hm
            have := H45.out g4 g5 rfl hn e5; omega
        have h4b : ∀ k, k ∈ (Value.slice A4 mk.length 0).ownBlock.toList → w2.heap.size ≤ k := by
          intro k hk
          obtain ⟨g4, e4, _, h⟩ := HR4.out HM0.out
          subst e4
          simp [Value.ownBlock] at hk; omega
        have hb7 : Below w2.heap.size w2 wr := HB6w.out.trans (HC.out.below h4b HB6w.out.size)
        have HB7 := Lib.hid hb7
        have HR5' := Lib.hid (show bl.length ≠ 0 → ∃ g, A5 = some ⟨g, 0, none⟩ ∧ RowU wr g bl.length from fun hn => let ⟨g, e, hr, _⟩ := HR5.out hn; ⟨g, e, hr.chg HC.out (hch g hn e)⟩)
        have HC5 := Lib.hid (show ∀ k, k ∈ (Value.slice A5 bl.length 0).ownBlock.toList → w2.heap.size ≤ k from fun k hk => by
          have h1 : (Value.slice A5 bl.length c5).ownBlock = some k := by
            cases A5 with
            | none => simp [Value.ownBlock] at hk
            | some a => simpa [Value.ownBlock, eq_comm] using hk
          exact Nat.le_trans HB3.out.size (HO5.out.lt k h1).1)
        clear hch h4b hb7
        go_wp2_with fail
        go_loopw [71] (fun s71 w' => IncRel wr A5 bl.length s71 w') (fun s71 _ => bl.length - (intOf s71).toNat)
        case atStart => exact ⟨0, by omega, rfl, HR5'.out, Chg.refl _ _⟩
        case round =>
          obtain ⟨i, hi, rfl, hrow, hc⟩ := hrel
          have HC6 := Lib.hid hc; have HROW6 := Lib.hid hrow
          clear hc hrow
          by_cases hlt : i < bl.length
          · obtain ⟨g, rfl, hr⟩ := HROW6.out (by omega)
            obtain ⟨y, hy⟩ := hr.cell hlt
            have hf := hr.free i
            have HR := Lib.hid hr; clear hr
            go_wp2_with fail
            go_roundw
            case rel =>
              rw [u8_inc]
              exact ⟨i + 1, by omega, by go_num, fun _ => ⟨g, rfl, HR.out.set i _⟩, HC6.out.setCell (.inl (by simp [Value.ownBlock])) _⟩
            case measure => simp [intOf]; omega
          · obtain rfl : i = bl.length := by omega
            have hb8 : Below w2.heap.size w2 wr := HB7.out.trans (HC6.out.below HC5.out HB7.out.size)
            have hbw := HB2.out.trans (hb8.mono HB2.out.size)
            have hs1 := (HX2.out.below hb8).string (P := Try.prog) 29 9 5 Try.underlying29 Try.underlying5 Try.underlying9
            have hs2 := (Hb.out.below hbw).string (P := Try.prog) 29 9 5 Try.underlying29 Try.underlying5 Try.underlying9
            try rw [show (xs ++ [(9 : UInt8)]).length = xs.length + 1 from by simp] at hs1
            have HBW := Lib.hid hbw
            clear hb8 hbw
            go_wp2_with fail
            go_ret
            exact ⟨ret_bool (by rw [str9 xs]; simp), HBW.out⟩
  · go_enter Try.func9, Try.ntmps9
    go_wp2_with fail
    go_ret
    exact ⟨rfl, Below.refl _ _⟩
end
end Go.Proofs.Ytkibccmfgndfjaa
