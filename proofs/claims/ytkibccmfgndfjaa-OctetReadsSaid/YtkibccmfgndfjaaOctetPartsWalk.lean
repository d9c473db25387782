/- Contracts and words that the laws stand on (OctetPartsWalk). -/
import Derived.Test.YtkibccmfgndfjaaOa
import Derived.Test.YtkibccmfgndfjaaMem
set_option linter.unusedVariables false
set_option linter.unusedSimpArgs false
namespace Go.Proofs.Ytkibccmfgndfjaa
section
open Go.RowKit Go.Proofs
theorem own_type_ne {w : World} {b b' : Nat} {e e' : TypeId} {s s' n n' : Nat} {v v' : Value} {xs xs' : List Value} (h : w.ownsRow b e s v n xs) (h' : w.ownsRow b' e' s' v' n' xs') (hne : e ≠ e') : v.ownBlock = none ∨ v.ownBlock ≠ v'.ownBlock := by
  rcases h.2 with ⟨rfl, _⟩ | ⟨g, cap, cur, rfl, _, hh, _⟩
  · exact .inl rfl
  · refine .inr fun hk => ?_
    rcases h'.2 with ⟨rfl, _⟩ | ⟨g', cap', cur', rfl, _, hh', _⟩
    · simp [Value.ownBlock] at hk
    · have : g = g' := by simpa [Value.ownBlock] using hk
      subst this
      rw [hh] at hh'
      injection hh' with hh'
      injection hh' with _ ht
      exact hne ht
/-- What is appended to is a row of another type: the pen is as it was. -/
theorem IsPen.beside {w w' : World} {p b n : Nat} {v vp : Value} {xs : List UInt8} {vs : List Value} {t : TypeId} (h : IsPen w p v xs) (hown : w.ownsRow b t 1 vp n vs) (hg : w.grownBy w' vp.ownBlock) (h5 : t ≠ 5) (h39 : t ≠ 39) : IsPen w' p v xs :=
  ⟨(hg.block p (blk_lt h.blk) (fun e => own_ne hown h.blk h39 e.symm)).trans h.blk, h.row.kept hg (own_type_ne h.row hown (fun e => h5 e.symm))⟩
theorem PenIn.beside {B : Nat} {w0 w w' : World} {p b n : Nat} {v vp : Value} {xs : List UInt8} {vs : List Value} {t : TypeId} (h : PenIn B w0 w p v xs) (hown : w.ownsRow b t 1 vp n vs) (hg : w.grownBy w' vp.ownBlock) (h5 : t ≠ 5) (h39 : t ≠ 39) (hB : B ≤ w.heap.size) (hb : B ≤ b) : PenIn B w0 w' p v xs :=
  ⟨h.pen.beside hown hg h5 h39, h.lo, h.lov, h.below.grown hg hB (fun k hk => Nat.le_trans hb (hown.lt k hk).1)⟩
/-- The list's slices, told in the first world. -/
def Held (w : World) (vs : List Value) (ls : List (List UInt8)) : Prop := vs.length = ls.length ∧ ∀ (i : Nat) v l, vs[i]? = some v → ls[i]? = some l → HB w v l
theorem Held.snoc {w : World} {vs : List Value} {ls : List (List UInt8)} {v : Value} {l : List UInt8} (h : Held w vs ls) (hv : HB w v l) : Held w (vs ++ [v]) (ls ++ [l]) := by
  refine ⟨by simp [h.1], fun i u m hu hm => ?_⟩
  by_cases hi : i < vs.length
  · rw [List.getElem?_append_left hi] at hu
    rw [List.getElem?_append_left (by have := h.1; omega)] at hm
    exact h.2 i u m hu hm
  · rw [List.getElem?_append_right (by omega)] at hu
    rw [List.getElem?_append_right (by have := h.1; omega)] at hm
    have : i - vs.length = 0 := by have := (List.getElem?_eq_some_iff.1 hu).1; simpa using this
    rw [← h.1, this] at hm
    rw [this] at hu
    simp at hu hm
    subst hu hm
    exact hv
theorem Parts.of_held {w w' : World} {b : Nat} {t : TypeId} {v : Value} {vs : List Value} {ls : List (List UInt8)} (h : Held w vs ls) (hb : Below w.heap.size w w') (hown : w'.ownsRow b t 1 v vs.length vs) : Parts w' v ls := by
  have hl := h.1
  rcases hown.2 with ⟨rfl, hn⟩ | ⟨g, cap, cur, rfl, _, _, hnc, _⟩
  · have : vs = [] := List.eq_nil_of_length_eq_zero hn
    subst this
    have : ls = [] := List.eq_nil_of_length_eq_zero (by simpa using hl.symm)
    subst this
    exact ⟨none, 0, rfl, Nat.le_refl _, fun h => absurd rfl h⟩
  · refine ⟨some ⟨g, 0, none⟩, cap, by rw [hl], by omega, fun _ => ⟨g, 0, vs, rfl, hl, fun i v hv => hown.cells (g := g) rfl i v hv, fun i v l hv hm => ((h.2 i v l hv hm).below hb).holds⟩⟩

theorem slice_info : (Try.prog.info? 29).map (fun i => (i.zero, i.size, i.bytes)) = some (some (.slice none 0 0), 1, 24) := by kernel_rfl

structure PartsRel (w : World) (xs ts : List UInt8) (p q : Nat) (v2 : Value) (s9 s10 s34 : Value) (wr : World) : Prop where
  out : ∃ (k : Nat) (vs : List Value) (ls : List (List UInt8)) (ys : List UInt8), k ≤ ts.length ∧ s34 = .int .i64 (k : Int) ∧ vs.length = k ∧ wr.ownsRow w.heap.size 29 1 s10 vs.length vs ∧ Held w vs ls ∧ HB w s9 ys ∧ ls.flatten ++ ys = xs ∧
    PenIn w.heap.size w wr p v2 xs ∧ IsPen wr q (.slice none 0 0) []

set_option maxHeartbeats 1000000 in
set_option maxRecDepth 100000 in
theorem octetParts_walk (b at_ : Value) (xs ts : List UInt8) (w : World) (hb : HB w b xs) (ha : HB w at_ ts) : Calls Try.prog 6 #[b, at_] w fun e w' => e = .returned (.bool true) ∧ Below w.heap.size w w' := by
  have Hb := Lib.hid hb
  have Ha := Lib.hid ha
  obtain ⟨A, c, rfl, hlc⟩ := hb.shape
  obtain ⟨A', c', rfl, hlc'⟩ := ha.shape
  clear hb ha
  by_cases h1 : xs.length ≤ 20000
  · by_cases h2 : ts.length ≤ 50
    · go_enter Try.func6, Try.ntmps6
      go_wp2_with (go_at_call 23; refine (alive1_any _).mono ?_; rintro e w1 ⟨rfl, hb1⟩)
      have HB1 := Lib.hid hb1
      have HP := Lib.hid (PenIn.new w1)
      have HQ := Lib.hid (PenIn.new (w1.alloc (.cells #[.slice none 0 0] 39)))
      clear hb1
      obtain ⟨W1, hW1⟩ : ∃ W1, (w1.alloc (.cells #[.slice none 0 0] 39)).alloc (.cells #[.slice none 0 0] 39) = W1 := ⟨_, rfl⟩
      have hp1 : PenIn w.heap.size w W1 w1.heap.size (.slice none 0 0) [] := by
        rw [← hW1]
        exact ⟨HP.out.pen.below ((Below.refl _ _).alloc (Nat.le_refl _) _), HB1.out.size, by simp [Value.ownBlock], (HB1.out.trans (HP.out.below.mono HB1.out.size)).alloc (by have := HB1.out.size; simp; omega) _⟩
      have hq1 : IsPen W1 (w1.heap.size + 1) (.slice none 0 0) [] := by rw [← hW1]; simpa using HQ.out.pen
      have hsz1 : W1.heap.size = w1.heap.size + 2 := by rw [← hW1]; simp
      have HP1 := Lib.hid hp1
      have HQ1 := Lib.hid hq1
      have hsz : w1.heap.size + 1 + 1 = W1.heap.size := by omega
      have HS := Lib.hid hsz1
      clear hp1 hq1 HP HQ hsz1
      rw [hW1, hsz]
      refine (raw_any _ _ _ [xs] _ _ (HP1.out.pen.below ((Below.refl _ _).alloc (Nat.le_refl _) _)) (Parts.one (Hb.out.below (HP1.out.below)) _) (by simp; omega) (by simp)).mono ?_
      rintro e w2 ⟨rfl, v2, g2⟩
      clear hsz
      go_wp2_with fail
      have hp2 := HP1.out.chg ((Below.refl _ _).alloc (Nat.le_refl _) (.cells #[.slice A xs.length c] 29)) HP1.out.below.size
      have hp3 := hp2.go g2 hp2.below.size
      have hq3 : IsPen w2 (w1.heap.size + 1) (.slice none 0 0) [] := (HQ1.out.below ((Below.refl _ _).alloc (Nat.le_refl _) (.cells #[.slice A xs.length c] 29))).chg g2.chg (by simp [Value.ownBlock]) (by simp [Value.ownBlock])
      have R0 : PartsRel w xs ts w1.heap.size (w1.heap.size + 1) v2 (.slice A xs.length c) (.slice none 0 0) (.int .i64 0) w2 :=
        ⟨0, [], [], xs, Nat.zero_le _, rfl, rfl, World.ownsRow_nil _ _ _ _, ⟨rfl, by simp⟩, Hb.out, rfl, by simpa using hp3, hq3⟩
      clear hp2 hp3 hq3 g2
      go_loopw [9, 10, 34] (fun s9 s10 s34 wr => PartsRel w xs ts w1.heap.size (w1.heap.size + 1) v2 s9 s10 s34 wr) (fun _ _ s34 _ => ts.length - (intOf s34).toNat)
      case atStart => exact R0
      case round =>
        obtain ⟨k, vs, ls, ys, hk, rfl, hvk, hown, hheld, hu, hfl, hp, hq⟩ := hrel.out
        have HR := Lib.hid hrel
        obtain ⟨Au, cu, rfl, hlu⟩ := hu.shape
        by_cases hlt : k < ts.length
        · obtain ⟨a0, rfl, hca⟩ := Ha.out.at_ hlt hlt
          have hca1 := (hp.below.cell (World.block_lt_of_cell? w _ hca)).trans hca
          have HU := Lib.hid hu
          have HHE := Lib.hid hheld
          have HFL := Lib.hid hfl
          have HP3 := Lib.hid hp
          have HQ3 := Lib.hid hq
          have HOW := Lib.hid hown
          have hts := ts[k].toNat_lt
          obtain ⟨m, hm, hmy⟩ : ∃ m : Nat, min (ts[k].toNat : Int) (ys.length : Int) = (m : Int) ∧ m ≤ ys.length := ⟨min ts[k].toNat ys.length, by omega, by omega⟩
          have hw : wrap64 (ts[k].toNat : Int) = (ts[k].toNat : Int) := by unfold wrap64; omega
          have hs1 := run_cut_h 29 5 Try.underlying29 size5 Au ys.length cu m hmy hlu
          have hs2 := run_cut_l 29 5 Try.underlying29 size5 Au ys.length cu m hmy
          have HM := Lib.hid hmy
          clear hu hheld hfl hp hq hown hca hrel hts
          go_wp2_with (at_builtin; refine wpl_push w.heap.size rfl _ _ 42 29 (.slice none 0 0) 24 rfl Try.underlying42 slice_info rfl (by decide) u10 vs _ rfl rfl rfl HOW.out ?c1 ?c2 ?_)
          case c1 => exact HP3.out.below.size
          case c2 => omega
          intro v1 w3 hown3 hg3 _
          have HO3 := Lib.hid hown3
          clear hown3
          go_wp2_with fail
          go_roundw
          case rel =>
            refine ⟨k + 1, vs ++ [Value.slice Au m cu], ls ++ [ys.take m], ys.drop m, by omega, by go_num, by simp; omega, by simpa [hvk] using HO3.out, HHE.out.snoc (HU.out.take HM.out), HU.out.drop HM.out, ?_, HP3.out.beside HOW.out hg3 (by decide) (by decide) HP3.out.below.size (Nat.le_refl _), HQ3.out.beside HOW.out hg3 (by decide) (by decide)⟩
            rw [List.flatten_append, List.append_assoc]
            simpa using HFL.out
          case measure => simp [intOf]; omega
        · obtain rfl : k = ts.length := by omega
          have HU := Lib.hid hu
          have HHE := Lib.hid hheld
          have HFL := Lib.hid hfl
          have HP3 := Lib.hid hp
          have HQ3 := Lib.hid hq
          have HOW := Lib.hid hown
          have HVK := Lib.hid hvk
          clear hu hheld hfl hp hq hown hrel hvk
          go_wp2_with (at_builtin; refine wpl_push w.heap.size rfl _ _ 42 29 (.slice none 0 0) 24 rfl Try.underlying42 slice_info rfl (by decide) u10 vs _ rfl rfl rfl HOW.out ?c1 ?c2 ?_)
          case c1 => exact HP3.out.below.size
          case c2 => have := HVK.out; omega
          intro v1 w3 hown3 hg3 _
          have HP4 := Lib.hid (HP3.out.beside HOW.out hg3 (by decide) (by decide) HP3.out.below.size (Nat.le_refl _))
          have HQ4 := Lib.hid (HQ3.out.beside HOW.out hg3 (by decide) (by decide))
          have HHE2 := Lib.hid (HHE.out.snoc HU.out)
          have hfl2 : (ls ++ [ys]).flatten = xs := by rw [List.flatten_append]; simpa using HFL.out
          have HF2 := Lib.hid hfl2
          have HPA := Lib.hid (Parts.of_held (v := v1) (t := 29) HHE2.out HP4.out.below (by simpa using hown3))
          have hll : (ls ++ [ys]).length ≤ 100 := by rw [← HHE2.out.1]; have := HVK.out; simp; omega
          have HLL := Lib.hid hll
          clear hown3 hfl2 hll
          go_wp2_with fail
          refine (raw_any _ _ _ (ls ++ [ys]) _ _ HQ4.out HPA.out (by rw [HF2.out]; simp; omega) (by have := HLL.out; omega)).mono ?_
          rintro e w4 ⟨rfl, v4, g4⟩
          rw [HF2.out, List.nil_append] at g4
          go_wp2_with fail
          have hp5 := HP4.out
          have hv2 : ∀ k, v2.ownBlock = some k → k ∉ (w1.heap.size + 1) :: (Value.slice none 0 0).ownBlock.toList := by
            intro k hk
            simp [Value.ownBlock]
            intro e; subst e
            exact own_ne HP4.out.pen.row HQ4.out.blk (by decide) hk
          have hP5 : PenIn w.heap.size w w4 w1.heap.size v2 xs := ⟨HP4.out.pen.chg g4.chg (by simp [Value.ownBlock]) hv2, HP4.out.lo, HP4.out.lov, HP4.out.below.trans (g4.chg.below (by intro k hk; simp [Value.ownBlock] at hk; have := HB1.out.size; omega) HP4.out.below.size)⟩
          have HP5 := Lib.hid hP5
          have HQ5 := Lib.hid g4.pen
          have hsb := (Hb.out.below hP5.below).drew.string (P := Try.prog) 29 9 5 Try.underlying29 Try.underlying5 Try.underlying9
          have hxs : xs.length ≤ 70368744177664 := by omega
          have HXS := Lib.hid hxs
          clear hxs
          clear hp5 hv2 hP5 g4
          have hconv : ∀ w', Below w.heap.size w w' → Sem.run Try.prog (convert 29 9 (Value.slice A xs.length c)) w' = Result.ok (.string ⟨xs.toArray⟩) w' := fun w' hB => (Hb.out.below hB).string (P := Try.prog) 29 9 5 Try.underlying29 Try.underlying5 Try.underlying9
          refine wp_region_pi [(0, true), (1, true), (2, true), (3, true), (4, true), (5, true), (6, true), (7, true), (8, true), (9, true), (12, true), (13, true), (10, false), (11, false), (14, true), (15, true), (16, true), (19, true), (20, true), (17, false), (18, false), (21, true), (22, true), (23, true)] (by kernel_rfl) (by kernel_rfl) rfl (by kernel_rfl) (fun _ _ _ _ _ h => h) (Below w.heap.size w) HP5.out.below.drew ?_
          intro OPS hops
          iterate 12
            refine wpPi_yield _ (by rw [hops.out]; simp only [List.getElem?_toArray, List.getElem?_cons_succ, List.getElem?_cons_zero]; rfl) (by first | rfl | (rw [hops.out]; rfl)) (fun w' hS => by go_simp; rfl) ?_
            simp only [Act.put, List.setIfInBounds_toArray, List.set_cons_succ, List.set_cons_zero]
          refine wpPi_act (by rw [hops.out]; simp only [List.getElem?_toArray, List.getElem?_cons_succ, List.getElem?_cons_zero]; rfl) (by first | rfl | (rw [hops.out]; rfl)) ?_
          go_simp
          refine (pall_any w1.heap.size v2 xs w4.drew HP5.out.pen.drew (by omega)).mono ?_
          rintro e w5 ⟨v5, rfl, hown5, hbl5⟩
          have hs5 := (HB.of_own hown5).string (P := Try.prog) 29 9 5 Try.underlying29 Try.underlying5 Try.underlying9
          have HB5 := Lib.hid (HP5.out.below.drew.trans (hbl5.mono HP5.out.below.size))
          have HQ6 := Lib.hid (HQ5.out.drew.below hbl5)
          clear hown5 hbl5
          refine ⟨HB5.out, ?_⟩
          refine wpPi_act (by rw [hops.out]; simp only [List.getElem?_toArray, List.getElem?_cons_succ, List.getElem?_cons_zero]; rfl) (by first | rfl | (rw [hops.out]; rfl)) ?_
          go_simp
          refine ⟨HB5.out, ?_⟩
          iterate 5
            refine wpPi_yield _ (by rw [hops.out]; simp only [List.getElem?_toArray, List.getElem?_cons_succ, List.getElem?_cons_zero]; rfl) (by first | rfl | (rw [hops.out]; rfl)) (fun w' hS => by go_simp; rfl) ?_
            simp only [Act.put, List.setIfInBounds_toArray, List.set_cons_succ, List.set_cons_zero]
          refine wpPi_act (by rw [hops.out]; simp only [List.getElem?_toArray, List.getElem?_cons_succ, List.getElem?_cons_zero]; rfl) (by first | rfl | (rw [hops.out]; rfl)) ?_
          go_simp
          refine (pall_any (w1.heap.size + 1) v4 xs w5 HQ6.out (by omega)).mono ?_
          rintro e w6 ⟨v6, rfl, hown6, hbl6⟩
          have hs6 := (HB.of_own hown6).string (P := Try.prog) 29 9 5 Try.underlying29 Try.underlying5 Try.underlying9
          have HB6 := Lib.hid (HB5.out.trans (hbl6.mono HB5.out.size))
          clear hown6 hbl6
          refine ⟨HB6.out, ?_⟩
          refine wpPi_act (by rw [hops.out]; simp only [List.getElem?_toArray, List.getElem?_cons_succ, List.getElem?_cons_zero]; rfl) (by first | rfl | (rw [hops.out]; rfl)) ?_
          go_simp
          refine ⟨HB6.out, ?_⟩
          iterate 3
            refine wpPi_yield _ (by rw [hops.out]; simp only [List.getElem?_toArray, List.getElem?_cons_succ, List.getElem?_cons_zero]; rfl) (by first | rfl | (rw [hops.out]; rfl)) (fun w' hS => by go_simp; rfl) ?_
            simp only [Act.put, List.setIfInBounds_toArray, List.set_cons_succ, List.set_cons_zero]
          simp only [wpPi]
          go_wp2_with fail
          go_ret
          exact ⟨ret_bool (by simp), HB6.out⟩
    · go_enter Try.func6, Try.ntmps6
      go_wp2_with (go_at_call 23; refine (alive1_any _).mono ?_; rintro e w1 ⟨rfl, hb1⟩)
      go_ret
      exact ⟨rfl, hb1⟩
  · go_enter Try.func6, Try.ntmps6
    go_wp2_with (go_at_call 23; refine (alive1_any _).mono ?_; rintro e w1 ⟨rfl, hb1⟩)
    go_ret
    exact ⟨rfl, hb1⟩
end
end Go.Proofs.Ytkibccmfgndfjaa
