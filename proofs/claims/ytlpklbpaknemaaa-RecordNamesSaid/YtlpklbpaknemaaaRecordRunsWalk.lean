/- Contracts and words that the laws stand on (RecordRunsWalk). -/
import Derived.Test.YtlpklbpaknemaaaRecordBackWalk
import Derived.Test.YtlpklbpaknemaaaRecL
set_option linter.unusedVariables false
set_option linter.unusedSimpArgs false
namespace Go.Proofs.Ytlpklbpaknemaaa
section
open Go Go.RowKit Go.Proofs
attribute [local irreducible] Calls

theorem own_set {w : World} {base g n cap : Nat} {xs : List UInt8} (h : w.ownsRow base 5 1 (.slice (some ⟨g, 0, none⟩) n cap) n (bs xs)) (j : Nat) (hj : j < n) (y : UInt8) :
    (w.setCell ⟨g, j, none⟩ (.int .u8 (y.toNat : Int))).ownsRow base 5 1 (.slice (some ⟨g, 0, none⟩) n cap) n (bs (xs.set j y)) ∧ base ≤ g ∧ w.frozen? ⟨g, j, none⟩ = false := by
  obtain ⟨h1, h2⟩ := h
  rcases h2 with ⟨e, hn⟩ | ⟨g', cap', cur, e, hb, hg, hnc, hm, hz, ht⟩
  · omega
  · injection e with e1 e2 e3
    injection e1 with e1
    injection e1 with e1
    subst e1 e3
    refine ⟨⟨by simp [bs] at h1 ⊢; exact h1, .inr ⟨g, cap, cur.setIfInBounds j (.int .u8 (y.toNat : Int)), rfl, hb, heap_setCell_same w g j cur 5 _ hg, hnc, hm, by simpa using hz, ?_⟩⟩, hb, frozen_of_row w g j cur 5 hg⟩
    simp only [Nat.mul_one] at ht ⊢
    rw [Array.toList_setIfInBounds, List.take_set, ht]
    simp [bs, List.map_set]
theorem St.setRow {w W : World} {L : List Res} {Fs : List (World → Prop)} (h : St w W L Fs) (i : Nat) {g n c : Nat} {T : List UInt8} (hi : L[i]? = some (Row (.slice (some ⟨g, 0, none⟩) n c) 5 1 n (bs T))) {j : Nat} (hj : j < n) (y : UInt8) : St w (W.setCell ⟨g, j, none⟩ (.int .u8 (y.toNat : Int))) (L.set i (Row (.slice (some ⟨g, 0, none⟩) n c) 5 1 n (bs (T.set j y)))) Fs := by
  have ho := (own_set (h.res hi) j hj y).1
  refine h.upd hi ((Chg.refl _ _).setCell (.inl (by simp [Row, Value.ownBlock])) _) ho (fun k hk => ?_)
  have hk' : k = g := by simpa [Row, Value.ownBlock] using hk
  exact ⟨.inl (by simpa [Row, Value.ownBlock] using hk), (ho.lt k (by rw [hk']; rfl)).2⟩
theorem row_cell {W : World} {B g n c j : Nat} {T : List UInt8} {x : UInt8} (h : W.ownsRow B 5 1 (.slice (some ⟨g, 0, none⟩) n c) n (bs T)) (hx : T[j]? = some x) : W.cell? ⟨g, j, none⟩ = some (.int .u8 (x.toNat : Int)) := by
  have h1 := h.cells rfl j (.int .u8 (x.toNat : Int)) (by simp [bs, hx])
  rwa [show (⟨g, 0, none⟩ : Addr).add j = ⟨g, j, none⟩ by simp [Addr.add]; intro h; exact h.symm] at h1
theorem hb_row {W : World} {B n : Nat} {v : Value} {T : List UInt8} (h : W.ownsRow B 5 1 v n (bs T)) (hn : T.length = n) : HB W v T := by subst hn; exact HB.of_own h
/-- What is turned by now. -/
def Turned (S T : List UInt8) (a k : Nat) (fi : Int) : Prop := T.length = S.length ∧ (∀ q, q < a ∨ a + k ≤ q → T[q]? = S[q]?) ∧ ((fi = -1 ∧ T = S) ∨ ∃ f : Nat, fi = (f : Int) ∧ f < a + k ∧ T[f]? ≠ S[f]? ∧ ∀ q, q < f → T[q]? = S[q]?)
theorem Turned.skip {S T : List UInt8} {a k : Nat} {fi : Int} (h : Turned S T a k fi) : Turned S T a (k + 1) fi := by
  obtain ⟨h1, h2, h3⟩ := h
  refine ⟨h1, fun q hq => h2 q (by omega), ?_⟩
  rcases h3 with h3 | ⟨f, e, h4, h5⟩
  · exact .inl h3
  · exact .inr ⟨f, e, by omega, h5⟩
theorem Turned.turn {S T : List UInt8} {a k : Nat} {fi : Int} (h : Turned S T a k fi) {y : UInt8} (hl : a + k < S.length) (hy : ∀ x, T[a + k]? = some x → y ≠ x) : Turned S (T.set (a + k) y) a (k + 1) (if fi < 0 then ((a + k : Nat) : Int) else fi) := by
  obtain ⟨h1, h2, h3⟩ := h
  have hd : (T.set (a + k) y)[a + k]? ≠ S[a + k]? := by
    rw [← h2 (a + k) (.inr (Nat.le_refl _)), List.getElem?_set_self (by omega)]
    intro e
    exact hy y e.symm rfl
  refine ⟨by rw [List.length_set]; exact h1, fun q hq => ?_, .inr ?_⟩
  · rw [List.getElem?_set_ne (by omega)]
    exact h2 q (by omega)
  · rcases h3 with ⟨e, h3⟩ | ⟨f, e, h4, h5, h6⟩
    · refine ⟨a + k, by rw [e]; rfl, by omega, hd, fun q hq => ?_⟩
      rw [List.getElem?_set_ne (by omega), h3]
    · refine ⟨f, by rw [if_neg (by omega)]; exact e, by omega, ?_, fun q hq => ?_⟩
      · rw [List.getElem?_set_ne (by omega)]; exact h5
      · rw [List.getElem?_set_ne (by omega)]; exact h6 q hq
set_option maxHeartbeats 8000000 in
set_option maxRecDepth 100000 in
theorem recordRuns_walk (u : Value) (l : List (Int × List UInt8)) (n t : Nat) (w : World) (hu : RS w u l) (hn : n < 65536) (ht : t < 4294967296) :
    Calls Try.prog 8 #[u, .int .u16 (n : Int), .int .u32 (t : Int)] w fun e w' => e = .returned (.bool true) ∧ Below w.heap.size w w' := by
  have HU := Lib.hid hu
  obtain ⟨A, c, rfl, hlc⟩ := hu.shape
  clear hu
  cases hg1 : grt l with
  | false =>
    have G1 := Lib.hid (show grtI l = 1 by unfold grtI; rw [hg1]; rfl)
    clear hg1
    go_enter Try.func8, Try.ntmps8
    go_wp2_with (first
      | (go_at_call 25; refine (alive25 _).mono ?_; rintro e W0 ⟨rfl, hb⟩; have HB0 := Lib.hid hb; have HU0 := Lib.hid (HU.out.below hb); clear hb)
      | (go_at_call 18; refine (great18 _ l _ HU0.out).mono ?_; rintro e Wn ⟨rfl, rfl⟩; rw [G1.out]))
    go_ret
    exact ⟨rfl, HB0.out⟩
  | true =>
    have G1 := Lib.hid (show grtI l = 0 by unfold grtI; rw [hg1]; rfl)
    obtain ⟨hl, hlp⟩ := grt_true hg1
    clear hg1
    cases hok : okL l with
    | false =>
      have ENE := Lib.hid (show encE l = 160 by unfold encE; rw [hok]; rfl)
      have ENO := Lib.hid (show encO l = [] by unfold encO; rw [hok]; rfl)
      clear hok hlp
      go_enter Try.func8, Try.ntmps8
      go_wp2_with (first
        | (go_at_call 25; refine (alive25 _).mono ?_; rintro e W0 ⟨rfl, hb⟩; have HB0 := Lib.hid hb; have HU0 := Lib.hid (HU.out.below hb); clear hb)
        | (go_at_call 18; refine (great18 _ l _ HU0.out).mono ?_; rintro e Wn ⟨rfl, rfl⟩; rw [G1.out])
        | (go_at_call 20; refine (enc20 _ l _ HU0.out (by omega)).mono ?_; rw [ENE.out, ENO.out]; rintro e Wn ⟨v8, rfl, hb⟩; have hS := ((St.start _).addF HU0.out.away0).take hb; clear hb; obtain ⟨A8, c8, rfl⟩ := Row.sl (hS.res (i := 0) rfl); have HC8 := Lib.hid (Row.hb (hS.res (i := 0) rfl)).cap; have HS := Lib.hid hS; clear hS))
      go_ret
      exact ⟨rfl, HB0.out.trans (HS.out.below.mono HB0.out.size)⟩
    | true =>
      have hlen := encO_len hlp
      have ENE := Lib.hid (show encE l = 0 by unfold encE; rw [hok]; rfl)
      have heo : encO l = encL l := by unfold encO; rw [hok]; rfl
      rw [heo] at hlen
      have hlen2 : (encL l).length ≤ 100000 := by
        have : l.length * (500 + 13) ≤ 60 * (500 + 13) := Nat.mul_le_mul_right _ hl
        omega
      obtain ⟨S, hS0⟩ : ∃ S, encL l = S := ⟨_, rfl⟩
      rw [hS0] at heo hlen2
      have ENO := Lib.hid heo
      have HLP := Lib.hid hlp; have HOK := Lib.hid hok; have HSL := Lib.hid hS0
      clear hlp hok hS0 hlen heo
      by_cases hz : S.length = 0
      · have z0 : (S.length : Int) = 0 := by omega
        go_enter Try.func8, Try.ntmps8
        go_wp2_with (first
          | (go_at_call 25; refine (alive25 _).mono ?_; rintro e W0 ⟨rfl, hb⟩; have HB0 := Lib.hid hb; have HU0 := Lib.hid (HU.out.below hb); clear hb)
          | (go_at_call 18; refine (great18 _ l _ HU0.out).mono ?_; rintro e Wn ⟨rfl, rfl⟩; rw [G1.out])
          | (go_at_call 20; refine (enc20 _ l _ HU0.out (by omega)).mono ?_; rw [ENE.out, ENO.out]; rintro e Wn ⟨v8, rfl, hb⟩; have hS := ((St.start _).addF HU0.out.away0).take hb; clear hb; obtain ⟨A8, c8, rfl⟩ := Row.sl (hS.res (i := 0) rfl); have HC8 := Lib.hid (Row.hb (hS.res (i := 0) rfl)).cap; have HS := Lib.hid hS; clear hS))
        go_ret
        exact ⟨rfl, HB0.out.trans (HS.out.below.mono HB0.out.size)⟩
      · have z0 : ¬ (S.length : Int) = 0 := by omega
        have z0b : ((S.length : Int) == 0) = false := beq_eq_false_iff_ne.2 z0
        obtain ⟨a, ha⟩ : ∃ a, n % S.length = a := ⟨_, rfl⟩
        have hal : a < S.length := by have := Nat.mod_lt n (show 0 < S.length by omega); omega
        have htm : (n : Int).tmod (S.length : Int) = (a : Int) := by
          rw [Int.tmod_eq_emod_of_nonneg (by omega), ← ha]; rfl
        go_enter Try.func8, Try.ntmps8
        go_wp2_with (first
          | (go_at_call 25; refine (alive25 _).mono ?_; rintro e W0 ⟨rfl, hb⟩; have HB0 := Lib.hid hb; have HU0 := Lib.hid (HU.out.below hb); clear hb)
          | (go_at_call 18; refine (great18 _ l _ HU0.out).mono ?_; rintro e Wn ⟨rfl, rfl⟩; rw [G1.out])
          | (go_at_call 20; refine (enc20 _ l _ HU0.out (by omega)).mono ?_; rw [ENE.out, ENO.out]; rintro e Wn ⟨v8, rfl, hb⟩; have hS := ((St.start _).addF HU0.out.away0).take hb; clear hb; obtain ⟨A8, c8, rfl⟩ := Row.sl (hS.res (i := 0) rfl); have HC8 := Lib.hid (Row.hb (hS.res (i := 0) rfl)).cap; have HS := Lib.hid hS; clear hS))
        obtain ⟨g, hg⟩ : ∃ g, A8 = some ⟨g, 0, none⟩ := by
          rcases (HS.out.res (i := 0) rfl).2 with ⟨e, h0⟩ | ⟨g, cap, cur, e, _⟩
          · omega
          · injection e with e _ _; exact ⟨g, e⟩
        subst hg
        go_loopw [10, 11] (fun s10 s11 wr => ∃ (k : Nat) (T : List UInt8) (fi : Int), k ≤ 4 ∧ s11 = .int .i64 (k : Int) ∧ s10 = .int .i64 fi ∧ Turned S T a k fi ∧ St W0 wr [Row (.slice (some ⟨g, 0, none⟩) S.length c8) 5 1 S.length (bs T)] [fun W => RS W (.slice A l.length c) l]) (fun _ s11 _ => 4 - (intOf s11).toNat)
        case atStart => exact ⟨0, S, -1, by omega, rfl, rfl, ⟨rfl, fun _ _ => rfl, .inl ⟨rfl, rfl⟩⟩, HS.out⟩
        case round =>
          obtain ⟨k, T, fi, hk, rfl, rfl, htu, hs⟩ := hrel
          clear HS
          have HTU := Lib.hid htu; have HS := Lib.hid hs
          clear htu hs
          by_cases hk4 : k < 4
          · have j4 : (k : Int) < 4 := by omega
            have hkc : k = 0 ∨ k = 1 ∨ k = 2 ∨ k = 3 := by omega
            rcases hkc with rfl | rfl | rfl | rfl
            all_goals clear hk hk4 j4
            · have hsk : Turned S T a (0 + 1) fi := HTU.out.skip
              by_cases hin : a + 0 < S.length
              · have i1 : (a : Int) < (S.length : Int) := by omega
                obtain ⟨B, hB⟩ : ∃ B, t % 256 = B := ⟨_, rfl⟩
                have hbv : (t : Int) % 256 = (B : Int) := by omega
                have hB256 : B < 256 := by omega
                clear hB
                by_cases hB0 : B = 0
                · subst hB0
                  have hsk2 := Lib.hid hsk
                  clear hsk
                  go_wp2_with fail
                  exact ⟨⟨0 + 1, T, fi, by omega, by push_cast; rfl, rfl, hsk2.out, HS.out⟩, by simp [intOf]⟩
                · have b0 : ¬ (B : Int) = 0 := by omega
                  have hTl : a + 0 < T.length := by rw [HTU.out.1]; exact hin
                  have hx : T[a + 0]? = some T[a + 0] := List.getElem?_eq_getElem hTl
                  generalize T[a + 0] = x at *
                  have hxor : bits BinOp.xor IntKind.u8 (x.toNat : Int) (B : Int) = ((x ^^^ UInt8.ofNat B).toNat : Int) := by
                    rw [u8_xor_nat _ _ x.toNat_lt hB256, UInt8.toNat_xor, UInt8.toNat_ofNat_of_lt' (by simpa using hB256)]
                  have hyx : ∀ z, T[a + 0]? = some z → x ^^^ UInt8.ofNat B ≠ z := fun z hz e => by
                    rw [hx] at hz
                    injection hz with hz
                    subst hz
                    have h1 := congrArg UInt8.toNat e
                    rw [UInt8.toNat_xor, UInt8.toNat_ofNat_of_lt' (by simpa using hB256)] at h1
                    have h2 := congrArg (x.toNat ^^^ ·) h1
                    simp only [← Nat.xor_assoc, Nat.xor_self, Nat.zero_xor] at h2
                    exact hB0 h2
                  generalize x ^^^ UInt8.ofNat B = y at *
                  have htn := Lib.hid (HTU.out.turn hin hyx)
                  have hcell : wr.cell? ⟨g, a + 0, none⟩ = some (.int .u8 (x.toNat : Int)) := row_cell (HS.out.res (i := 0) rfl) hx
                  have HC := Lib.hid hcell; have HF := Lib.hid (own_set (HS.out.res (i := 0) rfl) (a + 0) hin y).2.2
                  have HX := Lib.hid hx
                  clear hcell hx hyx hsk hTl
                  by_cases hfi : fi < 0
                  · have htn2 := htn.out
                    rw [if_pos hfi] at htn2
                    have HT2 := Lib.hid htn2
                    clear htn2 htn
                    go_wp2_with (first
                      | (refine wl (by rfl) (wp_of_run (run_ld (by kernel_rfl) (by rfl) (by rfl) HC.out) ?_))
                      | (refine wl (by rfl) (wp_of_skip (run_stc (v := .int .u8 (y.toNat : Int)) (by kernel_rfl) (by rfl) (by rfl) (by first | rfl | exact congrArg (Value.int .u8) hxor) (by rfl) HC.out HF.out) ?_); have hS := HS.out.setRow 0 rfl hin y; clear HS; have HS := Lib.hid hS; clear hS))
                    exact ⟨⟨0 + 1, T.set (a + 0) y, ((a + 0 : Nat) : Int), by omega, by push_cast; rfl, by push_cast; rfl, HT2.out, HS.out⟩, by simp [intOf]⟩
                  · have htn2 := htn.out
                    rw [if_neg hfi] at htn2
                    have HT2 := Lib.hid htn2
                    clear htn2 htn
                    go_wp2_with (first
                      | (refine wl (by rfl) (wp_of_run (run_ld (by kernel_rfl) (by rfl) (by rfl) HC.out) ?_))
                      | (refine wl (by rfl) (wp_of_skip (run_stc (v := .int .u8 (y.toNat : Int)) (by kernel_rfl) (by rfl) (by rfl) (by first | rfl | exact congrArg (Value.int .u8) hxor) (by rfl) HC.out HF.out) ?_); have hS := HS.out.setRow 0 rfl hin y; clear HS; have HS := Lib.hid hS; clear hS))
                    exact ⟨⟨0 + 1, T.set (a + 0) y, fi, by omega, by push_cast; rfl, rfl, HT2.out, HS.out⟩, by simp [intOf]⟩
              · have i1 : ¬ (a : Int) < (S.length : Int) := by omega
                have hsk2 := Lib.hid hsk
                clear hsk
                go_wp2_with fail
                exact ⟨⟨0 + 1, T, fi, by omega, by push_cast; rfl, rfl, hsk2.out, HS.out⟩, by simp [intOf]⟩
            · have hsk : Turned S T a (1 + 1) fi := HTU.out.skip
              by_cases hin : a + 1 < S.length
              · have i1 : (a : Int) + 1 < (S.length : Int) := by omega
                obtain ⟨B, hB⟩ : ∃ B, t / 256 % 256 = B := ⟨_, rfl⟩
                have hbv : (t : Int) / 256 % 256 = (B : Int) := by omega
                have hB256 : B < 256 := by omega
                clear hB
                by_cases hB0 : B = 0
                · subst hB0
                  have hsk2 := Lib.hid hsk
                  clear hsk
                  go_wp2_with fail
                  exact ⟨⟨1 + 1, T, fi, by omega, by push_cast; rfl, rfl, hsk2.out, HS.out⟩, by simp [intOf]⟩
                · have b0 : ¬ (B : Int) = 0 := by omega
                  have hTl : a + 1 < T.length := by rw [HTU.out.1]; exact hin
                  have hx : T[a + 1]? = some T[a + 1] := List.getElem?_eq_getElem hTl
                  generalize T[a + 1] = x at *
                  have hxor : bits BinOp.xor IntKind.u8 (x.toNat : Int) (B : Int) = ((x ^^^ UInt8.ofNat B).toNat : Int) := by
                    rw [u8_xor_nat _ _ x.toNat_lt hB256, UInt8.toNat_xor, UInt8.toNat_ofNat_of_lt' (by simpa using hB256)]
                  have hyx : ∀ z, T[a + 1]? = some z → x ^^^ UInt8.ofNat B ≠ z := fun z hz e => by
                    rw [hx] at hz
                    injection hz with hz
                    subst hz
                    have h1 := congrArg UInt8.toNat e
                    rw [UInt8.toNat_xor, UInt8.toNat_ofNat_of_lt' (by simpa using hB256)] at h1
                    have h2 := congrArg (x.toNat ^^^ ·) h1
                    simp only [← Nat.xor_assoc, Nat.xor_self, Nat.zero_xor] at h2
                    exact hB0 h2
                  generalize x ^^^ UInt8.ofNat B = y at *
                  have htn := Lib.hid (HTU.out.turn hin hyx)
                  have hcell : wr.cell? ⟨g, a + 1, none⟩ = some (.int .u8 (x.toNat : Int)) := row_cell (HS.out.res (i := 0) rfl) hx
                  have HC := Lib.hid hcell; have HF := Lib.hid (own_set (HS.out.res (i := 0) rfl) (a + 1) hin y).2.2
                  have HX := Lib.hid hx
                  clear hcell hx hyx hsk hTl
                  by_cases hfi : fi < 0
                  · have htn2 := htn.out
                    rw [if_pos hfi] at htn2
                    have HT2 := Lib.hid htn2
                    clear htn2 htn
                    go_wp2_with (first
                      | (refine wl (by rfl) (wp_of_run (run_ld (by kernel_rfl) (by rfl) (by rfl) HC.out) ?_))
                      | (refine wl (by rfl) (wp_of_skip (run_stc (v := .int .u8 (y.toNat : Int)) (by kernel_rfl) (by rfl) (by rfl) (by first | rfl | exact congrArg (Value.int .u8) hxor) (by rfl) HC.out HF.out) ?_); have hS := HS.out.setRow 0 rfl hin y; clear HS; have HS := Lib.hid hS; clear hS))
                    exact ⟨⟨1 + 1, T.set (a + 1) y, ((a + 1 : Nat) : Int), by omega, by push_cast; rfl, by push_cast; rfl, HT2.out, HS.out⟩, by simp [intOf]⟩
                  · have htn2 := htn.out
                    rw [if_neg hfi] at htn2
                    have HT2 := Lib.hid htn2
                    clear htn2 htn
                    go_wp2_with (first
                      | (refine wl (by rfl) (wp_of_run (run_ld (by kernel_rfl) (by rfl) (by rfl) HC.out) ?_))
                      | (refine wl (by rfl) (wp_of_skip (run_stc (v := .int .u8 (y.toNat : Int)) (by kernel_rfl) (by rfl) (by rfl) (by first | rfl | exact congrArg (Value.int .u8) hxor) (by rfl) HC.out HF.out) ?_); have hS := HS.out.setRow 0 rfl hin y; clear HS; have HS := Lib.hid hS; clear hS))
                    exact ⟨⟨1 + 1, T.set (a + 1) y, fi, by omega, by push_cast; rfl, rfl, HT2.out, HS.out⟩, by simp [intOf]⟩
              · have i1 : ¬ (a : Int) + 1 < (S.length : Int) := by omega
                have hsk2 := Lib.hid hsk
                clear hsk
                go_wp2_with fail
                exact ⟨⟨1 + 1, T, fi, by omega, by push_cast; rfl, rfl, hsk2.out, HS.out⟩, by simp [intOf]⟩
            · have hsk : Turned S T a (2 + 1) fi := HTU.out.skip
              by_cases hin : a + 2 < S.length
              · have i1 : (a : Int) + 2 < (S.length : Int) := by omega
                obtain ⟨B, hB⟩ : ∃ B, t / 65536 % 256 = B := ⟨_, rfl⟩
                have hbv : (t : Int) / 65536 % 256 = (B : Int) := by omega
                have hB256 : B < 256 := by omega
                clear hB
                by_cases hB0 : B = 0
                · subst hB0
                  have hsk2 := Lib.hid hsk
                  clear hsk
                  go_wp2_with fail
                  exact ⟨⟨2 + 1, T, fi, by omega, by push_cast; rfl, rfl, hsk2.out, HS.out⟩, by simp [intOf]⟩
                · have b0 : ¬ (B : Int) = 0 := by omega
                  have hTl : a + 2 < T.length := by rw [HTU.out.1]; exact hin
                  have hx : T[a + 2]? = some T[a + 2] := List.getElem?_eq_getElem hTl
                  generalize T[a + 2] = x at *
                  have hxor : bits BinOp.xor IntKind.u8 (x.toNat : Int) (B : Int) = ((x ^^^ UInt8.ofNat B).toNat : Int) := by
                    rw [u8_xor_nat _ _ x.toNat_lt hB256, UInt8.toNat_xor, UInt8.toNat_ofNat_of_lt' (by simpa using hB256)]
                  have hyx : ∀ z, T[a + 2]? = some z → x ^^^ UInt8.ofNat B ≠ z := fun z hz e => by
                    rw [hx] at hz
                    injection hz with hz
                    subst hz
                    have h1 := congrArg UInt8.toNat e
                    rw [UInt8.toNat_xor, UInt8.toNat_ofNat_of_lt' (by simpa using hB256)] at h1
                    have h2 := congrArg (x.toNat ^^^ ·) h1
                    simp only [← Nat.xor_assoc, Nat.xor_self, Nat.zero_xor] at h2
                    exact hB0 h2
                  generalize x ^^^ UInt8.ofNat B = y at *
                  have htn := Lib.hid (HTU.out.turn hin hyx)
                  have hcell : wr.cell? ⟨g, a + 2, none⟩ = some (.int .u8 (x.toNat : Int)) := row_cell (HS.out.res (i := 0) rfl) hx
                  have HC := Lib.hid hcell; have HF := Lib.hid (own_set (HS.out.res (i := 0) rfl) (a + 2) hin y).2.2
                  have HX := Lib.hid hx
                  clear hcell hx hyx hsk hTl
                  by_cases hfi : fi < 0
                  · have htn2 := htn.out
                    rw [if_pos hfi] at htn2
                    have HT2 := Lib.hid htn2
                    clear htn2 htn
                    go_wp2_with (first
                      | (refine wl (by rfl) (wp_of_run (run_ld (by kernel_rfl) (by rfl) (by rfl) HC.out) ?_))
                      | (refine wl (by rfl) (wp_of_skip (run_stc (v := .int .u8 (y.toNat : Int)) (by kernel_rfl) (by rfl) (by rfl) (by first | rfl | exact congrArg (Value.int .u8) hxor) (by rfl) HC.out HF.out) ?_); have hS := HS.out.setRow 0 rfl hin y; clear HS; have HS := Lib.hid hS; clear hS))
                    exact ⟨⟨2 + 1, T.set (a + 2) y, ((a + 2 : Nat) : Int), by omega, by push_cast; rfl, by push_cast; rfl, HT2.out, HS.out⟩, by simp [intOf]⟩
                  · have htn2 := htn.out
                    rw [if_neg hfi] at htn2
                    have HT2 := Lib.hid htn2
                    clear htn2 htn
                    go_wp2_with (first
                      | (refine wl (by rfl) (wp_of_run (run_ld (by kernel_rfl) (by rfl) (by rfl) HC.out) ?_))
                      | (refine wl (by rfl) (wp_of_skip (run_stc (v := .int .u8 (y.toNat : Int)) (by kernel_rfl) (by rfl) (by rfl) (by first | rfl | exact congrArg (Value.int .u8) hxor) (by rfl) HC.out HF.out) ?_); have hS := HS.out.setRow 0 rfl hin y; clear HS; have HS := Lib.hid hS; clear hS))
                    exact ⟨⟨2 + 1, T.set (a + 2) y, fi, by omega, by push_cast; rfl, rfl, HT2.out, HS.out⟩, by simp [intOf]⟩
              · have i1 : ¬ (a : Int) + 2 < (S.length : Int) := by omega
                have hsk2 := Lib.hid hsk
                clear hsk
                go_wp2_with fail
                exact ⟨⟨2 + 1, T, fi, by omega, by push_cast; rfl, rfl, hsk2.out, HS.out⟩, by simp [intOf]⟩
            · have hsk : Turned S T a (3 + 1) fi := HTU.out.skip
              by_cases hin : a + 3 < S.length
              · have i1 : (a : Int) + 3 < (S.length : Int) := by omega
                obtain ⟨B, hB⟩ : ∃ B, t / 16777216 = B := ⟨_, rfl⟩
                have hbv : (t : Int) / 16777216 = (B : Int) := by omega
                have hB256 : B < 256 := by omega
                clear hB
                by_cases hB0 : B = 0
                · subst hB0
                  have hsk2 := Lib.hid hsk
                  clear hsk
                  go_wp2_with fail
                  exact ⟨⟨3 + 1, T, fi, by omega, by push_cast; rfl, rfl, hsk2.out, HS.out⟩, by simp [intOf]⟩
                · have b0 : ¬ (B : Int) = 0 := by omega
                  have hTl : a + 3 < T.length := by rw [HTU.out.1]; exact hin
                  have hx : T[a + 3]? = some T[a + 3] := List.getElem?_eq_getElem hTl
                  generalize T[a + 3] = x at *
                  have hxor : bits BinOp.xor IntKind.u8 (x.toNat : Int) (B : Int) = ((x ^^^ UInt8.ofNat B).toNat : Int) := by
                    rw [u8_xor_nat _ _ x.toNat_lt hB256, UInt8.toNat_xor, UInt8.toNat_ofNat_of_lt' (by simpa using hB256)]
                  have hyx : ∀ z, T[a + 3]? = some z → x ^^^ UInt8.ofNat B ≠ z := fun z hz e => by
                    rw [hx] at hz
                    injection hz with hz
                    subst hz
                    have h1 := congrArg UInt8.toNat e
                    rw [UInt8.toNat_xor, UInt8.toNat_ofNat_of_lt' (by simpa using hB256)] at h1
                    have h2 := congrArg (x.toNat ^^^ ·) h1
                    simp only [← Nat.xor_assoc, Nat.xor_self, Nat.zero_xor] at h2
                    exact hB0 h2
                  generalize x ^^^ UInt8.ofNat B = y at *
                  have htn := Lib.hid (HTU.out.turn hin hyx)
                  have hcell : wr.cell? ⟨g, a + 3, none⟩ = some (.int .u8 (x.toNat : Int)) := row_cell (HS.out.res (i := 0) rfl) hx
                  have HC := Lib.hid hcell; have HF := Lib.hid (own_set (HS.out.res (i := 0) rfl) (a + 3) hin y).2.2
                  have HX := Lib.hid hx
                  clear hcell hx hyx hsk hTl
                  by_cases hfi : fi < 0
                  · have htn2 := htn.out
                    rw [if_pos hfi] at htn2
                    have HT2 := Lib.hid htn2
                    clear htn2 htn
                    go_wp2_with (first
                      | (refine wl (by rfl) (wp_of_run (run_ld (by kernel_rfl) (by rfl) (by rfl) HC.out) ?_))
                      | (refine wl (by rfl) (wp_of_skip (run_stc (v := .int .u8 (y.toNat : Int)) (by kernel_rfl) (by rfl) (by rfl) (by first | rfl | exact congrArg (Value.int .u8) hxor) (by rfl) HC.out HF.out) ?_); have hS := HS.out.setRow 0 rfl hin y; clear HS; have HS := Lib.hid hS; clear hS))
                    exact ⟨⟨3 + 1, T.set (a + 3) y, ((a + 3 : Nat) : Int), by omega, by push_cast; rfl, by push_cast; rfl, HT2.out, HS.out⟩, by simp [intOf]⟩
                  · have htn2 := htn.out
                    rw [if_neg hfi] at htn2
                    have HT2 := Lib.hid htn2
                    clear htn2 htn
                    go_wp2_with (first
                      | (refine wl (by rfl) (wp_of_run (run_ld (by kernel_rfl) (by rfl) (by rfl) HC.out) ?_))
                      | (refine wl (by rfl) (wp_of_skip (run_stc (v := .int .u8 (y.toNat : Int)) (by kernel_rfl) (by rfl) (by rfl) (by first | rfl | exact congrArg (Value.int .u8) hxor) (by rfl) HC.out HF.out) ?_); have hS := HS.out.setRow 0 rfl hin y; clear HS; have HS := Lib.hid hS; clear hS))
                    exact ⟨⟨3 + 1, T.set (a + 3) y, fi, by omega, by push_cast; rfl, rfl, HT2.out, HS.out⟩, by simp [intOf]⟩
              · have i1 : ¬ (a : Int) + 3 < (S.length : Int) := by omega
                have hsk2 := Lib.hid hsk
                clear hsk
                go_wp2_with fail
                exact ⟨⟨3 + 1, T, fi, by omega, by push_cast; rfl, rfl, hsk2.out, HS.out⟩, by simp [intOf]⟩
          · have hk : k = 4 := by omega
            subst hk
            obtain ⟨htl, htn, hcase⟩ := HTU.out
            have hwb := HS.out
            have hnear : Near a (encL l) T := ⟨by rw [HSL.out]; exact htl.symm, fun q hq => by rw [HSL.out]; exact htn q hq⟩
            clear htn HTU
            have hT2 : T.length ≤ 100000 := by omega
            rcases hcase with ⟨rfl, rfl⟩ | ⟨f, rfl, hfa, hfd, hfs⟩
            · have hA2 : ∀ v W, HB W v T → Calls Try.prog 14 #[v, .int .i64 0] W fun e w' => ∃ A c, e = .returned (.tuple #[.slice A l.length c, .int .i64 (T.length : Int)]) ∧ Below W.heap.size W w' ∧ RS w' (.slice A l.length c) (l.take l.length) := fun v W hW => by
                have hd : decR T ((([] : List UInt8).length + (encL l).length : Nat) : Int) = none := decR_far (.inr (.inr (by rw [HSL.out]; simp)))
                have := all14_enc v [] [] l T W hW (by rw [HSL.out]; simp) HOK.out hd (by omega)
                rw [HSL.out, List.length_nil, Nat.zero_add] at this
                rw [List.take_length]
                exact this
              obtain ⟨i, hi⟩ : ∃ i, i = l.length := ⟨_, rfl⟩
              have hs1 : i ≤ l.length := by omega
              obtain ⟨N, hN⟩ : ∃ N, (encL (l.take i)).length = N := ⟨_, rfl⟩
              have hNT : T.length = N := by rw [← hN, hi, List.take_length, HSL.out]
              have hNb : N ≤ 100000 := by omega
              rw [hNT, ← hi] at hA2
              have HA2 := Lib.hid hA2
              have HN := Lib.hid hN
              have HI := Lib.hid hi
              clear hA2 hN hnear hi hNT
              have HRk := Lib.hid (HS.out.fact (i := 0) rfl : RS wr (.slice A l.length c) l)
              go_wp2_with fail
              go_loopw [14, 15] (fun s14 s15 wq => ∃ j : Nat, j ≤ i ∧ s14 = .int .i64 (j : Int) ∧ s15 = .int .i64 (((encL (l.take j)).length : Nat) : Int) ∧ wq = wr) (fun s14 _ _ => l.length - (intOf s14).toNat)
              case atStart => exact ⟨0, by omega, rfl, by simp [encL], rfl⟩
              case round =>
                obtain ⟨j, hj, rfl, rfl, rfl⟩ := hrel
                obtain ⟨M, hM⟩ : ∃ M, (encL (l.take j)).length = M := ⟨_, rfl⟩
                by_cases hji : j < i
                · have hlt : j < l.length := by omega
                  obtain ⟨bb, o, pv, rfl, _, c2, hbp⟩ := HRk.out.get hlt
                  have hli : l[j]? = some l[j] := List.getElem?_eq_getElem hlt
                  generalize l[j] = x at *
                  obtain ⟨k, p⟩ := x
                  dsimp only at c2 hbp
                  obtain ⟨Ap, cp, rfl, _⟩ := hbp.shape
                  have C2 := Lib.hid c2
                  have hnext := encL_next l hli
                  have hm1 := encL_mono l (show j + 1 ≤ i by omega)
                  rw [HN.out, hnext, hM] at hm1
                  have j1 : (j : Int) < (l.length : Int) := by omega
                  dsimp only at hm1 hnext
                  clear c2 hbp hli
                  rw [hM]
                  go_wp2_with (first
                    | (refine wl (by rfl) (wp_of_run (run_ld (by kernel_rfl) (by rfl) (by rfl) C2.out) ?_)))
                  exact ⟨⟨j + 1, by omega, by push_cast; rfl, by rw [hnext, hM]; push_cast; rfl, by trivial⟩, by simp [intOf]; omega⟩
                · obtain rfl : j = i := by omega
                  have hMN : M = N := by have := HN.out; omega
                  subst hMN
                  rw [hM]
                  have j1 : ¬ (j : Int) < (l.length : Int) := by have := HI.out; omega
                  go_wp2_with (first
                    | (go_at_call 14; refine (HA2.out _ _ (Row.hb (HS.out.res (i := 0) rfl))).mono ?_; rintro e Wn ⟨A16, c16, rfl, hb, hr⟩; have hS := (((HS.out.freeze (i := 0) rfl).call hb).addF hr.away0); clear hb hr; clear HS; have HS := Lib.hid hS; clear hS)
                    | (refine atd 119 (by rfl) ?_; refine wl (by rfl) (wp_of_run (run_sl31 j (by rfl) (by rfl) (by rfl) hs1 hlc) ?_))
                    | (go_at_call 22; refine (same22_d _ _ (l.take j) (l.take j) true _ (decide_eq_true rfl) (HS.out.fact (i := 0) rfl) ((HS.out.fact (i := 2) rfl : RS _ (.slice _ l.length c) l).take j hs1) (by rw [List.length_take]; omega) (by rw [List.length_take]; omega)).mono ?_; rintro e Wn ⟨rfl, hb⟩; have hS := HS.out.call hb; clear hb; clear HS; have HS := Lib.hid hS; clear hS))
                  go_ret
                  exact ⟨rfl, HB0.out.trans (HS.out.below.mono HB0.out.size)⟩
            · obtain ⟨i, hstop⟩ := Stop.ex l f
              obtain ⟨post, hp1, hp2⟩ := burst_parts HOK.out hnear (by rw [HSL.out]; exact hfd) (fun q hq => by rw [HSL.out]; exact hfs q hq) hstop
              obtain ⟨hs1, hs2, hs3⟩ := hstop
              have hfl : f < S.length := by
                by_cases h : f < S.length
                · exact h
                · exfalso; exact hfd (by rw [List.getElem?_eq_none (by omega), List.getElem?_eq_none (by omega)])
              have hil : i < l.length := by
                by_cases h : i < l.length
                · exact h
                · exfalso
                  have e : l.take i = l := List.take_of_length_le (by omega)
                  rw [e, HSL.out] at hs2
                  omega
              obtain ⟨N, hN⟩ : ∃ N, (encL (l.take i)).length = N := ⟨_, rfl⟩
              have hA2 : ∀ v W, HB W v T → Calls Try.prog 14 #[v, .int .i64 0] W fun e w' => ∃ A c, e = .returned (.tuple #[.slice A i c, .int .i64 (N : Int)]) ∧ Below W.heap.size W w' ∧ RS w' (.slice A i c) (l.take i) := fun v W hW => by
                have := all14_enc v [] post (l.take i) _ W hW hp1 (okL_take' HOK.out i) hp2 (by omega)
                rw [hN, List.length_take, Nat.min_eq_left hs1, List.length_nil, Nat.zero_add] at this
                exact this
              have HA2 := Lib.hid hA2
              rw [hN] at hs2 hs3
              have HN := Lib.hid hN
              have HS3 := Lib.hid hs3
              clear hA2 hN hnear hp1 hp2 hs3 hfd hfs
              have hf0 : ¬ (f : Int) < 0 := by omega
              have HRk := Lib.hid (HS.out.fact (i := 0) rfl : RS wr (.slice A l.length c) l)
              go_wp2_with fail
              go_loopw [14, 15] (fun s14 s15 wq => ∃ j : Nat, j ≤ i ∧ s14 = .int .i64 (j : Int) ∧ s15 = .int .i64 (((encL (l.take j)).length : Nat) : Int) ∧ wq = wr) (fun s14 _ _ => l.length - (intOf s14).toNat)
              case atStart => exact ⟨0, by omega, rfl, by simp [encL], rfl⟩
              case round =>
                obtain ⟨j, hj, rfl, rfl, rfl⟩ := hrel
                obtain ⟨M, hM⟩ : ∃ M, (encL (l.take j)).length = M := ⟨_, rfl⟩
                by_cases hji : j < i
                · have hlt : j < l.length := by omega
                  obtain ⟨bb, o, pv, rfl, _, c2, hbp⟩ := HRk.out.get hlt
                  have hli : l[j]? = some l[j] := List.getElem?_eq_getElem hlt
                  generalize l[j] = x at *
                  obtain ⟨k, p⟩ := x
                  dsimp only at c2 hbp
                  obtain ⟨Ap, cp, rfl, _⟩ := hbp.shape
                  have C2 := Lib.hid c2
                  have hnext := encL_next l hli
                  have hm1 := encL_mono l (show j + 1 ≤ i by omega)
                  rw [HN.out, hnext, hM] at hm1
                  have j1 : (j : Int) < (l.length : Int) := by omega
                  dsimp only at hm1 hnext
                  clear c2 hbp hli
                  rw [hM]
                  have j3 : (M : Int) + 13 + (p.length : Int) ≤ (f : Int) := by push_cast at hm1; omega
                  go_wp2_with (first
                    | (refine wl (by rfl) (wp_of_run (run_ld (by kernel_rfl) (by rfl) (by rfl) C2.out) ?_)))
                  exact ⟨⟨j + 1, by omega, by push_cast; rfl, by rw [hnext, hM]; push_cast; rfl, by trivial⟩, by simp [intOf]; omega⟩
                · obtain rfl : j = i := by omega
                  have hMN : M = N := by have := HN.out; omega
                  subst hMN
                  rw [hM]
                  obtain ⟨bb, o, pv, rfl, _, c2, hbp⟩ := HRk.out.get hil
                  have hli : l[j]? = some l[j] := List.getElem?_eq_getElem hil
                  generalize l[j] = x at *
                  obtain ⟨k, p⟩ := x
                  dsimp only at c2 hbp
                  obtain ⟨Ap, cp, rfl, _⟩ := hbp.shape
                  have C2 := Lib.hid c2
                  have h3 := HS3.out _ hli
                  have h5 := HLP.out _ (List.mem_of_getElem? hli)
                  dsimp only at h3 h5
                  have j1 : (j : Int) < (l.length : Int) := by omega
                  have j3 : ¬ (M : Int) + 13 + (p.length : Int) ≤ (f : Int) := by omega
                  clear c2 hbp hli
                  go_wp2_with (first
                    | (refine wl (by rfl) (wp_of_run (run_ld (by kernel_rfl) (by rfl) (by rfl) C2.out) ?_))
                    | (go_at_call 14; refine (HA2.out _ _ (hb_row (HS.out.res (i := 0) rfl) htl)).mono ?_; rintro e Wn ⟨A16, c16, rfl, hb, hr⟩; have hS := (((HS.out.freeze (i := 0) rfl).call hb).addF hr.away0); clear hb hr; clear HS; have HS := Lib.hid hS; clear hS)
                    | (refine atd 119 (by rfl) ?_; refine wl (by rfl) (wp_of_run (run_sl31 j (by rfl) (by rfl) (by rfl) hs1 hlc) ?_))
                    | (go_at_call 22; refine (same22_d _ _ (l.take j) (l.take j) true _ (decide_eq_true rfl) (HS.out.fact (i := 0) rfl) ((HS.out.fact (i := 2) rfl : RS _ (.slice _ l.length c) l).take j hs1) (by rw [List.length_take]; omega) (by rw [List.length_take]; omega)).mono ?_; rintro e Wn ⟨rfl, hb⟩; have hS := HS.out.call hb; clear hb; clear HS; have HS := Lib.hid hS; clear hS))
                  go_ret
                  exact ⟨rfl, HB0.out.trans (HS.out.below.mono HB0.out.size)⟩
end
end Go.Proofs.Ytlpklbpaknemaaa
