/- Contracts and words that the laws stand on (ExN). -/
import Derived.Test.YtlpklbpaknemaaaExM
set_option linter.unusedVariables false
set_option linter.unusedSimpArgs false
namespace Go.Proofs.Ytlpklbpaknemaaa
section
open Go Go.RowKit Go.Proofs
attribute [local irreducible] Calls

theorem own_setV {w : World} {base g n cap : Nat} {xs : List Value} (h : w.ownsRow base 5 1 (.slice (some ⟨g, 0, none⟩) n cap) n xs) (j : Nat) (hj : j < n) (y : Value) :
    (w.setCell ⟨g, j, none⟩ y).ownsRow base 5 1 (.slice (some ⟨g, 0, none⟩) n cap) n (xs.set j y) ∧ w.frozen? ⟨g, j, none⟩ = false := by
  obtain ⟨h1, h2⟩ := h
  rcases h2 with ⟨e, hn⟩ | ⟨g', cap', cur, e, hb, hg, hnc, hm, hz, ht⟩
  · omega
  · injection e with e1 e2 e3
    injection e1 with e1
    injection e1 with e1
    subst e1 e3
    refine ⟨⟨by simp at h1 ⊢; exact h1, .inr ⟨g, cap, cur.setIfInBounds j y, rfl, hb, heap_setCell_same w g j cur 5 _ hg, hnc, hm, by simpa using hz, ?_⟩⟩, by simp [World.frozen?, hg]⟩
    simp only [Nat.mul_one] at ht ⊢
    rw [Array.toList_setIfInBounds, List.take_set, ht]
theorem St.setRowV {w W : World} {L : List Res} {Fs : List (World → Prop)} (h : St w W L Fs) (i : Nat) {g n c : Nat} {T : List Value} (hi : L[i]? = some (Row (.slice (some ⟨g, 0, none⟩) n c) 5 1 n T)) {j : Nat} (hj : j < n) (y : Value) : St w (W.setCell ⟨g, j, none⟩ y) (L.set i (Row (.slice (some ⟨g, 0, none⟩) n c) 5 1 n (T.set j y))) Fs := by
  have ho := (own_setV (h.res hi) j hj y).1
  refine h.upd hi ((Chg.refl _ _).setCell (.inl (by simp [Row, Value.ownBlock])) _) ho (fun k hk => ?_)
  have hk' : k = g := by simpa [Row, Value.ownBlock] using hk
  exact ⟨.inl (by simpa [Row, Value.ownBlock] using hk), (ho.lt k (by rw [hk']; rfl)).2⟩
/-- Cells of bytes. -/
def AllU (T : List Value) : Prop := ∀ v ∈ T, ∃ z : Int, v = .int .u8 z
theorem AllU.bs (l : List UInt8) : AllU (bs l) := fun v hv => by
  obtain ⟨x, _, rfl⟩ := List.mem_map.1 hv
  exact ⟨_, rfl⟩
theorem AllU.set {T : List Value} (h : AllU T) (j : Nat) (z : Int) : AllU (T.set j (.int .u8 z)) := fun v hv => by
  rcases List.mem_or_eq_of_mem_set hv with hv | rfl
  · exact h v hv
  · exact ⟨z, rfl⟩
theorem rowV_slice {W : World} {A : Option Addr} {n c : Nat} {T : List Value} (h : (Row (.slice A n c) 5 1 n T).ok W) (h0 : 0 < n) : ∃ g, A = some ⟨g, 0, none⟩ := by
  obtain ⟨g, c', e⟩ := rowE_some h h0
  injection e with e1 _ _
  exact ⟨g, e1⟩
theorem rowV_len {W : World} {v : Value} {n : Nat} {T : List Value} (h : (Row v 5 1 n T).ok W) : T.length = n := by
  have := h.1
  simpa using this
theorem row7 {W : World} {v : Value} (h : (Row v 5 1 1 (bs [7])).ok W) : HB W v [7] := Row.hb (l := [7]) h
set_option maxHeartbeats 1000000 in
set_option maxRecDepth 100000 in
theorem twin26 (r : Req) (As Ab : Option Addr) (cs' cb' : Nat) (w : World) (hr : r.ok) (hs : HB w (.slice As r.sb.length cs') r.sb) (hb : HB w (.slice Ab r.bb.length cb') r.bb) (hl1 : r.sb.length ≤ 1000000) (hl2 : r.bb.length ≤ 1000000) :
    Calls Try.prog 26 #[.agg (rcs r (.slice As r.sb.length cs') (.slice Ab r.bb.length cb')).toArray] w fun e w' => ∃ A n p B m q, e = .returned (.agg (rcs r (.slice A n p) (.slice B m q)).toArray) ∧ St w w' [Row (.slice B m q) 5 1 r.bb.length (bs r.bb), Row (.slice A n p) 5 1 r.sb.length (bs r.sb)] [] := by
  have HS := Lib.hid (((St.start w).addF hb.away0).addF hs.away0)
  have HR := Lib.hid hr
  clear hb hs hr
  go_enter Try.func26, Try.ntmps26
  go_wp2_with (first
    | (refine atd 1 (by rfl) ?_; refine wl (by rfl) (s_bx (l := rcs r (.slice As r.sb.length cs') (.slice Ab r.bb.length cb')) HS.out (by rfl) (by rfl) ?_); intro b1 Wn hS; clear HS; have HS := Lib.hid hS; clear hS)
    | (refine atd 2 (by rfl) ?_; refine wl (by rfl) (s_al (l := rcs (zq 0) (.slice none 0 0) (.slice none 0 0)) HS.out (by rfl) z56 (by rfl) ?_); intro b2 Wn hS; clear HS; have HS := Lib.hid hS; clear hS)
    | (refine atd 3 (by rfl) ?_; refine wl (by rfl) (s_bs0 (E := 5) HS.out 1 (by rfl) Try.underlying22 (by kernel_rfl) (by rfl) ?_); intro b3 Wn hS; clear HS; have HS := Lib.hid hS; clear hS)
    | (refine atd 5 (by rfl) ?_; refine wl (by rfl) (s_ld HS.out 2 (by rfl) (by rfl) (by rfl) (by kernel_rfl) (by exact rcs_36 HR.out (.slice As r.sb.length cs') (.slice Ab r.bb.length cb')) ?_))
    | (refine atd 6 (by rfl) ?_; refine wl (by rfl) (s_app (xs := []) HS.out 0 (by rfl) Try.underlying22 u8_info (by rfl) (by rfl) (by rfl) (HS.out.fact (i := 0) rfl) (by simp; omega) ?_); intro v6 Wn hS; rw [List.nil_append] at hS; clear HS; have HS := Lib.hid hS; clear hS; obtain ⟨A6, c6, rfl⟩ := Row.sl (HS.out.res (i := 0) rfl))
    | (refine sto 7 (by rfl) ?_; refine wl (by rfl) (s_st (v := .slice A6 r.sb.length c6) HS.out 2 (by rfl) (by rfl) (by rfl) (by kernel_rfl) (by rfl) (by rfl) (by rw [rcs_length HR.out]; decide) ?_); intro Wn hS; rw [rcs_set36 HR.out] at hS; clear HS; have HS := Lib.hid hS; clear hS)
    | (refine atd 8 (by rfl) ?_; refine wl (by rfl) (s_bs0 (E := 5) HS.out 1 (by rfl) Try.underlying22 (by kernel_rfl) (by rfl) ?_); intro b8 Wn hS; clear HS; have HS := Lib.hid hS; clear hS)
    | (refine atd 10 (by rfl) ?_; refine wl (by rfl) (s_ld HS.out 3 (by rfl) (by rfl) (by rfl) (by kernel_rfl) (by exact rcs_69 HR.out (.slice A6 r.sb.length c6) (.slice Ab r.bb.length cb')) ?_))
    | (refine atd 11 (by rfl) ?_; refine wl (by rfl) (s_app (xs := []) HS.out 0 (by rfl) Try.underlying22 u8_info (by rfl) (by rfl) (by rfl) (HS.out.fact (i := 1) rfl) (by simp; omega) ?_); intro v11 Wn hS; rw [List.nil_append] at hS; clear HS; have HS := Lib.hid hS; clear hS; obtain ⟨A11, c11, rfl⟩ := Row.sl (HS.out.res (i := 0) rfl))
    | (refine sto 12 (by rfl) ?_; refine wl (by rfl) (s_st (v := .slice A11 r.bb.length c11) HS.out 3 (by rfl) (by rfl) (by rfl) (by kernel_rfl) (by rfl) (by rfl) (by rw [rcs_length HR.out]; decide) ?_); intro Wn hS; rw [rcs_set69 HR.out] at hS; clear HS; have HS := Lib.hid hS; clear hS)
    | (refine atd 13 (by rfl) ?_; refine wl (by rfl) (s_lda (cs := rcs r (.slice A6 r.sb.length c6) (.slice A11 r.bb.length c11)) HS.out 3 70 (by rfl) (by rfl) (by rfl) ag56 (by exact rcs_all HR.out _ _) (by exact rcs_length HR.out _ _) ?_))
    | (refine sto 2 (by rfl) ?_; refine wl (by rfl) (s_sta (cs := rcs r (.slice A6 r.sb.length c6) (.slice A11 r.bb.length c11)) HS.out 2 70 (by rfl) (by rfl) (by rfl) ag56 (by rfl) (by exact rcs_length HR.out _ _) (by exact cells_rq _ rfl rfl) (by exact Nat.le_of_eq (rcs_length (zq_ok _) _ _).symm) ?_); intro Wn hS; rw [splice_all ((rcs_length HR.out _ _).trans (rcs_length (zq_ok _) _ _).symm)] at hS; clear HS; have HS := Lib.hid hS; clear hS))
  exact bodyPost_ret (ret_c56 (p := 2) rfl _ b2 _ 56 (0, 0) (by rfl) (HS.out.blk (i := 2) rfl) (by rw [List.size_toArray]; exact rcs_length HR.out _ _)) rfl ⟨_, _, _, _, _, _, rfl, ((HS.out.sub 2).sub 2).dropF (Gs := []) (fun G hG => by cases hG)⟩
end
end Go.Proofs.Ytlpklbpaknemaaa
