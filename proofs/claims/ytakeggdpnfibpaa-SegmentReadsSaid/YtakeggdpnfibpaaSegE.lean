/- Contracts and words that the laws stand on (SegE). -/
import Derived.Test.YtakeggdpnfibpaaSegB
import Derived.Test.YtakeggdpnfibpaaRecL
set_option linter.unusedVariables false
set_option linter.unusedSimpArgs false
namespace Go.Proofs.Ytakeggdpnfibpaa
section
open Go Go.RowKit Go.Proofs
attribute [local irreducible] Calls
/-! Groups' first bytes, in which at most four that follow one another are turned, plain. -/
/-- A record's bytes, cut perhaps, in which one of the record's is turned, are none. -/
theorem decR_burst_cut {k : UInt8} {p post s : List UInt8} {c j d : Nat} (hp : p.length ≤ 200000) (h : Near j ((recB k p ++ post).take c) s) (hd : s[d]? ≠ ((recB k p ++ post).take c)[d]?) (hdl : d < p.length + 13) : decR s 0 = none := by
  have hrl := recB_length k p
  by_cases hc : p.length + 13 ≤ c
  · have e : (recB k p ++ post).take c = recB k p ++ post.take (c - (p.length + 13)) := by rw [List.take_append, hrl, List.take_of_length_le (by omega)]
    rw [e] at h hd
    unfold decR
    split
    · rfl
    · exact decA_burst hp h hd hdl
  · have e : (recB k p ++ post).take c = (recB k p).take c := List.take_append_of_le_length (by omega)
    rw [e] at h hd
    have hsl : s.length = c := by rw [← h.1, List.length_take]; omega
    unfold decR
    split
    · rfl
    · rename_i hn
      have h13 : 13 ≤ c := by simp at hn; omega
      have h1 : (markB (k :: le 4 p.length)).length = 9 := by rw [markB_length]; simp [le_length]
      have e1 : ((recB k p).take c).take 9 = markB (k :: le 4 p.length) := by
        rw [List.take_take, Nat.min_eq_left (by omega)]
        unfold recB
        rw [← h1, List.take_left']
        rfl
      have e3 : ((k :: le 4 p.length).drop 1).take 4 = le 4 p.length := by
        simp only [List.drop_succ_cons, List.drop_zero]
        exact List.take_of_length_le (by simp [le_length])
      have e4 : leNum (le 4 p.length) = p.length := leNum_le4 _ (by omega)
      show decA s = none
      by_cases hh : s.take 9 = markB (k :: le 4 p.length)
      · unfold decA
        rw [hh, bareR_mark]
        simp only []
        rw [e3, e4, if_pos (.inr (by omega))]
      · have hnn : Near j (markB (k :: le 4 p.length)) (s.take 9) := by
          rw [← e1]
          refine ⟨by have := h.1; rw [List.length_take (l := s), List.length_take, this], fun i hi => ?_⟩
          rw [List.getElem?_take, List.getElem?_take]
          split
          · exact h.2 _ hi
          · rfl
        have hb := bare_near hnn hh
        unfold decA
        rw [hb]
theorem near_drop {j N : Nat} {l l' : List UInt8} (h : Near j l l') : Near (j - N) (l.drop N) (l'.drop N) := by
  refine ⟨by rw [List.length_drop, List.length_drop, h.1], fun q hq => ?_⟩
  rw [List.getElem?_drop, List.getElem?_drop]
  by_cases hjN : N ≤ j
  · exact h.2 _ (by omega)
  · rcases hq with hq | hq
    · omega
    · exact h.2 _ (.inr (by omega))
theorem runs_read {M : List Grp} {T : List UInt8} {cut j F i : Nat} (hok : allOk 1 M) (ht : 1 + M.length ≤ 18446744073709551616) (hn : Near j ((encG 1 M).take cut) T) (hF : F < cut) (hcut : cut ≤ (encG 1 M).length) (hd : T[F]? ≠ (encG 1 M)[F]?) (hs : ∀ q, q < F → T[q]? = (encG 1 M)[q]?) (hst : GStop 1 M F i) : ReadP T 1 (M.take i) (encG 1 (M.take i)).length := by
  obtain ⟨h1, h2, h3⟩ := hst
  have hl : (M.take i).length = i := by rw [List.length_take, Nat.min_eq_left h1]
  have e0 : encG 1 M = encG 1 (M.take i) ++ encG (1 + i) (M.drop i) := by
    have := encG_app 1 (M.take i) (M.drop i)
    rwa [List.take_append_drop, hl] at this
  obtain ⟨S, hS⟩ : ∃ S, encG 1 M = S := ⟨_, rfl⟩
  rw [hS] at hn hcut hd hs e0
  obtain ⟨N, hN⟩ : ∃ N, (encG 1 (M.take i)).length = N := ⟨_, rfl⟩
  rw [hN] at h2 h3 ⊢
  have eS : S.drop N = encG (1 + i) (M.drop i) := by rw [e0, ← hN, List.drop_left' rfl]
  have hi : i < M.length := by
    by_cases hi : i < M.length
    · exact hi
    · exfalso
      have : M.drop i = [] := List.drop_eq_nil_of_le (by omega)
      rw [this] at e0
      have := congrArg List.length e0
      simp [encG] at this
      omega
  have hx : M[i]? = some M[i] := List.getElem?_eq_getElem hi
  have h4 := h3 _ hx
  have hgo := allOk_get hok hx
  obtain ⟨g3, g4⟩ : no255 M[i] = true ∧ okL M[i] = true := ⟨(segOk_iff.1 hgo).2.2.1, (segOk_iff.1 hgo).2.2.2.1⟩
  rw [List.drop_eq_getElem_cons hi, encG] at eS
  generalize M[i] = g at *
  -- the group's record that is turned
  obtain ⟨r, r1, r2, r3⟩ := Stop.ex (segL (1 + i) g) (F - N)
  have hXok := okL_segL (num := 1 + i) g4
  have hXl : (segL (1 + i) g).length = g.length + 1 := by simp [segL]
  have hr : r < (segL (1 + i) g).length := by
    by_cases hr : r < (segL (1 + i) g).length
    · exact hr
    · exfalso
      rw [List.take_of_length_le (by omega)] at r2
      omega
  have htk : (segL (1 + i) g).take r = g.take r := by
    unfold segL
    rw [List.take_append_of_le_length (by omega)]
  have hxr : (segL (1 + i) g)[r]? = some (segL (1 + i) g)[r] := List.getElem?_eq_getElem hr
  obtain ⟨k, hk, hp⟩ := okL_get hXok hxr
  have r4 := r3 _ hxr
  have eX : encL (segL (1 + i) g) = encL ((segL (1 + i) g).take r) ++ encL ((segL (1 + i) g).drop r) := by rw [← encL_app, List.take_append_drop]
  rw [List.drop_eq_getElem_cons hr, encL_cons] at eX
  generalize (segL (1 + i) g)[r] = x at *
  obtain ⟨P, hP⟩ : ∃ P, (encL ((segL (1 + i) g).take r)).length = P := ⟨_, rfl⟩
  rw [hP] at r2 r4
  have eSP : S.drop (N + P) = recB (UInt8.ofNat x.1.toNat) x.2 ++ (encL ((segL (1 + i) g).drop (r + 1)) ++ encG (1 + i + 1) (M.drop (i + 1))) := by
    rw [← List.drop_drop, eS, eX, List.append_assoc, ← hP, List.drop_left' rfl, List.append_assoc]
  have hpre : ∀ n, n ≤ F → T.take n = S.take n := fun n hn' => by
    apply List.ext_getElem?
    intro q
    rw [List.getElem?_take, List.getElem?_take]
    split
    · rename_i hq; exact hs q (by omega)
    · rfl
  have eT : T = encG 1 (M.take i) ++ (encL (g.take r) ++ T.drop (N + P)) := by
    have q1 : T.take (N + P) = S.take (N + P) := hpre _ (by omega)
    have q2 : S.take (N + P) = encG 1 (M.take i) ++ encL (g.take r) := by
      have t1 : S.take N = encG 1 (M.take i) := by rw [e0, ← hN, List.take_left' rfl]
      rw [List.take_add, t1, eS, eX, List.append_assoc, ← hP, List.take_left' rfl, htk]
    rw [← List.append_assoc, ← q2, ← q1, List.take_append_drop]
  refine ⟨hN.symm, allOk_take hok i, by rw [hl]; omega, encL (g.take r) ++ T.drop (N + P), eT, fun _ g' q hg => ?_⟩
  rw [hl] at hg ⊢
  have a1 : okL (g.take r) = true := okL_take' g4 r
  have a2 : no255 (g.take r) = true := by
    unfold no255 at g3 ⊢
    rw [List.all_eq_true] at g3 ⊢
    exact fun x hx => g3 x (List.mem_of_mem_take hx)
  refine no_group a1 a2 (segOk_iff.1 hg).2.2.2.1 ?_
  have hn2 := near_drop (N := N + P) hn
  rw [List.drop_take, eSP] at hn2
  refine decR_burst_cut (d := F - (N + P)) hp hn2 ?_ (by omega)
  rw [← eSP, List.getElem?_drop, List.getElem?_take_of_lt (by omega), List.getElem?_drop, show N + P + (F - (N + P)) = F by omega]
  exact hd
end
end Go.Proofs.Ytakeggdpnfibpaa
