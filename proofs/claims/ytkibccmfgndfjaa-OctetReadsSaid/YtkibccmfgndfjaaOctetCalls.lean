/- Contracts and words that the laws stand on (OctetCalls). -/
import Derived.Test.YtkibccmfgndfjaaShort
import Derived.Test.YtkibccmfgndfjaaCrcMark
import Derived.Test.YtkibccmfgndfjaaOpen
set_option linter.unusedVariables false
set_option linter.unusedSimpArgs false
namespace Go.Proofs.Ytkibccmfgndfjaa
section
open Go.RowKit Go.Proofs
/-! Plain: a pen's call, its bytes, and what is read back. -/
structure OpD where
  k : Int
  s : Int
  n : Nat
  xs : List UInt8
def opE (d : OpD) : Option (List UInt8) := if d.k = 0 then (if fixedE d.s d.n = 0 then some (le d.s.toNat d.n) else none) else if d.k = 1 then some (csize d.n) else if d.k = 2 then some (csize d.xs.length ++ d.xs) else some d.xs
theorem getSize_fwd (n : Nat) (hn : n < 18446744073709551616) (r : List UInt8) : getSize (csize n ++ r) = some (n, compact n) := by
  have key : ∀ (f : UInt8) (m : Nat), ¬ f.toNat < 253 → msz f = m → n < 256 ^ m → compact n = m + 1 → getSize (f :: (le m n ++ r)) = some (n, m + 1) := by
    intro f m hf hm hlt hc
    have hlen : (le m n).length = m := le_length m n
    have ht : (le m n ++ r).take m = le m n := by rw [List.take_append_of_le_length (by omega), List.take_of_length_le (by omega)]
    simp only [getSize]
    rw [if_neg hf, hm, if_neg (by simp; omega), ht, leNum_le m n hlt, if_pos hc]
  unfold csize
  split
  · rename_i h
    have e : (UInt8.ofNat n).toNat = n := by simp; omega
    simp only [List.cons_append, List.nil_append, getSize, e]
    rw [if_pos h]; simp [compact, h]
  · rename_i h
    split
    · rename_i h2
      have hc : compact n = 3 := by simp [compact, h, h2]
      rw [hc]; exact key 253 2 (by decide) (by decide) (by simpa using h2) hc
    · rename_i h2
      split
      · rename_i h3
        have hc : compact n = 5 := by simp [compact, h, h2, h3]
        rw [hc]; exact key 254 4 (by decide) (by decide) (by simpa using h3) hc
      · rename_i h3
        have hc : compact n = 9 := by simp [compact, h, h2, h3]
        rw [hc]; exact key 255 8 (by decide) (by decide) (by simpa using hn) hc
theorem getBytes_fwd (xs r : List UInt8) (hx : xs.length < 18446744073709551616) : getBytes (xs.length : Int) (csize xs.length ++ (xs ++ r)) = some (xs, compact xs.length + xs.length) := by
  unfold getBytes
  rw [getSize_fwd _ hx]
  have hl := csize_length xs.length
  simp only
  rw [if_neg (by simp; omega)]
  rw [← hl, List.drop_left, List.take_left]
end
section
open Go.RowKit Go.Proofs
theorem PenGo.pre {w w' : World} {o : Obj} {p : Nat} {v v' : Value} {ys : List UInt8} (g : PenGo (w.alloc o) w' p v v' ys) : PenGo w w' p v v' ys :=
  ⟨g.pen, ((Chg.refl (p :: v.ownBlock.toList) w).alloc _).trans g.chg (fun k hk => .inl hk), (Nx.refl w v).trans g.nx (by simp)⟩
theorem HB.chgE {S : List Nat} {w w' : World} {v : Value} {xs : List UInt8} (h : HB w v xs) (hc : Chg S w w') (hn : xs ≠ [] → ∀ k, v.ownBlock = some k → k ∉ S) : HB w' v xs := by
  by_cases hx : xs = []
  · subst hx
    obtain ⟨p, c, e, h0, h1, h2⟩ := h
    exact ⟨p, c, e, h0, h1, fun a ha i x hx => by simp at hx⟩
  · exact h.chg hc (hn hx)
set_option maxHeartbeats 1000000 in
set_option maxRecDepth 100000 in
theorem pbytes_any' (p : Nat) (u v : Value) (ys xs : List UInt8) (w : World) (hp : IsPen w p v xs) (hu : HB w u ys) (hl : xs.length + ys.length + 9 ≤ 70368744177664) (hu0 : ys ≠ [] → ∀ k, u.ownBlock = some k → k ∉ p :: v.ownBlock.toList) :
    Calls Try.prog 48 #[.pointer (some ⟨p, 0, none⟩), u] w fun e w' => e = .returned (.int .i64 0) ∧ ∃ v', PenGo w w' p v v' (xs ++ csize ys.length ++ ys) := by
  have HU := Lib.hid hu
  obtain ⟨A, c, rfl, _⟩ := hu.shape
  clear hu
  have HP := Lib.hid hp; clear hp
  go_enter Try.func48, Try.ntmps48
  go_wp2_with fail
  refine (psize_any p _ v xs _ HP.out (U64.of (by omega)) (by omega)).mono ?_
  rintro e w1 ⟨rfl, v1, h1⟩
  rw [Int.toNat_natCast] at h1
  have HU1 := HU.out.chgE h1.chg hu0
  have hq := csize_length ys.length
  have hq9 : compact ys.length ≤ 9 := by unfold compact; repeat' split
                                         all_goals simp
  have h1p := Lib.hid h1.pen
  go_wp2_with fail
  refine (raw_any p _ v1 [ys] _ _ (h1.pen.chg (S := []) ((Chg.refl _ _).alloc _) (by simp) (by simp)) (Parts.one HU1 _) (by simp; omega) (by simp)).mono ?_
  rintro e w2 ⟨rfl, v2, h2⟩
  have h3 : PenGo w1 w2 p v1 v2 (xs ++ csize ys.length ++ ys) := ⟨by simpa using h2.pen, ((Chg.refl (p :: v1.ownBlock.toList) w1).alloc _).trans h2.chg (fun k hk => .inl hk), (Nx.refl w1 v1).trans h2.nx (by simp)⟩
  have H3 := Lib.hid (h1.trans h3)
  go_wp2_with fail
  go_ret
  exact ⟨rfl, v2, H3.out⟩
/-- What a call is told by: its cells, and the bytes that it holds. -/
structure OpIn (w : World) (d : OpD) (u : Value) : Prop where
  n64 : d.n < 18446744073709551616
  bytes : HB w u d.xs
  len : d.xs.length ≤ 100000
def opC4 (d : OpD) (u : Value) : Array Value := #[.int .i64 d.k, .int .i64 d.s, .int .u64 (d.n : Int), u]
attribute [local irreducible] Calls
set_option maxHeartbeats 1000000 in
set_option maxRecDepth 100000 in
theorem put49 (p : Nat) (d : OpD) (u v : Value) (ys : List UInt8) (w : World) (hp : IsPen w p v ys) (hd : OpIn w d u) (hl : ys.length ≤ 100000000) (hu0 : d.xs ≠ [] → ∀ k, u.ownBlock = some k → k ∉ p :: v.ownBlock.toList) :
    Calls Try.prog 49 #[.pointer (some ⟨p, 0, none⟩), .agg (opC4 d u)] w fun e w' => e = .returned (.bool (opE d).isSome) ∧ ∃ v', PenGo w w' p v v' (ys ++ (opE d).getD []) := by
  have HP := Lib.hid (hp.below ((Below.refl _ _).alloc (Nat.le_refl _) (.cells (opC4 d u) 52)))
  have HU := Lib.hid (hd.bytes.below ((Below.refl _ _).alloc (Nat.le_refl _) (.cells (opC4 d u) 52)))
  have hlen := hd.len
  have hn := hd.n64
  have HU0 := Lib.hid hu0
  clear hp hd hu0
  obtain ⟨k, s, n, xs⟩ := d
  obtain ⟨A, c, rfl, _⟩ := HU.out.shape
  simp only [opC4] at *
  by_cases h0 : k = 0
  · subst h0
    have hE : opE ⟨0, s, n, xs⟩ = if fixedE s n = 0 then some (le s.toNat n) else none := rfl
    by_cases hf : fixedE s n = 0
    · have hB : fixedB s n = le s.toNat n := by rw [fixedB, if_pos hf]
      rw [hE, if_pos hf]
      go_enter Try.func49, Try.ntmps49
      go_wp2_with fail
      refine (fixed_any p s n v ys _ HP.out hn (by omega)).mono ?_
      rw [hf, hB]
      rintro e w1 ⟨rfl, v1, g⟩
      have G := Lib.hid g.pre
      clear g hf hB hE
      go_wp2_with fail
      go_ret
      exact ⟨rfl, v1, G.out⟩
    · have hB : fixedB s n = [] := by rw [fixedB, if_neg hf]
      rw [hE, if_neg hf]
      go_enter Try.func49, Try.ntmps49
      go_wp2_with fail
      refine (fixed_any p s n v ys _ HP.out hn (by omega)).mono ?_
      rw [hB]
      rintro e w1 ⟨rfl, v1, g⟩
      have G := Lib.hid g.pre
      have hf2 : (fixedE s n == 0) = false := by simpa using hf
      clear g hB hE
      go_wp2_with fail
      go_ret
      exact ⟨ret_bool rfl, v1, G.out⟩
  · by_cases h1 : k = 1
    · subst h1
      have hE : opE ⟨1, s, n, xs⟩ = some (csize n) := rfl
      rw [hE]
      go_enter Try.func49, Try.ntmps49
      go_wp2_with fail
      refine (psize_any p n v ys _ HP.out (U64.of hn) (by omega)).mono ?_
      rw [Int.toNat_natCast]
      rintro e w1 ⟨rfl, v1, g⟩
      have G := Lib.hid g.pre
      clear g hE
      go_wp2_with fail
      go_ret
      exact ⟨rfl, v1, G.out⟩
    · by_cases h2 : k = 2
      · subst h2
        have hE : opE ⟨2, s, n, xs⟩ = some (csize xs.length ++ xs) := rfl
        rw [hE]
        go_enter Try.func49, Try.ntmps49
        go_wp2_with fail
        refine (pbytes_any' p _ v xs ys _ HP.out HU.out (by omega) HU0.out).mono ?_
        rintro e w1 ⟨rfl, v1, g⟩
        have G := Lib.hid g.pre
        clear g hE
        go_wp2_with fail
        go_ret
        exact ⟨rfl, v1, by rw [Option.getD_some, ← List.append_assoc]; exact G.out⟩
      · have hE : opE ⟨k, s, n, xs⟩ = some xs := by rw [opE, if_neg h0, if_neg h1, if_neg h2]
        rw [hE]
        go_enter Try.func49, Try.ntmps49
        have hq : IsPen ((w.alloc (.cells #[.int .i64 k, .int .i64 s, .int .u64 (n : Int), .slice A xs.length c] 52)).alloc (.cells #[.slice A xs.length c] 29)) p v ys := HP.out.below ((Below.refl _ _).alloc (Nat.le_refl _) _)
        have hpt := Parts.one HU.out 29
        simp only [World.size_alloc] at hpt
        have HQ := Lib.hid hq; have HPT := Lib.hid hpt
        clear hq hpt
        go_wp2_with fail
        refine (raw_any p _ v [xs] ys _ HQ.out HPT.out (by simp; omega) (by simp)).mono ?_
        rintro e w1 ⟨rfl, v1, g⟩
        have G := Lib.hid g.pre.pre
        clear g hE
        go_wp2_with fail
        go_ret
        exact ⟨rfl, v1, by simpa using G.out⟩
end
section
open Go.RowKit Go.Proofs
theorem EyeGo.pre {w w' : World} {o : Obj} {p : Nat} {v v' : Value} {ys : List UInt8} (g : EyeGo (w.alloc o) w' p v v' ys) : EyeGo w w' p v v' ys :=
  ⟨g.eye, ((Chg.refl [p] w).alloc _).trans g.chg (fun k hk => .inl hk), g.same⟩
theorem goesB_lt {n k : Nat} (h : goesB n k = true) (hn : n < 18446744073709551616) (hw : wideB k = true) : n < 256 ^ k := by
  have hk := wideB_cases hw
  have hk2 : k = 1 ∨ k = 2 ∨ k = 4 ∨ k = 8 := by omega
  rcases hk2 with rfl | rfl | rfl | rfl <;> simp [goesB] at h ⊢ <;> omega
/-- What a call that read tells. -/
def GetOut (w : World) (g : Nat) (v : Value) (ys : List UInt8) (d : OpD) (e : Ending) (w' : World) : Prop :=
  ∃ r v' zs, e = .returned (.bool r) ∧ EyeGo w w' g v v' zs ∧ (r = true → ys = (opE d).getD [] ++ zs) ∧ (∀ rest, ys = (opE d).getD [] ++ rest → r = true)
attribute [local irreducible] Calls
set_option maxHeartbeats 1000000 in
set_option maxRecDepth 100000 in
theorem get50_0 (g : Nat) (s : Int) (n : Nat) (xs : List UInt8) (u v : Value) (ys : List UInt8) (w : World) (he : IsEye w g v ys) (hd : OpIn w ⟨0, s, n, xs⟩ u) (hf : fixedE s n = 0) :
    Calls Try.prog 50 #[.pointer (some ⟨g, 0, none⟩), .agg (opC4 ⟨0, s, n, xs⟩ u)] w (GetOut w g v ys ⟨0, s, n, xs⟩) := by
  have hE : (opE ⟨0, s, n, xs⟩).getD [] = le s.toNat n := by rw [opE, if_pos rfl, if_pos hf]; rfl
  have hn : n < 18446744073709551616 := hd.n64
  have hw : wideB s = true := by
    cases h : wideB s with
    | true => rfl
    | false => rw [fixedE, if_pos h] at hf; exact absurd hf (by decide)
  have hg : goesB n s.toNat = true := by
    cases h : goesB n s.toNat with
    | true => rfl
    | false => rw [fixedE, if_neg (by rw [hw]; decide), if_pos h] at hf; exact absurd hf (by decide)
  have hs := wideB_cases hw
  obtain ⟨m, rfl⟩ := Int.eq_ofNat_of_zero_le (show 0 ≤ s by omega)
  simp only [Int.toNat_natCast] at hE hg
  have hlt := goesB_lt hg hn hw
  obtain ⟨A, c, rfl, _⟩ := hd.bytes.shape
  have HE := Lib.hid (he.below ((Below.refl _ _).alloc (Nat.le_refl _) (.cells (opC4 ⟨0, (m : Int), n, xs⟩ (.slice A xs.length c)) 52)))
  have hglt : g < w.heap.size := blk_lt he.blk
  simp only [opC4] at *
  by_cases hl : (m : Int) ≤ ys.length
  · obtain ⟨q, hq⟩ : ∃ q, q = leNum (ys.take m) := ⟨_, rfl⟩
    have hr : (q == n) = true → ys = le m n ++ ys.drop m := by
      intro h
      have h2 : q = n := by simpa using h
      have h3 := le_leNum (ys.take m)
      rw [← hq, h2, List.length_take, Nat.min_eq_left (by omega)] at h3
      rw [h3, List.take_append_drop]
    have hc : ∀ rest, ys = le m n ++ rest → (q == n) = true := by
      intro rest h
      have h2 : ys.take m = le m n := by rw [h, List.take_append_of_le_length (by rw [le_length]; exact Nat.le_refl _), List.take_of_length_le (by rw [le_length]; exact Nat.le_refl _)]
      rw [hq, h2, leNum_le m n hlt]; simp
    have HQ := Lib.hid hq; have HR := Lib.hid hr; have HC := Lib.hid hc; have HEE := Lib.hid hE
    clear hq hr hc hE hd he hlt hg hf
    go_enter Try.func50, Try.ntmps50
    go_wp2_with fail
    refine (efixed_ok g m v ys _ HE.out hw hl).mono ?_
    rw [Int.toNat_natCast, ← HQ.out]
    rintro e w1 ⟨v1, rfl, hgo⟩
    have G := Lib.hid hgo.pre
    have hbx := hgo.chg.blk (heap_alloc_new w _) (by simp; omega)
    have hc2 := blk_cell hbx 2
    clear hgo hw hl hs hbx
    by_cases hqn : q = n
    · have hqi : (q : Int) = (n : Int) := by omega
      go_wp2_with fail
      go_ret
      exact ⟨true, v1, ys.drop m, ret_bool (by first | rfl | simp [hqn]), G.out, (fun _ => by rw [HEE.out]; exact HR.out (by simpa using hqn)), (fun rest h => rfl)⟩
    · have hqi : ¬ (q : Int) = (n : Int) := by omega
      go_wp2_with fail
      go_ret
      exact ⟨false, v1, ys.drop m, ret_bool (by first | rfl | simp [hqi]), G.out, (fun h => by cases h), (fun rest h => by have := HC.out rest (by rw [HEE.out] at h; exact h); simp at this; exact absurd this hqn)⟩
  · have hb : efixE (m : Int) ys.length = 10 := by rw [efixE, if_neg (by rw [hw]; decide), if_pos (by omega)]
    have hc : ∀ rest, ys = le m n ++ rest → False := by
      intro rest h
      have := congrArg List.length h
      rw [List.length_append, le_length] at this
      omega
    have HC := Lib.hid hc; have HEE := Lib.hid hE; have HBB := Lib.hid hb
    clear hc hE hd he hlt hg hf hb
    go_enter Try.func50, Try.ntmps50
    go_wp2_with fail
    refine (efixed_bad g m v ys _ HE.out (by rw [HBB.out]; decide)).mono ?_
    rw [HBB.out]
    rintro e w1 ⟨rfl, rfl⟩
    have G := Lib.hid (EyeGo.refl HE.out).pre
    clear hw hl hs
    go_wp2_with fail
    go_ret
    exact ⟨false, v, ys, rfl, G.out, (fun h => by cases h), (fun rest h => (HC.out rest (by rw [HEE.out] at h; exact h)).elim)⟩
set_option maxHeartbeats 1000000 in
set_option maxRecDepth 100000 in
theorem get50_1 (g : Nat) (s : Int) (n : Nat) (xs : List UInt8) (u v : Value) (ys : List UInt8) (w : World) (he : IsEye w g v ys) (hd : OpIn w ⟨1, s, n, xs⟩ u) :
    Calls Try.prog 50 #[.pointer (some ⟨g, 0, none⟩), .agg (opC4 ⟨1, s, n, xs⟩ u)] w (GetOut w g v ys ⟨1, s, n, xs⟩) := by
  have hE : (opE ⟨1, s, n, xs⟩).getD [] = csize n := rfl
  have hn : n < 18446744073709551616 := hd.n64
  obtain ⟨A, c, rfl, _⟩ := hd.bytes.shape
  have HE := Lib.hid (he.below ((Below.refl _ _).alloc (Nat.le_refl _) (.cells (opC4 ⟨1, s, n, xs⟩ (.slice A xs.length c)) 52)))
  have hglt : g < w.heap.size := blk_lt he.blk
  simp only [opC4] at *
  cases hg : getSize ys with
  | some o =>
    obtain ⟨q, kk⟩ := o
    have hcs := getSize_csize hg
    have hr : q = n → ys = csize n ++ ys.drop kk := by
      rintro rfl
      rw [hcs.1, List.take_append_drop]
    have hc : ∀ rest, ys = csize n ++ rest → q = n := by
      intro rest h
      rw [h, getSize_fwd n hn] at hg
      injection hg with hg
      injection hg with h1 h2
      exact h1.symm
    have HR := Lib.hid hr; have HC := Lib.hid hc; have HEE := Lib.hid hE; have HG := Lib.hid hg
    clear hr hc hE hd he hcs hg
    go_enter Try.func50, Try.ntmps50
    go_wp2_with fail
    refine (esz_ok g v ys q kk _ HE.out HG.out).mono ?_
    rintro e w1 ⟨v1, rfl, hgo⟩
    have G := Lib.hid hgo.pre
    have hbx := hgo.chg.blk (heap_alloc_new w _) (by simp; omega)
    have hc2 := blk_cell hbx 2
    clear hgo hbx
    by_cases hqn : q = n
    · have hqi : (q : Int) = (n : Int) := by omega
      go_wp2_with fail
      go_ret
      exact ⟨true, v1, ys.drop kk, ret_bool (by first | rfl | simp [hqn]), G.out, (fun _ => by rw [HEE.out]; exact HR.out hqn), (fun rest h => rfl)⟩
    · have hqi : ¬ (q : Int) = (n : Int) := by omega
      go_wp2_with fail
      go_ret
      exact ⟨false, v1, ys.drop kk, ret_bool (by first | rfl | simp [hqi]), G.out, (fun h => by cases h), (fun rest h => absurd (HC.out rest (by rw [HEE.out] at h; exact h)) hqn)⟩
  | none =>
    have hc : ∀ rest, ys = csize n ++ rest → False := by
      intro rest h
      rw [h, getSize_fwd n hn] at hg
      cases hg
    have HC := Lib.hid hc; have HEE := Lib.hid hE; have HG := Lib.hid hg
    clear hc hE hd he hg
    go_enter Try.func50, Try.ntmps50
    go_wp2_with fail
    refine (esz_bad g v ys _ HE.out HG.out).mono ?_
    rintro e w1 ⟨rfl, hb⟩
    have G := Lib.hid (Below.eye hb HE.out).pre
    clear hb
    go_wp2_with fail
    go_ret
    exact ⟨false, v, ys, rfl, G.out, (fun h => by cases h), (fun rest h => (HC.out rest (by rw [HEE.out] at h; exact h)).elim)⟩
set_option maxHeartbeats 1000000 in
set_option maxRecDepth 100000 in
theorem get50_2 (g : Nat) (s : Int) (n : Nat) (xs : List UInt8) (u v : Value) (ys : List UInt8) (w : World) (he : IsEye w g v ys) (hd : OpIn w ⟨2, s, n, xs⟩ u) (hu0 : xs ≠ [] → ∀ k, u.ownBlock = some k → k ≠ g) (hly : ys.length ≤ 70368744177664) :
    Calls Try.prog 50 #[.pointer (some ⟨g, 0, none⟩), .agg (opC4 ⟨2, s, n, xs⟩ u)] w (GetOut w g v ys ⟨2, s, n, xs⟩) := by
  have hE : (opE ⟨2, s, n, xs⟩).getD [] = csize xs.length ++ xs := rfl
  have hlen : xs.length ≤ 100000 := hd.len
  have HU := Lib.hid (hd.bytes.below ((Below.refl _ _).alloc (Nat.le_refl _) (.cells (opC4 ⟨2, s, n, xs⟩ u) 52)))
  obtain ⟨A, c, rfl, _⟩ := hd.bytes.shape
  have HE := Lib.hid (he.below ((Below.refl _ _).alloc (Nat.le_refl _) (.cells (opC4 ⟨2, s, n, xs⟩ (.slice A xs.length c)) 52)))
  have hglt : g < w.heap.size := blk_lt he.blk
  have HU0 := Lib.hid hu0
  clear hu0
  simp only [opC4] at *
  cases hg : getBytes (xs.length : Int) ys with
  | some o =>
    obtain ⟨l, m⟩ := o
    have hcs := getBytes_csize hg
    have hr : l = xs → ys = (csize xs.length ++ xs) ++ ys.drop m := by
      rintro rfl
      rw [hcs.1, List.take_append_drop]
    have hc : ∀ rest, ys = (csize xs.length ++ xs) ++ rest → l = xs := by
      intro rest h
      rw [h, List.append_assoc, getBytes_fwd xs rest (by omega)] at hg
      injection hg with hg
      injection hg with h1 h2
      exact h1.symm
    have HR := Lib.hid hr; have HC := Lib.hid hc; have HEE := Lib.hid hE; have HG := Lib.hid hg
    clear hr hc hE hd he hcs hg
    go_enter Try.func50, Try.ntmps50
    go_wp2_with fail
    refine (ebytes_ok g v ys l m _ _ HE.out HG.out (by omega) hly).mono ?_
    rintro e w1 ⟨v', v1, rfl, hown, hgo⟩
    have G := Lib.hid hgo.pre
    have hbx := hgo.chg.blk (heap_alloc_new w _) (by simp; omega)
    have hc2 := blk_cell hbx 3
    have s1 := (HU.out.chgE hgo.chg (fun h0 k hk => by simp; exact HU0.out h0 k hk)).string (P := Try.prog) 29 9 5 Try.underlying29 Try.underlying5 Try.underlying9
    have s2 := (HB.of_own hown).string (P := Try.prog) 29 9 5 Try.underlying29 Try.underlying5 Try.underlying9
    obtain ⟨A2, c2, rfl⟩ := own_slice hown
    clear hgo hbx hown
    by_cases hqn : l = xs
    · have hqb : (l == xs) = true := by simpa using hqn
      have HQN := Lib.hid hqn
      clear hqn
      go_wp2_with fail
      go_ret
      exact ⟨true, v1, ys.drop m, ret_bool (by first | rfl | simp [HQN.out]), G.out, (fun _ => by rw [HEE.out]; exact HR.out HQN.out), (fun rest h => rfl)⟩
    · have hqb : (l == xs) = false := by simpa using hqn
      go_wp2_with fail
      go_ret
      exact ⟨false, v1, ys.drop m, ret_bool (by first | rfl | simp [hqn]), G.out, (fun h => by cases h), (fun rest h => absurd (HC.out rest (by rw [HEE.out] at h; exact h)) hqn)⟩
  | none =>
    have hc : ∀ rest, ys = (csize xs.length ++ xs) ++ rest → False := by
      intro rest h
      rw [h, List.append_assoc, getBytes_fwd xs rest (by omega)] at hg
      cases hg
    have HC := Lib.hid hc; have HEE := Lib.hid hE; have HG := Lib.hid hg
    clear hc hE hd he hg
    go_enter Try.func50, Try.ntmps50
    go_wp2_with fail
    refine (ebytes_bad g v ys _ _ HE.out HG.out (by omega) hly).mono ?_
    rintro e w1 ⟨rfl, hb⟩
    have G := Lib.hid (Below.eye hb HE.out).pre
    clear hb
    go_wp2_with fail
    go_ret
    exact ⟨false, v, ys, rfl, G.out, (fun h => by cases h), (fun rest h => (HC.out rest (by rw [HEE.out] at h; exact h)).elim)⟩
set_option maxHeartbeats 1000000 in
set_option maxRecDepth 100000 in
theorem get50_3 (g : Nat) (k s : Int) (n : Nat) (xs : List UInt8) (u v : Value) (ys : List UInt8) (w : World) (h0 : ¬ k = 0) (h1 : ¬ k = 1) (h2 : ¬ k = 2) (he : IsEye w g v ys) (hd : OpIn w ⟨k, s, n, xs⟩ u) (hu0 : xs ≠ [] → ∀ k, u.ownBlock = some k → k ≠ g) (hly : ys.length ≤ 70368744177664) :
    Calls Try.prog 50 #[.pointer (some ⟨g, 0, none⟩), .agg (opC4 ⟨k, s, n, xs⟩ u)] w (GetOut w g v ys ⟨k, s, n, xs⟩) := by
  have hE : (opE ⟨k, s, n, xs⟩).getD [] = xs := by rw [opE, if_neg h0, if_neg h1, if_neg h2]; rfl
  have hlen : xs.length ≤ 100000 := hd.len
  have HU := Lib.hid (hd.bytes.below ((Below.refl _ _).alloc (Nat.le_refl _) (.cells (opC4 ⟨k, s, n, xs⟩ u) 52)))
  obtain ⟨A, c, rfl, _⟩ := hd.bytes.shape
  have HE := Lib.hid (he.below ((Below.refl _ _).alloc (Nat.le_refl _) (.cells (opC4 ⟨k, s, n, xs⟩ (.slice A xs.length c)) 52)))
  have hglt : g < w.heap.size := blk_lt he.blk
  have HU0 := Lib.hid hu0
  clear hu0
  simp only [opC4] at *
  by_cases hl : xs.length ≤ ys.length
  · obtain ⟨l, hll⟩ : ∃ l, l = ys.take xs.length := ⟨_, rfl⟩
    have hr : l = xs → ys = xs ++ ys.drop xs.length := by
      intro h
      have h3 := List.take_append_drop xs.length ys
      rw [← hll, h] at h3
      exact h3.symm
    have hc : ∀ rest, ys = xs ++ rest → l = xs := by
      intro rest h
      rw [hll, h, List.take_left]
    have hll2 : l.length = xs.length := by rw [hll]; simp; omega
    have HR := Lib.hid hr; have HC := Lib.hid hc; have HEE := Lib.hid hE; have HL := Lib.hid hll
    clear hr hc hE hd he hll
    go_enter Try.func50, Try.ntmps50
    go_wp2_with fail
    refine (eraw_ok g xs.length v ys _ HE.out hl hly).mono ?_
    rw [← HL.out]
    rintro e w1 ⟨v', v1, rfl, hown, hgo⟩
    have G := Lib.hid hgo.pre
    have hbx := hgo.chg.blk (heap_alloc_new w _) (by simp; omega)
    have hc2 := blk_cell hbx 3
    have s1 := (HU.out.chgE hgo.chg (fun h0 k hk => by simp; exact HU0.out h0 k hk)).string (P := Try.prog) 29 9 5 Try.underlying29 Try.underlying5 Try.underlying9
    have s2 := (HB.of_own (xs := l) (by rw [hll2]; exact hown)).string (P := Try.prog) 29 9 5 Try.underlying29 Try.underlying5 Try.underlying9
    obtain ⟨A2, c2, rfl⟩ := own_slice hown
    clear hgo hbx hown
    by_cases hqn : l = xs
    · have hqb : (l == xs) = true := by simpa using hqn
      have HQN := Lib.hid hqn
      clear hqn
      go_wp2_with fail
      go_ret
      exact ⟨true, v1, ys.drop xs.length, ret_bool (by first | rfl | simp [HQN.out]), G.out, (fun _ => by rw [HEE.out]; exact HR.out HQN.out), (fun rest h => rfl)⟩
    · have hqb : (l == xs) = false := by simpa using hqn
      go_wp2_with fail
      go_ret
      exact ⟨false, v1, ys.drop xs.length, ret_bool (by first | rfl | simp [hqn]), G.out, (fun h => by cases h), (fun rest h => absurd (HC.out rest (by rw [HEE.out] at h; exact h)) hqn)⟩
  · have hc : ∀ rest, ys = xs ++ rest → False := by
      intro rest h
      have := congrArg List.length h
      rw [List.length_append] at this
      omega
    have hbE : rawE (xs.length : Int) ys.length = 10 := by rw [rawE, if_neg (by omega), if_pos (by omega)]
    have HC := Lib.hid hc; have HEE := Lib.hid hE; have HBE := Lib.hid hbE
    clear hc hE hd he hbE
    go_enter Try.func50, Try.ntmps50
    go_wp2_with fail
    refine (eraw_bad g _ v ys _ HE.out (.inr (by omega)) hly).mono ?_
    rw [HBE.out]
    rintro e w1 ⟨rfl, rfl⟩
    have G := Lib.hid (EyeGo.refl HE.out).pre
    go_wp2_with fail
    go_ret
    exact ⟨false, v, ys, rfl, G.out, (fun h => by cases h), (fun rest h => (HC.out rest (by rw [HEE.out] at h; exact h)).elim)⟩
/-- A call that was written is read, and nothing else. -/
theorem get50 (g : Nat) (d : OpD) (u v : Value) (ys : List UInt8) (w : World) (he : IsEye w g v ys) (hd : OpIn w d u) (hu0 : d.xs ≠ [] → ∀ k, u.ownBlock = some k → k ≠ g) (hly : ys.length ≤ 70368744177664) (hs : (opE d).isSome = true) :
    Calls Try.prog 50 #[.pointer (some ⟨g, 0, none⟩), .agg (opC4 d u)] w (GetOut w g v ys d) := by
  obtain ⟨k, s, n, xs⟩ := d
  by_cases h0 : k = 0
  · subst h0
    refine get50_0 g s n xs u v ys w he hd ?_
    rw [opE, if_pos rfl] at hs
    split at hs
    · assumption
    · cases hs
  · by_cases h1 : k = 1
    · subst h1; exact get50_1 g s n xs u v ys w he hd
    · by_cases h2 : k = 2
      · subst h2; exact get50_2 g s n xs u v ys w he hd hu0 hly
      · exact get50_3 g k s n xs u v ys w h0 h1 h2 he hd hu0 hly
end
end Go.Proofs.Ytkibccmfgndfjaa
