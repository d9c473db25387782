/- Contracts and words that the laws stand on (CoinA). -/
import Derived.Test.YteljmpoaggfliaaTxE
import Derived.Test.YteljmpoaggfliaaTxF
import Derived.Test.YteljmpoaggfliaaTxC
import Derived.Test.YteljmpoaggfliaaTxD
set_option linter.unusedVariables false
set_option linter.unusedSimpArgs false
namespace Go.Proofs.Yteljmpoaggfliaa
section
open Go Go.RowKit Go.Proofs Go.ChangeShapes
/-! Coins' versions, what a block does, and their cells. -/
def I64 (n : Int) : Prop := -9223372036854775808 ≤ n ∧ n ≤ 9223372036854775807
structure TVer where
  h : List UInt8
  n : Nat
  made : Int
  v : Int
  s : List UInt8
  base : Bool
  spent : Int
  spr : List UInt8
structure TVer.ok (x : TVer) : Prop where
  h : x.h.length = 32
  n : x.n < 4294967296
  made : I64 x.made
  v : I64 x.v
  spent : I64 x.spent
  spr : x.spr.length = 32
structure TSp where
  h : List UInt8
  n : Nat
  spr : List UInt8
structure TSp.ok (x : TSp) : Prop where
  h : x.h.length = 32
  n : x.n < 4294967296
  spr : x.spr.length = 32
structure TAp where
  ht : Int
  blk : List UInt8
  made : List TVer
  sps : List TSp
  burnt : Int
  left : Int
structure TAp.ok (a : TAp) : Prop where
  ht : I64 a.ht
  blk : a.blk.length = 32
  burnt : I64 a.burnt
  left : I64 a.left
  made : ∀ x ∈ a.made, x.ok
  sps : ∀ x ∈ a.sps, x.ok
def verC (x : Value × TVer) : List Value := bs x.2.h ++ (.int .u32 (x.2.n : Int) :: .int .i64 x.2.made :: .int .i64 x.2.v :: x.1 :: .bool x.2.base :: .int .i64 x.2.spent :: bs x.2.spr)
def spC (x : TSp) : List Value := bs x.h ++ (.int .u32 (x.n : Int) :: bs x.spr)
theorem verC_length {x : Value × TVer} (h : x.2.ok) : (verC x).length = 70 := by simp [verC, h.h, h.spr]
theorem spC_length {x : TSp} (h : x.ok) : (spC x).length = 65 := by simp [spC, h.h, h.spr]
theorem verC_pt {x : Value × TVer} (h : x.2.ok) : ((verC x).drop 0).take 33 = bs x.2.h ++ [.int .u32 (x.2.n : Int)] := by
  rw [List.drop_zero, verC, show 33 = (bs x.2.h).length + 1 by simp [h.h], List.take_length_add_append]
  rfl
theorem verC_h {x : Value × TVer} (h : x.2.ok) : ((verC x).drop 0).take 32 = bs x.2.h := by
  rw [List.drop_zero, verC, List.take_left']
  simp [h.h]
theorem verC_spr {x : Value × TVer} (h : x.2.ok) : ((verC x).drop 38).take 32 = bs x.2.spr := by
  rw [verC, List.drop_append, List.drop_of_length_le (by simp [h.h])]
  simp only [bs_length, h.h, List.nil_append]
  show List.take 32 (bs x.2.spr) = _
  rw [List.take_of_length_le (by simp [h.spr])]
theorem verC_32 {x : Value × TVer} (h : x.2.ok) : (verC x)[32]? = some (.int .u32 (x.2.n : Int)) := by
  rw [verC, List.getElem?_append_right (by simp [h.h])]; simp [h.h]
theorem verC_33 {x : Value × TVer} (h : x.2.ok) : (verC x)[33]? = some (.int .i64 x.2.made) := by
  rw [verC, List.getElem?_append_right (by simp [h.h])]; simp [h.h]
theorem verC_34 {x : Value × TVer} (h : x.2.ok) : (verC x)[34]? = some (.int .i64 x.2.v) := by
  rw [verC, List.getElem?_append_right (by simp [h.h])]; simp [h.h]
theorem verC_35 {x : Value × TVer} (h : x.2.ok) : (verC x)[35]? = some x.1 := by
  rw [verC, List.getElem?_append_right (by simp [h.h])]; simp [h.h]
theorem verC_36 {x : Value × TVer} (h : x.2.ok) : (verC x)[36]? = some (.bool x.2.base) := by
  rw [verC, List.getElem?_append_right (by simp [h.h])]; simp [h.h]
theorem verC_37 {x : Value × TVer} (h : x.2.ok) : (verC x)[37]? = some (.int .i64 x.2.spent) := by
  rw [verC, List.getElem?_append_right (by simp [h.h])]; simp [h.h]
theorem spC_pt {x : TSp} (h : x.ok) : ((spC x).drop 0).take 33 = bs x.h ++ [.int .u32 (x.n : Int)] := by
  rw [List.drop_zero, spC, show 33 = (bs x.h).length + 1 by simp [h.h], List.take_length_add_append]
  rfl
theorem spC_spr {x : TSp} (h : x.ok) : ((spC x).drop 33).take 32 = bs x.spr := by
  rw [spC, List.drop_append, List.drop_of_length_le (by simp [h.h])]
  simp only [bs_length, h.h, List.nil_append]
  show List.take 32 (bs x.spr) = _
  rw [List.take_of_length_le (by simp [h.spr])]
/-- What a block does, in memory. -/
structure ApM where
  ht : Int
  blk : List UInt8
  mv : Value
  made : List (Value × TVer)
  sv : Value
  sps : List TSp
  burnt : Int
  left : Int
def ApM.p (a : ApM) : TAp := ⟨a.ht, a.blk, a.made.map (·.2), a.sps, a.burnt, a.left⟩
def ApM.cs (a : ApM) : List Value := .int .i64 a.ht :: (bs a.blk ++ [a.mv, a.sv, .int .i64 a.burnt, .int .i64 a.left])
structure ApW (a : ApM) (W : World) : Prop where
  mv : SLc W a.mv 70 (a.made.map verC)
  sv : SLc W a.sv 65 (a.sps.map spC)
  ms : ∀ x ∈ a.made, HB W x.1 x.2.s
theorem ApW.away0 {a : ApM} {W : World} (h : ApW a W) : Away (Keys []) (ApW a) W := fun V hs => ⟨h.mv.away0 V hs, h.sv.away0 V hs, fun x hx => (h.ms x hx).away0 V hs⟩
theorem ApW.below {a : ApM} {W W' : World} (h : ApW a W) (hb : Below W.heap.size W W') : ApW a W' :=
  h.away0 W' ⟨hb.size, fun k o _ ho _ => (hb.block k (Array.getElem?_eq_some_iff.1 ho).1).trans ho⟩
theorem ApW.shape {a : ApM} {W : World} (h : ApW a W) : ∃ A c B d, a.mv = .slice A a.made.length c ∧ a.sv = .slice B a.sps.length d ∧ a.made.length ≤ c ∧ a.sps.length ≤ d := by
  obtain ⟨A, c, h1, h2⟩ := h.mv.shape
  obtain ⟨B, d, h3, h4⟩ := h.sv.shape
  exact ⟨A, c, B, d, by simpa using h1, by simpa using h3, by simpa using h2, by simpa using h4⟩
/-! what came in -/
theorem oc3 : Try.prog.cellsOf 3 = 1 := by kernel_rfl
theorem oc4 : Try.prog.cellsOf 4 = 1 := by kernel_rfl
theorem oc24 : Try.prog.cellsOf 24 = 1 := by kernel_rfl
theorem oc25 : Try.prog.cellsOf 25 = 1 := by kernel_rfl
theorem oc27 : Try.prog.cellsOf 27 = 37 := by kernel_rfl
theorem oc46 : Try.prog.cellsOf 46 = 70 := by kernel_rfl
theorem oc50 : Try.prog.cellsOf 50 = 65 := by kernel_rfl
theorem int_of {w : World} {cs : List Value} (g : Rd Try.prog w 3 cs) : ∃ n : Int, cs = [.int .i64 n] ∧ I64 n := by
  obtain ⟨n, rfl, hw⟩ := g.int (k := .i64) (by kernel_rfl)
  refine ⟨n, rfl, ?_⟩
  simp [Lit.wf, IntKind.min, IntKind.max, IntKind.signed, IntKind.bits] at hw; unfold I64; omega
theorem bool_of {w : World} {cs : List Value} (g : Rd Try.prog w 4 cs) : ∃ b : Bool, cs = [.bool b] := by
  obtain ⟨b, rfl⟩ := g.bool (by kernel_rfl)
  exact ⟨b, rfl⟩
theorem pt_of {w : World} {cs : List Value} (hl : cs.length = 33) (g : Rd Try.prog w 44 cs) : ∃ (tx : List UInt8) (n : Nat), tx.length = 32 ∧ n < 4294967296 ∧ cs = bs tx ++ [.int .u32 (n : Int)] := by
  obtain ⟨_, hp⟩ := g.struct Try.underlying44
  have p0 := hp _ (List.mem_cons_self ..)
  have p1 := hp _ (List.mem_cons_of_mem _ (List.mem_cons_self ..))
  clear hp
  simp only [oc23, oc42] at p0 p1
  obtain ⟨tx, htl, htx⟩ := hash_of p0
  obtain ⟨n, hn, hn2⟩ := u32_of p1
  refine ⟨tx, n, htl, hn2, ?_⟩
  rw [← htx, ← hn]
  have e : cs.drop 32 = (cs.drop 32).take 1 := (List.take_of_length_le (by rw [List.length_drop, hl]; decide)).symm
  show cs = List.take 32 (List.drop 0 cs) ++ List.take 1 (List.drop 32 cs)
  rw [← e, List.drop_zero, List.take_append_drop]
theorem ver_of {w : World} {cs : List Value} (g : Rd Try.prog w 46 cs) : ∃ x : Value × TVer, cs = verC x ∧ x.2.ok ∧ HB w x.1 x.2.s := by
  obtain ⟨hl, hf⟩ := g.struct Try.underlying46
  rw [oc46] at hl
  have f0 := hf _ (List.mem_cons_self ..)
  have f1 := hf _ (List.mem_cons_of_mem _ (List.mem_cons_self ..))
  have f2 := hf _ (List.mem_cons_of_mem _ (List.mem_cons_of_mem _ (List.mem_cons_self ..)))
  have f3 := hf _ (List.mem_cons_of_mem _ (List.mem_cons_of_mem _ (List.mem_cons_of_mem _ (List.mem_cons_self ..))))
  have f4 := hf _ (List.mem_cons_of_mem _ (List.mem_cons_of_mem _ (List.mem_cons_of_mem _ (List.mem_cons_of_mem _ (List.mem_cons_self ..)))))
  have f5 := hf _ (List.mem_cons_of_mem _ (List.mem_cons_of_mem _ (List.mem_cons_of_mem _ (List.mem_cons_of_mem _ (List.mem_cons_of_mem _ (List.mem_cons_self ..))))))
  have f6 := hf _ (List.mem_cons_of_mem _ (List.mem_cons_of_mem _ (List.mem_cons_of_mem _ (List.mem_cons_of_mem _ (List.mem_cons_of_mem _ (List.mem_cons_of_mem _ (List.mem_cons_self ..)))))))
  clear hf
  simp only [oc44, oc3, oc2, oc28, oc4, oc23] at f0 f1 f2 f3 f4 f5 f6
  obtain ⟨tx, n, htl, hn2, h0⟩ := pt_of (by rw [List.length_take, List.length_drop, hl]; rfl) f0
  obtain ⟨made, h1, hm⟩ := int_of f1
  obtain ⟨v, h2, hv⟩ := i64_of f2
  obtain ⟨s, sb, h3, hsb⟩ := hbd_of f3
  obtain ⟨base, h4⟩ := bool_of f4
  obtain ⟨spent, h5, hp⟩ := int_of f5
  obtain ⟨spr, hsl, h6⟩ := hash_of f6
  refine ⟨(s, ⟨tx, n, made, v, sb, base, spent, spr⟩), ?_, ⟨htl, hn2, hm, hv, hp, hsl⟩, hsb⟩
  have e : cs = (cs.drop 0).take 33 ++ ((cs.drop 33).take 1 ++ ((cs.drop 34).take 1 ++ ((cs.drop 35).take 1 ++ ((cs.drop 36).take 1 ++ ((cs.drop 37).take 1 ++ ((cs.drop 38).take 32 ++ [])))))) := by
    have z : ([] : List Value) = cs.drop 70 := (List.drop_of_length_le (by omega)).symm
    rw [z, ← cut_next cs 38 32, ← cut_next cs 37 1, ← cut_next cs 36 1, ← cut_next cs 35 1, ← cut_next cs 34 1, ← cut_next cs 33 1, ← cut_next cs 0 33]
    rfl
  have g0 : (cs.drop 0).take 33 = bs tx ++ [.int .u32 (n : Int)] := h0
  have g1 : (cs.drop 33).take 1 = [.int .i64 made] := h1
  have g2 : (cs.drop 34).take 1 = [.int .i64 v] := h2
  have g3 : (cs.drop 35).take 1 = [s] := h3
  have g4 : (cs.drop 36).take 1 = [.bool base] := h4
  have g5 : (cs.drop 37).take 1 = [.int .i64 spent] := h5
  have g6 : (cs.drop 38).take 32 = bs spr := h6
  rw [e, g0, g1, g2, g3, g4, g5, g6]
  simp [verC]
theorem sp_of {w : World} {cs : List Value} (g : Rd Try.prog w 50 cs) : ∃ x : TSp, cs = spC x ∧ x.ok := by
  obtain ⟨hl, hf⟩ := g.struct Try.underlying50
  rw [oc50] at hl
  have f0 := hf _ (List.mem_cons_self ..)
  have f1 := hf _ (List.mem_cons_of_mem _ (List.mem_cons_self ..))
  clear hf
  simp only [oc44, oc23] at f0 f1
  obtain ⟨tx, n, htl, hn2, h0⟩ := pt_of (by rw [List.length_take, List.length_drop, hl]; rfl) f0
  obtain ⟨spr, hsl, h6⟩ := hash_of f1
  refine ⟨⟨tx, n, spr⟩, ?_, ⟨htl, hn2, hsl⟩⟩
  have e : cs = (cs.drop 0).take 33 ++ ((cs.drop 33).take 32 ++ []) := by
    have z : ([] : List Value) = cs.drop 65 := (List.drop_of_length_le (by omega)).symm
    rw [z, ← cut_next cs 33 32, ← cut_next cs 0 33]
    rfl
  have g0 : (cs.drop 0).take 33 = bs tx ++ [.int .u32 (n : Int)] := h0
  have g6 : (cs.drop 33).take 32 = bs spr := h6
  rw [e, g0, g6]
  simp [spC]
theorem ap_of {w : World} {cs : List Value} (g : Rd Try.prog w 27 cs) : ∃ a : ApM, cs = a.cs ∧ a.p.ok ∧ ApW a w := by
  obtain ⟨hl, hf⟩ := g.struct Try.underlying27
  rw [oc27] at hl
  have f0 := hf _ (List.mem_cons_self ..)
  have f1 := hf _ (List.mem_cons_of_mem _ (List.mem_cons_self ..))
  have f2 := hf _ (List.mem_cons_of_mem _ (List.mem_cons_of_mem _ (List.mem_cons_self ..)))
  have f3 := hf _ (List.mem_cons_of_mem _ (List.mem_cons_of_mem _ (List.mem_cons_of_mem _ (List.mem_cons_self ..))))
  have f4 := hf _ (List.mem_cons_of_mem _ (List.mem_cons_of_mem _ (List.mem_cons_of_mem _ (List.mem_cons_of_mem _ (List.mem_cons_self ..)))))
  have f5 := hf _ (List.mem_cons_of_mem _ (List.mem_cons_of_mem _ (List.mem_cons_of_mem _ (List.mem_cons_of_mem _ (List.mem_cons_of_mem _ (List.mem_cons_self ..))))))
  clear hf
  simp only [oc3, oc23, oc24, oc25, oc2] at f0 f1 f2 f3 f4 f5
  obtain ⟨ht, h0, hh⟩ := int_of f0
  obtain ⟨blk, hbl, h1⟩ := hash_of f1
  obtain ⟨mv, made, h2, hi, hip⟩ := slc_of (C := verC) (p := fun x => x.2.ok ∧ HB w x.1 x.2.s) (T := 24) (by kernel_rfl) oc46 (by decide) (fun cs h => ver_of h) f2
  obtain ⟨sv, sps, h3, ho, hop⟩ := slc_of (C := spC) (p := fun x => x.ok) (T := 25) (by kernel_rfl) oc50 (by decide) (fun cs h => sp_of h) f3
  obtain ⟨burnt, h4, hb⟩ := i64_of f4
  obtain ⟨left, h5, hle⟩ := i64_of f5
  refine ⟨⟨ht, blk, mv, made, sv, sps, burnt, left⟩, ?_, ⟨hh, hbl, hb, hle, fun x hx => by obtain ⟨y, hy, rfl⟩ := List.mem_map.1 hx; exact (hip y hy).1, fun x hx => hop x hx⟩, ⟨hi, ho, fun x hx => (hip x hx).2⟩⟩
  have e : cs = (cs.drop 0).take 1 ++ ((cs.drop 1).take 32 ++ ((cs.drop 33).take 1 ++ ((cs.drop 34).take 1 ++ ((cs.drop 35).take 1 ++ ((cs.drop 36).take 1 ++ []))))) := by
    have z : ([] : List Value) = cs.drop 37 := (List.drop_of_length_le (by omega)).symm
    rw [z, ← cut_next cs 36 1, ← cut_next cs 35 1, ← cut_next cs 34 1, ← cut_next cs 33 1, ← cut_next cs 1 32, ← cut_next cs 0 1]
    rfl
  have g0 : (cs.drop 0).take 1 = [.int .i64 ht] := h0
  have g1 : (cs.drop 1).take 32 = bs blk := h1
  have g2 : (cs.drop 33).take 1 = [mv] := h2
  have g3 : (cs.drop 34).take 1 = [sv] := h3
  have g4 : (cs.drop 35).take 1 = [.int .i64 burnt] := h4
  have g5 : (cs.drop 36).take 1 = [.int .i64 left] := h5
  rw [e, g0, g1, g2, g3, g4, g5]
  simp [ApM.cs]
end
section
open Go Go.RowKit Go.Proofs
attribute [local go_sem] Oper.semAt_some
attribute [local irreducible] Calls
theorem ag46 : aggr Try.prog 46 70 = true := by kernel_rfl
theorem verC_all {x : Value × TVer} (h : x.2.ok) : ((verC x).drop 0).take 70 = verC x := by
  rw [List.drop_zero, List.take_of_length_le (by rw [verC_length h]; exact Nat.le_refl _)]
theorem verC_pt33 {x : Value × TVer} (h : x.2.ok) : (bs x.2.h ++ [Value.int .u32 (x.2.n : Int)]).length = 33 := pt_len _ _ h.h
/-- The order of versions. -/
def O2 (a b : (List UInt8 × Int) × Int) : Int := if O a.1 b.1 = 0 then ordN a.2 b.2 else O a.1 b.1
def vP (x : TVer) : (List UInt8 × Int) × Int := ((x.h, (x.n : Int)), x.made)
theorem ordN_neg (n m : Int) : ordN m n = - ordN n m := by
  rcases ordN_cases n m with h | h | h <;> rcases ordN_cases m n with g | g | g <;> omega
theorem O2_cases (a b : (List UInt8 × Int) × Int) : O2 a b = -1 ∨ O2 a b = 0 ∨ O2 a b = 1 := by
  unfold O2
  split
  · rcases ordN_cases a.2 b.2 with h | h | h
    · exact .inl h.1
    · exact .inr (.inl h.1)
    · exact .inr (.inr h.1)
  · exact O_cases _ _
theorem O2_zero {a b : (List UInt8 × Int) × Int} (h : O2 a b = 0) : a = b := by
  unfold O2 at h
  split at h
  · rename_i h0
    have h1 := O_zero h0
    rcases ordN_cases a.2 b.2 with h2 | h2 | h2
    · omega
    · exact Prod.ext h1 h2.2
    · omega
  · rename_i h0; exact absurd h h0
theorem O2_neg (a b : (List UInt8 × Int) × Int) : O2 b a = - O2 a b := by
  unfold O2
  have h1 := O_neg a.1 b.1
  by_cases h0 : O a.1 b.1 = 0
  · rw [if_pos h0, if_pos (by omega)]
    exact ordN_neg _ _
  · rw [if_neg h0, if_neg (by omega)]
    exact h1
theorem O2_same {p : List UInt8 × Int} {n m : Int} : O2 (p, n) (p, m) = ordN n m := by
  unfold O2
  rw [if_pos (O_refl _)]
theorem O2_trans {a b c : (List UInt8 × Int) × Int} (h1 : O2 a b = -1) (h2 : O2 b c = -1) : O2 a c = -1 := by
  unfold O2 at h1 h2 ⊢
  by_cases x1 : O a.1 b.1 = 0
  · have e1 := O_zero x1
    rw [if_pos x1] at h1
    rw [e1]
    by_cases x2 : O b.1 c.1 = 0
    · rw [if_pos x2] at h2 ⊢
      rcases ordN_cases a.2 b.2 with h3 | h3 | h3 <;> rcases ordN_cases b.2 c.2 with h4 | h4 | h4 <;> rcases ordN_cases a.2 c.2 with h5 | h5 | h5 <;> omega
    · rw [if_neg x2] at h2 ⊢; exact h2
  · rw [if_neg x1] at h1
    by_cases x2 : O b.1 c.1 = 0
    · rw [← O_zero x2, if_neg x1]; exact h1
    · rw [if_neg x2] at h2
      have := O_trans h1 h2
      rw [if_neg (by omega)]; exact this
theorem O2_tri (a b c : (List UInt8 × Int) × Int) : (O2 a b = -1 ∧ O2 b c = -1 → O2 a c = -1) ∧ (O2 a b = 1 ∧ O2 b c = 1 → O2 a c = 1) ∧ (O2 a b = 0 → O2 a c = O2 b c) ∧ (O2 b c = 0 → O2 a c = O2 a b) := by
  refine ⟨fun h => O2_trans h.1 h.2, fun h => ?_, fun h => by rw [O2_zero h], fun h => by rw [← O2_zero h]⟩
  have h1 := O2_neg a b; have h2 := O2_neg b c; have h3 := O2_neg a c
  have := O2_trans (a := c) (b := b) (c := a) (by omega) (by omega)
  omega
theorem isNaN125 (n : Int) (w : World) : Calls Try.prog 125 #[.int .i64 n] w fun e w' => e = .returned (.bool false) ∧ w' = w := by
  go_enter Try.func125, Try.ntmps125
  go_wp2
  go_ret
  exact ⟨by simp, rfl⟩
set_option maxHeartbeats 1000000 in
set_option maxRecDepth 100000 in
theorem compare73 (n m : Int) (w : World) : Calls Try.prog 73 #[.int .i64 n, .int .i64 m] w fun e w' => e = .returned (.int .i64 (ordN n m)) ∧ w' = w := by
  by_cases h1 : n < m
  · go_enter Try.func73, Try.ntmps73
    go_wp2_with (go_at_call 125; refine (isNaN125 _ _).mono ?_; rintro e w' ⟨rfl, rfl⟩)
    go_ret
    exact ⟨by simp [ordN, h1], rfl⟩
  · by_cases h2 : m < n
    · go_enter Try.func73, Try.ntmps73
      go_wp2_with (go_at_call 125; refine (isNaN125 _ _).mono ?_; rintro e w' ⟨rfl, rfl⟩)
      go_ret
      exact ⟨by simp [ordN, h1, h2], rfl⟩
    · go_enter Try.func73, Try.ntmps73
      go_wp2_with (go_at_call 125; refine (isNaN125 _ _).mono ?_; rintro e w' ⟨rfl, rfl⟩)
      go_ret
      exact ⟨by rw [show ordN n m = 0 by unfold ordN; rw [if_neg (by omega), if_neg (by omega)]]; rfl, rfl⟩
attribute [local irreducible] verC O ordN
set_option maxHeartbeats 1000000 in
set_option maxRecDepth 100000 in
theorem cmp24 (x y : Value × TVer) (w : World) (hx : x.2.ok) (hy : y.2.ok) {R : Int} (hR : O2 (vP x.2) (vP y.2) = R) :
    Calls Try.prog 24 #[.agg (verC x).toArray, .agg (verC y).toArray] w fun e w' => e = .returned (.int .i64 R) ∧ Below w.heap.size w w' := by
  obtain ⟨R1, hR1⟩ : ∃ R1, O (x.2.h, (x.2.n : Int)) (y.2.h, (y.2.n : Int)) = R1 := ⟨_, rfl⟩
  obtain ⟨R2, hR2⟩ : ∃ R2, ordN x.2.made y.2.made = R2 := ⟨_, rfl⟩
  have HR := Lib.hid (show (if R1 = 0 then R2 else R1) = R by rw [← hR, ← hR1, ← hR2]; rfl)
  have HR1 := Lib.hid hR1; have HR2 := Lib.hid hR2
  have Hx := Lib.hid hx; have Hy := Lib.hid hy
  have HS := Lib.hid (St.start w)
  clear hR hR1 hR2 hx hy
  go_enter Try.func24, Try.ntmps24
  go_wp2_with (first
    | (refine atd 2 (by rfl) ?_; refine wl (by rfl) (s_bx (l := verC x) HS.out (by rfl) (by rfl) ?_); intro b2 Wn hS; clear HS; have HS := Lib.hid hS; clear hS)
    | (refine atd 3 (by rfl) ?_; refine wl (by rfl) (s_bx (l := verC y) HS.out (by rfl) (by rfl) ?_); intro b3 Wn hS; clear HS; have HS := Lib.hid hS; clear hS))
  refine wp_region_pi [(0, true), (1, true), (2, true), (3, true), (5, true), (6, true), (7, true), (8, true), (4, false), (9, false), (10, false), (11, false), (12, true)] (by kernel_rfl) (by kernel_rfl) rfl (by kernel_rfl) (fun _ _ _ _ _ h => h) (fun w' => St w w' [Blk b3 (verC y) 46, Blk b2 (verC x) 46] []) HS.out.drew ?_
  intro OPS hops
  have hS := HS.out.drew
  clear HS; have HS := Lib.hid hS; clear hS
  iterate 8
    first | (refine wpPi_yield _ (by rw [hops.out]; simp only [List.getElem?_toArray, List.getElem?_cons_succ, List.getElem?_cons_zero]; rfl) (by first | rfl | (rw [hops.out]; rfl)) (fun w' hS => by first | exact run_lda (n := 33) (cs := bs x.2.h ++ [Value.int .u32 (x.2.n : Int)]) ag44 (by rfl) (by rfl) (hS.range (i := 1) rfl (by rw [verC_pt33 Hx.out]; exact verC_pt Hx.out)) (verC_pt33 Hx.out) | exact run_lda (n := 33) (cs := bs y.2.h ++ [Value.int .u32 (y.2.n : Int)]) ag44 (by rfl) (by rfl) (hS.range (i := 0) rfl (by rw [verC_pt33 Hy.out]; exact verC_pt Hy.out)) (verC_pt33 Hy.out) | exact run_ld (by kernel_rfl) (by rfl) (by rfl) (hS.cell (i := 1) rfl (verC_33 Hx.out)) | exact run_ld (by kernel_rfl) (by rfl) (by rfl) (hS.cell (i := 0) rfl (verC_33 Hy.out)) | (go_simp; rfl)) ?_; simp only [Act.put, List.setIfInBounds_toArray, List.set_cons_succ, List.set_cons_zero]) | (refine wpPi_skip (by rw [hops.out]; simp only [List.getElem?_toArray, List.getElem?_cons_succ, List.getElem?_cons_zero]; rfl) (by first | rfl | (rw [hops.out]; rfl)) ?_; simp only [Act.put, List.setIfInBounds_toArray, List.set_cons_succ, List.set_cons_zero])
  refine wpPi_act (by rw [hops.out]; simp only [List.getElem?_toArray, List.getElem?_cons_succ, List.getElem?_cons_zero]; rfl) (by first | rfl | (rw [hops.out]; rfl)) ?_
  go_simp
  refine (cmp44 x.2.h y.2.h x.2.n y.2.n R1 _ Hx.out.h Hy.out.h HR1.out).mono ?_
  rintro e Wn ⟨rfl, hb⟩
  have hS := HS.out.call hb
  clear HS; have HS := Lib.hid hS; clear hS
  clear hb
  refine ⟨HS.out, ?_⟩
  try simp only [Act.put, List.setIfInBounds_toArray, List.set_cons_succ, List.set_cons_zero]
  refine wpPi_act (by rw [hops.out]; simp only [List.getElem?_toArray, List.getElem?_cons_succ, List.getElem?_cons_zero]; rfl) (by first | rfl | (rw [hops.out]; rfl)) ?_
  go_simp
  refine (compare73 _ _ _).mono ?_
  rw [HR2.out]
  rintro e Wn ⟨rfl, hb⟩
  subst hb
  refine ⟨HS.out, ?_⟩
  try simp only [Act.put, List.setIfInBounds_toArray, List.set_cons_succ, List.set_cons_zero]
  refine wpPi_act (by rw [hops.out]; simp only [List.getElem?_toArray, List.getElem?_cons_succ, List.getElem?_cons_zero]; rfl) (by first | rfl | (rw [hops.out]; rfl)) ?_
  refine wp_of_run (run_bs (E := 3) (z := .int .i64 0) (s := 1) (cs := [.int .i64 R1, .int .i64 R2]) (by rfl) Try.underlying173 (by kernel_rfl) (by rfl) (by decide) (by decide) (by kernel_rfl)) ?_
  have hS9 := HS.out.alloc [.int .i64 R1, .int .i64 R2] 3
  have HS9 := Lib.hid hS9
  clear hS9
  refine ⟨HS9.out.sub 0, ?_⟩
  try simp only [Act.put, List.setIfInBounds_toArray, List.set_cons_succ, List.set_cons_zero]
  refine wpPi_act (by rw [hops.out]; simp only [List.getElem?_toArray, List.getElem?_cons_succ, List.getElem?_cons_zero]; rfl) (by first | rfl | (rw [hops.out]; rfl)) ?_
  go_simp
  refine (or52 _ R1 R2 _ (HS9.out.cell (i := 0) (k := 0) rfl rfl) (HS9.out.cell (i := 0) (k := 1) rfl rfl)).mono ?_
  rw [HR.out]
  rintro e Wn ⟨rfl, hb⟩
  subst hb
  refine ⟨HS9.out.sub 0, ?_⟩
  have HS := Lib.hid (HS9.out.sub 0)
  iterate 1
    first | (refine wpPi_yield _ (by rw [hops.out]; simp only [List.getElem?_toArray, List.getElem?_cons_succ, List.getElem?_cons_zero]; rfl) (by first | rfl | (rw [hops.out]; rfl)) (fun w' hS => by first | exact run_lda (n := 33) (cs := bs x.2.h ++ [Value.int .u32 (x.2.n : Int)]) ag44 (by rfl) (by rfl) (hS.range (i := 1) rfl (by rw [verC_pt33 Hx.out]; exact verC_pt Hx.out)) (verC_pt33 Hx.out) | exact run_lda (n := 33) (cs := bs y.2.h ++ [Value.int .u32 (y.2.n : Int)]) ag44 (by rfl) (by rfl) (hS.range (i := 0) rfl (by rw [verC_pt33 Hy.out]; exact verC_pt Hy.out)) (verC_pt33 Hy.out) | exact run_ld (by kernel_rfl) (by rfl) (by rfl) (hS.cell (i := 1) rfl (verC_33 Hx.out)) | exact run_ld (by kernel_rfl) (by rfl) (by rfl) (hS.cell (i := 0) rfl (verC_33 Hy.out)) | (go_simp; rfl)) ?_; simp only [Act.put, List.setIfInBounds_toArray, List.set_cons_succ, List.set_cons_zero]) | (refine wpPi_skip (by rw [hops.out]; simp only [List.getElem?_toArray, List.getElem?_cons_succ, List.getElem?_cons_zero]; rfl) (by first | rfl | (rw [hops.out]; rfl)) ?_; simp only [Act.put, List.setIfInBounds_toArray, List.set_cons_succ, List.set_cons_zero])
  simp only [wpPi]
  clear OPS hops
  go_wp2_with fail
  go_ret
  exact ⟨rfl, HS.out.below⟩
set_option maxHeartbeats 1000000 in
set_option maxRecDepth 100000 in
theorem there22a (x : Value × TVer) (n m sp : Int) (w : World) (c33 : (verC x)[33]? = some (.int .i64 m)) (c37 : (verC x)[37]? = some (.int .i64 sp)) (h1 : ¬ m ≤ n) :
    Calls Try.prog 22 #[.agg (verC x).toArray, .int .i64 n] w fun e w' => e = .returned (.bool false) ∧ Below w.heap.size w w' := by
  have HS := Lib.hid (St.start w)
  have C33 := Lib.hid c33; have C37 := Lib.hid c37
  clear c33 c37
  have k1 : decide (m ≤ n) = false := decide_eq_false h1
  clear h1
  go_enter Try.func22, Try.ntmps22
  go_wp2_with (first
    | go_skip
    | (refine atd 2 (by rfl) ?_; refine wl (by rfl) (s_bx (l := verC x) HS.out (by rfl) (by rfl) ?_); intro b2 Wn hS; clear HS; have HS := Lib.hid hS; clear hS)
    | (refine atd 6 (by rfl) ?_; refine wl (by rfl) (s_ld HS.out 0 (by rfl) (by rfl) (by rfl) (by kernel_rfl) (by exact C33.out) ?_))
    | (refine atd 11 (by rfl) ?_; refine wl (by rfl) (s_ld HS.out 0 (by rfl) (by rfl) (by rfl) (by kernel_rfl) (by exact C37.out) ?_))
    | (refine atd 15 (by rfl) ?_; refine wl (by rfl) (s_ld HS.out 0 (by rfl) (by rfl) (by rfl) (by kernel_rfl) (by exact C37.out) ?_)))
  go_ret
  exact ⟨rfl, HS.out.below⟩
set_option maxHeartbeats 1000000 in
set_option maxRecDepth 100000 in
theorem there22b (x : Value × TVer) (n m sp : Int) (w : World) (c33 : (verC x)[33]? = some (.int .i64 m)) (c37 : (verC x)[37]? = some (.int .i64 sp)) (h1 : m ≤ n) (h2 : sp = 0) :
    Calls Try.prog 22 #[.agg (verC x).toArray, .int .i64 n] w fun e w' => e = .returned (.bool true) ∧ Below w.heap.size w w' := by
  have HS := Lib.hid (St.start w)
  have C33 := Lib.hid c33; have C37 := Lib.hid c37
  clear c33 c37
  subst h2
  go_enter Try.func22, Try.ntmps22
  go_wp2_with (first
    | go_skip
    | (refine atd 2 (by rfl) ?_; refine wl (by rfl) (s_bx (l := verC x) HS.out (by rfl) (by rfl) ?_); intro b2 Wn hS; clear HS; have HS := Lib.hid hS; clear hS)
    | (refine atd 6 (by rfl) ?_; refine wl (by rfl) (s_ld HS.out 0 (by rfl) (by rfl) (by rfl) (by kernel_rfl) (by exact C33.out) ?_))
    | (refine atd 11 (by rfl) ?_; refine wl (by rfl) (s_ld HS.out 0 (by rfl) (by rfl) (by rfl) (by kernel_rfl) (by exact C37.out) ?_))
    | (refine atd 15 (by rfl) ?_; refine wl (by rfl) (s_ld HS.out 0 (by rfl) (by rfl) (by rfl) (by kernel_rfl) (by exact C37.out) ?_)))
  go_ret
  exact ⟨rfl, HS.out.below⟩
set_option maxHeartbeats 1000000 in
set_option maxRecDepth 100000 in
theorem there22c (x : Value × TVer) (n m sp : Int) (w : World) (c33 : (verC x)[33]? = some (.int .i64 m)) (c37 : (verC x)[37]? = some (.int .i64 sp)) (h1 : m ≤ n) (h2 : ¬ sp = 0) (h3 : n < sp) :
    Calls Try.prog 22 #[.agg (verC x).toArray, .int .i64 n] w fun e w' => e = .returned (.bool true) ∧ Below w.heap.size w w' := by
  have HS := Lib.hid (St.start w)
  have C33 := Lib.hid c33; have C37 := Lib.hid c37
  clear c33 c37
  have k2 : (sp == 0) = false := by rw [beq_eq_false_iff_ne]; exact h2
  clear h2
  go_enter Try.func22, Try.ntmps22
  go_wp2_with (first
    | go_skip
    | (refine atd 2 (by rfl) ?_; refine wl (by rfl) (s_bx (l := verC x) HS.out (by rfl) (by rfl) ?_); intro b2 Wn hS; clear HS; have HS := Lib.hid hS; clear hS)
    | (refine atd 6 (by rfl) ?_; refine wl (by rfl) (s_ld HS.out 0 (by rfl) (by rfl) (by rfl) (by kernel_rfl) (by exact C33.out) ?_))
    | (refine atd 11 (by rfl) ?_; refine wl (by rfl) (s_ld HS.out 0 (by rfl) (by rfl) (by rfl) (by kernel_rfl) (by exact C37.out) ?_))
    | (refine atd 15 (by rfl) ?_; refine wl (by rfl) (s_ld HS.out 0 (by rfl) (by rfl) (by rfl) (by kernel_rfl) (by exact C37.out) ?_)))
  go_ret
  exact ⟨rfl, HS.out.below⟩
set_option maxHeartbeats 1000000 in
set_option maxRecDepth 100000 in
theorem there22d (x : Value × TVer) (n m sp : Int) (w : World) (c33 : (verC x)[33]? = some (.int .i64 m)) (c37 : (verC x)[37]? = some (.int .i64 sp)) (h1 : m ≤ n) (h2 : ¬ sp = 0) (h3 : ¬ n < sp) :
    Calls Try.prog 22 #[.agg (verC x).toArray, .int .i64 n] w fun e w' => e = .returned (.bool false) ∧ Below w.heap.size w w' := by
  have HS := Lib.hid (St.start w)
  have C33 := Lib.hid c33; have C37 := Lib.hid c37
  clear c33 c37
  have k2 : (sp == 0) = false := by rw [beq_eq_false_iff_ne]; exact h2
  have k3 : decide (n < sp) = false := decide_eq_false h3
  clear h2 h3
  go_enter Try.func22, Try.ntmps22
  go_wp2_with (first
    | go_skip
    | (refine atd 2 (by rfl) ?_; refine wl (by rfl) (s_bx (l := verC x) HS.out (by rfl) (by rfl) ?_); intro b2 Wn hS; clear HS; have HS := Lib.hid hS; clear hS)
    | (refine atd 6 (by rfl) ?_; refine wl (by rfl) (s_ld HS.out 0 (by rfl) (by rfl) (by rfl) (by kernel_rfl) (by exact C33.out) ?_))
    | (refine atd 11 (by rfl) ?_; refine wl (by rfl) (s_ld HS.out 0 (by rfl) (by rfl) (by rfl) (by kernel_rfl) (by exact C37.out) ?_))
    | (refine atd 15 (by rfl) ?_; refine wl (by rfl) (s_ld HS.out 0 (by rfl) (by rfl) (by rfl) (by kernel_rfl) (by exact C37.out) ?_)))
  go_ret
  exact ⟨rfl, HS.out.below⟩
def isThere (x : TVer) (n : Int) : Bool := decide (x.made ≤ n ∧ (x.spent = 0 ∨ n < x.spent))
theorem there22 (x : Value × TVer) (n : Int) (w : World) (hx : x.2.ok) :
    Calls Try.prog 22 #[.agg (verC x).toArray, .int .i64 n] w fun e w' => e = .returned (.bool (isThere x.2 n)) ∧ Below w.heap.size w w' := by
  unfold isThere
  by_cases h1 : x.2.made ≤ n
  · by_cases h2 : x.2.spent = 0
    · rw [decide_eq_true ⟨h1, .inl h2⟩]
      exact there22b x n _ _ w (verC_33 hx) (verC_37 hx) h1 h2
    · by_cases h3 : n < x.2.spent
      · rw [decide_eq_true ⟨h1, .inr h3⟩]
        exact there22c x n _ _ w (verC_33 hx) (verC_37 hx) h1 h2 h3
      · rw [decide_eq_false (by rintro ⟨_, h | h⟩; exact h2 h; exact h3 h)]
        exact there22d x n _ _ w (verC_33 hx) (verC_37 hx) h1 h2 h3
  · rw [decide_eq_false (fun h => h1 h.1)]
    exact there22a x n _ _ w (verC_33 hx) (verC_37 hx) h1
end
section
open Go Go.RowKit Go.Proofs
attribute [local go_sem] Oper.semAt_some
attribute [local irreducible] Calls
/-- The chapter's block: nothing is made, and nothing spent. -/
def apE : List Value := .int .i64 2 :: (bs zh ++ [.slice none 0 0, .slice none 0 0, .int .i64 1, .int .i64 0])
theorem apE_len : apE.length = 37 := by simp [apE, zh]
theorem apE_0 : apE[0]? = some (.int .i64 2) := rfl
theorem apE_33 : apE[33]? = some (.slice none 0 0) := rfl
theorem apE_34 : apE[34]? = some (.slice none 0 0) := rfl
theorem apE_35 : apE[35]? = some (.int .i64 1) := rfl
theorem apE_36 : apE[36]? = some (.int .i64 0) := rfl
theorem apE_all : (apE.drop 0).take 37 = apE := rfl
theorem apE_blk : (apE.drop 1).take 32 = bs zh := rfl
theorem ag27 : aggr Try.prog 27 37 = true := by kernel_rfl
def isH (n : Int) : Bool := decide (0 ≤ n ∧ n ≤ 1048576)
def isM (n : Int) : Bool := decide (0 ≤ n ∧ n ≤ 2100000000000000)
set_option maxHeartbeats 1000000 in
set_option maxRecDepth 100000 in
theorem height59a (n : Int) (w : World) (h : ¬ 0 ≤ n) : Calls Try.prog 59 #[.int .i64 n] w fun e w' => e = .returned (.bool false) ∧ w' = w := by
  have k1 : decide (0 ≤ n) = false := decide_eq_false h
  clear h
  go_enter Try.func59, Try.ntmps59
  go_wp2_with (first | go_skip | fail)
  go_ret
  exact ⟨rfl, rfl⟩
set_option maxHeartbeats 1000000 in
set_option maxRecDepth 100000 in
theorem height59b (n : Int) (w : World) (h : 0 ≤ n) (h2 : ¬ n ≤ 1048576) : Calls Try.prog 59 #[.int .i64 n] w fun e w' => e = .returned (.bool false) ∧ w' = w := by
  have k1 : decide (n ≤ 1048576) = false := decide_eq_false h2
  clear h2
  go_enter Try.func59, Try.ntmps59
  go_wp2_with (first | go_skip | fail)
  go_ret
  exact ⟨rfl, rfl⟩
set_option maxHeartbeats 1000000 in
set_option maxRecDepth 100000 in
theorem height59c (n : Int) (w : World) (h : 0 ≤ n) (h2 : n ≤ 1048576) : Calls Try.prog 59 #[.int .i64 n] w fun e w' => e = .returned (.bool true) ∧ w' = w := by
  go_enter Try.func59, Try.ntmps59
  go_wp2_with (first | go_skip | fail)
  go_ret
  exact ⟨rfl, rfl⟩
theorem height59 (n : Int) (w : World) {b : Bool} (hb : isH n = b) : Calls Try.prog 59 #[.int .i64 n] w fun e w' => e = .returned (.bool b) ∧ w' = w := by
  subst hb
  unfold isH
  by_cases h : 0 ≤ n
  · by_cases h2 : n ≤ 1048576
    · rw [decide_eq_true ⟨h, h2⟩]; exact height59c n w h h2
    · rw [decide_eq_false (fun g => h2 g.2)]; exact height59b n w h h2
  · rw [decide_eq_false (fun g => h g.1)]; exact height59a n w h
set_option maxHeartbeats 1000000 in
set_option maxRecDepth 100000 in
theorem money109a (n : Int) (w : World) (h : ¬ 0 ≤ n) : Calls Try.prog 109 #[.int .i64 n] w fun e w' => e = .returned (.bool false) ∧ w' = w := by
  have k1 : decide (0 ≤ n) = false := decide_eq_false h
  clear h
  go_enter Try.func109, Try.ntmps109
  go_wp2_with (first | go_skip | fail)
  go_ret
  exact ⟨rfl, rfl⟩
set_option maxHeartbeats 1000000 in
set_option maxRecDepth 100000 in
theorem money109b (n : Int) (w : World) (h : 0 ≤ n) (h2 : ¬ n ≤ 2100000000000000) : Calls Try.prog 109 #[.int .i64 n] w fun e w' => e = .returned (.bool false) ∧ w' = w := by
  have k1 : decide (n ≤ 2100000000000000) = false := decide_eq_false h2
  clear h2
  go_enter Try.func109, Try.ntmps109
  go_wp2_with (first | go_skip | fail)
  go_ret
  exact ⟨rfl, rfl⟩
set_option maxHeartbeats 1000000 in
set_option maxRecDepth 100000 in
theorem money109c (n : Int) (w : World) (h : 0 ≤ n) (h2 : n ≤ 2100000000000000) : Calls Try.prog 109 #[.int .i64 n] w fun e w' => e = .returned (.bool true) ∧ w' = w := by
  go_enter Try.func109, Try.ntmps109
  go_wp2_with (first | go_skip | fail)
  go_ret
  exact ⟨rfl, rfl⟩
theorem money109 (n : Int) (w : World) {b : Bool} (hb : isM n = b) : Calls Try.prog 109 #[.int .i64 n] w fun e w' => e = .returned (.bool b) ∧ w' = w := by
  subst hb
  unfold isM
  by_cases h : 0 ≤ n
  · by_cases h2 : n ≤ 2100000000000000
    · rw [decide_eq_true ⟨h, h2⟩]; exact money109c n w h h2
    · rw [decide_eq_false (fun g => h2 g.2)]; exact money109b n w h h2
  · rw [decide_eq_false (fun g => h g.1)]; exact money109a n w h
set_option maxHeartbeats 1000000 in
set_option maxRecDepth 100000 in
theorem points110 (l : List Value) (w : World) : Calls Try.prog 110 #[.agg l.toArray] w fun e w' => ∃ b, e = .returned (.func (.func 144) #[] #[.pointer (some ⟨b, 0, none⟩)]) ∧ St w w' [Blk b l 27] [] := by
  have HS := Lib.hid (St.start w)
  go_enter Try.func110, Try.ntmps110
  go_wp2_with (first
    | (refine atd 1 (by rfl) ?_; refine wl (by rfl) (s_bx (l := l) HS.out (by rfl) (by rfl) ?_); intro b1 Wn hS; clear HS; have HS := Lib.hid hS; clear hS))
  go_ret
  exact ⟨_, rfl, HS.out⟩
theorem run_mm {P : Program} {W : World} {ev : Operand → Value} {o : Oper} {t : TypeId} (ho : o.op = .makeMap t none) : (execOp ev o).run P W = .ok (.value (.map (some W.heap.size))) (W.alloc (.map #[] 0)) := by
  unfold execOp
  simp only [ho, Option.map_none, Sem.run_bind, run_makeMap, Result.andThen_ok, Sem.run_pure]
theorem putObj_same {W : World} {r : Nat} {o : Obj} (h : W.heap[r]? = some o) : W.putObj r o = W := by
  unfold World.putObj
  obtain ⟨hlt, he⟩ := Array.getElem?_eq_some_iff.1 h
  have : W.heap.setIfInBounds r o = W.heap := by
    apply Array.ext (by simp)
    intro i h1 h2
    by_cases hi : r = i
    · subst hi; simp [he]
    · rw [Array.getElem_setIfInBounds_ne _ hi]
  cases W
  simp_all
theorem run_clr {P : Program} {W : World} {ev : Operand → Value} {o : Oper} {t kt et : TypeId} {x : Operand} {r ck : Nat} {es : Array MapEntry} (ho : o.op = .call { callee := .builtin .clear, args := #[x], argTypes := #[t] }) (hm : P.underlying t = some (.map kt et)) (hx : ev x = .map (some r)) (hr : W.heap[r]? = some (.map es ck)) : (execOp ev o).run P W = .ok (.value (.tuple #[])) (W.putObj r (.map #[] ck)) := by
  unfold execOp
  simp only [ho, resolve, invoke, builtin, Sem.run_bind, Sem.run_pure, Result.andThen_ok, List.map_toArray, List.map_cons, List.map_nil, hx]
  simp [Builtin.clear_, run_underlying hm, MapKept.run_getObj_map hr, MapKept.run_setObj_map _ hr, World.putObj, Result.andThen]
set_option maxHeartbeats 4000000 in
set_option maxRecDepth 100000 in
theorem points1_e (n b : Nat) (hn : 1 ≤ n) (w : World) (hb : w.heap[b]? = some (.cells apE.toArray 27 (0, 0))) :
    SeqStopsK Fence.wide n Try.prog 144 #[.pointer (some ⟨b, 0, none⟩)] (fun x : Empty => nomatch x) (fun _ _ => True) (fun ys => ys = []) (fun pre => pre = []) 0 w := by
  intro l J Jx W hW hJ hJx hY h0
  have hbW : W.heap[b]? = some (.cells apE.toArray 27 (0, 0)) := (hW.block b (Array.getElem?_eq_some_iff.1 hb).1).trans hb
  obtain ⟨W1, hW1⟩ : ∃ W1, W1 = W.alloc (.map #[] 0) := ⟨_, rfl⟩
  have HJ1 := Lib.hid (show J [] W1 by rw [hW1]; exact hJ [] W _ none h0 (World.grownBy_alloc W _ none) (fun r e => by cases e))
  have hm1 : W1.heap[W.heap.size]? = some (.map #[] 0) := by rw [hW1]; exact heap_alloc_new W _
  have hb1 : W1.heap[b]? = some (.cells apE.toArray 27 (0, 0)) := by rw [hW1]; exact (heap_alloc_old (w := W) _ (Array.getElem?_eq_some_iff.1 hbW).1).trans hbW
  have C33 := Lib.hid (show W1.cell? ⟨b, 33, none⟩ = some (.slice none 0 0) from (blk_cell hb1 33).trans (by simpa using apE_33))
  have C34 := Lib.hid (show W1.cell? ⟨b, 34, none⟩ = some (.slice none 0 0) from (blk_cell hb1 34).trans (by simpa using apE_34))
  have HM := Lib.hid hm1; have HW1 := Lib.hid hW1
  obtain ⟨r, hr⟩ : ∃ r, r = W.heap.size := ⟨_, rfl⟩
  have HRS := Lib.hid hr
  clear hY hJ hJx h0 hb hbW hm1 hb1 hW1 hW hr
  refine callsIn_of_wp Try.func144 rfl trivial ?_ rfl
  simp only [Try.ntmps144, List.size_toArray, List.length_cons, List.length_nil, Nat.reduceAdd, Nat.reduceSub, Array.replicate_succ, Array.replicate_zero, List.push_toArray, List.append_toArray, List.nil_append, List.cons_append]
  gi_wp2_with (first
    | (refine itd 9 (by rfl) ?_; refine il (by rfl) (wpIn_of_run (by intro c h; cases h) (by rfl) (run_mm (by rfl)) ?_); rw [← HW1.out, ← HRS.out])
    | (refine itd 11 (by rfl) ?_; refine il (by rfl) (wpIn_of_run (by intro c h; cases h) (by rfl) (run_ld (by kernel_rfl) (by rfl) (by rfl) (C33.out)) ?_)))
  gi_loopw [13] (fun s13 wr => s13 = .int .i64 0 ∧ wr = W1) (fun s13 _ => 0)
  case atStart => exact ⟨rfl, rfl⟩
  case round =>
    obtain ⟨rfl, rfl⟩ := hrel
    gi_wp2_with (first
      | (refine itd 67 (by rfl) ?_; refine il (by rfl) (wpIn_of_run (by intro c h; cases h) (by rfl) (run_ld (by kernel_rfl) (by rfl) (by rfl) (C34.out)) ?_))
      | (refine il (by rfl) (wpIn_of_run (by intro c h; cases h) (by rfl) (run_clr (by rfl) Try.underlying199 (by rfl) (by rw [HRS.out]; exact HM.out)) ?_); rw [putObj_same (by rw [HRS.out]; exact HM.out)]))
    gi_loopw [69] (fun s69 wr2 => s69 = .int .i64 0 ∧ wr2 = wr) (fun s69 _ => 0)
    case atStart => exact ⟨rfl, rfl⟩
    case round =>
      obtain ⟨rfl, rfl⟩ := hrel
      gi_wp2_with fail
      refine bodyPost_end (results_none rfl _ _ _) rfl ?_
      exact ⟨⟨_, rfl⟩, .inl ⟨[], rfl, HJ1.out⟩⟩
theorem z4 : zeroIs Try.prog 4 (.bool false) := by unfold zeroIs; kernel_rfl
attribute [local irreducible] apE
set_option maxHeartbeats 4000000 in
set_option maxRecDepth 100000 in
theorem check42_e (w : World) : Calls Try.prog 42 #[.agg apE.toArray] w fun e w' => e = .returned (.int .i64 0) ∧ Below w.heap.size w w' := by
  have HS := Lib.hid (St.start w)
  refine (callsIn_wide (n := 3)).1 ?_
  refine callsIn_of_wp_marks Try.func42 rfl trivial ?_ rfl
  simp only [Try.ntmps42, List.size_toArray, List.length_cons, List.length_nil, Nat.reduceAdd, Nat.reduceSub, Array.replicate_succ, Array.replicate_zero, List.push_toArray, List.append_toArray, List.nil_append, List.cons_append]
  refine wpIn_wide.2 ?_
  go_wp2_with (first
    | go_skip
    | (refine atd 1 (by rfl) ?_; refine wl (by rfl) (s_bx (l := apE) HS.out (by rfl) (by rfl) ?_); intro b1 Wn hS; clear HS; have HS := Lib.hid hS; clear hS))
  go_step3
  go_wp2_with (first
    | go_skip
    | (refine atd 7 (by rfl) ?_; refine wl (by rfl) (s_ld HS.out 0 (by rfl) (by rfl) (by rfl) (by kernel_rfl) (by exact apE_0) ?_))
    | (refine atd 11 (by rfl) ?_; refine wl (by rfl) (s_ld HS.out 0 (by rfl) (by rfl) (by rfl) (by kernel_rfl) (by exact apE_35) ?_))
    | (refine atd 16 (by rfl) ?_; refine wl (by rfl) (s_ld HS.out 0 (by rfl) (by rfl) (by rfl) (by kernel_rfl) (by exact apE_36) ?_))
    | (refine atd 21 (by rfl) ?_; refine wl (by rfl) (s_ld HS.out 0 (by rfl) (by rfl) (by rfl) (by kernel_rfl) (by exact apE_33) ?_))
    | (refine atd 27 (by rfl) ?_; refine wl (by rfl) (s_ld HS.out 0 (by rfl) (by rfl) (by rfl) (by kernel_rfl) (by exact apE_34) ?_))
    | (go_at_call 59; refine (height59 2 _ (b := true) (by decide)).mono ?_; rintro e Wn ⟨rfl, rfl⟩)
    | (go_at_call 109; refine (money109 1 _ (b := true) (by decide)).mono ?_; rintro e Wn ⟨rfl, rfl⟩)
    | (go_at_call 109; refine (money109 0 _ (b := true) (by decide)).mono ?_; rintro e Wn ⟨rfl, rfl⟩)
    | (refine atd 3 (by rfl) ?_; refine wl (by rfl) (s_al HS.out (by rfl) z4 (by rfl) ?_); intro b3 Wn hS; clear HS; have HS := Lib.hid hS; clear hS)
    | (refine wl (by rfl) (s_st (v := .bool true) HS.out 0 (by rfl) (by rfl) (by rfl) (by kernel_rfl) (by rfl) (by rfl) (by exact Nat.zero_lt_one) ?_); intro Wn hS; clear HS; have HS := Lib.hid hS; clear hS))
  go_step3
  go_wp2_with (first
    | go_skip
    | (refine atd 31 (by rfl) ?_; refine wl (by rfl) (s_lda (cs := apE) HS.out 1 37 (by rfl) (by rfl) (by rfl) ag27 (by exact apE_all) (apE_len) ?_))
    | (go_at_call 110; refine (points110 apE _).mono ?_; rintro e Wn ⟨bb, rfl, hb⟩; have hS := HS.out.join hb; clear hb; clear HS; have HS := Lib.hid hS; clear hS))
  have hbb : Wn.heap[bb]? = some (.cells apE.toArray 27 (0, 0)) := HS.out.blk (i := 0) rfl
  have hbz := HS.out.below.size
  refine (wpIn_wide (n := 3)).1 ?_
  refine wpIn_rangeFunc_ownF (n := 3) rfl (by omega) (gf := 144) (lb := #[.pointer (some ⟨bb, 0, none⟩)]) rfl trivial (enters_of Try.func144 (by kernel_rfl) rfl)
    (points1_e 2 bb (by omega) Wn hbb) (fun _ _ => trivial) (fun _ _ _ _ _ _ _ _ => trivial) (Below.refl _ _) (fun x => nomatch x)
    (fun pre W => St w W [Blk bb apE 27, Blk b3 [.bool true] 4, Blk b1 apE 27] []) (fun c' pre W => False) (fun s X Y row hs hg hr => hs.book hg (fun r e => ⟨Nat.le_trans hbz (hr r e).1, (hr r e).2⟩)) (fun _ s X Y row hs hg hr => hs.elim) HS.out (fun x => nomatch x)
    ?assign ?body ?done ?stop
  case assign => exact fun l x => nomatch x
  case body => exact fun l pre x => nomatch x
  case stop => exact fun D c' pre W hD hpre h => h.elim
  case done =>
    rintro D xs W hD rfl hs hK
    have HS := Lib.hid hs; have HK := Lib.hid hK; have HD := Lib.hid hD
    clear hs hbb hK hD
    gi_wp2_with fail
    go_wp2_with (first
      | go_skip
      | (refine atd 41 (by rfl) ?_; refine wl (by rfl) (s_ld HS.out 1 (by rfl) (by rfl) (by rfl) (by kernel_rfl) (by rfl) ?_)))
    have hKn := HK.out
    try rw [Exit.noGoto_ret]
    refine ⟨by simp, .inl ⟨_, _, rfl, run_takeDeferred hKn, ?_⟩⟩
    have hS2 := HS.out.book (W' := W.putObj D (.deferred none)) (grownBy_putObj' W D _) (fun r e => by cases e; exact ⟨Nat.le_trans hbz HD.out, _, hKn, rfl⟩)
    refine ⟨_, results_tmp rfl _ _ _, ?_, hS2.below⟩
    rfl
end
section
open Go Go.RowKit Go.Proofs
attribute [local go_sem] Oper.semAt_some
attribute [local irreducible] Calls
def exE : List UInt8 := [2, 0, 0, 0, 0, 0, 0, 0, 0, 0, 0, 0, 0, 0, 0, 0, 0, 0, 0, 0, 0, 0, 0, 0, 0, 0, 0, 0, 0, 0, 0, 0, 0, 0, 0, 0, 1, 0, 0, 0, 0, 0, 0, 0, 0, 0, 0, 0, 0, 0, 0, 0, 0, 0]
theorem exE_eq : [] ++ le 4 2 ++ zh ++ le 8 1 ++ le 8 0 ++ csize 0 ++ csize 0 = exE := by decide
theorem exE_len : exE.length = 54 := rfl
attribute [local irreducible] apE
set_option maxHeartbeats 2000000 in
set_option maxRecDepth 100000 in
theorem enc38_e (w : World) : Calls Try.prog 38 #[.agg apE.toArray] w fun e w' => ∃ A c, e = .returned (.tuple #[.slice A 54 c, .int .i64 0]) ∧ New w w' (Row (.slice A 54 c) 5 1 54 (bs exE)) := by
  have HS := Lib.hid (St.start w)
  go_enter Try.func38, Try.ntmps38
  go_wp2_with (first
    | go_skip
    | (refine atd 1 (by rfl) ?_; refine wl (by rfl) (s_bx (l := apE) HS.out (by rfl) (by rfl) ?_); intro b1 Wn hS; clear HS; have HS := Lib.hid hS; clear hS)
    | (refine atd 11 (by rfl) ?_; refine wl (by rfl) (s_lda (cs := apE) HS.out 0 37 (by rfl) (by rfl) (by rfl) ag27 (by exact apE_all) (apE_len) ?_))
    | (go_at_call 42; refine (check42_e _).mono ?_; rintro e Wn ⟨rfl, hb⟩; have hS := HS.out.call hb; clear hb; clear HS; have HS := Lib.hid hS; clear hS)
    | (refine atd 5 (by rfl) ?_; refine wl (by rfl) (s_al HS.out (by rfl) z80 (by rfl) ?_); intro b5 Wn hS; replace hS := hS.pen0 (i := 0) rfl; clear HS; have HS := Lib.hid hS; clear hS)
    | (refine atd 17 (by rfl) ?_; refine wl (by rfl) (s_ld HS.out 1 (by rfl) (by rfl) (by rfl) (by kernel_rfl) (by exact apE_0) ?_))
    | (refine atd 25 (by rfl) ?_; refine wl (by rfl) (s_ld HS.out 1 (by rfl) (by rfl) (by rfl) (by kernel_rfl) (by exact apE_35) ?_))
    | (refine atd 29 (by rfl) ?_; refine wl (by rfl) (s_ld HS.out 1 (by rfl) (by rfl) (by rfl) (by kernel_rfl) (by exact apE_36) ?_))
    | (refine atd 33 (by rfl) ?_; refine wl (by rfl) (s_ld HS.out 1 (by rfl) (by rfl) (by rfl) (by kernel_rfl) (by exact apE_33) ?_))
    | (refine atd 38 (by rfl) ?_; refine wl (by rfl) (s_ld HS.out 1 (by rfl) (by rfl) (by rfl) (by kernel_rfl) (by exact apE_33) ?_))
    | (go_at_call 60; refine (penFour _ 2 _ _ _ (HS.out.res (i := 0) rfl) (by decide) (by simp)).mono ?_; rintro e Wn ⟨vp, rfl, hb⟩; have hS := HS.out.pen (i := 0) rfl hb; clear hb; clear HS; have HS := Lib.hid hS; clear hS)
    | (refine atd 21 (by rfl) ?_; refine wl (by rfl) (wp_of_run (run_sla (by rfl) (by rfl)) ?_))
    | (refine atd 22 (by rfl) ?_; refine wl (by rfl) (s_bs (E := 28) (z := .slice none 0 0) HS.out 1 1 [.slice (some ⟨b1, 0 + 1, none⟩) 32 32] (by rfl) Try.underlying195 (by kernel_rfl) (by rfl) (by decide) (by decide) (by kernel_rfl) (by rfl) (by decide) ?_); intro bp Wn hS; clear HS; have HS := Lib.hid hS; clear hS)
    | (go_at_call 94; refine (penRaw1 _ _ _ (.slice (some ⟨b1, 0 + 1, none⟩) 32 32) zh _ _ _ (HS.out.res (i := 1) rfl) (HS.out.res (i := 0) rfl) (by have hh := HB.of_range (xs := zh) (b := b1) (k := 1) (HS.out.range (i := 2) rfl (by rw [bs_length]; exact apE_blk)); exact hh) (by simp [le_length, zh])).mono ?_; rintro e Wn ⟨vp, rfl, hb⟩; have hS := HS.out.pen (i := 1) rfl hb; replace hS := hS.sub 0; clear hb; clear HS; have HS := Lib.hid hS; clear hS)
    | (go_at_call 60; refine (penEight _ 1 _ _ _ (HS.out.res (i := 0) rfl) (by decide) (by simp [le_length, zh])).mono ?_; rintro e Wn ⟨vp, rfl, hb⟩; have hS := HS.out.pen (i := 0) rfl hb; clear hb; clear HS; have HS := Lib.hid hS; clear hS)
    | (go_at_call 60; refine (penEight _ 0 _ _ _ (HS.out.res (i := 0) rfl) (by decide) (by simp [le_length, zh])).mono ?_; rintro e Wn ⟨vp, rfl, hb⟩; have hS := HS.out.pen (i := 0) rfl hb; clear hb; clear HS; have HS := Lib.hid hS; clear hS)
    | (go_at_call 93; refine (penSize _ 0 _ _ _ (HS.out.res (i := 0) rfl) (by decide) (by simp [le_length, zh])).mono ?_; rintro e Wn ⟨vp, rfl, hb⟩; have hS := HS.out.pen (i := 0) rfl hb; clear hb; clear HS; have HS := Lib.hid hS; clear hS))
  go_loopw [40] (fun s40 W' => s40 = .int .i64 0 ∧ W' = Wn) (fun s40 _ => 0)
  case atStart => exact ⟨rfl, rfl⟩
  case round =>
    obtain ⟨rfl, rfl⟩ := hrel
    go_wp2_with (first
      | go_skip
      | (refine atd 60 (by rfl) ?_; refine wl (by rfl) (s_ld HS.out 1 (by rfl) (by rfl) (by rfl) (by kernel_rfl) (by exact apE_34) ?_))
      | (refine atd 65 (by rfl) ?_; refine wl (by rfl) (s_ld HS.out 1 (by rfl) (by rfl) (by rfl) (by kernel_rfl) (by exact apE_34) ?_))
      | (go_at_call 93; refine (penSize _ 0 _ _ _ (HS.out.res (i := 0) rfl) (by decide) (by simp [le_length, csize, zh])).mono ?_; rintro e Wn ⟨vp, rfl, hb⟩; have hS := HS.out.pen (i := 0) rfl hb; clear hb; clear HS; have HS := Lib.hid hS; clear hS))
    go_loopw [67] (fun s67 W' => s67 = .int .i64 0 ∧ W' = Wn) (fun s67 _ => 0)
    case atStart => exact ⟨rfl, rfl⟩
    case round =>
      obtain ⟨rfl, rfl⟩ := hrel
      go_wp2_with (first
        | go_skip
        | (go_at_call 61; refine (penAll b5 _ _ _ (HS.out.res (i := 0) rfl) (by simp [le_length, csize, zh])).mono ?_; rintro e Wn ⟨v', rfl, hb⟩; have hbw := Lib.hid HS.out.below))
      go_ret2
      rw [exE_eq] at hb
      obtain ⟨A, c, n, rfl, rfl⟩ : ∃ A c n, v' = .slice A n c ∧ n = 54 := by
        rcases hb.2.1.2 with ⟨rfl, he⟩ | ⟨g, cap, cur, rfl, _⟩
        · cases he
        · exact ⟨_, _, _, rfl, rfl⟩
      exact ⟨A, c, rfl, hbw.out.trans (hb.1.mono hbw.out.size), hb.2.1, fun k hk => ⟨Nat.le_trans hbw.out.size (hb.2.2 k hk).1, (hb.2.2 k hk).2⟩⟩
end
section
open Go Go.RowKit Go.Proofs
attribute [local go_sem] Oper.semAt_some
attribute [local irreducible] Calls
def vE : Value × TVer := (.slice none 0 0, ⟨zh, 0, 3, 0, [], false, 5, zh⟩)
theorem vE_ok : vE.2.ok := ⟨rfl, by decide, by unfold I64; decide, by unfold I64; decide, by unfold I64; decide, rfl⟩
def vEC : List Value := verC vE
theorem vEC_eq : vEC = verC vE := rfl
theorem vEC_len : vEC.length = 70 := rfl
theorem vEC_all : (vEC.drop 0).take 70 = vEC := rfl
def z46l : List Value := verC (.slice none 0 0, ⟨zh, 0, 0, 0, [], false, 0, zh⟩)
theorem z46l_len : z46l.length = 70 := rfl
theorem z46 : zeroIs Try.prog 46 (.agg z46l.toArray) := by unfold zeroIs; kernel_rfl
theorem vEC_one : ∀ v ∈ vEC, v.oneCell' = true := by
  intro v hv
  simp only [vEC, verC, vE, List.mem_append, List.mem_cons] at hv
  rcases hv with h | h | h | h | h | h | h | h
  · obtain ⟨x, _, rfl⟩ := List.mem_map.1 h; rfl
  all_goals first | (subst h; rfl) | (obtain ⟨x, _, rfl⟩ := List.mem_map.1 h; rfl)
theorem build27k (W : World) : (Instr.build 27 #[(0, .int .i64 2), (4, .int .i64 1)]).run Try.prog W = .ok (.agg apE.toArray) W := by kernel_rfl
theorem run_b27 {W : World} {ev : Operand → Value} {o : Oper} (ho : o.op = .build 27 #[(0, .const (.int .i64 2)), (4, .const (.int .i64 1))]) (hc : ∀ v, ev (.const v) = v) : (execOp ev o).run Try.prog W = .ok (.value (.agg apE.toArray)) W := by
  unfold execOp
  simp only [ho, List.map_toArray, List.map_cons, List.map_nil, hc, Sem.run_bind, build27k W, Result.andThen_ok, Sem.run_pure]
theorem build46k (W : World) : (Instr.build 46 #[(1, .int .i64 3), (5, .int .i64 5)]).run Try.prog W = .ok (.agg vEC.toArray) W := by kernel_rfl
theorem run_b46 {W : World} {ev : Operand → Value} {o : Oper} (ho : o.op = .build 46 #[(1, .const (.int .i64 3)), (5, .const (.int .i64 5))]) (hc : ∀ v, ev (.const v) = v) : (execOp ev o).run Try.prog W = .ok (.value (.agg vEC.toArray)) W := by
  unfold execOp
  simp only [ho, List.map_toArray, List.map_cons, List.map_nil, hc, Sem.run_bind, build46k W, Result.andThen_ok, Sem.run_pure]
theorem thereE (n : Int) (w : World) {b : Bool} (hb : isThere vE.2 n = b) : Calls Try.prog 22 #[.agg vEC.toArray, .int .i64 n] w fun e w' => e = .returned (.bool b) ∧ Below w.heap.size w w' := by
  subst hb
  exact there22 vE n w vE_ok
def zq : List UInt8 := List.replicate 15 0
theorem rep91q (w : World) : Calls Try.prog 91 #[.string ⟨[0].toArray⟩, .int .i64 15] w fun e w' => e = .returned (.string ⟨zq.toArray⟩) ∧ Below w.heap.size w w' := by
  refine (Try.strings_Repeat ⟨[0].toArray⟩ 15 w (by decide) (by decide)).mono ?_
  rintro e w' ⟨rfl, hb⟩
  exact ⟨by rfl, hb⟩
theorem cmpE : (exE == (({ data := #[2, 0, 0, 0] } : ByteArray) ++ { data := zh.toArray } ++ { data := #[1] } ++ { data := zq.toArray } ++ { data := #[0, 0] }).toList) = true := by
  rw [ba_toList]
  simp only [ByteArray.data_append, Array.toList_append]
  decide
attribute [local irreducible] apE vEC z46l
set_option maxHeartbeats 2000000 in
set_option maxRecDepth 100000 in
theorem alive37 (w : World) : Calls Try.prog 37 #[] w fun e w' => e = .returned (.bool true) ∧ Below w.heap.size w w' := by
  have HS := Lib.hid (St.start w)
  go_enter Try.func37, Try.ntmps37
  go_wp2_with (first
    | go_skip
    | (refine atd 5 (by rfl) ?_; refine wl (by rfl) (wp_of_run (run_b27 (by rfl) (fun _ => rfl)) ?_))
    | (go_at_call 38; refine (enc38_e _).mono ?_; rintro e Wn ⟨A1, c1, rfl, hb⟩; have hS := HS.out.take hb; clear hb; clear HS; have HS := Lib.hid hS; clear hS)
    | (refine atd 9 (by rfl) ?_; refine wl (by rfl) (wp_of_run (run_b46 (by rfl) (fun _ => rfl)) ?_))
    | (refine atd 3 (by rfl) ?_; refine wl (by rfl) (s_al (l := z46l) HS.out (by rfl) z46 (by rfl) ?_); intro b3 Wn hS; clear HS; have HS := Lib.hid hS; clear hS)
    | (refine sto 3 (by rfl) ?_; refine wl (by rfl) (s_sta (cs := vEC) HS.out 0 70 (by rfl) (by rfl) (by rfl) ag46 (by rfl) vEC_len vEC_one (by exact Nat.le_of_eq z46l_len.symm) ?_); intro Wn hS; rw [splice_all (l := z46l) (cs := vEC) (by rw [z46l_len, vEC_len])] at hS; clear HS; have HS := Lib.hid hS; clear hS))
  refine wp_region_pi [(0, true), (1, true), (2, true), (3, true), (4, true), (5, false), (6, true), (7, true), (8, false), (9, true), (10, true), (11, true), (12, true), (13, true), (14, true), (15, false), (16, true), (17, true), (18, true), (19, true), (20, false), (21, true), (22, true), (23, true), (24, false), (25, true), (26, true), (27, true), (28, false), (29, true), (30, true), (31, true)] (by kernel_rfl) (by kernel_rfl) rfl (by kernel_rfl) (fun _ _ _ _ _ h => h) (fun w' => St w w' [Blk b3 vEC 46, Row (.slice A1 54 c1) 5 1 54 (bs exE)] []) HS.out.drew ?_
  intro OPS hops
  have hS := HS.out.drew
  clear HS; have HS := Lib.hid hS; clear hS
  iterate 5
    first | (refine wpPi_yield _ (by rw [hops.out]; simp only [List.getElem?_toArray, List.getElem?_cons_succ, List.getElem?_cons_zero]; rfl) (by first | rfl | (rw [hops.out]; rfl)) (fun w' hS => by first | exact run_str (xs := exE) (by rfl) (by rfl) (Row.hb (l := exE) (hS.res (i := 1) rfl)) | exact run_lda (n := 70) (cs := vEC) ag46 (by rfl) (by rfl) (hS.range (i := 0) rfl (by rw [vEC_len]; exact vEC_all)) vEC_len | (go_simp; rfl)) ?_; simp only [Act.put, List.setIfInBounds_toArray, List.set_cons_succ, List.set_cons_zero]) | (refine wpPi_skip (by rw [hops.out]; simp only [List.getElem?_toArray, List.getElem?_cons_succ, List.getElem?_cons_zero]; rfl) (by first | rfl | (rw [hops.out]; rfl)) ?_; simp only [Act.put, List.setIfInBounds_toArray, List.set_cons_succ, List.set_cons_zero])
  refine wpPi_act (by rw [hops.out]; simp only [List.getElem?_toArray, List.getElem?_cons_succ, List.getElem?_cons_zero]; rfl) (by first | rfl | (rw [hops.out]; rfl)) ?_
  go_simp
  refine (rep91 _).mono ?_
  rintro e Wn ⟨rfl, hb⟩
  have hS := HS.out.call hb
  clear HS; have HS := Lib.hid hS; clear hS
  clear hb
  refine ⟨HS.out, ?_⟩
  try simp only [Act.put, List.setIfInBounds_toArray, List.set_cons_succ, List.set_cons_zero]
  iterate 2
    first | (refine wpPi_yield _ (by rw [hops.out]; simp only [List.getElem?_toArray, List.getElem?_cons_succ, List.getElem?_cons_zero]; rfl) (by first | rfl | (rw [hops.out]; rfl)) (fun w' hS => by first | exact run_str (xs := exE) (by rfl) (by rfl) (Row.hb (l := exE) (hS.res (i := 1) rfl)) | exact run_lda (n := 70) (cs := vEC) ag46 (by rfl) (by rfl) (hS.range (i := 0) rfl (by rw [vEC_len]; exact vEC_all)) vEC_len | (go_simp; rfl)) ?_; simp only [Act.put, List.setIfInBounds_toArray, List.set_cons_succ, List.set_cons_zero]) | (refine wpPi_skip (by rw [hops.out]; simp only [List.getElem?_toArray, List.getElem?_cons_succ, List.getElem?_cons_zero]; rfl) (by first | rfl | (rw [hops.out]; rfl)) ?_; simp only [Act.put, List.setIfInBounds_toArray, List.set_cons_succ, List.set_cons_zero])
  refine wpPi_act (by rw [hops.out]; simp only [List.getElem?_toArray, List.getElem?_cons_succ, List.getElem?_cons_zero]; rfl) (by first | rfl | (rw [hops.out]; rfl)) ?_
  go_simp
  refine (rep91q _).mono ?_
  rintro e Wn ⟨rfl, hb⟩
  have hS := HS.out.call hb
  clear HS; have HS := Lib.hid hS; clear hS
  clear hb
  refine ⟨HS.out, ?_⟩
  try simp only [Act.put, List.setIfInBounds_toArray, List.set_cons_succ, List.set_cons_zero]
  iterate 5
    first | (refine wpPi_yield _ (by rw [hops.out]; simp only [List.getElem?_toArray, List.getElem?_cons_succ, List.getElem?_cons_zero]; rfl) (by first | rfl | (rw [hops.out]; rfl)) (fun w' hS => by first | exact run_str (xs := exE) (by rfl) (by rfl) (Row.hb (l := exE) (hS.res (i := 1) rfl)) | exact run_lda (n := 70) (cs := vEC) ag46 (by rfl) (by rfl) (hS.range (i := 0) rfl (by rw [vEC_len]; exact vEC_all)) vEC_len | (go_simp; rfl)) ?_; simp only [Act.put, List.setIfInBounds_toArray, List.set_cons_succ, List.set_cons_zero]) | (refine wpPi_skip (by rw [hops.out]; simp only [List.getElem?_toArray, List.getElem?_cons_succ, List.getElem?_cons_zero]; rfl) (by first | rfl | (rw [hops.out]; rfl)) ?_; simp only [Act.put, List.setIfInBounds_toArray, List.set_cons_succ, List.set_cons_zero])
  rw [cmpE]
  iterate 1
    first | (refine wpPi_yield _ (by rw [hops.out]; simp only [List.getElem?_toArray, List.getElem?_cons_succ, List.getElem?_cons_zero]; rfl) (by first | rfl | (rw [hops.out]; rfl)) (fun w' hS => by first | exact run_str (xs := exE) (by rfl) (by rfl) (Row.hb (l := exE) (hS.res (i := 1) rfl)) | exact run_lda (n := 70) (cs := vEC) ag46 (by rfl) (by rfl) (hS.range (i := 0) rfl (by rw [vEC_len]; exact vEC_all)) vEC_len | (go_simp; rfl)) ?_; simp only [Act.put, List.setIfInBounds_toArray, List.set_cons_succ, List.set_cons_zero]) | (refine wpPi_skip (by rw [hops.out]; simp only [List.getElem?_toArray, List.getElem?_cons_succ, List.getElem?_cons_zero]; rfl) (by first | rfl | (rw [hops.out]; rfl)) ?_; simp only [Act.put, List.setIfInBounds_toArray, List.set_cons_succ, List.set_cons_zero])
  refine wpPi_act (by rw [hops.out]; simp only [List.getElem?_toArray, List.getElem?_cons_succ, List.getElem?_cons_zero]; rfl) (by first | rfl | (rw [hops.out]; rfl)) ?_
  go_simp
  refine (thereE 2 _ (b := false) (by decide)).mono ?_
  rintro e Wn ⟨rfl, hb⟩
  have hS := HS.out.call hb
  clear HS; have HS := Lib.hid hS; clear hS
  clear hb
  refine ⟨HS.out, ?_⟩
  try simp only [Act.put, List.setIfInBounds_toArray, List.set_cons_succ, List.set_cons_zero]
  iterate 4
    first | (refine wpPi_yield _ (by rw [hops.out]; simp only [List.getElem?_toArray, List.getElem?_cons_succ, List.getElem?_cons_zero]; rfl) (by first | rfl | (rw [hops.out]; rfl)) (fun w' hS => by first | exact run_str (xs := exE) (by rfl) (by rfl) (Row.hb (l := exE) (hS.res (i := 1) rfl)) | exact run_lda (n := 70) (cs := vEC) ag46 (by rfl) (by rfl) (hS.range (i := 0) rfl (by rw [vEC_len]; exact vEC_all)) vEC_len | (go_simp; rfl)) ?_; simp only [Act.put, List.setIfInBounds_toArray, List.set_cons_succ, List.set_cons_zero]) | (refine wpPi_skip (by rw [hops.out]; simp only [List.getElem?_toArray, List.getElem?_cons_succ, List.getElem?_cons_zero]; rfl) (by first | rfl | (rw [hops.out]; rfl)) ?_; simp only [Act.put, List.setIfInBounds_toArray, List.set_cons_succ, List.set_cons_zero])
  refine wpPi_act (by rw [hops.out]; simp only [List.getElem?_toArray, List.getElem?_cons_succ, List.getElem?_cons_zero]; rfl) (by first | rfl | (rw [hops.out]; rfl)) ?_
  go_simp
  refine (thereE 3 _ (b := true) (by decide)).mono ?_
  rintro e Wn ⟨rfl, hb⟩
  have hS := HS.out.call hb
  clear HS; have HS := Lib.hid hS; clear hS
  clear hb
  refine ⟨HS.out, ?_⟩
  try simp only [Act.put, List.setIfInBounds_toArray, List.set_cons_succ, List.set_cons_zero]
  iterate 3
    first | (refine wpPi_yield _ (by rw [hops.out]; simp only [List.getElem?_toArray, List.getElem?_cons_succ, List.getElem?_cons_zero]; rfl) (by first | rfl | (rw [hops.out]; rfl)) (fun w' hS => by first | exact run_str (xs := exE) (by rfl) (by rfl) (Row.hb (l := exE) (hS.res (i := 1) rfl)) | exact run_lda (n := 70) (cs := vEC) ag46 (by rfl) (by rfl) (hS.range (i := 0) rfl (by rw [vEC_len]; exact vEC_all)) vEC_len | (go_simp; rfl)) ?_; simp only [Act.put, List.setIfInBounds_toArray, List.set_cons_succ, List.set_cons_zero]) | (refine wpPi_skip (by rw [hops.out]; simp only [List.getElem?_toArray, List.getElem?_cons_succ, List.getElem?_cons_zero]; rfl) (by first | rfl | (rw [hops.out]; rfl)) ?_; simp only [Act.put, List.setIfInBounds_toArray, List.set_cons_succ, List.set_cons_zero])
  refine wpPi_act (by rw [hops.out]; simp only [List.getElem?_toArray, List.getElem?_cons_succ, List.getElem?_cons_zero]; rfl) (by first | rfl | (rw [hops.out]; rfl)) ?_
  go_simp
  refine (thereE 4 _ (b := true) (by decide)).mono ?_
  rintro e Wn ⟨rfl, hb⟩
  have hS := HS.out.call hb
  clear HS; have HS := Lib.hid hS; clear hS
  clear hb
  refine ⟨HS.out, ?_⟩
  try simp only [Act.put, List.setIfInBounds_toArray, List.set_cons_succ, List.set_cons_zero]
  iterate 3
    first | (refine wpPi_yield _ (by rw [hops.out]; simp only [List.getElem?_toArray, List.getElem?_cons_succ, List.getElem?_cons_zero]; rfl) (by first | rfl | (rw [hops.out]; rfl)) (fun w' hS => by first | exact run_str (xs := exE) (by rfl) (by rfl) (Row.hb (l := exE) (hS.res (i := 1) rfl)) | exact run_lda (n := 70) (cs := vEC) ag46 (by rfl) (by rfl) (hS.range (i := 0) rfl (by rw [vEC_len]; exact vEC_all)) vEC_len | (go_simp; rfl)) ?_; simp only [Act.put, List.setIfInBounds_toArray, List.set_cons_succ, List.set_cons_zero]) | (refine wpPi_skip (by rw [hops.out]; simp only [List.getElem?_toArray, List.getElem?_cons_succ, List.getElem?_cons_zero]; rfl) (by first | rfl | (rw [hops.out]; rfl)) ?_; simp only [Act.put, List.setIfInBounds_toArray, List.set_cons_succ, List.set_cons_zero])
  refine wpPi_act (by rw [hops.out]; simp only [List.getElem?_toArray, List.getElem?_cons_succ, List.getElem?_cons_zero]; rfl) (by first | rfl | (rw [hops.out]; rfl)) ?_
  go_simp
  refine (thereE 5 _ (b := false) (by decide)).mono ?_
  rintro e Wn ⟨rfl, hb⟩
  have hS := HS.out.call hb
  clear HS; have HS := Lib.hid hS; clear hS
  clear hb
  refine ⟨HS.out, ?_⟩
  try simp only [Act.put, List.setIfInBounds_toArray, List.set_cons_succ, List.set_cons_zero]
  iterate 3
    first | (refine wpPi_yield _ (by rw [hops.out]; simp only [List.getElem?_toArray, List.getElem?_cons_succ, List.getElem?_cons_zero]; rfl) (by first | rfl | (rw [hops.out]; rfl)) (fun w' hS => by first | exact run_str (xs := exE) (by rfl) (by rfl) (Row.hb (l := exE) (hS.res (i := 1) rfl)) | exact run_lda (n := 70) (cs := vEC) ag46 (by rfl) (by rfl) (hS.range (i := 0) rfl (by rw [vEC_len]; exact vEC_all)) vEC_len | (go_simp; rfl)) ?_; simp only [Act.put, List.setIfInBounds_toArray, List.set_cons_succ, List.set_cons_zero]) | (refine wpPi_skip (by rw [hops.out]; simp only [List.getElem?_toArray, List.getElem?_cons_succ, List.getElem?_cons_zero]; rfl) (by first | rfl | (rw [hops.out]; rfl)) ?_; simp only [Act.put, List.setIfInBounds_toArray, List.set_cons_succ, List.set_cons_zero])
  simp only [wpPi]
  clear OPS hops
  go_wp2_with (first
    | go_skip)
  go_ret
  exact ⟨rfl, HS.out.below⟩
end
section
open Go Go.RowKit Go.Proofs
/-- Outpoints are alike just if their hashes and numbers are. -/
theorem eqPt (d : Nat) (xs ys : List UInt8) (n m : Int) (hx : xs.length = 32) (hy : ys.length = 32) (W : World) : (Op.equalIn (d + 3) 44 (.agg (bs xs ++ [Value.int .u32 n]).toArray) (.agg (bs ys ++ [Value.int .u32 m]).toArray)).run Try.prog W = .ok (decide (xs = ys ∧ n = m)) W := by
  have hq0 : ∀ W, (Op.equalIn (d + 2) 23 (.agg (bs xs).toArray) (.agg (bs ys).toArray)).run Try.prog W = .ok (decide (xs = ys)) W := fun W => eqH d xs ys hx hy W
  have t1 := take_pt xs (Value.int .u32 n) hx
  have t2 := take_pt ys (Value.int .u32 m) hy
  have p1 := pt_32 xs n hx
  have p2 := pt_32 ys m hy
  go_simp
  by_cases h : xs = ys
  · by_cases h2 : n = m
    · simp [h, h2]
    · simp [h, h2]
  · simp [h]
end
end Go.Proofs.Yteljmpoaggfliaa
