/- Contracts and words that the laws stand on (RecHb). -/
import Derived.Test.YtakeggdpnfibpaaRecH
set_option linter.unusedVariables false
set_option linter.unusedSimpArgs false
namespace Go.Proofs.Ytakeggdpnfibpaa
section
open Go Go.RowKit Go.Proofs
attribute [local irreducible] Calls

def allL (xs : List UInt8) (i : Int) : List (UInt8 × List UInt8 × Int) := if i < 0 ∨ (xs.length : Int) < i then [] else allF xs (xs.length + 1) i
def allN (xs : List UInt8) (i : Int) : Int := if i < 0 ∨ (xs.length : Int) < i then 0 else ((allL xs i).getLast?.map (·.2.2)).getD i
def AllPost (xs : List UInt8) (i : Int) (w : World) (e : Ending) (w' : World) : Prop :=
  ∃ (ys : List RecI) (u : Value), ys.map RecI.strip = allL xs i ∧ e = .returned (.tuple #[u, .int .i64 (allN xs i)]) ∧ Below w.heap.size w w' ∧ w'.ownsRow w.heap.size 48 2 u ys.length (rcells ys) ∧ Pays w.heap.size ys w'
theorem allN_in {xs : List UInt8} {i : Nat} (hi : i ≤ xs.length) {ys : List RecI} (h : ys.map RecI.strip = allF xs (xs.length + 1) i) : nxOf i ys = allN xs i := by
  unfold allN allL
  rw [if_neg (by omega), if_neg (by omega), ← h, List.getLast?_map, Option.map_map]
  rfl
theorem AllPost.far {xs : List UInt8} {i : Int} {w : World} (hi : i < 0 ∨ (xs.length : Int) < i) {e : Ending} {w' : World} (h : e = .returned (.tuple #[.slice none 0 0, .int .i64 0]) ∧ Below w.heap.size w w') : AllPost xs i w e w' :=
  ⟨[], .slice none 0 0, by unfold allL; rw [if_pos hi]; rfl, by unfold allN; rw [if_pos hi]; exact h.1, h.2, World.ownsRow_nil _ _ _ _, fun x hx => by cases hx⟩
theorem AllPost.near {xs : List UInt8} {i : Nat} {w : World} (hi : i ≤ xs.length) {e : Ending} {w' : World} (h : ∃ (ys : List RecI) (u : Value), ys.map RecI.strip = allF xs (xs.length + 1) i ∧ e = .returned (.tuple #[u, .int .i64 (nxOf i ys)]) ∧ Below w.heap.size w w' ∧ w'.ownsRow w.heap.size 48 2 u ys.length (rcells ys) ∧ Pays w.heap.size ys w') : AllPost xs i w e w' := by
  obtain ⟨ys, u, h1, h2, h3, h4, h5⟩ := h
  exact ⟨ys, u, by unfold allL; rw [if_neg (by omega)]; exact h1, by rw [← allN_in hi h1]; exact h2, h3, h4, h5⟩
/-- What a decoding answers, in one. -/
def decT (xs : List UInt8) (i : Int) : Int × List UInt8 × Int × Int := match decR xs i with
  | none => (0, [], 0, 160)
  | some (k, p) => ((k.toNat : Int), p, i + 13 + (p.length : Int), 0)
theorem DecPost.one {xs : List UInt8} {i k nx er : Int} {p : List UInt8} {w : World} (hd : decT xs i = (k, p, nx, er)) {e : Ending} {w' : World} (h : DecPost xs i w e w') : ∃ v', e = .returned (.tuple #[.agg #[.int .i64 k, v'], .int .i64 nx, .int .i64 er]) ∧ New w w' (Row v' 5 1 p.length (bs p)) := by
  unfold DecPost at h
  unfold decT at hd
  cases hh : decR xs i with
  | none =>
    rw [hh] at h hd
    simp only [Prod.mk.injEq] at hd
    obtain ⟨rfl, rfl, rfl, rfl⟩ := hd
    exact ⟨.slice none 0 0, h.1, New.row (World.ownsRow_nil _ _ _ _) h.2⟩
  | some y =>
    obtain ⟨c, q⟩ := y
    rw [hh] at h hd
    simp only [Prod.mk.injEq] at hd
    obtain ⟨rfl, rfl, rfl, rfl⟩ := hd
    exact h
theorem kp_strip (l : List RecI) : l.map RecI.kp = (l.map RecI.strip).map fun x => ((x.1.toNat : Int), x.2.1) := by rw [List.map_map]; rfl
theorem RS.of_lit {W : World} {b B : Nat} {k : Int} {pv : Value} {p : List UInt8} (h : W.ownsRow B 48 2 (.slice (some ⟨b, 0, none⟩) 1 1) 1 [.int .i64 k, pv]) (hp : HB W pv p) : RS W (.slice (some ⟨b, 0, none⟩) 1 1) [(k, p)] := by
  refine ⟨_, _, rfl, Nat.le_refl _, (fun e => by cases e), fun a ha i x hx => ?_⟩
  injection ha with ha
  subst ha
  match i, hx with
  | 0, hx =>
    simp at hx; subst hx
    exact ⟨pv, rfl, h.cells rfl 0 _ rfl, h.cells rfl 1 _ rfl, hp⟩
  | i + 1, hx => simp at hx
theorem SP.of_lit {W : World} {b B C : Nat} {k : Int} {pv : Value} {p : List UInt8} {K : Nat → Prop} (h : W.ownsRow C 48 2 (.slice (some ⟨b, 0, none⟩) 1 1) 1 [.int .i64 k, pv]) (ho : W.ownsRow B 5 1 pv p.length (bs p)) (hpl : p.length ≤ 140737488355328) (hb : K b) (hK : ∀ k, pv.ownBlock = some k → K k) : SP K b 0 [pv] W := by
  rcases h.2 with ⟨e, _⟩ | ⟨g, cap, cur, e, h1, h2, h3, h4, h5, h6⟩
  · cases e
  injection e with e1 e2 e3
  injection e1 with e1
  injection e1 with e1
  subst e1 e3
  have key : ∀ (q : Nat) v, ([.int .i64 k, pv] : List Value)[q]? = some v → cur[q]? = some v := fun q v hq => by
    have hq1 := (List.getElem?_eq_some_iff.1 hq).1
    rw [← h6, List.getElem?_take_of_lt (by simpa using hq1)] at hq
    rw [← Array.getElem?_toList]; exact hq
  refine ⟨hb, _, h2, fun j q hj => ?_⟩
  match j, hj with
  | 0, hj =>
    simp at hj; subst hj
    exact ⟨⟨k, key 0 _ rfl⟩, key 1 _ rfl, SPay.of_own ho hpl h2 hK⟩
  | j + 1, hj => simp at hj
theorem decR_pay {xs : List UInt8} {i : Int} {k : UInt8} {p : List UInt8} (h : decR xs i = some (k, p)) : p.length ≤ xs.length := by
  unfold decR at h
  split at h
  · cases h
  · unfold decA at h
    split at h
    · cases h
    · split at h
      · cases h
      · split at h
        · cases h
        · rename_i hb
          injection h with h
          injection h with _ h
          subst h
          rw [bareR_inj hb]
          simp only [List.length_take, List.length_drop]
          omega
theorem allF_pay (xs : List UInt8) : ∀ (f : Nat) (i : Int), ∀ x ∈ allF xs f i, x.2.1.length ≤ xs.length := by
  intro f
  induction f with
  | zero => intro i x hx; simp [allF] at hx
  | succ f ih =>
    intro i x hx
    cases h : decR xs i with
    | none => rw [allF_none h] at hx; cases hx
    | some y =>
      obtain ⟨k, p⟩ := y
      rw [allF_some h] at hx
      rcases List.mem_cons.1 hx with rfl | hx
      · exact decR_pay h
      · exact ih _ x hx
theorem allL_pay (xs : List UInt8) (i : Int) : ∀ x ∈ allL xs i, x.2.1.length ≤ xs.length := by
  intro x hx
  unfold allL at hx
  split at hx
  · cases hx
  · exact allF_pay xs _ _ x hx
theorem allL_len (xs : List UInt8) (i : Int) : (allL xs i).length ≤ xs.length + 1 := by
  unfold allL
  split
  · simp
  · exact allF_len xs _ _
theorem decT_pay {xs : List UInt8} {i k nx er : Int} {p : List UInt8} (hd : decT xs i = (k, p, nx, er)) : p.length ≤ xs.length := by
  unfold decT at hd
  cases hh : decR xs i with
  | none => rw [hh] at hd; simp only [Prod.mk.injEq] at hd; obtain ⟨_, rfl, _, _⟩ := hd; simp
  | some y =>
    obtain ⟨c, q⟩ := y
    rw [hh] at hd
    simp only [Prod.mk.injEq] at hd
    obtain ⟨_, rfl, _, _⟩ := hd
    exact decR_pay hh
/-- Records of one's own that may be written over. -/
def Spl (lo hi : Nat) (u : Value) (l : List Value) (W : World) : Prop := l = [] ∨ ∃ g c, u = .slice (some ⟨g, 0, none⟩) l.length c ∧ SP (fun k => lo ≤ k ∧ k < hi) g 0 l W
theorem Spl.of {lo : Nat} {W : World} {u : Value} {ys : List RecI} {n : Nat} (h : W.ownsRow lo 48 2 u ys.length (rcells ys)) (hp : Pays lo ys W) (hq : ∀ x ∈ ys.map RecI.strip, x.2.1.length ≤ n) (hn : n ≤ 140737488355328) : Spl lo W.heap.size u (ys.map (·.v)) W := by
  by_cases h0 : ys = []
  · subst h0; exact .inl rfl
  · refine .inr (SP.of_rows h hp (fun y hy => Nat.le_trans (hq y.strip (List.mem_map_of_mem hy)) hn) h0)
theorem Spl.same {lo hi : Nat} {u : Value} {l : List Value} {W W' : World} (h : Spl lo hi u l W) (hh : ∀ k, lo ≤ k → k < hi → W'.heap[k]? = W.heap[k]?) : Spl lo hi u l W' := by
  rcases h with h | ⟨g, c, h1, h2⟩
  · exact .inl h
  · exact .inr ⟨g, c, h1, h2.same fun k hk => hh k hk.1 hk.2⟩
theorem range_away0 {W : World} {b k : Nat} {cs : List Value} (h : W.rangeAt b k cs) : Away (Keys []) (fun V => V.rangeAt b k cs) W := fun V hs j v hj => hs.cell (fun ⟨r, hr, _⟩ => by cases hr) (h j v hj)
theorem rsame16_eq (u v : Value) (l : List (Int × List UInt8)) (w : World) (hu : RS w u l) (hv : RS w v l) (hl : l.length ≤ 1000000) :
    Calls Try.prog 14 #[u, v] w fun e w' => e = .returned (.bool true) ∧ Below w.heap.size w w' := by
  have h := rsame16 u v l l w hu hv hl hl
  rw [decide_eq_true (rfl : l = l)] at h
  exact h
theorem reads_stage {W1 W : World} {b9 b6 : Nat} {k : Int} {v2 v3 uy uz : Value} {p : List UInt8} {l : List (Int × List UInt8)} {Fs : List (World → Prop)} (h : St W1 W [Blk b9 [.int .i64 k, v3] 48, Row v3 5 1 p.length (bs p), Blk b6 [.int .i64 k, v2] 48, Row v2 5 1 p.length (bs p)] Fs) (hy : RS W uy l) (hz : RS W uz l) :
    St W W [] [fun V => V.rangeAt b6 0 [.int .i64 k, v2], fun V => V.rangeAt b9 0 [.int .i64 k, v3], fun V => HB V v2 p, fun V => HB V v3 p, fun V => RS V uy l, fun V => RS V uz l, fun V => V.ownsRow W1.heap.size 5 1 v2 p.length (bs p)] := by
  have o2 := h.own_row (i := 3) rfl
  have o3 := h.own_row (i := 1) rfl
  have r6 := h.range (i := 2) (k := 0) (cs := [.int .i64 k, v2]) rfl rfl
  have r9 := h.range (i := 0) (k := 0) (cs := [.int .i64 k, v3]) rfl rfl
  exact (((((((St.start W).addF (Away.row o2 fun _ _ hk => by obtain ⟨r, hr, _⟩ := hk; cases hr)).addF hz.away0).addF hy.away0).addF (HB.of_own o3).away0).addF (HB.of_own o2).away0).addF (range_away0 r9)).addF (range_away0 r6)
theorem spl_after {lo hi b : Nat} {u v : Value} {l : List Value} {W6 Wn Wx : World} (hs : Spl lo hi u l W6) (hz : hi ≤ W6.heap.size) (hb : Below W6.heap.size W6 Wn) (h7 : W6.heap.size ≤ b) (hv : ∀ k, v.ownBlock = some k → k < lo) (hc : ChgP (fun q => q = b ∨ v.ownBlock = some q) Wn Wx) : Spl lo hi u l Wx :=
  hs.same fun q h1 h2 => (hc.block q (by have := hb.size; omega) (fun h => by rcases h with h | h; omega; have := hv q h; omega)).trans (hb.block q (by omega))
theorem below_after {b : Nat} {v : Value} {W1 W6 Wn Wx : World} (h1 : Below W1.heap.size W1 W6) (h2 : Below W6.heap.size W6 Wn) (h7 : W6.heap.size ≤ b) (hv : ∀ k, v.ownBlock = some k → W1.heap.size ≤ k) (hc : ChgP (fun q => q = b ∨ v.ownBlock = some q) Wn Wx) : Below W1.heap.size W1 Wx :=
  (h1.trans (h2.mono h1.size)).trans (hc.below (fun k hk => by rcases hk with h | h; (have := h1.size; omega); exact hv k h) (by have := h1.size; have := h2.size; omega))
end
end Go.Proofs.Ytakeggdpnfibpaa
