/- Contracts and words that the laws stand on (TxA). -/
import Derived.ChangeKeysEq
import Derived.Test.YteljmpoaggfliaaPenA
import Derived.Test.YteljmpoaggfliaaRng
set_option linter.unusedVariables false
set_option linter.unusedSimpArgs false
namespace Go.Proofs.Yteljmpoaggfliaa
section
open Go Go.RowKit Go.Proofs
attribute [local irreducible] Calls
theorem run_sla {W : World} {ev : Operand → Value} {o : Oper} {x : Operand} {a : Addr} (ho : o.op = .slice 23 x none none none) (hx : ev x = .pointer (some a)) : (execOp ev o).run Try.prog W = .ok (.value (.slice (some a) 32 32)) W := by
  have hu : Try.prog.underlying 23 = some (.array 32 5) := by kernel_rfl
  have hi : (Try.prog.info? 5).map (·.size) = some 1 := by kernel_rfl
  obtain ⟨i, hi, hi1⟩ := Option.map_eq_some_iff.1 hi
  have ha : a.add 0 = a := by simp [Addr.add]
  unfold execOp
  simp only [ho, hx, Instr.sliceAt, run_underlying hu, Option.map_none, Sem.run_bind, Sem.run_pure, Result.andThen_ok, Instr.sureAddr]
  simp [go_sem, Instr.sliceBounds, sizeOf, typeInfo, hi, hi1, ha]
theorem HB.of_range {W : World} {b k : Nat} {xs : List UInt8} (h : W.rangeAt b k (bs xs)) : HB W (.slice (some ⟨b, k, none⟩) xs.length xs.length) xs := by
  refine ⟨_, _, rfl, Nat.le_refl _, (fun e => by cases e), fun a ha i x hx => ?_⟩
  injection ha with ha
  subst ha
  have := h i (.int .u8 (x.toNat : Int)) (by simp [bs, hx])
  unfold Addr.add
  split
  · rename_i h0; subst h0; exact this
  · exact this
theorem penRaw1 (p : Nat) (u v u1 : Value) (a xs : List UInt8) (B : Nat) (w : World) (hp : IsPen w p v xs) (ho : w.ownsRow B 28 1 u 1 [u1]) (h1 : HB w u1 a) (hl : xs.length + a.length ≤ 70368744177664) :
    Calls Try.prog 94 #[.pointer (some ⟨p, 0, none⟩), u] w fun e w' => ∃ v', e = .returned (.int .i64 0) ∧ PenGo w w' p v v' (xs ++ a) := by
  refine (raw_any p u v [a] xs w hp (Parts.of_held (vs := [u1]) ⟨rfl, fun i v l hv hm => ?_⟩ (Below.refl _ _) ho) (by simpa using hl) (by simp)).mono ?_
  · match i, hv, hm with
    | 0, hv, hm => simp at hv hm; subst hv hm; exact h1
    | i + 1, hv, hm => simp at hv
  · rintro e w' ⟨rfl, v', hg⟩
    exact ⟨v', rfl, by simpa using hg⟩
set_option maxHeartbeats 400000 in
set_option maxRecDepth 100000 in
theorem penBytes (p : Nat) (u v : Value) (ys xs : List UInt8) (w : World) (hp : IsPen w p v xs) (hu : HB w u ys) (hl : xs.length + ys.length + 9 ≤ 70368744177664) (hu0 : ys ≠ [] → ∀ k, u.ownBlock = some k → k ∉ p :: v.ownBlock.toList) :
    Calls Try.prog 95 #[.pointer (some ⟨p, 0, none⟩), u] w fun e w' => ∃ v', e = .returned (.int .i64 0) ∧ PenGo w w' p v v' (xs ++ csize ys.length ++ ys) := by
  have HU := Lib.hid hu
  obtain ⟨A, c, rfl, _⟩ := hu.shape
  clear hu
  have HP := Lib.hid hp; clear hp
  go_enter Try.func95, Try.ntmps95
  go_wp2_with fail
  refine (psize_any p _ v xs _ HP.out (U64.of (by omega)) (by omega)).mono ?_
  rintro e w1 ⟨rfl, v1, h1⟩
  rw [Int.toNat_natCast] at h1
  have HU1 : HB w1 (.slice A ys.length c) ys := by
    by_cases h0 : ys = []
    · subst h0; exact HB.nil _ _ _
    · exact HU.out.chg h1.chg (hu0 h0)
  have hq := csize_length ys.length
  have hq9 : compact ys.length ≤ 9 := by unfold compact; repeat' split
                                         all_goals simp
  have h1p := Lib.hid h1.pen
  go_wp2_with fail
  refine (raw_any p _ v1 [ys] _ _ (h1.pen.chg (S := []) ((Chg.refl _ _).alloc _) (by simp) (by simp)) (Parts.one HU1 _) (by simp; omega) (by simp)).mono ?_
  rintro e w2 ⟨rfl, v2, h2⟩
  have h3 : PenGo w1 w2 p v1 v2 (xs ++ csize ys.length ++ ys) := ⟨by simpa using h2.pen, ((Chg.refl (p :: v1.ownBlock.toList) w1).alloc _).trans h2.chg (fun k hk => .inl hk), (Nx.refl w1 v1).trans h2.nx (by simp)⟩
  have H3 := Lib.hid (h1.trans h3)
  go_wp2_with fail
  go_ret
  exact ⟨_, rfl, H3.out⟩
theorem St.notIn {w W : World} {L : List Res} {Fs : List (World → Prop)} (h : St w W L Fs) {i : Nat} {r : Res} (hi : L[i]? = some r) {u : Value} {ys : List UInt8} (hu : HB w u ys) : ys ≠ [] → ∀ k, u.ownBlock = some k → k ∉ r.fp := fun h0 k hk hm => by
  obtain ⟨k', e, hlt⟩ := hu.lt h0
  rw [hk] at e
  injection e with e
  subst e
  have := (h.key_lt ⟨r, List.mem_of_getElem? hi, hm⟩).1
  omega
theorem info5 : ∃ i, Try.prog.info? 5 = some i := Option.isSome_iff_exists.1 (by kernel_rfl)
theorem plain5 : Try.prog.plainKey 5 = true := by kernel_rfl
theorem cells5' : Try.prog.cellsOf 5 = 1 := by kernel_rfl
theorem eq_items (d : Nat) (xs ys : List UInt8) (n : Nat) (hx : xs.length = n) (hy : ys.length = n) (w : World) : ∀ is : List Nat, (∀ i ∈ is, i < n) → (Op.eqItems (d + 1) 5 1 (bs xs).toArray (bs ys).toArray is).run Try.prog w = .ok (is.all fun i => xs[i]? == ys[i]?) w := by
  intro is
  induction is with
  | nil => intro _; rfl
  | cons i is ih =>
    intro h
    have hi := h i (List.mem_cons_self ..)
    have h1 : xs[i]? = some xs[i] := List.getElem?_eq_getElem (by omega)
    have h2 : ys[i]? = some ys[i] := List.getElem?_eq_getElem (by omega)
    have p1 := run_part_plain (P := Try.prog) w plain5 (xs := (bs xs).toArray) (off := i) (v := .int .u8 ((xs[i]).toNat : Int)) (by simp [bs, h1])
    have p2 := run_part_plain (P := Try.prog) w plain5 (xs := (bs ys).toArray) (off := i) (v := .int .u8 ((ys[i]).toNat : Int)) (by simp [bs, h2])
    have q := run_equalIn_int (P := Try.prog) w d 5 .u8 .u8 ((xs[i]).toNat : Int) ((ys[i]).toNat : Int) Try.underlying5
    have hb : (((xs[i]).toNat : Int) == ((ys[i]).toNat : Int)) = (xs[i]? == ys[i]?) := by
      rw [h1, h2]
      by_cases e : xs[i] = ys[i]
      · rw [e]; simp
      · have e2 : ¬ ((xs[i]).toNat : Int) = ((ys[i]).toNat : Int) := fun e3 => e (UInt8.toNat_inj.1 (by omega))
        rw [beq_eq_false_iff_ne.2 e2]
        symm
        rw [beq_eq_false_iff_ne]
        intro e4
        injection e4 with e4
        exact e e4
    have ih' := ih (fun j hj => h j (List.mem_cons_of_mem _ hj))
    simp only [Op.eqItems, Nat.mul_one, Sem.run_bind, p1, p2, Result.andThen_ok, q, hb, List.all_cons]
    cases hc : (xs[i]? == ys[i]?) with
    | true => simp only [Bool.not_true, Bool.false_eq_true, if_false, Bool.true_and]; exact ih'
    | false => simp
theorem all_eq (xs ys : List UInt8) (n : Nat) (hx : xs.length = n) (hy : ys.length = n) : ((List.range n).all fun i => xs[i]? == ys[i]?) = decide (xs = ys) := by
  by_cases h : xs = ys
  · rw [decide_eq_true h, List.all_eq_true]
    intro i _
    rw [h]; simp
  · rw [decide_eq_false h, List.all_eq_false]
    by_cases hh : ∃ i, i < n ∧ xs[i]? ≠ ys[i]?
    · obtain ⟨i, h1, h2⟩ := hh
      exact ⟨i, List.mem_range.2 h1, by simpa using h2⟩
    · exfalso
      refine h (List.ext_getElem? fun i => ?_)
      by_cases hi : i < n
      · by_cases e : xs[i]? = ys[i]?
        · exact e
        · exact absurd ⟨i, hi, e⟩ hh
      · rw [List.getElem?_eq_none (by omega), List.getElem?_eq_none (by omega)]
/-- Hashes are alike just if their bytes are. -/
theorem eqH (d : Nat) (xs ys : List UInt8) (hx : xs.length = 32) (hy : ys.length = 32) (w : World) : (Op.equalIn (d + 2) 23 (.agg (bs xs).toArray) (.agg (bs ys).toArray)).run Try.prog w = .ok (decide (xs = ys)) w := by
  obtain ⟨i, hi⟩ := info5
  show (Op.equalIn ((d + 1) + 1) 23 (.agg (bs xs).toArray) (.agg (bs ys).toArray)).run Try.prog w = _
  rw [run_equalIn_array w (d + 1) _ _ Try.underlying23 hi, cells5', eq_items d xs ys 32 hx hy w _ (fun i hi => List.mem_range.1 hi), all_eq xs ys 32 hx hy]
theorem take_pt (xs : List UInt8) (v : Value) (hx : xs.length = 32) : List.take 32 (bs xs ++ [v]) = bs xs := by
  rw [List.take_left']; simp [hx]
end
section
open Go Go.RowKit Go.Proofs
/-! Slices of elements of several cells each. -/
/-- v is a slice whose elements (s cells each) are the lists of l. -/
def SLc (W : World) (v : Value) (s : Nat) (l : List (List Value)) : Prop :=
  ∃ A c, v = .slice A l.length c ∧ l.length ≤ c ∧ (A = none → l = []) ∧ ∀ a, A = some a → ∀ (i : Nat) cs, l[i]? = some cs → a = ⟨a.block, a.off, none⟩ ∧ ∀ (j : Nat) u, cs[j]? = some u → W.cell? (a.add (i * s + j)) = some u
theorem SLc.shape {W : World} {v : Value} {s : Nat} {l : List (List Value)} (h : SLc W v s l) : ∃ A c, v = .slice A l.length c ∧ l.length ≤ c := by
  obtain ⟨A, c, e, h1, _⟩ := h; exact ⟨A, c, e, h1⟩
theorem SLc.cap {W : World} {A : Option Addr} {n c s : Nat} {l : List (List Value)} (h : SLc W (.slice A n c) s l) : n ≤ c ∧ n = l.length := by
  obtain ⟨_, _, e, h1, _⟩ := h
  injection e with _ e2 e3
  omega
theorem SLc.of_cells {W W' : World} {v : Value} {s : Nat} {l : List (List Value)} (h : SLc W v s l) (hc : ∀ p u, (∀ k, v.ownBlock = some k → p.block = k) → W.cell? p = some u → W'.cell? p = some u) : SLc W' v s l := by
  obtain ⟨A, c, rfl, h1, h2, h3⟩ := h
  refine ⟨A, c, rfl, h1, h2, fun a ha i cs hi => ?_⟩
  obtain ⟨e, h4⟩ := h3 a ha i cs hi
  refine ⟨e, fun j u hj => hc _ u (fun k hk => ?_) (h4 j u hj)⟩
  subst ha
  simp [Value.ownBlock] at hk
  rw [blk_of_add]
  exact hk
theorem SLc.away {W : World} {K : Nat → Prop} {v : Value} {s : Nat} {l : List (List Value)} (h : SLc W v s l) (hk : ∀ k, v.ownBlock = some k → ¬ K k) : Away K (fun W => SLc W v s l) W := fun V hs => by
  obtain ⟨A, c, rfl, h1, h2, h3⟩ := h
  refine ⟨A, c, rfl, h1, h2, fun a ha i cs hi => ?_⟩
  obtain ⟨e, h4⟩ := h3 a ha i cs hi
  exact ⟨e, fun j u hj => hs.cell (by rw [blk_of_add]; exact hk _ (by subst ha; rfl)) (h4 j u hj)⟩
theorem SLc.away0 {W : World} {v : Value} {s : Nat} {l : List (List Value)} (h : SLc W v s l) : Away (Keys []) (fun W => SLc W v s l) W := h.away fun k _ hk => by obtain ⟨r, hr, _⟩ := hk; cases hr
theorem SLc.below {W W' : World} {v : Value} {s : Nat} {l : List (List Value)} (h : SLc W v s l) (hb : Below W.heap.size W W') : SLc W' v s l :=
  h.away0 W' ⟨hb.size, fun k o _ ho _ => (hb.block k (Array.getElem?_eq_some_iff.1 ho).1).trans ho⟩
theorem SLc.keeps {X : Nat → Prop} {W W' : World} {v : Value} {s : Nat} {l : List (List Value)} (h : SLc W v s l) (hk : Keeps X W W') (hx : l ≠ [] → ∀ k, v.ownBlock = some k → X k) : SLc W' v s l := by
  obtain ⟨A, c, rfl, h1, h2, h3⟩ := h
  refine ⟨A, c, rfl, h1, h2, fun a ha i cs hi => ?_⟩
  obtain ⟨e, h4⟩ := h3 a ha i cs hi
  exact ⟨e, fun j u hj => hk.cell (h4 j u hj) (by rw [blk_of_add]; exact hx (fun e => by subst e; simp at hi) _ (by subst ha; rfl))⟩
theorem SLc.get {W : World} {A : Option Addr} {n c s : Nat} {l : List (List Value)} (h : SLc W (.slice A n c) s l) {i : Nat} (hi : i < l.length) : ∃ b o, A = some ⟨b, o, none⟩ ∧ W.rangeAt b (o + i * s) l[i] := by
  obtain ⟨A', c', e, h1, h2, h3⟩ := h
  injection e with e1 e2 e3
  subst e1
  cases A with
  | none => have := h2 rfl; subst this; simp at hi
  | some a =>
    obtain ⟨c0, hb⟩ := h3 a rfl i l[i] (List.getElem?_eq_getElem hi)
    obtain ⟨b, o, sp⟩ := a
    injection c0 with _ _ c0
    subst c0
    refine ⟨b, o, rfl, fun j u hj => ?_⟩
    have := hb j u hj
    rwa [show (⟨b, o, none⟩ : Addr).add (i * s + j) = ⟨b, o + i * s + j, none⟩ by unfold Addr.add; split <;> simp <;> omega] at this
theorem SLc.range {W : World} {b o n c s i : Nat} {l : List (List Value)} {cs : List Value} (h : SLc W (.slice (some ⟨b, o, none⟩) n c) s l) (hx : l[i]? = some cs) : W.rangeAt b (o + i * s) cs := by
  obtain ⟨hi, rfl⟩ := List.getElem?_eq_some_iff.1 hx
  obtain ⟨b', o', e, h1⟩ := h.get hi
  injection e with e
  injection e with e1 e2
  subst e1 e2
  exact h1
/-- A slice's block lay there already. -/
theorem SLc.lt {W : World} {v : Value} {s : Nat} {l : List (List Value)} (h : SLc W v s l) (h0 : ∃ cs ∈ l, cs ≠ []) : ∀ k, v.ownBlock = some k → k < W.heap.size := by
  obtain ⟨cs, hm, hne⟩ := h0
  obtain ⟨i, hi, rfl⟩ := List.mem_iff_getElem.1 hm
  obtain ⟨A, c, rfl, _⟩ := h.shape
  obtain ⟨b, o, rfl, hr⟩ := h.get hi
  intro k hk
  simp [Value.ownBlock] at hk
  subst hk
  obtain ⟨u, hu⟩ : ∃ u, l[i][0]? = some u := by
    cases hc : l[i] with
    | nil => exact absurd hc hne
    | cons x xs => exact ⟨x, rfl⟩
  obtain ⟨o', ho', _⟩ := cell_cells (hr 0 u hu)
  exact (Array.getElem?_eq_some_iff.1 ho').1
theorem flat_get {s : Nat} : ∀ {l : List (List Value)} {i : Nat} {cs : List Value}, (∀ x ∈ l, x.length = s) → l[i]? = some cs → ∀ (j : Nat) u, cs[j]? = some u → l.flatten[i * s + j]? = some u := by
  intro l
  induction l with
  | nil => intro i cs _ h; simp at h
  | cons x l ih =>
    intro i cs hl h j u hj
    have hx := hl x (List.mem_cons_self ..)
    have hjl := (List.getElem?_eq_some_iff.1 hj).1
    cases i with
    | zero =>
      simp at h
      subst h
      rw [List.flatten_cons, Nat.zero_mul, Nat.zero_add, List.getElem?_append_left hjl]
      exact hj
    | succ i =>
      have := ih (fun y hy => hl y (List.mem_cons_of_mem _ hy)) (show l[i]? = some cs by simpa using h) j u hj
      rw [List.flatten_cons, List.getElem?_append_right (by rw [hx, Nat.add_mul]; omega), hx, show (i + 1) * s + j - s = i * s + j by rw [Nat.add_mul]; omega]
      exact this
theorem SLc.of_row {W : World} {B : Nat} {E : TypeId} {u : Value} {s : Nat} {l : List (List Value)} (h : W.ownsRow B E s u l.length l.flatten) (hl : ∀ x ∈ l, x.length = s) : SLc W u s l := by
  have hh := h
  rcases h.2 with ⟨rfl, he⟩ | ⟨g, cap, cur, rfl, h1, h2, h3, _⟩
  · have : l = [] := List.eq_nil_of_length_eq_zero he
    subst this
    exact ⟨none, 0, rfl, Nat.zero_le _, fun _ => rfl, fun a ha => by cases ha⟩
  · refine ⟨some ⟨g, 0, none⟩, cap, rfl, h3, (fun e => by cases e), fun a ha i cs hx => ?_⟩
    injection ha with ha
    subst ha
    exact ⟨rfl, fun j u hj => hh.cells rfl _ _ (flat_get hl hx j u hj)⟩
theorem SLc.take {W : World} {A : Option Addr} {n c s : Nat} {l : List (List Value)} (h : SLc W (.slice A n c) s l) (i : Nat) (hi : i ≤ l.length) : SLc W (.slice A i c) s (l.take i) := by
  obtain ⟨A', c', e, h1, h2, h3⟩ := h
  injection e with e1 e2 e3
  subst e1 e2 e3
  have hl : (l.take i).length = i := by rw [List.length_take, Nat.min_eq_left hi]
  refine ⟨A, c, by rw [hl], by omega, fun ha => by rw [h2 ha]; simp, fun a ha j x hx => ?_⟩
  rw [List.getElem?_take] at hx
  split at hx
  · exact h3 a ha j x hx
  · cases hx
end
section
open Go Go.RowKit Go.Proofs
/-! Transactions: plain, and as they lie in memory. -/
/-- An input: hash, number, script, sequence. -/
structure TIn where
  h : List UInt8
  n : Nat
  s : List UInt8
  q : Nat
structure TIn.ok (x : TIn) : Prop where
  h : x.h.length = 32
  n : x.n < 4294967296
  q : x.q < 4294967296
/-- An output: value, script. -/
structure TOut where
  v : Int
  s : List UInt8
def TOut.ok (x : TOut) : Prop := -9223372036854775808 ≤ x.v ∧ x.v ≤ 9223372036854775807
def TOut.u (x : TOut) : Nat := (x.v % 18446744073709551616).toNat
structure TxP where
  ver : Nat
  ins : List TIn
  outs : List TOut
  lock : Nat
structure TxP.ok (t : TxP) : Prop where
  ver : t.ver < 4294967296
  lock : t.lock < 4294967296
  ins : ∀ x ∈ t.ins, x.ok
  outs : ∀ x ∈ t.outs, x.ok
def inB (x : TIn) : List UInt8 := x.h ++ (le 4 x.n ++ (csize x.s.length ++ (x.s ++ le 4 x.q)))
def outB (x : TOut) : List UInt8 := le 8 x.u ++ (csize x.s.length ++ x.s)
def txB (t : TxP) : List UInt8 := le 4 t.ver ++ (csize t.ins.length ++ (t.ins.flatMap inB ++ (csize t.outs.length ++ (t.outs.flatMap outB ++ le 4 t.lock))))
/-- May it be? -/
def chkT (t : TxP) : Bool := decide (1 ≤ t.ins.length ∧ t.ins.length ≤ 50 ∧ 1 ≤ t.outs.length ∧ t.outs.length ≤ 50) && (t.ins.all (fun x => decide (x.s.length ≤ 2000)) && t.outs.all (fun x => decide (x.s.length ≤ 2000)))
def chkTI (t : TxP) : Int := if chkT t then 0 else 60
def txO (t : TxP) : List UInt8 := if chkT t then txB t else []
theorem chkT_iff {t : TxP} : chkT t = true ↔ (1 ≤ t.ins.length ∧ t.ins.length ≤ 50 ∧ 1 ≤ t.outs.length ∧ t.outs.length ≤ 50) ∧ (∀ x ∈ t.ins, x.s.length ≤ 2000) ∧ ∀ x ∈ t.outs, x.s.length ≤ 2000 := by
  unfold chkT
  simp only [Bool.and_eq_true, decide_eq_true_eq, List.all_eq_true]
/-- An input's cells; its script's slice. -/
def inC (x : Value × TIn) : List Value := bs x.2.h ++ [.int .u32 (x.2.n : Int), x.1, .int .u32 (x.2.q : Int)]
def outC (x : Value × TOut) : List Value := [.int .i64 x.2.v, x.1]
theorem inC_length {x : Value × TIn} (h : x.2.ok) : (inC x).length = 35 := by simp [inC, h.h]
theorem inC_h {x : Value × TIn} (h : x.2.ok) : ((inC x).drop 0).take 32 = bs x.2.h := by
  rw [List.drop_zero, inC, List.take_left']
  simp [h.h]
theorem inC_pt {x : Value × TIn} (h : x.2.ok) : ((inC x).drop 0).take 33 = bs x.2.h ++ [.int .u32 (x.2.n : Int)] := by
  rw [List.drop_zero, inC, show 33 = (bs x.2.h).length + 1 by simp [h.h], List.take_length_add_append]
  rfl
theorem inC_32 {x : Value × TIn} (h : x.2.ok) : (inC x)[32]? = some (.int .u32 (x.2.n : Int)) := by
  rw [inC, List.getElem?_append_right (by simp [h.h])]; simp [h.h]
theorem inC_33 {x : Value × TIn} (h : x.2.ok) : (inC x)[33]? = some x.1 := by
  rw [inC, List.getElem?_append_right (by simp [h.h])]; simp [h.h]
theorem inC_34 {x : Value × TIn} (h : x.2.ok) : (inC x)[34]? = some (.int .u32 (x.2.q : Int)) := by
  rw [inC, List.getElem?_append_right (by simp [h.h])]; simp [h.h]
/-- A transaction in memory: its slices' values, and what they have. -/
structure TxM where
  ver : Nat
  iv : Value
  ins : List (Value × TIn)
  ov : Value
  outs : List (Value × TOut)
  lock : Nat
def TxM.p (t : TxM) : TxP := ⟨t.ver, t.ins.map (·.2), t.outs.map (·.2), t.lock⟩
def TxM.cs (t : TxM) : List Value := [.int .u32 (t.ver : Int), t.iv, t.ov, .int .u32 (t.lock : Int)]
structure TxW (t : TxM) (W : World) : Prop where
  iv : SLc W t.iv 35 (t.ins.map inC)
  ov : SLc W t.ov 2 (t.outs.map outC)
  is : ∀ x ∈ t.ins, HB W x.1 x.2.s
  os : ∀ x ∈ t.outs, HB W x.1 x.2.s
theorem TxW.away0 {t : TxM} {W : World} (h : TxW t W) : Away (Keys []) (TxW t) W := fun V hs => ⟨h.iv.away0 V hs, h.ov.away0 V hs, fun x hx => (h.is x hx).away0 V hs, fun x hx => (h.os x hx).away0 V hs⟩
theorem TxW.below {t : TxM} {W W' : World} (h : TxW t W) (hb : Below W.heap.size W W') : TxW t W' :=
  h.away0 W' ⟨hb.size, fun k o _ ho _ => (hb.block k (Array.getElem?_eq_some_iff.1 ho).1).trans ho⟩
theorem TxW.shape {t : TxM} {W : World} (h : TxW t W) : ∃ A c B d, t.iv = .slice A t.ins.length c ∧ t.ov = .slice B t.outs.length d ∧ t.ins.length ≤ c ∧ t.outs.length ≤ d := by
  obtain ⟨A, c, e1, h1⟩ := h.iv.shape
  obtain ⟨B, d, e2, h2⟩ := h.ov.shape
  rw [List.length_map] at *
  exact ⟨A, c, B, d, e1, e2, h1, h2⟩
/-- Is it more than statements go through? -/
def grtT (t : TxP) : Bool := decide (t.ins.length ≤ 60 ∧ t.outs.length ≤ 60) && (t.ins.all (fun x => decide (x.s.length ≤ 2100)) && t.outs.all (fun x => decide (x.s.length ≤ 2100)))
def grtTI (t : TxP) : Int := if grtT t then 0 else 1
theorem grtT_iff {t : TxP} : grtT t = true ↔ (t.ins.length ≤ 60 ∧ t.outs.length ≤ 60) ∧ (∀ x ∈ t.ins, x.s.length ≤ 2100) ∧ ∀ x ∈ t.outs, x.s.length ≤ 2100 := by
  unfold grtT
  simp only [Bool.and_eq_true, decide_eq_true_eq, List.all_eq_true]
end
section
open Go Go.RowKit Go.Proofs
attribute [local irreducible] Calls

theorem TxW.in_at {t : TxM} {W : World} {b o n c i : Nat} {x : Value × TIn} (h : TxW t W) (he : t.iv = .slice (some ⟨b, o, none⟩) n c) (hx : t.ins[i]? = some x) : W.rangeAt b (o + i * 35) (inC x) := by
  have h1 := h.iv
  rw [he] at h1
  exact h1.range (by rw [List.getElem?_map, hx]; rfl)
theorem TxW.out_at {t : TxM} {W : World} {b o n c i : Nat} {x : Value × TOut} (h : TxW t W) (he : t.ov = .slice (some ⟨b, o, none⟩) n c) (hx : t.outs[i]? = some x) : W.rangeAt b (o + i * 2) (outC x) := by
  have h1 := h.ov
  rw [he] at h1
  exact h1.range (by rw [List.getElem?_map, hx]; rfl)
theorem TxW.in_b {t : TxM} {W : World} {A : Option Addr} {n c i : Nat} (h : TxW t W) (he : t.iv = .slice A n c) (hi : i < t.ins.length) : ∃ b o, A = some ⟨b, o, none⟩ := by
  have h1 := h.iv
  rw [he] at h1
  obtain ⟨b, o, e, _⟩ := h1.get (i := i) (by rw [List.length_map]; exact hi)
  exact ⟨b, o, e⟩
theorem TxW.out_b {t : TxM} {W : World} {A : Option Addr} {n c i : Nat} (h : TxW t W) (he : t.ov = .slice A n c) (hi : i < t.outs.length) : ∃ b o, A = some ⟨b, o, none⟩ := by
  have h1 := h.ov
  rw [he] at h1
  obtain ⟨b, o, e, _⟩ := h1.get (i := i) (by rw [List.length_map]; exact hi)
  exact ⟨b, o, e⟩
theorem take_all {α : Type} {p : α → Prop} {l : List α} {i : Nat} {x : α} (h : ∀ y ∈ l.take i, p y) (hx : l[i]? = some x) (hp : p x) : ∀ y ∈ l.take (i + 1), p y := by
  intro y hy
  rw [take_snoc l i x hx] at hy
  rcases List.mem_append.1 hy with hy | hy
  · exact h y hy
  · simp at hy; subst hy; exact hp
set_option maxHeartbeats 1000000 in
set_option maxRecDepth 100000 in
theorem great34 (t : TxM) (w : World) (hok : t.p.ok) (ht : TxW t w) : Calls Try.prog 34 #[.agg t.cs.toArray] w fun e w' => e = .returned (.int .i64 (grtTI t.p)) ∧ Below w.heap.size w w' := by
  obtain ⟨ver, iv, ins, ov, outs, lock⟩ := t
  obtain ⟨A, c, B, d, e1, e2, hc, hd⟩ := ht.shape
  dsimp only at e1 e2 hc hd
  subst e1 e2
  dsimp only [TxM.cs]
  have HS := Lib.hid ((St.start w).addF ht.away0)
  have HOK := Lib.hid hok
  have HNO := Lib.hid (show ¬ ((ins.map (·.2)).length ≤ 60 ∧ (outs.map (·.2)).length ≤ 60) ∨ True from .inr trivial)
  have hno : ¬ (((ins.map (·.2)).length ≤ 60 ∧ (outs.map (·.2)).length ≤ 60) ∧ (∀ x ∈ ins.map (·.2), x.s.length ≤ 2100) ∧ ∀ x ∈ outs.map (·.2), x.s.length ≤ 2100) → grtTI (TxM.p ⟨ver, .slice A ins.length c, ins, .slice B outs.length d, outs, lock⟩) = 1 := fun h => by
    unfold grtTI
    cases hg : grtT (TxM.p ⟨ver, .slice A ins.length c, ins, .slice B outs.length d, outs, lock⟩) with
    | false => rfl
    | true => exact absurd (grtT_iff.1 hg) h
  have HNO := Lib.hid hno
  clear ht hok hno
  by_cases h60 : ins.length ≤ 60 ∧ outs.length ≤ 60
  · have hyes : (∀ x ∈ ins, x.2.s.length ≤ 2100) → (∀ x ∈ outs, x.2.s.length ≤ 2100) → grtTI (TxM.p ⟨ver, .slice A ins.length c, ins, .slice B outs.length d, outs, lock⟩) = 0 := fun h1 h2 => by
      unfold grtTI
      rw [grtT_iff.2 ⟨by simpa [TxM.p] using h60, fun x hx => by obtain ⟨y, hy, rfl⟩ := List.mem_map.1 hx; exact h1 y hy, fun x hx => by obtain ⟨y, hy, rfl⟩ := List.mem_map.1 hx; exact h2 y hy⟩]
      rfl
    have HYES := Lib.hid hyes
    clear hyes
    obtain ⟨h1, h2⟩ := h60
    have k1 : ¬ (60 : Int) < (ins.length : Int) := by omega
    have k2 : ¬ (60 : Int) < (outs.length : Int) := by omega
    go_enter Try.func34, Try.ntmps34
    go_wp2_with (first
      | (refine atd 1 (by rfl) ?_; refine wl (by rfl) (s_bx (l := [.int .u32 (ver : Int), .slice A ins.length c, .slice B outs.length d, .int .u32 (lock : Int)]) HS.out (by rfl) (by rfl) ?_); intro b1 Wn hS; clear HS; have HS := Lib.hid hS; clear hS)
      | (refine atd 6 (by rfl) ?_; refine wl (by rfl) (s_ld HS.out 0 (by rfl) (by rfl) (by rfl) (by kernel_rfl) (by rfl) ?_))
      | (refine atd 11 (by rfl) ?_; refine wl (by rfl) (s_ld HS.out 0 (by rfl) (by rfl) (by rfl) (by kernel_rfl) (by rfl) ?_)))
    go_loopw [3] (fun s3 wr => ∃ i : Nat, i ≤ ins.length ∧ s3 = .int .i64 (i : Int) ∧ (∀ x ∈ ins.take i, x.2.s.length ≤ 2100) ∧ St w wr [Blk b1 [.int .u32 (ver : Int), .slice A ins.length c, .slice B outs.length d, .int .u32 (lock : Int)] 55] [TxW ⟨ver, .slice A ins.length c, ins, .slice B outs.length d, outs, lock⟩]) (fun s3 _ => ins.length - (intOf s3).toNat)
    case atStart => exact ⟨0, by omega, rfl, fun x hx => by simp at hx, HS.out⟩
    case round =>
      obtain ⟨i, hi, rfl, hall, hs⟩ := hrel
      clear HS
      have HS := Lib.hid hs
      have HALL1 := Lib.hid hall
      clear hs hall
      by_cases hlt : i < ins.length
      · have hli : ins[i]? = some ins[i] := List.getElem?_eq_getElem hlt
        have htw := HS.out.fact (i := 0) rfl
        obtain ⟨bb, o, rfl⟩ := htw.in_b rfl hlt
        generalize ins[i] = x at hli
        have hr := htw.in_at rfl hli
        obtain ⟨xv, y⟩ := x
        obtain ⟨Ap, cp, exv, _⟩ := (htw.is _ (List.mem_of_getElem? hli)).shape
        dsimp only at exv
        subst exv
        have C := Lib.hid (show wr.cell? ⟨bb, o + i * 35 + 33, none⟩ = some (.slice Ap y.s.length cp) from hr 33 _ (inC_33 (HOK.out.ins _ (List.mem_map_of_mem (List.mem_of_getElem? hli)))))
        have HLI := Lib.hid hli
        have j1 : (i : Int) < (ins.length : Int) := by omega
        clear hr htw hli
        by_cases h5 : y.s.length ≤ 2100
        · have k5 : ¬ (2100 : Int) < (y.s.length : Int) := by omega
          go_wp2_with (first
            | (first | (refine atd 17 (by rfl) ?_; refine wl (by rfl) (s_ld HS.out 0 (by rfl) (by rfl) (by rfl) (by kernel_rfl) (by rfl) ?_)) | (refine atd 23 (by rfl) ?_; refine wl (by rfl) (s_ld HS.out 0 (by rfl) (by rfl) (by rfl) (by kernel_rfl) (by rfl) ?_)))
            | (refine wl (by rfl) (wp_of_run (run_ld (by kernel_rfl) (by rfl) (by rfl) C.out) ?_)))
          exact ⟨⟨i + 1, by omega, by push_cast; rfl, take_all HALL1.out HLI.out h5, HS.out⟩, by simp [intOf]; omega⟩
        · have k5 : (2100 : Int) < (y.s.length : Int) := by omega
          go_wp2_with (first
            | (first | (refine atd 17 (by rfl) ?_; refine wl (by rfl) (s_ld HS.out 0 (by rfl) (by rfl) (by rfl) (by kernel_rfl) (by rfl) ?_)) | (refine atd 23 (by rfl) ?_; refine wl (by rfl) (s_ld HS.out 0 (by rfl) (by rfl) (by rfl) (by kernel_rfl) (by rfl) ?_)))
            | (refine wl (by rfl) (wp_of_run (run_ld (by kernel_rfl) (by rfl) (by rfl) C.out) ?_)))
          go_ret
          exact ⟨by rw [HNO.out (fun h => h5 (h.2.1 _ (List.mem_map_of_mem (List.mem_of_getElem? HLI.out))))]; rfl, HS.out.below⟩
      · have j1 : ¬ (i : Int) < (ins.length : Int) := by omega
        have hil : ins.take i = ins := List.take_of_length_le (by omega)
        have hfull := HALL1.out
        rw [hil] at hfull
        have HF1 := Lib.hid hfull
        clear hfull hil
        go_wp2_with (first
          | (refine atd 17 (by rfl) ?_; refine wl (by rfl) (s_ld HS.out 0 (by rfl) (by rfl) (by rfl) (by kernel_rfl) (by rfl) ?_)))
        go_loopw [4] (fun s4 wr => ∃ i : Nat, i ≤ outs.length ∧ s4 = .int .i64 (i : Int) ∧ (∀ x ∈ outs.take i, x.2.s.length ≤ 2100) ∧ St w wr [Blk b1 [.int .u32 (ver : Int), .slice A ins.length c, .slice B outs.length d, .int .u32 (lock : Int)] 55] [TxW ⟨ver, .slice A ins.length c, ins, .slice B outs.length d, outs, lock⟩]) (fun s4 _ => outs.length - (intOf s4).toNat)
        case atStart => exact ⟨0, by omega, rfl, fun x hx => by simp at hx, HS.out⟩
        case round =>
          obtain ⟨i, hi, rfl, hall, hs⟩ := hrel
          clear HS
          have HS := Lib.hid hs
          have HALL2 := Lib.hid hall
          clear hs hall
          by_cases hlt : i < outs.length
          · have hli : outs[i]? = some outs[i] := List.getElem?_eq_getElem hlt
            have htw := HS.out.fact (i := 0) rfl
            obtain ⟨bb, o, rfl⟩ := htw.out_b rfl hlt
            generalize outs[i] = x at hli
            have hr := htw.out_at rfl hli
            obtain ⟨xv, y⟩ := x
            obtain ⟨Ap, cp, exv, _⟩ := (htw.os _ (List.mem_of_getElem? hli)).shape
            dsimp only at exv
            subst exv
            have C := Lib.hid (show wr.cell? ⟨bb, o + i * 2 + 1, none⟩ = some (.slice Ap y.s.length cp) from hr 1 _ (rfl))
            have HLI := Lib.hid hli
            have j1 : (i : Int) < (outs.length : Int) := by omega
            clear hr htw hli
            by_cases h5 : y.s.length ≤ 2100
            · have k5 : ¬ (2100 : Int) < (y.s.length : Int) := by omega
              go_wp2_with (first
                | (first | (refine atd 32 (by rfl) ?_; refine wl (by rfl) (s_ld HS.out 0 (by rfl) (by rfl) (by rfl) (by kernel_rfl) (by rfl) ?_)) | (refine atd 38 (by rfl) ?_; refine wl (by rfl) (s_ld HS.out 0 (by rfl) (by rfl) (by rfl) (by kernel_rfl) (by rfl) ?_)))
                | (refine wl (by rfl) (wp_of_run (run_ld (by kernel_rfl) (by rfl) (by rfl) C.out) ?_)))
              exact ⟨⟨i + 1, by omega, by push_cast; rfl, take_all HALL2.out HLI.out h5, HS.out⟩, by simp [intOf]; omega⟩
            · have k5 : (2100 : Int) < (y.s.length : Int) := by omega
              go_wp2_with (first
                | (first | (refine atd 32 (by rfl) ?_; refine wl (by rfl) (s_ld HS.out 0 (by rfl) (by rfl) (by rfl) (by kernel_rfl) (by rfl) ?_)) | (refine atd 38 (by rfl) ?_; refine wl (by rfl) (s_ld HS.out 0 (by rfl) (by rfl) (by rfl) (by kernel_rfl) (by rfl) ?_)))
                | (refine wl (by rfl) (wp_of_run (run_ld (by kernel_rfl) (by rfl) (by rfl) C.out) ?_)))
              go_ret
              exact ⟨by rw [HNO.out (fun h => h5 (h.2.2 _ (List.mem_map_of_mem (List.mem_of_getElem? HLI.out))))]; rfl, HS.out.below⟩
          · have j1 : ¬ (i : Int) < (outs.length : Int) := by omega
            have hil : outs.take i = outs := List.take_of_length_le (by omega)
            have hfull := HALL2.out
            rw [hil] at hfull
            have HF2 := Lib.hid hfull
            clear hfull hil
            go_wp2_with (first
              | (refine atd 32 (by rfl) ?_; refine wl (by rfl) (s_ld HS.out 0 (by rfl) (by rfl) (by rfl) (by kernel_rfl) (by rfl) ?_)))
            go_ret
            exact ⟨by rw [HYES.out HF1.out HF2.out]; rfl, HS.out.below⟩
  · have HG := Lib.hid (HNO.out (fun h => h60 (by simpa using h.1)))
    by_cases h1 : ins.length ≤ 60
    · have k1 : ¬ (60 : Int) < (ins.length : Int) := by omega
      have k2 : (60 : Int) < (outs.length : Int) := by omega
      go_enter Try.func34, Try.ntmps34
      go_wp2_with (first
        | (refine atd 1 (by rfl) ?_; refine wl (by rfl) (s_bx (l := [.int .u32 (ver : Int), .slice A ins.length c, .slice B outs.length d, .int .u32 (lock : Int)]) HS.out (by rfl) (by rfl) ?_); intro b1 Wn hS; clear HS; have HS := Lib.hid hS; clear hS)
        | (refine atd 6 (by rfl) ?_; refine wl (by rfl) (s_ld HS.out 0 (by rfl) (by rfl) (by rfl) (by kernel_rfl) (by rfl) ?_))
        | (refine atd 11 (by rfl) ?_; refine wl (by rfl) (s_ld HS.out 0 (by rfl) (by rfl) (by rfl) (by kernel_rfl) (by rfl) ?_)))
      go_ret
      exact ⟨by rw [HG.out]; rfl, HS.out.below⟩
    · have k1 : (60 : Int) < (ins.length : Int) := by omega
      go_enter Try.func34, Try.ntmps34
      go_wp2_with (first
        | (refine atd 1 (by rfl) ?_; refine wl (by rfl) (s_bx (l := [.int .u32 (ver : Int), .slice A ins.length c, .slice B outs.length d, .int .u32 (lock : Int)]) HS.out (by rfl) (by rfl) ?_); intro b1 Wn hS; clear HS; have HS := Lib.hid hS; clear hS)
        | (refine atd 6 (by rfl) ?_; refine wl (by rfl) (s_ld HS.out 0 (by rfl) (by rfl) (by rfl) (by kernel_rfl) (by rfl) ?_))
        | (refine atd 11 (by rfl) ?_; refine wl (by rfl) (s_ld HS.out 0 (by rfl) (by rfl) (by rfl) (by kernel_rfl) (by rfl) ?_)))
      go_ret
      exact ⟨by rw [HG.out]; rfl, HS.out.below⟩
end
end Go.Proofs.Yteljmpoaggfliaa
