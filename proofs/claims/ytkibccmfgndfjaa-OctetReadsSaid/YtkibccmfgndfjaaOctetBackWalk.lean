/- Contracts and words that the laws stand on (OctetBackWalk). -/
import Derived.Test.YtkibccmfgndfjaaOctetCalls
import Derived.Test.YtkibccmfgndfjaaTxOrdersWalk
import Derived.Test.YtkibccmfgndfjaaOpenSized
import Derived.Test.YtkibccmfgndfjaaOctetNamesWalk
set_option linter.unusedVariables false
set_option linter.unusedSimpArgs false
namespace Go.Proofs.Ytkibccmfgndfjaa
section
open Go.RowKit Go.Proofs
theorem addr0 (x : Addr) : Addr.add x 0 = x := by unfold Addr.add; simp
theorem list_of {α : Type} {n : Nat} {p : Nat → α → Prop} (h : ∀ i, i < n → ∃ d, p i d) : ∃ ds : List α, ds.length = n ∧ ∀ i d, ds[i]? = some d → p i d := by
  induction n with
  | zero => exact ⟨[], rfl, fun i d h => by simp at h⟩
  | succ n ih =>
    obtain ⟨ds, hl, hp⟩ := ih (fun i hi => h i (by omega))
    obtain ⟨d, hd⟩ := h n (by omega)
    refine ⟨ds ++ [d], by simp [hl], fun i e he => ?_⟩
    by_cases hi : i < n
    · rw [List.getElem?_append_left (by omega)] at he; exact hp i e he
    · rw [List.getElem?_append_right (by omega)] at he
      have : i - ds.length = 0 := by
        have := (List.getElem?_eq_some_iff.1 he).1
        simp at this; omega
      rw [this] at he
      simp at he
      subst he
      have : i = n := by omega
      subst this; exact hd
/-- The calls that came in. -/
def OpsIn (w : World) (v : Value) (ds : List OpD) : Prop :=
  ∃ (A : Option Addr) (c : Nat), v = .slice A ds.length c ∧ ds.length ≤ 9223372036854775807 ∧ (A = none → ds = []) ∧ ∀ a, A = some a → ∀ (i : Nat) d, ds[i]? = some d → ∃ u, (∀ (j : Nat) x, (opC4 d u)[j]? = some x → w.cell? ((a.add (i * 4)).add j) = some x) ∧ HB w u d.xs ∧ d.n < 18446744073709551616 ∧ d.xs.length ≤ reachBytes
theorem cells45 : Try.prog.cellsOf 52 = 4 := by kernel_rfl
theorem bytes5 : Try.prog.bytesOf 5 = 1 := by kernel_rfl
theorem cells3 : Try.prog.cellsOf 3 = 1 := by kernel_rfl
theorem cells46 : Try.prog.cellsOf 46 = 1 := by kernel_rfl
theorem cells29 : Try.prog.cellsOf 29 = 1 := by kernel_rfl
/-- Bytes that are read. -/
theorem hb_of {w : World} {cs : List Value} (g : Rs Try.prog w 29 cs) : ∃ u xs, cs = [u] ∧ HB w u xs ∧ xs.length ≤ reachBytes := by
  obtain ⟨a, len, cap, rfl, h⟩ := g.slice Try.underlying29
  rcases h with ⟨rfl, rfl, rfl⟩ | ⟨x, rfl, hl, _, hmx, hc⟩
  · exact ⟨_, [], rfl, HB.nil _ _ _, by simp⟩
  · obtain ⟨xs, hxl, hx⟩ := list_of (n := len) (p := fun i (b : UInt8) => w.cell? (x.add i) = some (.int .u8 (b.toNat : Int))) (fun i hi => by
      obtain ⟨ds, hds, hr⟩ := hc i (by omega)
      obtain ⟨n, rfl, hw⟩ := hr.rd.int Try.underlying5
      rw [cells5] at hds
      obtain ⟨_, hcell⟩ := cells_spec hds
      have h0 := hcell 0 (by omega)
      have hb : 0 ≤ n ∧ n < 256 := by simp [Lit.wf, IntKind.min, IntKind.max, IntKind.signed, IntKind.bits] at hw; omega
      refine ⟨UInt8.ofNat n.toNat, ?_⟩
      rw [Nat.mul_one, addr0] at h0
      rw [h0]
      simp
      omega)
    exact ⟨_, xs, rfl, ⟨some x, cap, by rw [hxl], by omega, (fun e => by cases e), fun a ha i b hb => by injection ha with ha; subst ha; exact hx i b hb⟩, by rw [bytes5, Nat.mul_one] at hmx; omega⟩
theorem ops_of {w : World} {a : Option Addr} {len cap : Nat} (g : Rs Try.prog w 45 [.slice a len cap]) : ∃ ds, OpsIn w (.slice a len cap) ds := by
  obtain ⟨a', len', cap', e, h⟩ := g.slice Try.underlying45
  injection e with e _
  injection e with e1 e2 e3
  subst e1 e2 e3
  rcases h with ⟨rfl, rfl, rfl⟩ | ⟨x, rfl, hl, hml, _, hc⟩
  · exact ⟨[], none, 0, rfl, by simp, fun _ => rfl, fun a ha => by cases ha⟩
  · obtain ⟨ds, hdl, hd⟩ := list_of (n := len) (p := fun i (d : OpD) => ∃ u, (∀ (j : Nat) y, (opC4 d u)[j]? = some y → w.cell? ((x.add (i * 4)).add j) = some y) ∧ HB w u d.xs ∧ d.n < 18446744073709551616 ∧ d.xs.length ≤ reachBytes) (fun i hi => by
      obtain ⟨cs, hcs, hr⟩ := hc i (by omega)
      rw [cells45] at hcs
      obtain ⟨hlen, hcell⟩ := cells_spec hcs
      obtain ⟨_, hf⟩ := hr.struct Try.underlying52
      have f0 := hf _ (List.mem_cons_self ..)
      have f1 := hf _ (List.mem_cons_of_mem _ (List.mem_cons_self ..))
      have f2 := hf _ (List.mem_cons_of_mem _ (List.mem_cons_of_mem _ (List.mem_cons_self ..)))
      have f3 := hf _ (List.mem_cons_of_mem _ (List.mem_cons_of_mem _ (List.mem_cons_of_mem _ (List.mem_cons_self ..))))
      clear hf
      simp only [cells3, cells46, cells29, List.drop_zero] at f0 f1 f2 f3
      match cs, hlen with
      | [v0, v1, v2, v3], _ =>
        obtain ⟨k, hk, _⟩ := f0.rd.int Try.underlying3
        obtain ⟨s, hs, _⟩ := f1.rd.int Try.underlying3
        obtain ⟨n, hn, hw⟩ := f2.rd.int Try.underlying46
        obtain ⟨u, xs, hu, hb, hmx⟩ := hb_of f3
        simp at hk hs hn hu
        subst hk hs hn hu
        obtain ⟨h0, h1⟩ := u64_wf hw
        obtain ⟨m, rfl⟩ := Int.eq_ofNat_of_zero_le h0
        refine ⟨⟨k, s, m, xs⟩, v3, fun j y hy => ?_, hb, by show m < _; omega, hmx⟩
        have hj : j < 4 := (List.getElem?_eq_some_iff.1 (by simpa [opC4] using hy)).1
        rw [hcell j hj]
        simpa [opC4] using hy)
    exact ⟨ds, some x, cap, by rw [hdl], by rw [hdl]; simp only [maxLen] at hml; omega, (fun e => by cases e), fun a ha i d hi => by injection ha with ha; subst ha; exact hd i d hi⟩
end
section
open Go.RowKit Go.Proofs
/-- How many bytes the first of the calls hold. -/
def bsum (ds : List OpD) (i : Nat) : Nat := ((ds.take i).map fun d => d.xs.length).sum
theorem bsum_succ (ds : List OpD) (i : Nat) (d : OpD) (h : ds[i]? = some d) : bsum ds (i + 1) = bsum ds i + d.xs.length := by
  obtain ⟨hi, rfl⟩ := List.getElem?_eq_some_iff.1 h
  simp only [bsum, List.take_succ_eq_append_getElem hi, List.map_append, List.sum_append, List.map_cons, List.map_nil, List.sum_cons, List.sum_nil, Nat.add_zero]
theorem bsum_le (ds : List OpD) (i m : Nat) (h : ∀ e ∈ ds, e.xs.length ≤ m) : bsum ds i ≤ i * m := by
  induction i with
  | zero => simp [bsum]
  | succ i ih =>
    by_cases hi : i < ds.length
    · rw [bsum_succ ds i ds[i] (List.getElem?_eq_getElem hi), Nat.succ_mul]
      have := h ds[i] (List.getElem_mem hi)
      omega
    · have e : bsum ds (i + 1) = bsum ds i := by simp [bsum, List.take_of_length_le (show ds.length ≤ i by omega), List.take_of_length_le (show ds.length ≤ i + 1 by omega)]
      rw [e, Nat.succ_mul]; omega
theorem HOPS_len {w : World} {A : Option Addr} {ds : List OpD} (h : ∀ a, A = some a → ∀ (i : Nat) d, ds[i]? = some d → ∃ u, (∀ (j : Nat) x, (opC4 d u)[j]? = some x → w.cell? ((a.add (i * 4)).add j) = some x) ∧ HB w u d.xs ∧ d.n < 18446744073709551616 ∧ d.xs.length ≤ reachBytes) {a : Addr} (ha : A = some a) {e : OpD} (he : e ∈ ds) : e.xs.length ≤ reachBytes := by
  obtain ⟨i, hi⟩ := List.mem_iff_getElem?.1 he
  obtain ⟨_, _, _, _, h4⟩ := h a ha i e hi
  exact h4
def GreatRel (ds : List OpD) (w : World) (s7 s3 : Value) (w' : World) : Prop := ∃ (i : Nat) (x : Int), i ≤ ds.length ∧ s7 = .int .i64 i ∧ s3 = .int .i64 x ∧ w' = w ∧ (ds.length ≤ 100 → x = (bsum ds i : Nat))
def GreatOut (ds : List OpD) (w : World) (e : Ending) (w' : World) : Prop := ∃ r, e = .returned (.bool r) ∧ w' = w ∧ (r = false → ds.length ≤ 100 ∧ bsum ds ds.length ≤ 100000)
attribute [local irreducible] Calls
set_option maxHeartbeats 1000000 in
set_option maxRecDepth 100000 in
theorem great26 (v : Value) (ds : List OpD) (w : World) (h : OpsIn w v ds) :
    Calls Try.prog 26 #[v] w (GreatOut ds w) := by
  obtain ⟨A, c, rfl, hdl, hA, hops⟩ := h
  have HOPS := Lib.hid hops
  clear hops
  go_enter Try.func26, Try.ntmps26
  go_wp2_with fail
  go_loopw [7, 3] (fun s7 s3 w' => GreatRel ds w s7 s3 w') (fun s7 _ _ => ds.length - (intOf s7).toNat)
  case atStart => exact ⟨0, 0, by omega, rfl, rfl, rfl, fun _ => by simp [bsum]⟩
  case round =>
    obtain ⟨i, x, hi, rfl, rfl, rfl, hx⟩ := hrel
    have HXX := Lib.hid hx
    clear hx
    by_cases hlt : i < ds.length
    · obtain ⟨d, hd⟩ : ∃ d, ds[i]? = some d := ⟨_, List.getElem?_eq_getElem hlt⟩
      cases A with
      | none => rw [hA rfl] at hlt; simp at hlt
      | some a =>
        obtain ⟨u, hcell, hb, hn, hmx⟩ := HOPS.out a rfl i d hd
        have c3 : wr.cell? ⟨(a.add (i * 4)).block, (a.add (i * 4)).off + 3, none⟩ = some u := hcell 3 u rfl
        have hbs := bsum_succ ds i d hd
        have hbl := bsum_le ds i reachBytes (fun e he => HOPS_len HOPS.out rfl he)
        obtain ⟨A2, c2, rfl, _⟩ := hb.shape
        have ki0 : (0 : Int) ≤ (i : Int) := by omega
        have ki1 : (i : Int) < (ds.length : Int) := by omega
        clear hcell
        have HBS := Lib.hid hbs; have HBL := Lib.hid hbl; have HMX := Lib.hid hmx
        clear hbs hbl hmx
        go_wp2_with fail
        go_roundw
        case rel => exact ⟨i + 1, _, by omega, by go_num, rfl, rfl, fun h => by
          have h1 := HXX.out h
          have h2 := HBS.out
          have h3 := HBL.out
          have h4 := HMX.out
          have h5 : i * reachBytes ≤ 100 * reachBytes := Nat.mul_le_mul_right _ (by omega)
          rw [h1, h2]
          have h6 := reachBytes_lt
          unfold wrap64
          generalize reachBytes = RB at *
          have h7 : 100 * RB ≤ 100 * 2 ^ 47 := Nat.mul_le_mul_left _ (by omega)
          generalize i * RB = iR at *
          omega⟩
        case measure => simp [intOf]; omega
    · obtain rfl : i = ds.length := by omega
      by_cases h100 : ds.length ≤ 100
      · obtain rfl := HXX.out h100
        by_cases hb : bsum ds ds.length ≤ 100000
        · have t1 : decide ((100 : Int) < (ds.length : Int)) = false := by simp; omega
          have t2 : decide ((100000 : Int) < ((bsum ds ds.length : Nat) : Int)) = false := by simp; omega
          go_wp2_with fail
          go_ret
          exact ⟨false, ret_bool (by first | rfl | simp | (simp; omega)), rfl, fun _ => ⟨h100, hb⟩⟩
        · have t1 : decide ((100 : Int) < (ds.length : Int)) = false := by simp; omega
          have t2 : decide ((100000 : Int) < ((bsum ds ds.length : Nat) : Int)) = true := by simp; omega
          go_wp2_with fail
          go_ret
          exact ⟨true, ret_bool (by first | rfl | simp | (simp; omega)), rfl, fun h => by cases h⟩
      · have t1 : decide ((100 : Int) < (ds.length : Int)) = true := by simp; omega
        go_wp2_with fail
        go_ret
        exact ⟨true, ret_bool (by first | rfl | simp | (simp; omega)), rfl, fun h => by cases h⟩
end
section
open Go.RowKit Go.Proofs
theorem info52 : (Try.prog.info? 52).map (fun i => (i.zero, i.size, i.bytes)) = some (some (.agg #[.int .i64 0, .int .i64 0, .int .u64 0, .slice none 0 0]), 4, 48) := by kernel_rfl
/-- One call is laid behind a row of calls. -/
theorem wpl_app4 {w : World} {ops : Array Oper} {rest : List Oper} {o : Oper} {a : Act} {Q : Exit → Act → World → Prop} (hgd : o.guard = none) (s x : Operand)
    (ho : o.op = .call { callee := .builtin .append, args := #[s, x], argTypes := #[45, 45] }) (base : Nat)
    (v : Value) (n : Nat) (xs : List Value) (d : OpD) (u : Value) (b : Nat) (hs : a.eval s = v) (hx : a.eval x = .slice (some ⟨b, 0, none⟩) 1 1) (hown : w.ownsRow base 52 4 v n xs) (hb : w.heap[b]? = some (.cells (opC4 d u) 52)) (h1 : u.oneCell' = true) (hl : n ≤ 1000000) (hbase : base ≤ w.heap.size)
    (h : ∀ v' w', w'.ownsRow base 52 4 v' (n + 1) (xs ++ (opC4 d u).toList) → w.grownBy w' v.ownBlock → Nx w v v' → wpList Try.prog ops Q rest (a.put o.dst v') w') : wpList Try.prog ops Q (o :: rest) a w := by
  refine wpList_plain hgd fun K hK => ?_
  obtain ⟨i0, hi, hzz⟩ := Option.map_eq_some_iff.1 info52
  simp only [Prod.mk.injEq] at hzz
  obtain ⟨hz0, hz1, hz2⟩ := hzz
  obtain ⟨v', w', hrun, a2, a3, _, a5⟩ := run_append_own_at (P := Try.prog) w base 45 o.type 52 i0 _ 4 48 Try.underlying45 hi hz0 hz1 hz2 rfl (by omega) v n xs hown ⟨b, 0, none⟩ 1 1 (opC4 d u).toList (by simp [opC4])
    (fun j y hy => by
      have e : (Addr.add ⟨b, 0, none⟩ j : Addr) = ⟨b, j, none⟩ := by unfold Addr.add; split <;> simp_all
      rw [e, cell_of_row w b j _ _ _ hb]
      simpa using hy) (fun y hy => by
      simp [opC4] at hy
      rcases hy with rfl | rfl | rfl | rfl
      · rfl
      · rfl
      · rfl
      · exact h1) (by simp only [maxLen]; omega) (by omega) hbase
  unfold Oper.wp execOp
  simp only [ho, resolve, invoke, builtin, Sem.run_bind, Sem.run_pure, Result.andThen_ok, List.map_toArray, List.map_cons, List.map_nil, hs, hx, hrun]
  refine hK _ _ (h v' w' a2 a3 ?_)
  rcases a5 with a5 | a5
  · exact .inl a5
  · exact .inr ⟨_, a5, Nat.le_refl _⟩
/-- The cells of calls in a row, and their bytes. -/
def rowC (E : List (OpD × Value)) : List Value := E.flatMap fun x => (opC4 x.1 x.2).toList
def encE (E : List (OpD × Value)) : List UInt8 := E.flatMap fun x => (opE x.1).getD []
theorem rowC_get (E : List (OpD × Value)) : ∀ (i j : Nat) (x : OpD × Value), E[i]? = some x → j < 4 → (rowC E)[i * 4 + j]? = (opC4 x.1 x.2)[j]? := by
  induction E with
  | nil => intro i j x h; simp at h
  | cons y E ih =>
    intro i j x h hj
    have hz : (opC4 y.1 y.2).toList.length = 4 := by simp [opC4]
    cases i with
    | zero =>
      simp at h; subst h
      rw [rowC, List.flatMap_cons, List.getElem?_append_left (by omega)]
      simp
    | succ i =>
      rw [rowC, List.flatMap_cons, List.getElem?_append_right (by omega), hz, show (i + 1) * 4 + j - 4 = i * 4 + j by omega]
      exact ih i j x (by simpa using h) hj
/-- A row of calls of one's own: its cells. -/
theorem own4_cells {w : World} {base g n c : Nat} {E : List (OpD × Value)} (h : w.ownsRow base 52 4 (.slice (some ⟨g, 0, none⟩) n c) n (rowC E)) {i : Nat} {x : OpD × Value} (hx : E[i]? = some x) (hi : i < n) :
    w.cell? ⟨g, i * 4, none⟩ = some (.int .i64 x.1.k) ∧ w.cell? ⟨g, i * 4 + 1, none⟩ = some (.int .i64 x.1.s) ∧ w.cell? ⟨g, i * 4 + 2, none⟩ = some (.int .u64 (x.1.n : Int)) ∧ w.cell? ⟨g, i * 4 + 3, none⟩ = some x.2 := by
  have key : ∀ j, j < 4 → w.cell? ⟨g, i * 4 + j, none⟩ = (opC4 x.1 x.2)[j]? := by
    intro j hj
    have := h.cells (g := g) rfl (i * 4 + j) _ (by
      have h2 := rowC_get E i j x hx hj
      rw [h2]
      exact Array.getElem?_eq_getElem (xs := opC4 x.1 x.2) (show j < 4 from hj))
    have e : (Addr.add ⟨g, 0, none⟩ (i * 4 + j) : Addr) = ⟨g, i * 4 + j, none⟩ := by unfold Addr.add; split <;> simp_all
    rw [e] at this
    rw [this]
    exact (Array.getElem?_eq_getElem (xs := opC4 x.1 x.2) (show j < 4 from hj)).symm
  exact ⟨key 0 (by omega), key 1 (by omega), key 2 (by omega), key 3 (by omega)⟩
theorem enc_len (d : OpD) : ((opE d).getD []).length ≤ 9 + d.xs.length := by
  obtain ⟨k, s, n, xs⟩ := d
  have hc : ∀ m : Nat, (csize m).length ≤ 9 := by
    intro m
    rw [csize_length]; unfold compact
    split
    · omega
    · split
      · omega
      · split <;> omega
  unfold opE
  split
  · split
    · rename_i h1 h2
      have hw : wideB s = true := by
        cases h : wideB s with
        | true => rfl
        | false => rw [fixedE, if_pos h] at h2; exact absurd h2 (by decide)
      have := wideB_cases hw
      simp only [Option.getD_some, le_length]; omega
    · simp
  · split
    · have := hc n; simp only [Option.getD_some]; omega
    · split
      · have := hc xs.length; simp only [Option.getD_some, List.length_append]; omega
      · simp
end
section
open Go.RowKit Go.Proofs
/-- Calls that were written: each is known at w. -/
def GoodE (w : World) (E : List (OpD × Value)) : Prop := ∀ x ∈ E, OpIn w x.1 x.2 ∧ (opE x.1).isSome = true
theorem OpIn.below {w w' : World} {d : OpD} {u : Value} (h : OpIn w d u) (hb : Below w.heap.size w w') : OpIn w' d u := ⟨h.n64, h.bytes.below hb, h.len⟩
theorem HB.sep {w : World} {u : Value} {xs : List UInt8} (h : HB w u xs) (hx : xs ≠ []) {k : Nat} (hk : u.ownBlock = some k) : k < w.heap.size := by
  obtain ⟨j, h1, h2⟩ := h.lt hx
  rw [hk] at h1; injection h1 with h1; omega
theorem OpsIn.below {w w' : World} {v : Value} {ds : List OpD} (h : OpsIn w v ds) (hb : Below w.heap.size w w') : OpsIn w' v ds := by
  obtain ⟨A, c, e, hl, hA, hops⟩ := h
  refine ⟨A, c, e, hl, hA, fun a ha i d hd => ?_⟩
  obtain ⟨u, hc, hb2, hn, hm⟩ := hops a ha i d hd
  refine ⟨u, fun j x hx => ?_, hb2.below hb, hn, hm⟩
  have := hc j x hx
  exact (World.cell?_of_block (hb.block _ (World.block_lt_of_cell? w _ this))).trans this
/-- The blocks of a row of calls and of a pen are apart. -/
theorem row_pen {w : World} {base n p : Nat} {s vp : Value} {xs : List Value} {ys : List UInt8} (h : w.ownsRow base 52 4 s n xs) (hp : IsPen w p vp ys) {k : Nat} (hk : s.ownBlock = some k) : k ≠ p ∧ vp.ownBlock ≠ some k := by
  refine ⟨fun e => own_ne h hp.blk (by decide) (e ▸ hk), fun e => ?_⟩
  rcases hp.row.2 with ⟨rfl, _⟩ | ⟨g, cap, cur, rfl, _, hg, _⟩
  · cases e
  · injection e with e
    have e : g = k := e
    subst e
    exact own_ne h hg (by decide) hk
theorem row_put {w w' : World} {base n p : Nat} {s vp vp' : Value} {xs : List Value} {ys zs : List UInt8} (h : w.ownsRow base 52 4 s n xs) (hp : IsPen w p vp ys) (g : PenGo w w' p vp vp' zs) : w'.ownsRow base 52 4 s n xs :=
  own_chg h g.chg (fun k hk => by
    obtain ⟨h1, h2⟩ := row_pen h hp hk
    simp only [List.mem_cons, Option.mem_toList, not_or]
    exact ⟨h1, h2⟩)
theorem pen_app {w w' : World} {base n p : Nat} {s vp : Value} {xs : List Value} {ys : List UInt8} (h : w.ownsRow base 52 4 s n xs) (hp : IsPen w p vp ys) (hg : w.grownBy w' s.ownBlock) : IsPen w' p vp ys := by
  refine ⟨(hg.block p (blk_lt hp.blk) (fun e => ?_)).trans hp.blk, own_block hp.row fun k hk => hg.block k (own_lt hp.row k hk) (fun e => ?_)⟩
  · exact (row_pen h hp e.symm).1 rfl
  · exact (row_pen h hp e.symm).2 hk
theorem bsum_mono (ds : List OpD) {i j : Nat} (h : i ≤ j) : bsum ds i ≤ bsum ds j := by
  induction j with
  | zero => have : i = 0 := by omega
            subst this; exact Nat.le_refl _
  | succ j ih =>
    by_cases hij : i ≤ j
    · refine Nat.le_trans (ih hij) ?_
      by_cases hj : j < ds.length
      · rw [bsum_succ ds j ds[j] (List.getElem?_eq_getElem hj)]; omega
      · simp only [bsum, List.take_of_length_le (show ds.length ≤ j by omega), List.take_of_length_le (show ds.length ≤ j + 1 by omega)]; exact Nat.le_refl _
    · have : i = j + 1 := by omega
      subst this; exact Nat.le_refl _
theorem encE_snoc (E : List (OpD × Value)) (x : OpD × Value) : encE (E ++ [x]) = encE E ++ (opE x.1).getD [] := by simp [encE, List.flatMap_append]
theorem rowC_snoc (E : List (OpD × Value)) (x : OpD × Value) : rowC (E ++ [x]) = rowC E ++ (opC4 x.1 x.2).toList := by simp [rowC, List.flatMap_append]
structure B1 (w : World) (n p : Nat) (E : List (OpD × Value)) (i : Nat) (vp s5 : Value) (w' : World) : Prop where
  good : GoodE w E
  len : E.length ≤ i
  bytes : (encE E).length ≤ 9 * i + n
  pen : PenIn w.heap.size w w' p vp (encE E)
  row : w'.ownsRow w.heap.size 52 4 s5 E.length (rowC E)
def Rel1 (w : World) (ds : List OpD) (p : Nat) (s23 s5 : Value) (w' : World) : Prop := ∃ (i : Nat) (E : List (OpD × Value)) (vp : Value), i ≤ ds.length ∧ s23 = .int .i64 i ∧ B1 w (bsum ds i) p E i vp s5 w'
def Rel2 (w : World) (E : List (OpD × Value)) (g : Nat) (A5 : Option Addr) (c5 : Nat) (vb : Value) (s44 : Value) (w' : World) : Prop :=
  ∃ (i : Nat) (u : Value), i ≤ E.length ∧ s44 = .int .i64 i ∧ EyeIn w w' g u (encE (E.drop i)) ∧ w'.ownsRow w.heap.size 52 4 (.slice A5 E.length c5) E.length (rowC E) ∧ HB w' vb (encE E)
def Rel3 (w : World) (E : List (OpD × Value)) (g m : Nat) (A5 : Option Addr) (c5 : Nat) (s77 s11 : Value) (w' : World) : Prop :=
  ∃ (i : Nat) (r : Bool), i ≤ E.length ∧ s77 = .int .i64 i ∧ s11 = .bool r ∧ Below w.heap.size w w' ∧ w'.ownsRow w.heap.size 52 4 (.slice A5 E.length c5) E.length (rowC E) ∧ (r = true → ∃ u zs, EyeIn w w' g u zs ∧ (encE E).take m = encE (E.take i) ++ zs)
attribute [local irreducible] Calls
set_option maxHeartbeats 4000000 in
set_option maxRecDepth 100000 in
theorem octetBack_walk (v : Value) (ds : List OpD) (w : World) (h : OpsIn w v ds) :
    Calls Try.prog 13 #[v] w fun e w' => e = .returned (.bool true) ∧ Below w.heap.size w w' := by
  have HOP := Lib.hid h
  obtain ⟨A, c, rfl, hdl, hA, hops⟩ := h
  have HOPS := Lib.hid hops
  clear hops
  go_enter Try.func13, Try.ntmps13
  go_wp2_with (go_at_call 23; refine (alive1_any _).mono ?_; rintro e w1 ⟨rfl, hb⟩; have HX := Lib.hid hb; clear hb)
  refine (great26 _ ds w1 ?_).mono ?_
  · exact HOP.out.below HX.out
  rintro e w1' ⟨r, rfl, rfl, hr⟩
  cases r with
  | true =>
    go_wp2_with fail
    go_ret
    exact ⟨rfl, HX.out⟩
  | false =>
    obtain ⟨hn, hbn⟩ := hr rfl
    clear hr
    obtain ⟨W1, hW1⟩ : ∃ W1, W1 = w1'.alloc (.cells #[.slice none 0 0] 39) := ⟨_, rfl⟩
    obtain ⟨p, hp⟩ : ∃ p, p = w1'.heap.size := ⟨_, rfl⟩
    have hpn := PenIn.new w1'
    rw [← hW1, ← hp] at hpn
    have hpen : PenIn w.heap.size w W1 p (.slice none 0 0) [] := ⟨hpn.pen, by have := HX.out.size; omega, by simp [Value.ownBlock], HX.out.trans (hpn.below.mono (by have := HX.out.size; omega))⟩
    have HPEN := Lib.hid hpen
    clear hpn hpen
    go_wp2_with fail
    rw [← hW1, ← hp]
    clear hW1 hp
    go_loopw [23, 5] (fun s23 s5 w' => Rel1 w ds p s23 s5 w') (fun s23 _ _ => ds.length - (intOf s23).toNat)
    case atStart => exact ⟨0, [], .slice none 0 0, by omega, rfl, ⟨(fun x hx => by cases hx), by simp, by simp [encE], HPEN.out, World.ownsRow_nil _ _ _ _⟩⟩
    case round =>
      clear HPEN
      obtain ⟨i, E, vp, hi, rfl, hB⟩ := hrel
      have HB1 := Lib.hid hB
      obtain ⟨A5, c5, rfl⟩ := own_slice hB.row
      clear hB
      by_cases hlt : i < ds.length
      · obtain ⟨d, hd⟩ : ∃ d, ds[i]? = some d := ⟨_, List.getElem?_eq_getElem hlt⟩
        cases A with
        | none => rw [hA rfl] at hlt; simp at hlt
        | some a =>
          obtain ⟨u, hcell, hbu, hn64, _⟩ := HOPS.out a rfl i d hd
          have hbs := bsum_succ ds i d hd
          have hmono : bsum ds (i + 1) ≤ bsum ds ds.length := bsum_mono ds (by omega)
          have hop : OpIn w d u := ⟨hn64, hbu, by omega⟩
          have hcw : ∀ w', Below w.heap.size w w' → w'.cell? (a.add (i * 4)) = some (.int .i64 d.k) ∧ w'.cell? ⟨(a.add (i * 4)).block, (a.add (i * 4)).off + 1, none⟩ = some (.int .i64 d.s) ∧ w'.cell? ⟨(a.add (i * 4)).block, (a.add (i * 4)).off + 2, none⟩ = some (.int .u64 (d.n : Int)) ∧ w'.cell? ⟨(a.add (i * 4)).block, (a.add (i * 4)).off + 3, none⟩ = some u := fun w' hb => by
            have k := fun j x (hx : (opC4 d u)[j]? = some x) => (World.cell?_of_block (hb.block _ (World.block_lt_of_cell? w _ (hcell j x hx)))).trans (hcell j x hx)
            exact ⟨by have := k 0 _ rfl; rwa [addr0] at this, k 1 _ rfl, k 2 _ rfl, k 3 _ rfl⟩
          have HCW := Lib.hid hcw; have HOPI := Lib.hid hop; have HBS := Lib.hid hbs; have HMO := Lib.hid hmono
          obtain ⟨f0, f1, f2, f3⟩ := hcw wr HB1.out.pen.below
          have ki0 : (0 : Int) ≤ (i : Int) := by omega
          have ki1 : (i : Int) < (ds.length : Int) := by omega
          have hsep : d.xs ≠ [] → ∀ k, u.ownBlock = some k → k ∉ p :: vp.ownBlock.toList := fun hx k hk => by
            have h1 := hbu.sep hx hk
            have h2 := HB1.out.pen.lo
            simp only [List.mem_cons, Option.mem_toList, not_or]
            exact ⟨by omega, fun e => by have := HB1.out.pen.lov k e; omega⟩
          have HSEP := Lib.hid hsep
          clear hcw hcell hop hbs hmono hsep hbu
          go_wp2_with fail
          refine (put49 p d u vp (encE E) wr HB1.out.pen.pen (HOPI.out.below HB1.out.pen.below) (by have := HB1.out.bytes; have := bsum_mono ds (i := i) (j := ds.length) (by omega); omega) HSEP.out).mono ?_
          rintro e w2 ⟨rfl, vp2, g⟩
          have hpen2 := HB1.out.pen.go g HB1.out.pen.below.size
          have hrow2 := row_put HB1.out.row HB1.out.pen.pen g
          cases hE : opE d with
          | none =>
            rw [hE] at hpen2
            have hB2 : B1 w (bsum ds (i + 1)) p E (i + 1) vp2 (.slice A5 E.length c5) w2 := ⟨HB1.out.good, by have := HB1.out.len; omega, by have := HB1.out.bytes; have := HBS.out; omega, by simpa using hpen2, hrow2⟩
            have HB2 := Lib.hid hB2
            clear g hpen2 hrow2 hB2 hE
            go_wp2_with fail
            go_roundw
            case rel => exact ⟨i + 1, E, vp2, by omega, by go_num, HB2.out⟩
            case measure => simp [intOf]; omega
          | some l =>
            rw [hE, Option.getD_some] at hpen2
            have HP2 := Lib.hid hpen2; have HR2 := Lib.hid hrow2
            have hlen : l.length ≤ 9 + d.xs.length := by have := enc_len d; rw [hE] at this; exact this
            have HLEN := Lib.hid hlen; have HEE := Lib.hid hE
            obtain ⟨f0, f1, f2, f3⟩ := HCW.out w2 hpen2.below
            have huo : u.oneCell' = true := by obtain ⟨A9, c9, e, _⟩ := HOPI.out.bytes.shape; rw [e]; rfl
            have hpa := hpen2.chg ((Below.refl w2.heap.size w2).alloc (Nat.le_refl _) (.cells (opC4 d u) 52)) hpen2.below.size
            have hra := own_chg hrow2 ((Chg.refl [] w2).alloc (.cells (opC4 d u) 52)) (by simp)
            have HPA := Lib.hid hpa; have HRA := Lib.hid hra
            clear g hpen2 hrow2 hlen hE hpa hra
            go_wp2_with (at_builtin; go_loud (refine wpl_app4 rfl (.tmp 31) (.tmp 36) rfl w.heap.size (.slice A5 E.length c5) E.length (rowC E) d u w2.heap.size rfl rfl HRA.out (heap_alloc_new _ _) huo (by have := HB1.out.len; omega) HPA.out.below.size ?_))
            intro v' w3 hown hg hnx
            have hB2 : B1 w (bsum ds (i + 1)) p (E ++ [(d, u)]) (i + 1) vp2 v' w3 := by
              refine ⟨fun x hx => ?_, by have := HB1.out.len; simp; omega, ?_, ⟨?_, HPA.out.lo, HPA.out.lov, ?_⟩, ?_⟩
              · rcases List.mem_append.1 hx with hx | hx
                · exact HB1.out.good x hx
                · simp at hx; subst hx; exact ⟨HOPI.out, by rw [HEE.out]; rfl⟩
              · have := HB1.out.bytes
                have := HBS.out
                have := HLEN.out
                rw [encE_snoc, HEE.out, List.length_append, Option.getD_some]; omega
              · rw [encE_snoc, HEE.out, Option.getD_some]; exact pen_app HRA.out HPA.out.pen hg
              · exact HPA.out.below.grown hg HPA.out.below.size (fun k hk => own_ge HRA.out hk)
              · rw [rowC_snoc, List.length_append, List.length_singleton]; exact hown
            have HB2 := Lib.hid hB2
            clear hB2 hown hg hnx
            go_wp2_with fail
            go_roundw
            case rel => exact ⟨i + 1, E ++ [(d, u)], vp2, by omega, by go_num, HB2.out⟩
            case measure => simp [intOf]; omega
      · obtain rfl : i = ds.length := by omega
        have hl1 := HB1.out.bytes
        have hE100 := HB1.out.len
        go_wp2_with fail
        refine (pall_any p vp (encE E) wr HB1.out.pen.pen (by omega)).mono ?_
        rintro e w4 ⟨vb, rfl, hown, hb4⟩
        have hrow4 := own_chg HB1.out.row (Chg.of_below hb4) (by simp)
        have HROW := Lib.hid hrow4
        have HBB := Lib.hid (show HB w4 vb (encE E) from HB.of_own hown)
        have HX4 := Lib.hid (thx HB1.out.pen.below hb4)
        have HGE := Lib.hid HB1.out.good
        have hlt4 : ∀ k, vb.ownBlock = some k → k < w4.heap.size := fun k hk => own_lt hown k hk
        have HLT4 := Lib.hid hlt4
        obtain ⟨Ab, cb, rfl⟩ := own_slice hown
        clear hown hb4 hrow4 HB1 hlt4
        go_wp2_with fail
        refine (look_any _ (encE E) w4 HBB.out (by omega)).mono ?_
        rintro e w5 ⟨g, u0, rfl, hg, he, hu, hb5⟩
        have HE5 := Lib.hid (show EyeIn w w5 g u0 (encE E) from ⟨he, Nat.le_trans HX4.out.size hg, thx HX4.out hb5⟩)
        have HROW5 := Lib.hid (own_chg HROW.out (Chg.of_below hb5) (by simp))
        have HBB5 := Lib.hid (HBB.out.below hb5)
        have HNE := Lib.hid (show ∀ k, (Value.slice Ab (encE E).length cb).ownBlock = some k → k ≠ g from fun k hk => by have := HLT4.out k hk; omega)
        clear hg he hu hb5 HROW HBB HX4 HLT4
        go_wp2_with fail
        go_loopw [44] (fun s44 w' => Rel2 w E g A5 c5 (.slice Ab (encE E).length cb) s44 w') (fun s44 _ => E.length - (intOf s44).toNat)
        case atStart => exact ⟨0, u0, by omega, rfl, by rw [List.drop_zero]; exact HE5.out, HROW5.out, HBB5.out⟩
        case round =>
          clear HE5 HROW5 HBB5
          obtain ⟨i, u, hi, rfl, he, hrow, hbb⟩ := hrel
          have HE := Lib.hid he; have HROW := Lib.hid hrow; have HBB := Lib.hid hbb
          clear he hrow hbb
          by_cases hlt2 : i < E.length
          · obtain ⟨x, hx⟩ : ∃ x, E[i]? = some x := ⟨_, List.getElem?_eq_getElem hlt2⟩
            obtain ⟨gd, rfl⟩ : ∃ gd, A5 = some ⟨gd, 0, none⟩ := by
              rcases HROW.out.2 with ⟨e, hn⟩ | ⟨gd, cap, cur, e, _⟩
              · omega
              · injection e with e1; exact ⟨gd, e1⟩
            obtain ⟨f0, f1, f2, f3⟩ := own4_cells HROW.out hx hlt2
            have ki0 : (0 : Int) ≤ (i : Int) := by omega
            have ki1 : (i : Int) < (E.length : Int) := by omega
            go_wp2_with fail
            have hmem : x ∈ E := List.mem_of_getElem? hx
            obtain ⟨hop, hsome⟩ := HGE.out x hmem
            have hdr : encE (E.drop i) = (opE x.1).getD [] ++ encE (E.drop (i + 1)) := by
              obtain ⟨hi2, rfl⟩ := List.getElem?_eq_some_iff.1 hx
              rw [List.drop_eq_getElem_cons hi2, encE, List.flatMap_cons]; rfl
            have hdl2 : (encE (E.drop i)).length ≤ (encE E).length := by
              have e1 : encE E = encE (E.take i) ++ encE (E.drop i) := by rw [encE, encE, encE, ← List.flatMap_append, List.take_append_drop]
              rw [e1, List.length_append]; omega
            refine (get50 g x.1 x.2 u (encE (E.drop i)) wr HE.out.eye (hop.below HE.out.below) (fun h0 k hk => by have h1 := hop.bytes.sep h0 hk; have h2 := HE.out.lo; omega) (by omega) hsome).mono ?_
            rintro e w6 ⟨r, u', zs, rfl, hgo, h1, h2⟩
            have hr : r = true := h2 _ hdr
            subst hr
            have hz : zs = encE (E.drop (i + 1)) := by
              have := h1 rfl
              rw [hdr] at this
              exact (List.append_cancel_left this).symm
            subst hz
            have hR2 : Rel2 w E g (some ⟨gd, 0, none⟩) c5 (.slice Ab (encE E).length cb) (.int .i64 ((i + 1 : Nat) : Int)) w6 :=
              ⟨i + 1, u', by omega, rfl, HE.out.go hgo, own_chg HROW.out hgo.chg (fun k hk => by simp; rintro rfl; exact own_ne HROW.out HE.out.eye.blk (by decide) hk), HBB.out.eyego hgo HNE.out⟩
            have HR2 := Lib.hid hR2
            clear h1 h2 hgo hR2 hdr hdl2 hop hsome hmem
            go_wp2_with fail
            go_roundw
            case rel => have := HR2.out; simpa using this
            case measure => simp [intOf]; omega
          · obtain rfl : i = E.length := by omega
            have HE0 := Lib.hid (show EyeIn w wr g u [] from by have := HE.out; rw [List.drop_length] at this; exact this)
            go_wp2_with fail
            refine (end_any g u [] wr HE0.out.eye).mono ?_
            rw [if_pos rfl]
            rintro e w7 ⟨rfl, rfl⟩
            by_cases hz : (encE E).length = 0
            · have hzi : ((encE E).length : Int) = 0 := by omega
              go_wp2_with (go_at_call 41; refine (end_any g u [] _ HE0.out.eye).mono ?_; rw [if_pos rfl]; rintro e w8 ⟨rfl, rfl⟩)
              go_ret
              exact ⟨rfl, HE0.out.below⟩
            · obtain ⟨m, hm⟩ : ∃ m, (encE E).length = m + 1 := ⟨(encE E).length - 1, by omega⟩
              have hmi : ((encE E).length : Int) - 1 = (m : Int) := by omega
              have hnz : ¬ ((encE E).length : Int) = 0 := by omega
              have hcb : (encE E).length ≤ cb := by
                obtain ⟨_, _, eb, h⟩ := HBB.out.shape
                injection eb with _ _ e3
                omega
              have hcut := run_cut_h 29 5 Try.underlying29 size5 Ab (encE E).length cb m (by omega) hcb
              have HT := Lib.hid (HBB.out.take (b := m) (by omega))
              go_wp2_with fail
              have hml : ((encE E).take m).length = m := by simp; omega
              refine (look_any (.slice Ab m cb) ((encE E).take m) wr HT.out (by omega)).mono ?_
              rintro e w8 ⟨g2, u2, rfl, hg2, he2, hu2, hb8⟩
              have HE8 := Lib.hid (show EyeIn w w8 g2 u2 ((encE E).take m) from ⟨he2, Nat.le_trans HE0.out.below.size hg2, thx HE0.out.below hb8⟩)
              have HROW8 := Lib.hid (own_chg HROW.out (Chg.of_below hb8) (by simp))
              clear hg2 he2 hu2 hb8 HROW HBB HE0 HE hcut HT hmi hnz hz
              go_wp2_with fail
              go_loopw [77, 11] (fun s77 s11 w' => Rel3 w E g2 m A5 c5 s77 s11 w') (fun s77 _ _ => E.length - (intOf s77).toNat)
              case atStart => exact ⟨0, true, by omega, rfl, rfl, HE8.out.below, HROW8.out, fun _ => ⟨u2, _, HE8.out, by simp [encE]⟩⟩
              case round =>
                clear HE8 HROW8
                obtain ⟨i, r, hi, rfl, rfl, hbl, hrow, hr⟩ := hrel
                have HBL := Lib.hid hbl; have HROW := Lib.hid hrow; have HRR := Lib.hid hr
                clear hbl hrow hr
                by_cases hlt3 : i < E.length
                · cases r with
                  | true =>
                    obtain ⟨u, zs, he, hsplit⟩ := HRR.out rfl
                    obtain ⟨x, hx⟩ : ∃ x, E[i]? = some x := ⟨_, List.getElem?_eq_getElem hlt3⟩
                    obtain ⟨gd, rfl⟩ : ∃ gd, A5 = some ⟨gd, 0, none⟩ := by
                      rcases HROW.out.2 with ⟨e, hn⟩ | ⟨gd, cap, cur, e, _⟩
                      · omega
                      · injection e with e1; exact ⟨gd, e1⟩
                    obtain ⟨f0, f1, f2, f3⟩ := own4_cells HROW.out hx hlt3
                    have ki0 : (0 : Int) ≤ (i : Int) := by omega
                    have ki1 : (i : Int) < (E.length : Int) := by omega
                    have hmem : x ∈ E := List.mem_of_getElem? hx
                    obtain ⟨hop, hsome⟩ := HGE.out x hmem
                    have hzl : zs.length ≤ (encE E).length := by
                      have := congrArg List.length hsplit
                      rw [List.length_append, hml] at this
                      omega
                    have HEY := Lib.hid he; have HSP := Lib.hid hsplit; have HOPX := Lib.hid hop
                    clear he hsplit hop
                    go_wp2_with fail
                    refine (get50 g2 x.1 x.2 u zs wr HEY.out.eye (HOPX.out.below HEY.out.below) (fun h0 k hk => by have h1 := HOPX.out.bytes.sep h0 hk; have h2 := HEY.out.lo; omega) (by omega) hsome).mono ?_
                    rintro e w9 ⟨r2, u', zs', rfl, hgo, h1, _⟩
                    have hR3 : Rel3 w E g2 m (some ⟨gd, 0, none⟩) c5 (.int .i64 ((i + 1 : Nat) : Int)) (.bool r2) w9 :=
                      ⟨i + 1, r2, by omega, rfl, rfl, (HEY.out.go hgo).below, own_chg HROW.out hgo.chg (fun k hk => by simp; rintro rfl; exact own_ne HROW.out HEY.out.eye.blk (by decide) hk), fun hr2 => ⟨u', zs', HEY.out.go hgo, by
                        rw [HSP.out, h1 hr2, ← List.append_assoc]
                        congr 1
                        obtain ⟨hi2, rfl⟩ := List.getElem?_eq_some_iff.1 hx
                        rw [List.take_succ_eq_append_getElem hi2, encE_snoc]⟩⟩
                    have HR3 := Lib.hid hR3
                    clear hR3 h1 hgo hsome hmem
                    cases r2 with
                    | true =>
                      go_wp2_with fail
                      go_roundw
                      case rel => have := HR3.out; simpa using this
                      case measure => simp [intOf]; omega
                    | false =>
                      go_wp2_with fail
                      go_roundw
                      case rel => have := HR3.out; simpa using this
                      case measure => simp [intOf]; omega
                  | false =>
                    go_wp2_with fail
                    go_roundw
                    case rel => exact ⟨i + 1, false, by omega, by go_num, rfl, HBL.out, HROW.out, fun h => by cases h⟩
                    case measure => simp [intOf]; omega
                · obtain rfl : i = E.length := by omega
                  have hrf : r = false := by
                    cases r with
                    | false => rfl
                    | true =>
                      obtain ⟨u, zs, _, hsplit⟩ := HRR.out rfl
                      have := congrArg List.length hsplit
                      rw [List.length_append, List.take_length, hml] at this
                      omega
                  subst hrf
                  go_wp2_with fail
                  go_ret
                  exact ⟨rfl, HBL.out⟩
end
end Go.Proofs.Ytkibccmfgndfjaa
