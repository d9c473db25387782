/- Contracts and words that the laws stand on (ExA). -/
import Derived.ChangeKeysEq
import Derived.Test.YtlpklbpaknemaaaRecG0
import Derived.Test.YtlpklbpaknemaaaRecI0
import Derived.Test.YtlpklbpaknemaaaOpen
import Derived.Test.YtlpklbpaknemaaaLawA
import Derived.Test.YtlpklbpaknemaaaCrcA
set_option linter.unusedVariables false
set_option linter.unusedSimpArgs false
namespace Go.Proofs.Ytlpklbpaknemaaa
section
open Go Go.RowKit Go.Proofs
/-! What requests need of records' texts. -/
theorem take_snoc {α : Type} (l : List α) (i : Nat) (x : α) (h : l[i]? = some x) : l.take (i + 1) = l.take i ++ [x] := by
  rw [List.take_add_one, h]; rfl
theorem fixed1 (b : UInt8) : fixedB 1 b.toNat = [b] ∧ fixedE 1 b.toNat = 0 := by
  have hb := b.toNat_lt
  have h1 : fixedE 1 b.toNat = 0 := by
    unfold fixedE
    rw [if_neg (by decide), if_neg]
    simp [goesB]; omega
  refine ⟨?_, h1⟩
  unfold fixedB
  rw [if_pos h1]
  simp [le]
theorem penOne (p : Nat) (b : UInt8) (v : Value) (xs : List UInt8) (w : World) (hp : IsPen w p v xs) (hb : xs.length + 8 ≤ 70368744177664) :
    Calls Try.prog 41 #[.pointer (some ⟨p, 0, none⟩), .int .i64 1, .int .u64 (b.toNat : Int)] w fun e w' => ∃ v', e = .returned (.int .i64 0) ∧ PenGo w w' p v v' (xs ++ [b]) := by
  refine (fixed_any p 1 b.toNat v xs w hp (by have := b.toNat_lt; omega) hb).mono ?_
  rintro e w' ⟨rfl, v', hg⟩
  rw [(fixed1 b).1] at hg
  exact ⟨v', by rw [(fixed1 b).2], hg⟩
theorem penFour (p : Nat) (n : Nat) (v : Value) (xs : List UInt8) (w : World) (hp : IsPen w p v xs) (hn : n < 4294967296) (hb : xs.length + 8 ≤ 70368744177664) :
    Calls Try.prog 41 #[.pointer (some ⟨p, 0, none⟩), .int .i64 4, .int .u64 (n : Int)] w fun e w' => ∃ v', e = .returned (.int .i64 0) ∧ PenGo w w' p v v' (xs ++ le 4 n) := by
  refine (fixed_any p 4 n v xs w hp (by omega) hb).mono ?_
  rintro e w' ⟨rfl, v', hg⟩
  rw [fixed4 n hn] at hg
  exact ⟨v', by rw [fixedE4 n hn], hg⟩
theorem penAll (p : Nat) (v : Value) (xs : List UInt8) (w : World) (hp : IsPen w p v xs) (hb : xs.length ≤ 70368744177664) :
    Calls Try.prog 44 #[.pointer (some ⟨p, 0, none⟩)] w fun e w' => ∃ v', e = .returned v' ∧ New w w' (Row v' 5 1 xs.length (bs xs)) := by
  refine (pall_any p v xs w hp hb).mono ?_
  rintro e w' ⟨v', rfl, ho, hb⟩
  exact ⟨v', rfl, New.row ho hb⟩
theorem St.old {w W : World} {L : List Res} {Fs : List (World → Prop)} (h : St w W L Fs) {F : World → Prop} (hF : Away (Keys []) F w) : St w W L (F :: Fs) :=
  h.addF fun W' hs => hF W' ⟨Nat.le_trans h.below.size hs.size, fun k o _ ho hc => by
    have hk := (Array.getElem?_eq_some_iff.1 ho).1
    exact hs.blk k o (fun hm => by have := (h.key_lt hm).1; omega) ((h.below.block k hk).trans ho) hc⟩
theorem z80 : zeroIs Try.prog 80 (.agg #[.slice none 0 0]) := by unfold zeroIs; kernel_rfl
section
variable {P : Program} {w W : World} {L : List Res} {Fs : List (World → Prop)} {o : Oper} {a : Act} {K : Act → World → Prop} {Q : Exit → Act → World → Prop}
theorem s_bs0 (hS : St w W L Fs) {t E : TypeId} (s : Nat) {parts : Array (Nat × Operand)} (ho : o.op = .buildSlice t 0 parts) (ht : P.underlying t = some (.slice E)) (hi : (P.info? E).map (·.size) = some s) (hp : parts = #[])
    (h : ∀ b W', St w W' (Row (.slice (some ⟨b, 0, none⟩) 0 0) E s 0 [] :: L) Fs → K (a.put o.dst (.slice (some ⟨b, 0, none⟩) 0 0)) W') : o.wp P a W K Q := by
  subst hp
  refine wp_of_run (W' := W.alloc (.cells #[] E)) (v := .slice (some ⟨W.heap.size, 0, none⟩) 0 0) ?_ (h _ _ ?_)
  · obtain ⟨i, hi', rfl⟩ := Option.map_eq_some_iff.1 hi
    have e2 : (Go.sizeOf E).run P W = .ok i.size W := by simp [sizeOf, typeInfo, hi', go_sem]
    unfold execOp
    simp only [ho, Instr.buildSlice, Sem.run_bind, Sem.run_pure, Result.andThen_ok, run_underlying ht, e2, Nat.zero_mul]
    have e3 : (Array.range 0).map (fun _ => (default : Value)) = #[] := by apply Array.ext <;> simp
    simp [Instr.fill, newRow, e3]
  · refine hS.new ((Below.refl _ _).alloc (Nat.le_refl _) _) (r := Row (.slice (some ⟨W.heap.size, 0, none⟩) 0 0) E s 0 []) ?_ (fun k hk => by simp [Row, Value.ownBlock] at hk; subst hk; simp)
    have := World.ownsRow_lit (base := 0) (e := E) (size := s) W #[] 0 (Nat.zero_le _) (by simp only [maxLen]; omega) (by simp)
    have this' : (W.alloc (.cells #[] E)).ownsRow 0 E s (.slice (some ⟨W.heap.size, 0, none⟩) 0 0) 0 [] := by simpa using this
    exact this'
end
section
open Go.ChangeShapes
theorem addr0 (x : Addr) : Addr.add x 0 = x := by unfold Addr.add; simp
theorem list_of {α : Type} {n : Nat} {p : Nat → α → Prop} (h : ∀ i, i < n → ∃ d, p i d) : ∃ ds : List α, ds.length = n ∧ ∀ i d, ds[i]? = some d → p i d := by
  induction n with
  | zero => exact ⟨[], rfl, fun i d h => by simp at h⟩
  | succ n ih =>
    obtain ⟨ds, hl, hp⟩ := ih (fun i hi => h i (by omega))
    obtain ⟨d, hd⟩ := h n (by omega)
    refine ⟨ds ++ [d], by simp [hl], fun i e he => ?_⟩
    by_cases hi : i < n
    · rw [List.getElem?_append_left (by omega)] at he; exact hp i e he
    · rw [List.getElem?_append_right (by omega)] at he
      have : i - ds.length = 0 := by
        have := (List.getElem?_eq_some_iff.1 he).1
        simp at this; omega
      rw [this] at he
      simp at he
      subst he
      have : i = n := by omega
      subst this; exact hd
theorem cells5 : Try.prog.cellsOf 5 = 1 := by kernel_rfl
theorem cells3 : Try.prog.cellsOf 3 = 1 := by kernel_rfl
theorem cells22 : Try.prog.cellsOf 22 = 1 := by kernel_rfl
theorem hbd_of {w : World} {cs : List Value} (g : Rd Try.prog w 22 cs) : ∃ u xs, cs = [u] ∧ HB w u xs := by
  obtain ⟨a, len, cap, rfl, h⟩ := g.slice Try.underlying22
  rcases h with ⟨rfl, rfl, rfl⟩ | ⟨x, rfl, hl, _, hc⟩
  · exact ⟨_, [], rfl, HB.nil _ _ _⟩
  · obtain ⟨xs, hxl, hx⟩ := list_of (n := len) (p := fun i (b : UInt8) => w.cell? (x.add i) = some (.int .u8 (b.toNat : Int))) (fun i hi => by
      obtain ⟨ds, hds, hr⟩ := hc i (by omega)
      obtain ⟨n, rfl, hw⟩ := hr.int Try.underlying5
      rw [cells5] at hds
      obtain ⟨_, hcell⟩ := cells_spec hds
      have h0 := hcell 0 (by omega)
      have hb : 0 ≤ n ∧ n < 256 := by simp [Lit.wf, IntKind.min, IntKind.max, IntKind.signed, IntKind.bits] at hw; omega
      refine ⟨UInt8.ofNat n.toNat, ?_⟩
      rw [Nat.mul_one, addr0] at h0
      rw [h0]
      simp
      omega)
    exact ⟨_, xs, rfl, ⟨some x, cap, by rw [hxl], by omega, (fun e => by cases e), fun a ha i b hb => by injection ha with ha; subst ha; exact hx i b hb⟩⟩
end
end
section
open Go Go.RowKit Go.Proofs
attribute [local irreducible] Calls

/-! Requests. -/
/-- A request, plain. -/
structure Req where
  k : Int
  tx : List UInt8
  n : Nat
  h : Nat
  m : Nat
  sb : List UInt8
  ha : List UInt8
  bb : List UInt8
structure Req.ok (r : Req) : Prop where
  tx : r.tx.length = 32
  ha : r.ha.length = 32
  n : r.n < 4294967296
  h : r.h < 4294967296
  m : r.m < 4294967296
/-- A request's cells; s, b: its script's slice and its block's. -/
def rcs (r : Req) (s b : Value) : List Value := .int .i64 r.k :: (bs r.tx ++ (.int .u32 (r.n : Int) :: .int .u32 (r.h : Int) :: .int .u32 (r.m : Int) :: s :: (bs r.ha ++ [b])))
section
variable {r : Req} (hr : r.ok) (s b : Value)
include hr
theorem rcs_length : (rcs r s b).length = 70 := by simp [rcs, hr.tx, hr.ha]
omit hr in
theorem rcs_0 : (rcs r s b)[0]? = some (.int .i64 r.k) := rfl
theorem rcs_skip (i : Nat) : (rcs r s b)[33 + i]? = (.int .u32 (r.n : Int) :: .int .u32 (r.h : Int) :: .int .u32 (r.m : Int) :: s :: (bs r.ha ++ [b]))[i]? := by
  rw [show 33 + i = (32 + i) + 1 by omega, rcs, List.getElem?_cons_succ, List.getElem?_append_right (by simp [hr.tx])]
  congr 1
  simp [hr.tx]
theorem rcs_33 : (rcs r s b)[33]? = some (.int .u32 (r.n : Int)) := rcs_skip hr s b 0
theorem rcs_34 : (rcs r s b)[34]? = some (.int .u32 (r.h : Int)) := rcs_skip hr s b 1
theorem rcs_35 : (rcs r s b)[35]? = some (.int .u32 (r.m : Int)) := rcs_skip hr s b 2
theorem rcs_36 : (rcs r s b)[36]? = some s := rcs_skip hr s b 3
theorem rcs_69 : (rcs r s b)[69]? = some b := by
  rw [show 69 = 33 + 36 from rfl, rcs_skip hr s b 36, show 36 = 32 + 1 + 1 + 1 + 1 from rfl, List.getElem?_cons_succ, List.getElem?_cons_succ, List.getElem?_cons_succ, List.getElem?_cons_succ, List.getElem?_append_right (by simp [hr.ha])]
  simp [hr.ha]
theorem rcs_tx : ((rcs r s b).drop 1).take 32 = bs r.tx := by
  rw [rcs, List.drop_succ_cons, List.drop_zero, List.take_left']
  simp [hr.tx]
theorem rcs_pt : ((rcs r s b).drop 1).take 33 = bs r.tx ++ [.int .u32 (r.n : Int)] := by
  rw [rcs, List.drop_succ_cons, List.drop_zero, show 33 = (bs r.tx).length + 1 by simp [hr.tx], List.take_length_add_append]
  rfl
theorem rcs_ha : ((rcs r s b).drop 37).take 32 = bs r.ha := by
  have e : (rcs r s b).drop 37 = bs r.ha ++ [b] := by
    rw [rcs, show 37 = ((bs r.tx).length + 4) + 1 by simp [hr.tx], List.drop_succ_cons, List.drop_length_add_append]
    rfl
  rw [e, List.take_left']
  simp [hr.ha]
end
/-- A kind's fields. -/
def fldK (k : Int) : Int := if k = 1 then 32 else if k = 2 then 3 else if k = 6 then 3 else if k = 3 then 2 else if k = 7 then 2 else if k = 4 then 10 else if k = 5 then 6 else if k = 8 then 16 else if k = 9 then 16 else if k = 10 then 0 else if k = 11 then 0 else -1
set_option maxHeartbeats 1000000 in
set_option maxRecDepth 100000 in
theorem fields48 (k : Int) (w : World) : Calls Try.prog 48 #[.int .i64 k] w fun e w' => e = .returned (.int .i64 (fldK k)) ∧ w = w' := by
  unfold fldK
  by_cases h1 : k = 1
  · subst h1
    go_enter Try.func48, Try.ntmps48
    go_wp2_with fail
    go_ret
    exact ⟨rfl, rfl⟩
  rw [if_neg h1]
  have b1 : (k == 1) = false := beq_eq_false_iff_ne.2 h1
  by_cases h2 : k = 2
  · subst h2
    go_enter Try.func48, Try.ntmps48
    go_wp2_with fail
    go_ret
    exact ⟨rfl, rfl⟩
  rw [if_neg h2]
  have b2 : (k == 2) = false := beq_eq_false_iff_ne.2 h2
  by_cases h6 : k = 6
  · subst h6
    go_enter Try.func48, Try.ntmps48
    go_wp2_with fail
    go_ret
    exact ⟨rfl, rfl⟩
  rw [if_neg h6]
  have b6 : (k == 6) = false := beq_eq_false_iff_ne.2 h6
  by_cases h3 : k = 3
  · subst h3
    go_enter Try.func48, Try.ntmps48
    go_wp2_with fail
    go_ret
    exact ⟨rfl, rfl⟩
  rw [if_neg h3]
  have b3 : (k == 3) = false := beq_eq_false_iff_ne.2 h3
  by_cases h7 : k = 7
  · subst h7
    go_enter Try.func48, Try.ntmps48
    go_wp2_with fail
    go_ret
    exact ⟨rfl, rfl⟩
  rw [if_neg h7]
  have b7 : (k == 7) = false := beq_eq_false_iff_ne.2 h7
  by_cases h4 : k = 4
  · subst h4
    go_enter Try.func48, Try.ntmps48
    go_wp2_with fail
    go_ret
    exact ⟨rfl, rfl⟩
  rw [if_neg h4]
  have b4 : (k == 4) = false := beq_eq_false_iff_ne.2 h4
  by_cases h5 : k = 5
  · subst h5
    go_enter Try.func48, Try.ntmps48
    go_wp2_with fail
    go_ret
    exact ⟨rfl, rfl⟩
  rw [if_neg h5]
  have b5 : (k == 5) = false := beq_eq_false_iff_ne.2 h5
  by_cases h8 : k = 8
  · subst h8
    go_enter Try.func48, Try.ntmps48
    go_wp2_with fail
    go_ret
    exact ⟨rfl, rfl⟩
  rw [if_neg h8]
  have b8 : (k == 8) = false := beq_eq_false_iff_ne.2 h8
  by_cases h9 : k = 9
  · subst h9
    go_enter Try.func48, Try.ntmps48
    go_wp2_with fail
    go_ret
    exact ⟨rfl, rfl⟩
  rw [if_neg h9]
  have b9 : (k == 9) = false := beq_eq_false_iff_ne.2 h9
  by_cases h10 : k = 10
  · subst h10
    go_enter Try.func48, Try.ntmps48
    go_wp2_with fail
    go_ret
    exact ⟨rfl, rfl⟩
  rw [if_neg h10]
  have b10 : (k == 10) = false := beq_eq_false_iff_ne.2 h10
  by_cases h11 : k = 11
  · subst h11
    go_enter Try.func48, Try.ntmps48
    go_wp2_with fail
    go_ret
    exact ⟨rfl, rfl⟩
  rw [if_neg h11]
  have b11 : (k == 11) = false := beq_eq_false_iff_ne.2 h11
  go_enter Try.func48, Try.ntmps48
  go_wp2_with fail
  go_ret
  exact ⟨rfl, rfl⟩

theorem or_two (n i : Nat) (h : n < 2 ^ i) (hi : i ≤ 5) : bits BinOp.or IntKind.i64 (n : Int) ((2 ^ i : Nat) : Int) = ((n + 2 ^ i : Nat) : Int) := by
  have key : ∀ (i : Fin 6) (n : Fin 32), n.val < 2 ^ i.val → bits BinOp.or IntKind.i64 (n.val : Int) ((2 ^ i.val : Nat) : Int) = ((n.val + 2 ^ i.val : Nat) : Int) := by decide +kernel
  have h2 : 2 ^ i ≤ 2 ^ 5 := Nat.pow_le_pow_right (by omega) hi
  exact key ⟨i, by omega⟩ ⟨n, by omega⟩ h
set_option maxHeartbeats 1000000 in
set_option maxRecDepth 100000 in
theorem has76 (i n : Nat) (z : Bool) (w : World) (q : Nat) (hb : w.heap[q]? = some (.cells #[.int .i64 (n : Int)] 3 (0, 0))) (hn : n < 2 ^ i) (hi : i ≤ 5) :
    Calls Try.prog 76 #[.int .i64 ((2 ^ i : Nat) : Int), .bool z, .pointer (some ⟨q, 0, none⟩)] w fun e w' => e = .returned (.tuple #[]) ∧ Chg [q] w w' ∧ w'.heap[q]? = some (.cells #[.int .i64 ((n + if z then 0 else 2 ^ i : Nat) : Int)] 3 (0, 0)) := by
  have hor := or_two n i hn hi
  have hc : w.cell? ⟨q, 0, none⟩ = some (.int .i64 (n : Int)) := blk_cell hb 0
  have hf : w.frozen? ⟨q, 0, none⟩ = false := blk_free hb 0
  have HB := Lib.hid hb
  clear hb
  generalize hF : 2 ^ i = F at *
  cases z with
  | true =>
    go_enter Try.func76, Try.ntmps76
    go_wp2_with fail
    refine bodyPost_end (results_none rfl _ _ _) rfl ?_
    exact ⟨rfl, Chg.refl _ _, HB.out⟩
  | false =>
    go_enter Try.func76, Try.ntmps76
    go_wp2_with fail
    refine bodyPost_end (results_none rfl _ _ _) rfl ?_
    refine ⟨rfl, (Chg.refl _ _).setCell (.inl (by simp)) _, ?_⟩
    have := blk_set HB.out 0 (.int .i64 ((n + F : Nat) : Int))
    simpa using this
end
section
open Go Go.RowKit Go.Proofs
theorem info5 : ∃ i, Try.prog.info? 5 = some i := Option.isSome_iff_exists.1 (by kernel_rfl)
theorem plain5 : Try.prog.plainKey 5 = true := by kernel_rfl
theorem cells5' : Try.prog.cellsOf 5 = 1 := by kernel_rfl
theorem eq_items (d : Nat) (xs ys : List UInt8) (n : Nat) (hx : xs.length = n) (hy : ys.length = n) (w : World) : ∀ is : List Nat, (∀ i ∈ is, i < n) → (Op.eqItems (d + 1) 5 1 (bs xs).toArray (bs ys).toArray is).run Try.prog w = .ok (is.all fun i => xs[i]? == ys[i]?) w := by
  intro is
  induction is with
  | nil => intro _; rfl
  | cons i is ih =>
    intro h
    have hi := h i (List.mem_cons_self ..)
    have h1 : xs[i]? = some xs[i] := List.getElem?_eq_getElem (by omega)
    have h2 : ys[i]? = some ys[i] := List.getElem?_eq_getElem (by omega)
    have p1 := run_part_plain (P := Try.prog) w plain5 (xs := (bs xs).toArray) (off := i) (v := .int .u8 ((xs[i]).toNat : Int)) (by simp [bs, h1])
    have p2 := run_part_plain (P := Try.prog) w plain5 (xs := (bs ys).toArray) (off := i) (v := .int .u8 ((ys[i]).toNat : Int)) (by simp [bs, h2])
    have q := run_equalIn_int (P := Try.prog) w d 5 .u8 .u8 ((xs[i]).toNat : Int) ((ys[i]).toNat : Int) Try.underlying5
    have hb : (((xs[i]).toNat : Int) == ((ys[i]).toNat : Int)) = (xs[i]? == ys[i]?) := by
      rw [h1, h2]
      by_cases e : xs[i] = ys[i]
      · rw [e]; simp
      · have e2 : ¬ ((xs[i]).toNat : Int) = ((ys[i]).toNat : Int) := fun e3 => e (UInt8.toNat_inj.1 (by omega))
        rw [beq_eq_false_iff_ne.2 e2]
        symm
        rw [beq_eq_false_iff_ne]
        intro e4
        injection e4 with e4
        exact e e4
    have ih' := ih (fun j hj => h j (List.mem_cons_of_mem _ hj))
    simp only [Op.eqItems, Nat.mul_one, Sem.run_bind, p1, p2, Result.andThen_ok, q, hb, List.all_cons]
    cases hc : (xs[i]? == ys[i]?) with
    | true => simp only [Bool.not_true, Bool.false_eq_true, if_false, Bool.true_and]; exact ih'
    | false => simp
theorem all_eq (xs ys : List UInt8) (n : Nat) (hx : xs.length = n) (hy : ys.length = n) : ((List.range n).all fun i => xs[i]? == ys[i]?) = decide (xs = ys) := by
  by_cases h : xs = ys
  · rw [decide_eq_true h, List.all_eq_true]
    intro i _
    rw [h]; simp
  · rw [decide_eq_false h, List.all_eq_false]
    by_cases hh : ∃ i, i < n ∧ xs[i]? ≠ ys[i]?
    · obtain ⟨i, h1, h2⟩ := hh
      exact ⟨i, List.mem_range.2 h1, by simpa using h2⟩
    · exfalso
      refine h (List.ext_getElem? fun i => ?_)
      by_cases hi : i < n
      · by_cases e : xs[i]? = ys[i]?
        · exact e
        · exact absurd ⟨i, hi, e⟩ hh
      · rw [List.getElem?_eq_none (by omega), List.getElem?_eq_none (by omega)]
/-- Hashes are alike just if their bytes are. -/
theorem eq52 (d : Nat) (xs ys : List UInt8) (hx : xs.length = 32) (hy : ys.length = 32) (w : World) : (Op.equalIn (d + 2) 52 (.agg (bs xs).toArray) (.agg (bs ys).toArray)).run Try.prog w = .ok (decide (xs = ys)) w := by
  obtain ⟨i, hi⟩ := info5
  show (Op.equalIn ((d + 1) + 1) 52 (.agg (bs xs).toArray) (.agg (bs ys).toArray)).run Try.prog w = _
  rw [run_equalIn_array w (d + 1) _ _ Try.underlying52 hi, cells5', eq_items d xs ys 32 hx hy w _ (fun i hi => List.mem_range.1 hi), all_eq xs ys 32 hx hy]
theorem take_pt (xs : List UInt8) (v : Value) (hx : xs.length = 32) : List.take 32 (bs xs ++ [v]) = bs xs := by
  rw [List.take_left']; simp [hx]
end
section
open Go Go.RowKit Go.Proofs
attribute [local irreducible] Calls

theorem ag54 : aggr Try.prog 54 33 = true := by kernel_rfl
theorem ag52 : aggr Try.prog 52 32 = true := by kernel_rfl
theorem ag56 : aggr Try.prog 56 70 = true := by kernel_rfl
theorem pt_len {r : Req} (hr : r.ok) : (bs r.tx ++ [Value.int .u32 (r.n : Int)]).length = 33 := by simp [hr.tx]
theorem ha_len {r : Req} (hr : r.ok) : (bs r.ha).length = 32 := by simp [hr.ha]
theorem has76c (i n : Nat) (f : Int) (z : Bool) (w : World) (q : Nat) (hf : f = ((2 ^ i : Nat) : Int)) (hb : w.heap[q]? = some (.cells #[.int .i64 (n : Int)] 3 (0, 0))) (hn : n < 2 ^ i) (hi : i ≤ 5) :
    Calls Try.prog 76 #[.int .i64 f, .bool z, .pointer (some ⟨q, 0, none⟩)] w fun e w' => ∃ n' : Nat, n' = n + (if z then 0 else 2 ^ i) ∧ n' < 2 ^ (i + 1) ∧ e = .returned (.tuple #[]) ∧ Chg [q] w w' ∧ w'.heap[q]? = some (.cells #[.int .i64 (n' : Int)] 3 (0, 0)) := by
  subst hf
  refine (has76 i n z w q hb hn hi).mono ?_
  rintro e w' ⟨h1, h2, h3⟩
  exact ⟨_, rfl, by rw [Nat.pow_succ]; split <;> omega, h1, h2, h3⟩
theorem St.blkc {w W W' : World} {L : List Res} {Fs : List (World → Prop)} (h : St w W L Fs) (i : Nat) {q : Nat} {l l' : List Value} {T : TypeId} (hi : L[i]? = some (Blk q l T)) (hc : Chg [q] W W') (hb : W'.heap[q]? = some (.cells l'.toArray T (0, 0))) : St w W' (L.set i (Blk q l' T)) Fs :=
  h.upd hi hc hb (fun k hk => by simp [Blk] at hk; subst hk; exact ⟨.inl (by simp [Blk]), blk_lt hb⟩)
def z32 : List UInt8 := List.replicate 32 0
def ptz (r : Req) : Bool := decide (r.tx = z32) && ((r.n : Int) == 0)
def hasN (r : Req) : Nat := (if ptz r = true then 0 else 2 ^ 0) + (if ((r.h : Int) == 0) = true then 0 else 2 ^ 1) + (if ((r.m : Int) == 0) = true then 0 else 2 ^ 2) + (if ((r.sb.length : Int) == 0) = true then 0 else 2 ^ 3) + (if decide (r.ha = z32) = true then 0 else 2 ^ 4) + (if ((r.bb.length : Int) == 0) = true then 0 else 2 ^ 5)
set_option maxHeartbeats 1000000 in
set_option maxRecDepth 100000 in
theorem has57 (r : Req) (s b : Value) (w : World) (hr : r.ok) (hs : HB w s r.sb) (hb : HB w b r.bb) :
    Calls Try.prog 57 #[.agg (rcs r s b).toArray] w fun e w' => e = .returned (.int .i64 (hasN r : Int)) ∧ Below w.heap.size w w' := by
  have HS := Lib.hid (St.start w)
  obtain ⟨As, cs', rfl, _⟩ := hs.shape
  obtain ⟨Ab, cb', rfl, _⟩ := hb.shape
  clear hs hb
  obtain ⟨n0, hn0⟩ : ∃ n : Nat, n = 0 := ⟨_, rfl⟩
  have I0 := Lib.hid (show (0 : Int) = (n0 : Int) by omega)
  have h0 := Lib.hid (show n0 < 2 ^ 0 by omega)
  have E0 := Lib.hid hn0
  clear hn0
  have hq2 : ∀ W, (Op.equalIn 10000 52 (.agg (bs r.ha).toArray) (.agg #[.int .u8 0, .int .u8 0, .int .u8 0, .int .u8 0, .int .u8 0, .int .u8 0, .int .u8 0, .int .u8 0, .int .u8 0, .int .u8 0, .int .u8 0, .int .u8 0, .int .u8 0, .int .u8 0, .int .u8 0, .int .u8 0, .int .u8 0, .int .u8 0, .int .u8 0, .int .u8 0, .int .u8 0, .int .u8 0, .int .u8 0, .int .u8 0, .int .u8 0, .int .u8 0, .int .u8 0, .int .u8 0, .int .u8 0, .int .u8 0, .int .u8 0, .int .u8 0])).run Try.prog W = .ok (decide (r.ha = z32)) W := fun W => eq52 9998 r.ha z32 hr.ha (by decide) W
  have hq0 : ∀ W, (Op.equalIn 9999 52 (.agg (List.take 32 (bs r.tx ++ [Value.int .u32 (r.n : Int)])).toArray) (.agg #[.int .u8 0, .int .u8 0, .int .u8 0, .int .u8 0, .int .u8 0, .int .u8 0, .int .u8 0, .int .u8 0, .int .u8 0, .int .u8 0, .int .u8 0, .int .u8 0, .int .u8 0, .int .u8 0, .int .u8 0, .int .u8 0, .int .u8 0, .int .u8 0, .int .u8 0, .int .u8 0, .int .u8 0, .int .u8 0, .int .u8 0, .int .u8 0, .int .u8 0, .int .u8 0, .int .u8 0, .int .u8 0, .int .u8 0, .int .u8 0, .int .u8 0, .int .u8 0])).run Try.prog W = .ok (decide (r.tx = z32)) W := fun W => by
    rw [take_pt _ _ hr.tx]
    exact eq52 9997 r.tx z32 hr.tx (by decide) W
  have hx32 : (bs r.tx ++ [Value.int .u32 (r.n : Int)])[32]? = some (Value.int .u32 (r.n : Int)) := by
    rw [List.getElem?_append_right (by simp [hr.tx])]; simp [hr.tx]
  obtain ⟨tb, htb⟩ : ∃ tb, decide (r.tx = z32) = tb := ⟨_, rfl⟩
  obtain ⟨nb, hnb⟩ : ∃ nb, ((r.n : Int) == 0) = nb := ⟨_, rfl⟩
  rw [htb] at hq0
  have HTB := Lib.hid htb; have HNB := Lib.hid hnb
  clear htb
  cases tb
  all_goals cases nb
  · skip
    go_enter Try.func57, Try.ntmps57
    go_wp2_with (first
      | (refine atd 1 (by rfl) ?_; refine wl (by rfl) (s_bx (l := rcs r (.slice As r.sb.length cs') (.slice Ab r.bb.length cb')) HS.out (by rfl) (by rfl) ?_); intro b1 Wn hS; clear HS; have HS := Lib.hid hS; clear hS)
      | (refine atd 3 (by rfl) ?_; refine wl (by rfl) (s_al HS.out (by rfl) z3c (by rfl) ?_); intro q Wn hS; clear HS; have HS := Lib.hid hS; clear hS)
      | (refine sto 3 (by rfl) ?_; refine wl (by rfl) (s_st (v := .int .i64 (n0 : Int)) HS.out 0 (by rfl) (by rfl) (by rfl) (by kernel_rfl) (by exact congrArg (Value.int .i64) I0.out) (by rfl) (by exact Nat.zero_lt_one) ?_); intro Wn hS; clear HS; have HS := Lib.hid hS; clear hS)
      | (refine atd 8 (by rfl) ?_; refine wl (by rfl) (s_lda (cs := bs r.tx ++ [Value.int .u32 (r.n : Int)]) HS.out 1 33 (by rfl) (by rfl) (by rfl) ag54 (by exact rcs_pt hr (.slice As r.sb.length cs') (.slice Ab r.bb.length cb')) (by exact pt_len hr) ?_))
      | (go_at_call 76; refine (has76c 0 n0 1 _ _ q (by rfl) (HS.out.blk (i := 0) rfl) (by exact h0.out) (by decide)).mono ?_; rintro e Wn ⟨n1, e1, l1, rfl, hc, hb⟩; have h1 := Lib.hid l1; have E1 := Lib.hid e1; have hS := HS.out.blkc 0 (l' := [.int .i64 (n1 : Int)]) rfl hc hb; clear hc hb l1 e1; clear HS; have HS := Lib.hid hS; clear hS)
      | (refine atd 14 (by rfl) ?_; refine wl (by rfl) (s_ld HS.out 1 (by rfl) (by rfl) (by rfl) (by kernel_rfl) (by exact rcs_34 hr (.slice As r.sb.length cs') (.slice Ab r.bb.length cb')) ?_))
      | (go_at_call 76; refine (has76c 1 n1 2 _ _ q (by rfl) (HS.out.blk (i := 0) rfl) (by exact h1.out) (by decide)).mono ?_; rintro e Wn ⟨n2, e2, l2, rfl, hc, hb⟩; have h2 := Lib.hid l2; have E2 := Lib.hid e2; have hS := HS.out.blkc 0 (l' := [.int .i64 (n2 : Int)]) rfl hc hb; clear hc hb l2 e2; clear HS; have HS := Lib.hid hS; clear hS)
      | (refine atd 19 (by rfl) ?_; refine wl (by rfl) (s_ld HS.out 1 (by rfl) (by rfl) (by rfl) (by kernel_rfl) (by exact rcs_35 hr (.slice As r.sb.length cs') (.slice Ab r.bb.length cb')) ?_))
      | (go_at_call 76; refine (has76c 2 n2 4 _ _ q (by rfl) (HS.out.blk (i := 0) rfl) (by exact h2.out) (by decide)).mono ?_; rintro e Wn ⟨n3, e3, l3, rfl, hc, hb⟩; have h3 := Lib.hid l3; have E3 := Lib.hid e3; have hS := HS.out.blkc 0 (l' := [.int .i64 (n3 : Int)]) rfl hc hb; clear hc hb l3 e3; clear HS; have HS := Lib.hid hS; clear hS)
      | (refine atd 24 (by rfl) ?_; refine wl (by rfl) (s_ld HS.out 1 (by rfl) (by rfl) (by rfl) (by kernel_rfl) (by exact rcs_36 hr (.slice As r.sb.length cs') (.slice Ab r.bb.length cb')) ?_))
      | (go_at_call 76; refine (has76c 3 n3 8 _ _ q (by rfl) (HS.out.blk (i := 0) rfl) (by exact h3.out) (by decide)).mono ?_; rintro e Wn ⟨n4, e4, l4, rfl, hc, hb⟩; have h4 := Lib.hid l4; have E4 := Lib.hid e4; have hS := HS.out.blkc 0 (l' := [.int .i64 (n4 : Int)]) rfl hc hb; clear hc hb l4 e4; clear HS; have HS := Lib.hid hS; clear hS)
      | (refine atd 30 (by rfl) ?_; refine wl (by rfl) (s_lda (cs := bs r.ha) HS.out 1 32 (by rfl) (by rfl) (by rfl) ag52 (by exact rcs_ha hr (.slice As r.sb.length cs') (.slice Ab r.bb.length cb')) (by exact ha_len hr) ?_))
      | (go_at_call 76; refine (has76c 4 n4 16 _ _ q (by rfl) (HS.out.blk (i := 0) rfl) (by exact h4.out) (by decide)).mono ?_; rintro e Wn ⟨n5, e5, l5, rfl, hc, hb⟩; have h5 := Lib.hid l5; have E5 := Lib.hid e5; have hS := HS.out.blkc 0 (l' := [.int .i64 (n5 : Int)]) rfl hc hb; clear hc hb l5 e5; clear HS; have HS := Lib.hid hS; clear hS)
      | (refine atd 36 (by rfl) ?_; refine wl (by rfl) (s_ld HS.out 1 (by rfl) (by rfl) (by rfl) (by kernel_rfl) (by exact rcs_69 hr (.slice As r.sb.length cs') (.slice Ab r.bb.length cb')) ?_))
      | (go_at_call 76; refine (has76c 5 n5 32 _ _ q (by rfl) (HS.out.blk (i := 0) rfl) (by exact h5.out) (by decide)).mono ?_; rintro e Wn ⟨n6, e6, l6, rfl, hc, hb⟩; have h6 := Lib.hid l6; have E6 := Lib.hid e6; have hS := HS.out.blkc 0 (l' := [.int .i64 (n6 : Int)]) rfl hc hb; clear hc hb l6 e6; clear HS; have HS := Lib.hid hS; clear hS)
      | (refine atd 40 (by rfl) ?_; refine wl (by rfl) (s_ld HS.out 0 (by rfl) (by rfl) (by rfl) (by kernel_rfl) (by rfl) ?_)))
    go_ret
    refine ⟨?_, HS.out.below⟩
    have : n6 = hasN r := by
      rw [E6.out, E5.out, E4.out, E3.out, E2.out, E1.out, E0.out]
      unfold hasN ptz
      rw [HTB.out, HNB.out]
      simp
    rw [← this]
    rfl
  · skip
    go_enter Try.func57, Try.ntmps57
    go_wp2_with (first
      | (refine atd 1 (by rfl) ?_; refine wl (by rfl) (s_bx (l := rcs r (.slice As r.sb.length cs') (.slice Ab r.bb.length cb')) HS.out (by rfl) (by rfl) ?_); intro b1 Wn hS; clear HS; have HS := Lib.hid hS; clear hS)
      | (refine atd 3 (by rfl) ?_; refine wl (by rfl) (s_al HS.out (by rfl) z3c (by rfl) ?_); intro q Wn hS; clear HS; have HS := Lib.hid hS; clear hS)
      | (refine sto 3 (by rfl) ?_; refine wl (by rfl) (s_st (v := .int .i64 (n0 : Int)) HS.out 0 (by rfl) (by rfl) (by rfl) (by kernel_rfl) (by exact congrArg (Value.int .i64) I0.out) (by rfl) (by exact Nat.zero_lt_one) ?_); intro Wn hS; clear HS; have HS := Lib.hid hS; clear hS)
      | (refine atd 8 (by rfl) ?_; refine wl (by rfl) (s_lda (cs := bs r.tx ++ [Value.int .u32 (r.n : Int)]) HS.out 1 33 (by rfl) (by rfl) (by rfl) ag54 (by exact rcs_pt hr (.slice As r.sb.length cs') (.slice Ab r.bb.length cb')) (by exact pt_len hr) ?_))
      | (go_at_call 76; refine (has76c 0 n0 1 _ _ q (by rfl) (HS.out.blk (i := 0) rfl) (by exact h0.out) (by decide)).mono ?_; rintro e Wn ⟨n1, e1, l1, rfl, hc, hb⟩; have h1 := Lib.hid l1; have E1 := Lib.hid e1; have hS := HS.out.blkc 0 (l' := [.int .i64 (n1 : Int)]) rfl hc hb; clear hc hb l1 e1; clear HS; have HS := Lib.hid hS; clear hS)
      | (refine atd 14 (by rfl) ?_; refine wl (by rfl) (s_ld HS.out 1 (by rfl) (by rfl) (by rfl) (by kernel_rfl) (by exact rcs_34 hr (.slice As r.sb.length cs') (.slice Ab r.bb.length cb')) ?_))
      | (go_at_call 76; refine (has76c 1 n1 2 _ _ q (by rfl) (HS.out.blk (i := 0) rfl) (by exact h1.out) (by decide)).mono ?_; rintro e Wn ⟨n2, e2, l2, rfl, hc, hb⟩; have h2 := Lib.hid l2; have E2 := Lib.hid e2; have hS := HS.out.blkc 0 (l' := [.int .i64 (n2 : Int)]) rfl hc hb; clear hc hb l2 e2; clear HS; have HS := Lib.hid hS; clear hS)
      | (refine atd 19 (by rfl) ?_; refine wl (by rfl) (s_ld HS.out 1 (by rfl) (by rfl) (by rfl) (by kernel_rfl) (by exact rcs_35 hr (.slice As r.sb.length cs') (.slice Ab r.bb.length cb')) ?_))
      | (go_at_call 76; refine (has76c 2 n2 4 _ _ q (by rfl) (HS.out.blk (i := 0) rfl) (by exact h2.out) (by decide)).mono ?_; rintro e Wn ⟨n3, e3, l3, rfl, hc, hb⟩; have h3 := Lib.hid l3; have E3 := Lib.hid e3; have hS := HS.out.blkc 0 (l' := [.int .i64 (n3 : Int)]) rfl hc hb; clear hc hb l3 e3; clear HS; have HS := Lib.hid hS; clear hS)
      | (refine atd 24 (by rfl) ?_; refine wl (by rfl) (s_ld HS.out 1 (by rfl) (by rfl) (by rfl) (by kernel_rfl) (by exact rcs_36 hr (.slice As r.sb.length cs') (.slice Ab r.bb.length cb')) ?_))
      | (go_at_call 76; refine (has76c 3 n3 8 _ _ q (by rfl) (HS.out.blk (i := 0) rfl) (by exact h3.out) (by decide)).mono ?_; rintro e Wn ⟨n4, e4, l4, rfl, hc, hb⟩; have h4 := Lib.hid l4; have E4 := Lib.hid e4; have hS := HS.out.blkc 0 (l' := [.int .i64 (n4 : Int)]) rfl hc hb; clear hc hb l4 e4; clear HS; have HS := Lib.hid hS; clear hS)
      | (refine atd 30 (by rfl) ?_; refine wl (by rfl) (s_lda (cs := bs r.ha) HS.out 1 32 (by rfl) (by rfl) (by rfl) ag52 (by exact rcs_ha hr (.slice As r.sb.length cs') (.slice Ab r.bb.length cb')) (by exact ha_len hr) ?_))
      | (go_at_call 76; refine (has76c 4 n4 16 _ _ q (by rfl) (HS.out.blk (i := 0) rfl) (by exact h4.out) (by decide)).mono ?_; rintro e Wn ⟨n5, e5, l5, rfl, hc, hb⟩; have h5 := Lib.hid l5; have E5 := Lib.hid e5; have hS := HS.out.blkc 0 (l' := [.int .i64 (n5 : Int)]) rfl hc hb; clear hc hb l5 e5; clear HS; have HS := Lib.hid hS; clear hS)
      | (refine atd 36 (by rfl) ?_; refine wl (by rfl) (s_ld HS.out 1 (by rfl) (by rfl) (by rfl) (by kernel_rfl) (by exact rcs_69 hr (.slice As r.sb.length cs') (.slice Ab r.bb.length cb')) ?_))
      | (go_at_call 76; refine (has76c 5 n5 32 _ _ q (by rfl) (HS.out.blk (i := 0) rfl) (by exact h5.out) (by decide)).mono ?_; rintro e Wn ⟨n6, e6, l6, rfl, hc, hb⟩; have h6 := Lib.hid l6; have E6 := Lib.hid e6; have hS := HS.out.blkc 0 (l' := [.int .i64 (n6 : Int)]) rfl hc hb; clear hc hb l6 e6; clear HS; have HS := Lib.hid hS; clear hS)
      | (refine atd 40 (by rfl) ?_; refine wl (by rfl) (s_ld HS.out 0 (by rfl) (by rfl) (by rfl) (by kernel_rfl) (by rfl) ?_)))
    go_ret
    refine ⟨?_, HS.out.below⟩
    have : n6 = hasN r := by
      rw [E6.out, E5.out, E4.out, E3.out, E2.out, E1.out, E0.out]
      unfold hasN ptz
      rw [HTB.out, HNB.out]
      simp
    rw [← this]
    rfl
  · skip
    go_enter Try.func57, Try.ntmps57
    go_wp2_with (first
      | (refine atd 1 (by rfl) ?_; refine wl (by rfl) (s_bx (l := rcs r (.slice As r.sb.length cs') (.slice Ab r.bb.length cb')) HS.out (by rfl) (by rfl) ?_); intro b1 Wn hS; clear HS; have HS := Lib.hid hS; clear hS)
      | (refine atd 3 (by rfl) ?_; refine wl (by rfl) (s_al HS.out (by rfl) z3c (by rfl) ?_); intro q Wn hS; clear HS; have HS := Lib.hid hS; clear hS)
      | (refine sto 3 (by rfl) ?_; refine wl (by rfl) (s_st (v := .int .i64 (n0 : Int)) HS.out 0 (by rfl) (by rfl) (by rfl) (by kernel_rfl) (by exact congrArg (Value.int .i64) I0.out) (by rfl) (by exact Nat.zero_lt_one) ?_); intro Wn hS; clear HS; have HS := Lib.hid hS; clear hS)
      | (refine atd 8 (by rfl) ?_; refine wl (by rfl) (s_lda (cs := bs r.tx ++ [Value.int .u32 (r.n : Int)]) HS.out 1 33 (by rfl) (by rfl) (by rfl) ag54 (by exact rcs_pt hr (.slice As r.sb.length cs') (.slice Ab r.bb.length cb')) (by exact pt_len hr) ?_))
      | (go_at_call 76; refine (has76c 0 n0 1 _ _ q (by rfl) (HS.out.blk (i := 0) rfl) (by exact h0.out) (by decide)).mono ?_; rintro e Wn ⟨n1, e1, l1, rfl, hc, hb⟩; have h1 := Lib.hid l1; have E1 := Lib.hid e1; have hS := HS.out.blkc 0 (l' := [.int .i64 (n1 : Int)]) rfl hc hb; clear hc hb l1 e1; clear HS; have HS := Lib.hid hS; clear hS)
      | (refine atd 14 (by rfl) ?_; refine wl (by rfl) (s_ld HS.out 1 (by rfl) (by rfl) (by rfl) (by kernel_rfl) (by exact rcs_34 hr (.slice As r.sb.length cs') (.slice Ab r.bb.length cb')) ?_))
      | (go_at_call 76; refine (has76c 1 n1 2 _ _ q (by rfl) (HS.out.blk (i := 0) rfl) (by exact h1.out) (by decide)).mono ?_; rintro e Wn ⟨n2, e2, l2, rfl, hc, hb⟩; have h2 := Lib.hid l2; have E2 := Lib.hid e2; have hS := HS.out.blkc 0 (l' := [.int .i64 (n2 : Int)]) rfl hc hb; clear hc hb l2 e2; clear HS; have HS := Lib.hid hS; clear hS)
      | (refine atd 19 (by rfl) ?_; refine wl (by rfl) (s_ld HS.out 1 (by rfl) (by rfl) (by rfl) (by kernel_rfl) (by exact rcs_35 hr (.slice As r.sb.length cs') (.slice Ab r.bb.length cb')) ?_))
      | (go_at_call 76; refine (has76c 2 n2 4 _ _ q (by rfl) (HS.out.blk (i := 0) rfl) (by exact h2.out) (by decide)).mono ?_; rintro e Wn ⟨n3, e3, l3, rfl, hc, hb⟩; have h3 := Lib.hid l3; have E3 := Lib.hid e3; have hS := HS.out.blkc 0 (l' := [.int .i64 (n3 : Int)]) rfl hc hb; clear hc hb l3 e3; clear HS; have HS := Lib.hid hS; clear hS)
      | (refine atd 24 (by rfl) ?_; refine wl (by rfl) (s_ld HS.out 1 (by rfl) (by rfl) (by rfl) (by kernel_rfl) (by exact rcs_36 hr (.slice As r.sb.length cs') (.slice Ab r.bb.length cb')) ?_))
      | (go_at_call 76; refine (has76c 3 n3 8 _ _ q (by rfl) (HS.out.blk (i := 0) rfl) (by exact h3.out) (by decide)).mono ?_; rintro e Wn ⟨n4, e4, l4, rfl, hc, hb⟩; have h4 := Lib.hid l4; have E4 := Lib.hid e4; have hS := HS.out.blkc 0 (l' := [.int .i64 (n4 : Int)]) rfl hc hb; clear hc hb l4 e4; clear HS; have HS := Lib.hid hS; clear hS)
      | (refine atd 30 (by rfl) ?_; refine wl (by rfl) (s_lda (cs := bs r.ha) HS.out 1 32 (by rfl) (by rfl) (by rfl) ag52 (by exact rcs_ha hr (.slice As r.sb.length cs') (.slice Ab r.bb.length cb')) (by exact ha_len hr) ?_))
      | (go_at_call 76; refine (has76c 4 n4 16 _ _ q (by rfl) (HS.out.blk (i := 0) rfl) (by exact h4.out) (by decide)).mono ?_; rintro e Wn ⟨n5, e5, l5, rfl, hc, hb⟩; have h5 := Lib.hid l5; have E5 := Lib.hid e5; have hS := HS.out.blkc 0 (l' := [.int .i64 (n5 : Int)]) rfl hc hb; clear hc hb l5 e5; clear HS; have HS := Lib.hid hS; clear hS)
      | (refine atd 36 (by rfl) ?_; refine wl (by rfl) (s_ld HS.out 1 (by rfl) (by rfl) (by rfl) (by kernel_rfl) (by exact rcs_69 hr (.slice As r.sb.length cs') (.slice Ab r.bb.length cb')) ?_))
      | (go_at_call 76; refine (has76c 5 n5 32 _ _ q (by rfl) (HS.out.blk (i := 0) rfl) (by exact h5.out) (by decide)).mono ?_; rintro e Wn ⟨n6, e6, l6, rfl, hc, hb⟩; have h6 := Lib.hid l6; have E6 := Lib.hid e6; have hS := HS.out.blkc 0 (l' := [.int .i64 (n6 : Int)]) rfl hc hb; clear hc hb l6 e6; clear HS; have HS := Lib.hid hS; clear hS)
      | (refine atd 40 (by rfl) ?_; refine wl (by rfl) (s_ld HS.out 0 (by rfl) (by rfl) (by rfl) (by kernel_rfl) (by rfl) ?_)))
    go_ret
    refine ⟨?_, HS.out.below⟩
    have : n6 = hasN r := by
      rw [E6.out, E5.out, E4.out, E3.out, E2.out, E1.out, E0.out]
      unfold hasN ptz
      rw [HTB.out, HNB.out]
      simp
    rw [← this]
    rfl
  · skip
    go_enter Try.func57, Try.ntmps57
    go_wp2_with (first
      | (refine atd 1 (by rfl) ?_; refine wl (by rfl) (s_bx (l := rcs r (.slice As r.sb.length cs') (.slice Ab r.bb.length cb')) HS.out (by rfl) (by rfl) ?_); intro b1 Wn hS; clear HS; have HS := Lib.hid hS; clear hS)
      | (refine atd 3 (by rfl) ?_; refine wl (by rfl) (s_al HS.out (by rfl) z3c (by rfl) ?_); intro q Wn hS; clear HS; have HS := Lib.hid hS; clear hS)
      | (refine sto 3 (by rfl) ?_; refine wl (by rfl) (s_st (v := .int .i64 (n0 : Int)) HS.out 0 (by rfl) (by rfl) (by rfl) (by kernel_rfl) (by exact congrArg (Value.int .i64) I0.out) (by rfl) (by exact Nat.zero_lt_one) ?_); intro Wn hS; clear HS; have HS := Lib.hid hS; clear hS)
      | (refine atd 8 (by rfl) ?_; refine wl (by rfl) (s_lda (cs := bs r.tx ++ [Value.int .u32 (r.n : Int)]) HS.out 1 33 (by rfl) (by rfl) (by rfl) ag54 (by exact rcs_pt hr (.slice As r.sb.length cs') (.slice Ab r.bb.length cb')) (by exact pt_len hr) ?_))
      | (go_at_call 76; refine (has76c 0 n0 1 _ _ q (by rfl) (HS.out.blk (i := 0) rfl) (by exact h0.out) (by decide)).mono ?_; rintro e Wn ⟨n1, e1, l1, rfl, hc, hb⟩; have h1 := Lib.hid l1; have E1 := Lib.hid e1; have hS := HS.out.blkc 0 (l' := [.int .i64 (n1 : Int)]) rfl hc hb; clear hc hb l1 e1; clear HS; have HS := Lib.hid hS; clear hS)
      | (refine atd 14 (by rfl) ?_; refine wl (by rfl) (s_ld HS.out 1 (by rfl) (by rfl) (by rfl) (by kernel_rfl) (by exact rcs_34 hr (.slice As r.sb.length cs') (.slice Ab r.bb.length cb')) ?_))
      | (go_at_call 76; refine (has76c 1 n1 2 _ _ q (by rfl) (HS.out.blk (i := 0) rfl) (by exact h1.out) (by decide)).mono ?_; rintro e Wn ⟨n2, e2, l2, rfl, hc, hb⟩; have h2 := Lib.hid l2; have E2 := Lib.hid e2; have hS := HS.out.blkc 0 (l' := [.int .i64 (n2 : Int)]) rfl hc hb; clear hc hb l2 e2; clear HS; have HS := Lib.hid hS; clear hS)
      | (refine atd 19 (by rfl) ?_; refine wl (by rfl) (s_ld HS.out 1 (by rfl) (by rfl) (by rfl) (by kernel_rfl) (by exact rcs_35 hr (.slice As r.sb.length cs') (.slice Ab r.bb.length cb')) ?_))
      | (go_at_call 76; refine (has76c 2 n2 4 _ _ q (by rfl) (HS.out.blk (i := 0) rfl) (by exact h2.out) (by decide)).mono ?_; rintro e Wn ⟨n3, e3, l3, rfl, hc, hb⟩; have h3 := Lib.hid l3; have E3 := Lib.hid e3; have hS := HS.out.blkc 0 (l' := [.int .i64 (n3 : Int)]) rfl hc hb; clear hc hb l3 e3; clear HS; have HS := Lib.hid hS; clear hS)
      | (refine atd 24 (by rfl) ?_; refine wl (by rfl) (s_ld HS.out 1 (by rfl) (by rfl) (by rfl) (by kernel_rfl) (by exact rcs_36 hr (.slice As r.sb.length cs') (.slice Ab r.bb.length cb')) ?_))
      | (go_at_call 76; refine (has76c 3 n3 8 _ _ q (by rfl) (HS.out.blk (i := 0) rfl) (by exact h3.out) (by decide)).mono ?_; rintro e Wn ⟨n4, e4, l4, rfl, hc, hb⟩; have h4 := Lib.hid l4; have E4 := Lib.hid e4; have hS := HS.out.blkc 0 (l' := [.int .i64 (n4 : Int)]) rfl hc hb; clear hc hb l4 e4; clear HS; have HS := Lib.hid hS; clear hS)
      | (refine atd 30 (by rfl) ?_; refine wl (by rfl) (s_lda (cs := bs r.ha) HS.out 1 32 (by rfl) (by rfl) (by rfl) ag52 (by exact rcs_ha hr (.slice As r.sb.length cs') (.slice Ab r.bb.length cb')) (by exact ha_len hr) ?_))
      | (go_at_call 76; refine (has76c 4 n4 16 _ _ q (by rfl) (HS.out.blk (i := 0) rfl) (by exact h4.out) (by decide)).mono ?_; rintro e Wn ⟨n5, e5, l5, rfl, hc, hb⟩; have h5 := Lib.hid l5; have E5 := Lib.hid e5; have hS := HS.out.blkc 0 (l' := [.int .i64 (n5 : Int)]) rfl hc hb; clear hc hb l5 e5; clear HS; have HS := Lib.hid hS; clear hS)
      | (refine atd 36 (by rfl) ?_; refine wl (by rfl) (s_ld HS.out 1 (by rfl) (by rfl) (by rfl) (by kernel_rfl) (by exact rcs_69 hr (.slice As r.sb.length cs') (.slice Ab r.bb.length cb')) ?_))
      | (go_at_call 76; refine (has76c 5 n5 32 _ _ q (by rfl) (HS.out.blk (i := 0) rfl) (by exact h5.out) (by decide)).mono ?_; rintro e Wn ⟨n6, e6, l6, rfl, hc, hb⟩; have h6 := Lib.hid l6; have E6 := Lib.hid e6; have hS := HS.out.blkc 0 (l' := [.int .i64 (n6 : Int)]) rfl hc hb; clear hc hb l6 e6; clear HS; have HS := Lib.hid hS; clear hS)
      | (refine atd 40 (by rfl) ?_; refine wl (by rfl) (s_ld HS.out 0 (by rfl) (by rfl) (by rfl) (by kernel_rfl) (by rfl) ?_)))
    go_ret
    refine ⟨?_, HS.out.below⟩
    have : n6 = hasN r := by
      rw [E6.out, E5.out, E4.out, E3.out, E2.out, E1.out, E0.out]
      unfold hasN ptz
      rw [HTB.out, HNB.out]
      simp
    rw [← this]
    rfl
end
section
open Go Go.RowKit Go.Proofs
attribute [local irreducible] Calls

theorem rcs_all {r : Req} (hr : r.ok) (s b : Value) : ((rcs r s b).drop 0).take 70 = rcs r s b := by
  rw [List.drop_zero]; exact List.take_of_length_le (by rw [rcs_length hr]; exact Nat.le_refl _)
/-- Whether a request may be. -/
def chkQ (r : Req) : Bool := !(decide (fldK r.k < 0)) && ((bits BinOp.andNot IntKind.i64 (hasN r : Int) (fldK r.k) == 0) && (decide (r.sb.length ≤ 2000) && decide (r.bb.length ≤ 200000)))
def chkI (r : Req) : Int := if chkQ r then 0 else 290
set_option maxHeartbeats 1000000 in
set_option maxRecDepth 100000 in
theorem check32 (r : Req) (s b : Value) (w : World) (hr : r.ok) (hs : HB w s r.sb) (hb : HB w b r.bb) :
    Calls Try.prog 32 #[.agg (rcs r s b).toArray] w fun e w' => e = .returned (.int .i64 (chkI r)) ∧ Below w.heap.size w w' := by
  have HS := Lib.hid (((St.start w).addF hb.away0).addF hs.away0)
  obtain ⟨As, cs', rfl, _⟩ := hs.shape
  obtain ⟨Ab, cb', rfl, _⟩ := hb.shape
  clear hs hb
  have hF : ∀ W, Calls Try.prog 48 #[.int .i64 r.k] W fun e w' => e = .returned (.int .i64 (fldK r.k)) ∧ W = w' := fun W => fields48 r.k W
  have HF := Lib.hid hF
  clear hF
  have hdef : chkI r = if chkQ r then 0 else 290 := rfl
  unfold chkQ at hdef
  generalize hf : fldK r.k = f at *
  generalize hX : bits BinOp.andNot IntKind.i64 (hasN r : Int) f = X at *
  by_cases f0 : f < 0
  · have HD := Lib.hid (show chkI r = 290 by rw [hdef, decide_eq_true f0]; rfl)
    clear hdef
    go_enter Try.func32, Try.ntmps32
    go_wp2_with (first
      | (refine atd 1 (by rfl) ?_; refine wl (by rfl) (s_bx (l := rcs r (.slice As r.sb.length cs') (.slice Ab r.bb.length cb')) HS.out (by rfl) (by rfl) ?_); intro b1 Wn hS; clear HS; have HS := Lib.hid hS; clear hS)
      | (refine atd 5 (by rfl) ?_; refine wl (by rfl) (s_ld HS.out 0 (by rfl) (by rfl) (by rfl) (by kernel_rfl) (by exact rcs_0 (r := r) (.slice As r.sb.length cs') (.slice Ab r.bb.length cb')) ?_))
      | (go_at_call 48; refine (HF.out _).mono ?_; rintro e Wn ⟨rfl, rfl⟩)
      | (refine atd 10 (by rfl) ?_; refine wl (by rfl) (s_lda (cs := rcs r (.slice As r.sb.length cs') (.slice Ab r.bb.length cb')) HS.out 0 70 (by rfl) (by rfl) (by rfl) ag56 (by exact rcs_all hr (.slice As r.sb.length cs') (.slice Ab r.bb.length cb')) (by exact rcs_length hr (.slice As r.sb.length cs') (.slice Ab r.bb.length cb')) ?_))
      | (go_at_call 57; refine (has57 r _ _ _ hr (HS.out.fact (i := 0) rfl) (HS.out.fact (i := 1) rfl)).mono ?_; rintro e Wn ⟨rfl, hb⟩; have hS := HS.out.call hb; clear hb; clear HS; have HS := Lib.hid hS; clear hS)
      | (refine atd 18 (by rfl) ?_; refine wl (by rfl) (s_ld HS.out 0 (by rfl) (by rfl) (by rfl) (by kernel_rfl) (by exact rcs_36 hr (.slice As r.sb.length cs') (.slice Ab r.bb.length cb')) ?_))
      | (refine atd 24 (by rfl) ?_; refine wl (by rfl) (s_ld HS.out 0 (by rfl) (by rfl) (by rfl) (by kernel_rfl) (by exact rcs_69 hr (.slice As r.sb.length cs') (.slice Ab r.bb.length cb')) ?_)))
    go_ret
    exact ⟨by rw [HD.out]; rfl, HS.out.below⟩
  · have fd : decide (f < 0) = false := decide_eq_false f0
    by_cases x0 : X = 0
    · by_cases hs : r.sb.length ≤ 2000
      · have j1 : ¬ (2000 : Int) < (r.sb.length : Int) := by omega
        have d1 : decide ((2000 : Int) < (r.sb.length : Int)) = false := decide_eq_false j1
        by_cases hb : r.bb.length ≤ 200000
        · have j2 : ¬ (200000 : Int) < (r.bb.length : Int) := by omega
          have d2 : decide ((200000 : Int) < (r.bb.length : Int)) = false := decide_eq_false j2
          have HD := Lib.hid (show chkI r = 0 by rw [hdef, decide_eq_false f0, x0, decide_eq_true hs, decide_eq_true hb]; rfl)
          clear hdef
          have xb : (X != 0) = false := by rw [x0]; rfl
          subst x0
          go_enter Try.func32, Try.ntmps32
          go_wp2_with (first
            | (refine atd 1 (by rfl) ?_; refine wl (by rfl) (s_bx (l := rcs r (.slice As r.sb.length cs') (.slice Ab r.bb.length cb')) HS.out (by rfl) (by rfl) ?_); intro b1 Wn hS; clear HS; have HS := Lib.hid hS; clear hS)
            | (refine atd 5 (by rfl) ?_; refine wl (by rfl) (s_ld HS.out 0 (by rfl) (by rfl) (by rfl) (by kernel_rfl) (by exact rcs_0 (r := r) (.slice As r.sb.length cs') (.slice Ab r.bb.length cb')) ?_))
            | (go_at_call 48; refine (HF.out _).mono ?_; rintro e Wn ⟨rfl, rfl⟩)
            | (refine atd 10 (by rfl) ?_; refine wl (by rfl) (s_lda (cs := rcs r (.slice As r.sb.length cs') (.slice Ab r.bb.length cb')) HS.out 0 70 (by rfl) (by rfl) (by rfl) ag56 (by exact rcs_all hr (.slice As r.sb.length cs') (.slice Ab r.bb.length cb')) (by exact rcs_length hr (.slice As r.sb.length cs') (.slice Ab r.bb.length cb')) ?_))
            | (go_at_call 57; refine (has57 r _ _ _ hr (HS.out.fact (i := 0) rfl) (HS.out.fact (i := 1) rfl)).mono ?_; rintro e Wn ⟨rfl, hb⟩; have hS := HS.out.call hb; clear hb; clear HS; have HS := Lib.hid hS; clear hS)
            | (refine atd 18 (by rfl) ?_; refine wl (by rfl) (s_ld HS.out 0 (by rfl) (by rfl) (by rfl) (by kernel_rfl) (by exact rcs_36 hr (.slice As r.sb.length cs') (.slice Ab r.bb.length cb')) ?_))
            | (refine atd 24 (by rfl) ?_; refine wl (by rfl) (s_ld HS.out 0 (by rfl) (by rfl) (by rfl) (by kernel_rfl) (by exact rcs_69 hr (.slice As r.sb.length cs') (.slice Ab r.bb.length cb')) ?_)))
          go_ret
          exact ⟨by rw [HD.out]; rfl, HS.out.below⟩
        · have j2 : (200000 : Int) < (r.bb.length : Int) := by omega
          have HD := Lib.hid (show chkI r = 290 by rw [hdef, decide_eq_false f0, x0, decide_eq_true hs, decide_eq_false hb]; rfl)
          clear hdef
          subst x0
          go_enter Try.func32, Try.ntmps32
          go_wp2_with (first
            | (refine atd 1 (by rfl) ?_; refine wl (by rfl) (s_bx (l := rcs r (.slice As r.sb.length cs') (.slice Ab r.bb.length cb')) HS.out (by rfl) (by rfl) ?_); intro b1 Wn hS; clear HS; have HS := Lib.hid hS; clear hS)
            | (refine atd 5 (by rfl) ?_; refine wl (by rfl) (s_ld HS.out 0 (by rfl) (by rfl) (by rfl) (by kernel_rfl) (by exact rcs_0 (r := r) (.slice As r.sb.length cs') (.slice Ab r.bb.length cb')) ?_))
            | (go_at_call 48; refine (HF.out _).mono ?_; rintro e Wn ⟨rfl, rfl⟩)
            | (refine atd 10 (by rfl) ?_; refine wl (by rfl) (s_lda (cs := rcs r (.slice As r.sb.length cs') (.slice Ab r.bb.length cb')) HS.out 0 70 (by rfl) (by rfl) (by rfl) ag56 (by exact rcs_all hr (.slice As r.sb.length cs') (.slice Ab r.bb.length cb')) (by exact rcs_length hr (.slice As r.sb.length cs') (.slice Ab r.bb.length cb')) ?_))
            | (go_at_call 57; refine (has57 r _ _ _ hr (HS.out.fact (i := 0) rfl) (HS.out.fact (i := 1) rfl)).mono ?_; rintro e Wn ⟨rfl, hb⟩; have hS := HS.out.call hb; clear hb; clear HS; have HS := Lib.hid hS; clear hS)
            | (refine atd 18 (by rfl) ?_; refine wl (by rfl) (s_ld HS.out 0 (by rfl) (by rfl) (by rfl) (by kernel_rfl) (by exact rcs_36 hr (.slice As r.sb.length cs') (.slice Ab r.bb.length cb')) ?_))
            | (refine atd 24 (by rfl) ?_; refine wl (by rfl) (s_ld HS.out 0 (by rfl) (by rfl) (by rfl) (by kernel_rfl) (by exact rcs_69 hr (.slice As r.sb.length cs') (.slice Ab r.bb.length cb')) ?_)))
          go_ret
          exact ⟨by rw [HD.out]; rfl, HS.out.below⟩
      · have j1 : (2000 : Int) < (r.sb.length : Int) := by omega
        have HD := Lib.hid (show chkI r = 290 by rw [hdef, decide_eq_false f0, x0, decide_eq_false hs]; rfl)
        clear hdef
        subst x0
        go_enter Try.func32, Try.ntmps32
        go_wp2_with (first
          | (refine atd 1 (by rfl) ?_; refine wl (by rfl) (s_bx (l := rcs r (.slice As r.sb.length cs') (.slice Ab r.bb.length cb')) HS.out (by rfl) (by rfl) ?_); intro b1 Wn hS; clear HS; have HS := Lib.hid hS; clear hS)
          | (refine atd 5 (by rfl) ?_; refine wl (by rfl) (s_ld HS.out 0 (by rfl) (by rfl) (by rfl) (by kernel_rfl) (by exact rcs_0 (r := r) (.slice As r.sb.length cs') (.slice Ab r.bb.length cb')) ?_))
          | (go_at_call 48; refine (HF.out _).mono ?_; rintro e Wn ⟨rfl, rfl⟩)
          | (refine atd 10 (by rfl) ?_; refine wl (by rfl) (s_lda (cs := rcs r (.slice As r.sb.length cs') (.slice Ab r.bb.length cb')) HS.out 0 70 (by rfl) (by rfl) (by rfl) ag56 (by exact rcs_all hr (.slice As r.sb.length cs') (.slice Ab r.bb.length cb')) (by exact rcs_length hr (.slice As r.sb.length cs') (.slice Ab r.bb.length cb')) ?_))
          | (go_at_call 57; refine (has57 r _ _ _ hr (HS.out.fact (i := 0) rfl) (HS.out.fact (i := 1) rfl)).mono ?_; rintro e Wn ⟨rfl, hb⟩; have hS := HS.out.call hb; clear hb; clear HS; have HS := Lib.hid hS; clear hS)
          | (refine atd 18 (by rfl) ?_; refine wl (by rfl) (s_ld HS.out 0 (by rfl) (by rfl) (by rfl) (by kernel_rfl) (by exact rcs_36 hr (.slice As r.sb.length cs') (.slice Ab r.bb.length cb')) ?_))
          | (refine atd 24 (by rfl) ?_; refine wl (by rfl) (s_ld HS.out 0 (by rfl) (by rfl) (by rfl) (by kernel_rfl) (by exact rcs_69 hr (.slice As r.sb.length cs') (.slice Ab r.bb.length cb')) ?_)))
        go_ret
        exact ⟨by rw [HD.out]; rfl, HS.out.below⟩
    · have xb : (X == 0) = false := beq_eq_false_iff_ne.2 x0
      have HD := Lib.hid (show chkI r = 290 by rw [hdef, decide_eq_false f0, xb]; rfl)
      clear hdef
      go_enter Try.func32, Try.ntmps32
      go_wp2_with (first
        | (refine atd 1 (by rfl) ?_; refine wl (by rfl) (s_bx (l := rcs r (.slice As r.sb.length cs') (.slice Ab r.bb.length cb')) HS.out (by rfl) (by rfl) ?_); intro b1 Wn hS; clear HS; have HS := Lib.hid hS; clear hS)
        | (refine atd 5 (by rfl) ?_; refine wl (by rfl) (s_ld HS.out 0 (by rfl) (by rfl) (by rfl) (by kernel_rfl) (by exact rcs_0 (r := r) (.slice As r.sb.length cs') (.slice Ab r.bb.length cb')) ?_))
        | (go_at_call 48; refine (HF.out _).mono ?_; rintro e Wn ⟨rfl, rfl⟩)
        | (refine atd 10 (by rfl) ?_; refine wl (by rfl) (s_lda (cs := rcs r (.slice As r.sb.length cs') (.slice Ab r.bb.length cb')) HS.out 0 70 (by rfl) (by rfl) (by rfl) ag56 (by exact rcs_all hr (.slice As r.sb.length cs') (.slice Ab r.bb.length cb')) (by exact rcs_length hr (.slice As r.sb.length cs') (.slice Ab r.bb.length cb')) ?_))
        | (go_at_call 57; refine (has57 r _ _ _ hr (HS.out.fact (i := 0) rfl) (HS.out.fact (i := 1) rfl)).mono ?_; rintro e Wn ⟨rfl, hb⟩; have hS := HS.out.call hb; clear hb; clear HS; have HS := Lib.hid hS; clear hS)
        | (refine atd 18 (by rfl) ?_; refine wl (by rfl) (s_ld HS.out 0 (by rfl) (by rfl) (by rfl) (by kernel_rfl) (by exact rcs_36 hr (.slice As r.sb.length cs') (.slice Ab r.bb.length cb')) ?_))
        | (refine atd 24 (by rfl) ?_; refine wl (by rfl) (s_ld HS.out 0 (by rfl) (by rfl) (by rfl) (by kernel_rfl) (by exact rcs_69 hr (.slice As r.sb.length cs') (.slice Ab r.bb.length cb')) ?_)))
      go_ret
      exact ⟨by rw [HD.out]; rfl, HS.out.below⟩
end
section
open Go Go.RowKit Go.Proofs
attribute [local irreducible] Calls

theorem pt_get {r : Req} (hr : r.ok) : (bs r.tx ++ [Value.int .u32 (r.n : Int)])[32]? = some (Value.int .u32 (r.n : Int)) := by
  rw [List.getElem?_append_right (by simp [hr.tx])]; simp [hr.tx]
set_option maxHeartbeats 6000000 in
set_option maxRecDepth 100000 in
theorem same31e (a : Req) (s1 b1 s2 b2 : Value) (w : World) (ha : a.ok) (h1 : HB w s1 a.sb) (h2 : HB w b1 a.bb) (h3 : HB w s2 a.sb) (h4 : HB w b2 a.bb) :
    Calls Try.prog 31 #[.agg (rcs a s1 b1).toArray, .agg (rcs a s2 b2).toArray] w fun e w' => e = .returned (.bool true) ∧ Below w.heap.size w w' := by
  have HS := Lib.hid (((((St.start w).addF h4.away0).addF h3.away0).addF h2.away0).addF h1.away0)
  obtain ⟨A1, c1, rfl, _⟩ := h1.shape
  obtain ⟨A2, c2, rfl, _⟩ := h2.shape
  obtain ⟨A3, c3, rfl, _⟩ := h3.shape
  obtain ⟨A4, c4, rfl, _⟩ := h4.shape
  clear h1 h2 h3 h4
  have Ha := Lib.hid ha
  have x1 := pt_get ha
  have hq : ∀ W, (Op.equalIn 9999 52 (.agg (List.take 32 (bs a.tx ++ [Value.int .u32 (a.n : Int)])).toArray) (.agg (List.take 32 (bs a.tx ++ [Value.int .u32 (a.n : Int)])).toArray)).run Try.prog W = .ok true W := fun W => by
    rw [take_pt _ _ ha.tx]
    have := eq52 9997 a.tx a.tx ha.tx ha.tx W
    rwa [decide_eq_true rfl] at this
  have hq2 : ∀ W, (Op.equalIn 10000 52 (.agg (bs a.ha).toArray) (.agg (bs a.ha).toArray)).run Try.prog W = .ok true W := fun W => by
    have := eq52 9998 a.ha a.ha ha.ha ha.ha W
    rwa [decide_eq_true rfl] at this
  clear ha
  go_enter Try.func31, Try.ntmps31
  go_wp2_with (first | (refine atd 2 (by rfl) ?_; refine wl (by rfl) (s_bx (l := rcs a (.slice A1 a.sb.length c1) (.slice A2 a.bb.length c2)) HS.out (by rfl) (by rfl) ?_); intro b2 Wn hS; clear HS; have HS := Lib.hid hS; clear hS) | (refine atd 3 (by rfl) ?_; refine wl (by rfl) (s_bx (l := rcs a (.slice A3 a.sb.length c3) (.slice A4 a.bb.length c4)) HS.out (by rfl) (by rfl) ?_); intro b3 Wn hS; clear HS; have HS := Lib.hid hS; clear hS) | (refine atd 6 (by rfl) ?_; refine wl (by rfl) (s_ld HS.out 1 (by rfl) (by rfl) (by rfl) (by kernel_rfl) (by exact rcs_0 (r := a) (.slice A1 a.sb.length c1) (.slice A2 a.bb.length c2)) ?_)) | (refine atd 8 (by rfl) ?_; refine wl (by rfl) (s_ld HS.out 0 (by rfl) (by rfl) (by rfl) (by kernel_rfl) (by exact rcs_0 (r := a) (.slice A3 a.sb.length c3) (.slice A4 a.bb.length c4)) ?_)) | (refine atd 11 (by rfl) ?_; go_wp2_with (first | (refine atd 12 (by rfl) ?_; refine wl (by rfl) (s_lda (cs := bs a.tx ++ [Value.int .u32 (a.n : Int)]) HS.out 1 33 (by rfl) (by rfl) (by rfl) ag54 (by exact rcs_pt Ha.out (.slice A1 a.sb.length c1) (.slice A2 a.bb.length c2)) (by exact pt_len Ha.out) ?_)) | (refine atd 14 (by rfl) ?_; refine wl (by rfl) (s_lda (cs := bs a.tx ++ [Value.int .u32 (a.n : Int)]) HS.out 0 33 (by rfl) (by rfl) (by rfl) ag54 (by exact rcs_pt Ha.out (.slice A3 a.sb.length c3) (.slice A4 a.bb.length c4)) (by exact pt_len Ha.out) ?_)) | (refine atd 18 (by rfl) ?_; go_wp2_with (first | (refine atd 19 (by rfl) ?_; refine wl (by rfl) (s_ld HS.out 1 (by rfl) (by rfl) (by rfl) (by kernel_rfl) (by exact rcs_34 Ha.out (.slice A1 a.sb.length c1) (.slice A2 a.bb.length c2)) ?_)) | (refine atd 21 (by rfl) ?_; refine wl (by rfl) (s_ld HS.out 0 (by rfl) (by rfl) (by rfl) (by kernel_rfl) (by exact rcs_34 Ha.out (.slice A3 a.sb.length c3) (.slice A4 a.bb.length c4)) ?_)) | (refine atd 25 (by rfl) ?_; go_wp2_with (first | (refine atd 26 (by rfl) ?_; refine wl (by rfl) (s_ld HS.out 1 (by rfl) (by rfl) (by rfl) (by kernel_rfl) (by exact rcs_35 Ha.out (.slice A1 a.sb.length c1) (.slice A2 a.bb.length c2)) ?_)) | (refine atd 28 (by rfl) ?_; refine wl (by rfl) (s_ld HS.out 0 (by rfl) (by rfl) (by rfl) (by kernel_rfl) (by exact rcs_35 Ha.out (.slice A3 a.sb.length c3) (.slice A4 a.bb.length c4)) ?_)) | (refine atd 32 (by rfl) ?_; go_wp2_with (first | (refine atd 33 (by rfl) ?_; refine wl (by rfl) (s_ld HS.out 1 (by rfl) (by rfl) (by rfl) (by kernel_rfl) (by exact rcs_36 Ha.out (.slice A1 a.sb.length c1) (.slice A2 a.bb.length c2)) ?_)) | (refine atd 34 (by rfl) ?_; refine wl (by rfl) (wp_of_run (run_str (by rfl) (by rfl) (HS.out.fact (i := 0) rfl)) ?_)) | (refine atd 36 (by rfl) ?_; refine wl (by rfl) (s_ld HS.out 0 (by rfl) (by rfl) (by rfl) (by kernel_rfl) (by exact rcs_36 Ha.out (.slice A3 a.sb.length c3) (.slice A4 a.bb.length c4)) ?_)) | (refine atd 37 (by rfl) ?_; refine wl (by rfl) (wp_of_run (run_str (by rfl) (by rfl) (HS.out.fact (i := 2) rfl)) ?_)) | (refine atd 41 (by rfl) ?_; go_wp2_with (first | (refine atd 42 (by rfl) ?_; refine wl (by rfl) (s_lda (cs := bs a.ha) HS.out 1 32 (by rfl) (by rfl) (by rfl) ag52 (by exact rcs_ha Ha.out (.slice A1 a.sb.length c1) (.slice A2 a.bb.length c2)) (by exact ha_len Ha.out) ?_)) | (refine atd 44 (by rfl) ?_; refine wl (by rfl) (s_lda (cs := bs a.ha) HS.out 0 32 (by rfl) (by rfl) (by rfl) ag52 (by exact rcs_ha Ha.out (.slice A3 a.sb.length c3) (.slice A4 a.bb.length c4)) (by exact ha_len Ha.out) ?_)) | (refine atd 48 (by rfl) ?_; go_wp2_with (first | (refine atd 49 (by rfl) ?_; refine wl (by rfl) (s_ld HS.out 1 (by rfl) (by rfl) (by rfl) (by kernel_rfl) (by exact rcs_69 Ha.out (.slice A1 a.sb.length c1) (.slice A2 a.bb.length c2)) ?_)) | (refine atd 50 (by rfl) ?_; refine wl (by rfl) (wp_of_run (run_str (by rfl) (by rfl) (HS.out.fact (i := 1) rfl)) ?_)) | (refine atd 52 (by rfl) ?_; refine wl (by rfl) (s_ld HS.out 0 (by rfl) (by rfl) (by rfl) (by kernel_rfl) (by exact rcs_69 Ha.out (.slice A3 a.sb.length c3) (.slice A4 a.bb.length c4)) ?_)) | (refine atd 53 (by rfl) ?_; refine wl (by rfl) (wp_of_run (run_str (by rfl) (by rfl) (HS.out.fact (i := 3) rfl)) ?_)))))))))))))))
  go_ret
  exact ⟨rfl, HS.out.below⟩
end
section
open Go Go.RowKit Go.Proofs
attribute [local irreducible] Calls
set_option maxHeartbeats 1000000 in
set_option maxRecDepth 100000 in
theorem num72 (n : Nat) (w : World) (hn : n < 4294967296) :
    Calls Try.prog 72 #[.int .i64 4, .int .u64 (n : Int)] w fun e w' => ∃ v', e = .returned v' ∧ New w w' (Row v' 5 1 (le 4 n).length (bs (le 4 n))) := by
  go_enter Try.func72, Try.ntmps72
  go_wp2_with (first
    | (go_at_call 65; refine (rfix4N n _ hn).mono ?_; rintro e Wn ⟨v1, rfl, hb⟩; have HN := Lib.hid hb; clear hb; obtain ⟨A1, c1, rfl⟩ := Row.sl HN.out.2.1))
  go_ret
  exact ⟨_, rfl, HN.out⟩
end
section
open Go Go.RowKit Go.Proofs
theorem rcs_set36 {r : Req} (hr : r.ok) (s b v : Value) : (rcs r s b).set 36 v = rcs r v b := by
  apply List.ext_getElem?
  intro i
  by_cases h : i = 36
  · subst h
    rw [List.getElem?_set_self (by rw [rcs_length hr]; decide), rcs_36 hr]
  · rw [List.getElem?_set_ne (fun e => h e.symm)]
    unfold rcs
    cases i with
    | zero => rfl
    | succ i =>
      rw [List.getElem?_cons_succ, List.getElem?_cons_succ]
      by_cases h1 : i < 32
      · rw [List.getElem?_append_left (by simp [hr.tx]; omega), List.getElem?_append_left (by simp [hr.tx]; omega)]
      · rw [List.getElem?_append_right (by simp [hr.tx]; omega), List.getElem?_append_right (by simp [hr.tx]; omega)]
        have e : i - (bs r.tx).length = i - 32 := by simp [hr.tx]
        rw [e]
        match hk : i - 32 with
        | 0 => rfl
        | 1 => rfl
        | 2 => rfl
        | 3 => omega
        | k + 4 => rfl
theorem rcs_set69 {r : Req} (hr : r.ok) (s b v : Value) : (rcs r s b).set 69 v = rcs r s v := by
  apply List.ext_getElem?
  intro i
  by_cases h : i = 69
  · subst h
    rw [List.getElem?_set_self (by rw [rcs_length hr]; decide), rcs_69 hr]
  · rw [List.getElem?_set_ne (fun e => h e.symm)]
    by_cases hi : i < 69
    · have key : ∀ x : Value, (rcs r s x)[i]? = (rcs r s .nilIface)[i]? := fun x => by
        have e : ∀ y : Value, rcs r s y = (.int .i64 r.k :: (bs r.tx ++ (.int .u32 (r.n : Int) :: .int .u32 (r.h : Int) :: .int .u32 (r.m : Int) :: s :: bs r.ha))) ++ [y] := fun y => by simp [rcs]
        rw [e x, e .nilIface, List.getElem?_append_left (by simp [hr.tx, hr.ha]; omega), List.getElem?_append_left (by simp [hr.tx, hr.ha]; omega)]
      rw [key b, key v]
    · rw [List.getElem?_eq_none (by rw [rcs_length hr]; omega), List.getElem?_eq_none (by rw [rcs_length hr]; omega)]
end
section
open Go Go.RowKit Go.Proofs
/-! Requests, plain: their bytes, and the request that bytes could be. -/
theorem getSize_fwd (n : Nat) (hn : n < 18446744073709551616) (r : List UInt8) : getSize (csize n ++ r) = some (n, compact n) := by
  have key : ∀ (f : UInt8) (m : Nat), ¬ f.toNat < 253 → msz f = m → n < 256 ^ m → compact n = m + 1 → getSize (f :: (le m n ++ r)) = some (n, m + 1) := by
    intro f m hf hm hlt hc
    have hlen : (le m n).length = m := le_length m n
    have ht : (le m n ++ r).take m = le m n := by rw [List.take_append_of_le_length (by omega), List.take_of_length_le (by omega)]
    simp only [getSize]
    rw [if_neg hf, hm, if_neg (by simp; omega), ht, leNum_le m n hlt, if_pos hc]
  unfold csize
  split
  · rename_i h
    have e : (UInt8.ofNat n).toNat = n := by simp; omega
    simp only [List.cons_append, List.nil_append, getSize, e]
    rw [if_pos h]; simp [compact, h]
  · rename_i h
    split
    · rename_i h2
      have hc : compact n = 3 := by simp [compact, h, h2]
      rw [hc]; exact key 253 2 (by decide) (by decide) (by simpa using h2) hc
    · rename_i h2
      split
      · rename_i h3
        have hc : compact n = 5 := by simp [compact, h, h2, h3]
        rw [hc]; exact key 254 4 (by decide) (by decide) (by simpa using h3) hc
      · rename_i h3
        have hc : compact n = 9 := by simp [compact, h, h2, h3]
        rw [hc]; exact key 255 8 (by decide) (by decide) (by simpa using hn) hc
theorem getBytes_fwd (most : Int) (xs : List UInt8) (hx : xs.length < 18446744073709551616) (hm : (xs.length : Int) ≤ most) : getBytes most (csize xs.length ++ xs) = some (xs, compact xs.length + xs.length) := by
  unfold getBytes
  rw [getSize_fwd _ hx]
  have hl := csize_length xs.length
  simp only
  rw [if_neg (by simp; omega)]
  rw [← hl, List.drop_left, List.take_of_length_le (Nat.le_refl _)]
/-- A request of a kind, else zero. -/
def zq (k : Int) : Req := ⟨k, z32, 0, 0, 0, [], z32, []⟩
theorem zq_ok (k : Int) : (zq k).ok := ⟨by rfl, by rfl, by exact Nat.zero_lt_succ _, by exact Nat.zero_lt_succ _, by exact Nat.zero_lt_succ _⟩
/-- A request's bytes behind its kind's. -/
def encF (f : Int) (r : Req) : List UInt8 := if f = 32 then r.bb else if f = 3 then r.tx ++ (le 4 r.n ++ le 4 r.h) else if f = 2 then le 4 r.h else if f = 10 then le 4 r.h ++ (csize r.sb.length ++ r.sb) else if f = 6 then le 4 r.h ++ le 4 r.m else if f = 16 then r.ha else []
def encQ (r : Req) : List UInt8 := UInt8.ofNat r.k.toNat :: encF (fldK r.k) r
/-- What a request has of some fields alone. -/
def onlyF (f : Int) (r : Req) : Req := ⟨r.k, if f = 3 then r.tx else z32, if f = 3 then r.n else 0, if f = 3 ∨ f = 2 ∨ f = 10 ∨ f = 6 then r.h else 0, if f = 6 then r.m else 0, if f = 10 then r.sb else [], if f = 16 then r.ha else z32, if f = 32 then r.bb else []⟩
theorem fldK_cases (k : Int) : (fldK k = 32 ∧ k = 1) ∨ (fldK k = 3 ∧ (k = 2 ∨ k = 6)) ∨ (fldK k = 2 ∧ (k = 3 ∨ k = 7)) ∨ (fldK k = 10 ∧ k = 4) ∨ (fldK k = 6 ∧ k = 5) ∨ (fldK k = 16 ∧ (k = 8 ∨ k = 9)) ∨ (fldK k = 0 ∧ (k = 10 ∨ k = 11)) ∨ (fldK k = -1 ∧ (k < 1 ∨ 11 < k)) := by
  unfold fldK
  repeat' split
  all_goals simp_all
  all_goals omega
/-- What is there, of what may be. -/
def good (a0 a1 a2 a3 a4 a5 : Bool) (f : Int) : Bool := (a0 || f == 3) && ((a1 || (f == 3 || f == 2 || f == 10 || f == 6)) && ((a2 || f == 6) && ((a3 || f == 10) && ((a4 || f == 16) && (a5 || f == 32)))))
theorem bits_good (f : Int) (hf : f = 32 ∨ f = 3 ∨ f = 2 ∨ f = 10 ∨ f = 6 ∨ f = 16 ∨ f = 0) (a0 a1 a2 a3 a4 a5 : Bool) : (bits BinOp.andNot IntKind.i64 (((if a0 = true then 0 else 2 ^ 0) + (if a1 = true then 0 else 2 ^ 1) + (if a2 = true then 0 else 2 ^ 2) + (if a3 = true then 0 else 2 ^ 3) + (if a4 = true then 0 else 2 ^ 4) + (if a5 = true then 0 else 2 ^ 5) : Nat) : Int) f == 0) = good a0 a1 a2 a3 a4 a5 f := by
  rcases hf with rfl | rfl | rfl | rfl | rfl | rfl | rfl
  all_goals (cases a0 <;> cases a1 <;> cases a2 <;> cases a3 <;> cases a4 <;> cases a5 <;> rfl)
theorem goodF {r : Req} {f : Int} (hf : f = 32 ∨ f = 3 ∨ f = 2 ∨ f = 10 ∨ f = 6 ∨ f = 16 ∨ f = 0) : (bits BinOp.andNot IntKind.i64 (hasN r : Int) f == 0) = true ↔ onlyF f r = r := by
  unfold hasN
  rw [bits_good f hf]
  have e0 : ptz r = true ↔ (r.tx = z32 ∧ r.n = 0) := by simp [ptz]
  obtain ⟨k, tx, n, h, m, sb, ha, bb⟩ := r
  simp only [good, onlyF, Bool.and_eq_true, Bool.or_eq_true, e0, Req.mk.injEq, true_and, beq_iff_eq, decide_eq_true_eq]
  rcases hf with rfl | rfl | rfl | rfl | rfl | rfl | rfl
  all_goals simp
  all_goals simp only [eq_comm (a := z32), eq_comm (a := (0 : Nat))]
  all_goals constructor
  all_goals (intro hh; simp_all)
theorem chkQ_iff {r : Req} : chkQ r = true ↔ (¬ fldK r.k < 0 ∧ onlyF (fldK r.k) r = r ∧ r.sb.length ≤ 2000 ∧ r.bb.length ≤ 200000) := by
  unfold chkQ
  rw [Bool.and_eq_true, Bool.and_eq_true, Bool.and_eq_true]
  constructor
  · rintro ⟨h1, h2, h3, h4⟩
    have h1 : ¬ fldK r.k < 0 := by simpa using h1
    have hc := fldK_cases r.k
    exact ⟨h1, (goodF (by omega)).1 h2, of_decide_eq_true h3, of_decide_eq_true h4⟩
  · rintro ⟨h1, h2, h3, h4⟩
    have hc := fldK_cases r.k
    exact ⟨by simpa using h1, (goodF (by omega)).2 h2, decide_eq_true h3, decide_eq_true h4⟩
def numV (l : List UInt8) : Nat := if 4 ≤ l.length then leNum (l.take 4) else 0
def numL (l : List UInt8) : List UInt8 := if 4 ≤ l.length then l.drop 4 else l
def hshV (l : List UInt8) : List UInt8 := if 32 ≤ l.length then l.take 32 else z32
def hshL (l : List UInt8) : List UInt8 := if 32 ≤ l.length then l.drop 32 else l
def bytV (l : List UInt8) : List UInt8 := match getBytes 2000 l with
  | some (s, _) => s
  | none => []
theorem numV_lt (l : List UInt8) : numV l < 4294967296 := by
  unfold numV; split
  · have := leNum_lt (l.take 4); rw [List.length_take, Nat.min_eq_left (by assumption)] at this; omega
  · decide
theorem hshV_len (l : List UInt8) : (hshV l).length = 32 := by
  unfold hshV; split
  · simp; omega
  · decide
theorem numV_le (n : Nat) (hn : n < 4294967296) (t : List UInt8) : numV (le 4 n ++ t) = n := by
  unfold numV
  rw [if_pos (by simp [le_length]), List.take_left' (le_length 4 n), leNum_le4 n hn]
theorem numV_le' (n : Nat) (hn : n < 4294967296) : numV (le 4 n) = n := by simpa using numV_le n hn []
theorem numL_le (n : Nat) (t : List UInt8) : numL (le 4 n ++ t) = t := by
  unfold numL
  rw [if_pos (by simp [le_length]), List.drop_left' (le_length 4 n)]
theorem hshV_app {x : List UInt8} (hx : x.length = 32) (t : List UInt8) : hshV (x ++ t) = x := by
  unfold hshV
  rw [if_pos (by simp [hx]), List.take_left' hx]
theorem hshV_app' {x : List UInt8} (hx : x.length = 32) : hshV x = x := by simpa using hshV_app hx []
theorem hshL_app {x : List UInt8} (hx : x.length = 32) (t : List UInt8) : hshL (x ++ t) = t := by
  unfold hshL
  rw [if_pos (by simp [hx]), List.drop_left' hx]
theorem bytV_enc {s : List UInt8} (hs : s.length ≤ 2000) : bytV (csize s.length ++ s) = s := by
  unfold bytV
  rw [getBytes_fwd 2000 s (by omega) (by omega)]
/-- The request of a kind that bytes could be. -/
def rdF (f k : Int) (l : List UInt8) : Req :=
  if f = 32 then ⟨k, z32, 0, 0, 0, [], z32, l⟩ else if f = 3 then ⟨k, hshV l, numV (hshL l), numV (numL (hshL l)), 0, [], z32, []⟩ else if f = 2 then ⟨k, z32, 0, numV l, 0, [], z32, []⟩
  else if f = 10 then ⟨k, z32, 0, numV l, 0, bytV (numL l), z32, []⟩ else if f = 6 then ⟨k, z32, 0, numV l, numV (numL l), [], z32, []⟩ else if f = 16 then ⟨k, z32, 0, 0, 0, [], hshV l, []⟩ else zq k
theorem rdF_ok (f k : Int) (l : List UInt8) : (rdF f k l).ok := by
  unfold rdF
  repeat' split
  all_goals exact ⟨by first | exact hshV_len _ | rfl, by first | exact hshV_len _ | rfl, by first | exact numV_lt _ | (show 0 < _; decide), by first | exact numV_lt _ | (show 0 < _; decide), by first | exact numV_lt _ | (show 0 < _; decide)⟩
theorem rdF_k (f k : Int) (l : List UInt8) : (rdF f k l).k = k := by
  unfold rdF
  repeat' split
  all_goals rfl
theorem rdF_enc {r : Req} (hr : r.ok) (h : chkQ r = true) : rdF (fldK r.k) r.k (encF (fldK r.k) r) = r := by
  obtain ⟨h0, h1, h2, h3⟩ := chkQ_iff.1 h
  have hc := fldK_cases r.k
  generalize fldK r.k = f at *
  have hn := hr.n; have hhb := hr.h; have hm := hr.m; have hx := hr.tx; have hha := hr.ha
  obtain ⟨k, tx, n, hh, m, sb, ha, bb⟩ := r
  simp only [onlyF, Req.mk.injEq, true_and] at h1
  rcases hc with ⟨rfl, _⟩ | ⟨rfl, _⟩ | ⟨rfl, _⟩ | ⟨rfl, _⟩ | ⟨rfl, _⟩ | ⟨rfl, _⟩ | ⟨rfl, _⟩ | ⟨rfl, _⟩
  · clear hr h; simp [eq_comm (a := z32), eq_comm (a := (0 : Nat))] at h1; simp [rdF, encF]; simp_all
  · simp [eq_comm (a := z32), eq_comm (a := (0 : Nat))] at h1
    have e : rdF 3 k (encF 3 ⟨k, tx, n, hh, m, sb, ha, bb⟩) = ⟨k, hshV (tx ++ (le 4 n ++ le 4 hh)), numV (hshL (tx ++ (le 4 n ++ le 4 hh))), numV (numL (hshL (tx ++ (le 4 n ++ le 4 hh)))), 0, [], z32, []⟩ := rfl
    rw [e, hshV_app hx, hshL_app hx, numV_le _ hn, numL_le, numV_le' _ hhb]
    clear e hr h
    simp_all
  · simp [eq_comm (a := z32), eq_comm (a := (0 : Nat))] at h1
    have e : rdF 2 k (encF 2 ⟨k, tx, n, hh, m, sb, ha, bb⟩) = ⟨k, z32, 0, numV (le 4 hh), 0, [], z32, []⟩ := rfl
    rw [e, numV_le' _ hhb]
    clear e hr h
    simp_all
  · simp [eq_comm (a := z32), eq_comm (a := (0 : Nat))] at h1
    have e : rdF 10 k (encF 10 ⟨k, tx, n, hh, m, sb, ha, bb⟩) = ⟨k, z32, 0, numV (le 4 hh ++ (csize sb.length ++ sb)), 0, bytV (numL (le 4 hh ++ (csize sb.length ++ sb))), z32, []⟩ := rfl
    rw [e, numV_le _ hhb, numL_le, bytV_enc h2]
    clear e hr h
    simp_all
  · simp [eq_comm (a := z32), eq_comm (a := (0 : Nat))] at h1
    have e : rdF 6 k (encF 6 ⟨k, tx, n, hh, m, sb, ha, bb⟩) = ⟨k, z32, 0, numV (le 4 hh ++ le 4 m), numV (numL (le 4 hh ++ le 4 m)), [], z32, []⟩ := rfl
    rw [e, numV_le _ hhb, numL_le, numV_le' _ hm]
    clear e hr h
    simp_all
  · simp [eq_comm (a := z32), eq_comm (a := (0 : Nat))] at h1
    have e : rdF 16 k (encF 16 ⟨k, tx, n, hh, m, sb, ha, bb⟩) = ⟨k, z32, 0, 0, 0, [], hshV ha, []⟩ := rfl
    rw [e, hshV_app' hha]
    clear e hr h
    simp_all
  · clear hr h; simp [eq_comm (a := z32), eq_comm (a := (0 : Nat))] at h1; simp [rdF, encF, zq]; simp_all
  · exact absurd (by decide) h0
end
section
open Go Go.RowKit Go.Proofs Go.ChangeShapes
/-! A request that came in. -/
theorem cells52 : Try.prog.cellsOf 52 = 32 := by kernel_rfl
theorem cells54 : Try.prog.cellsOf 54 = 33 := by kernel_rfl
theorem cells56 : Try.prog.cellsOf 56 = 70 := by kernel_rfl
theorem cells48 : Try.prog.cellsOf 48 = 1 := by kernel_rfl
theorem u8_of {w : World} {cs : List Value} (g : Rd Try.prog w 5 cs) : ∃ x : UInt8, cs = [.int .u8 (x.toNat : Int)] := by
  obtain ⟨n, rfl, hw⟩ := g.int Try.underlying5
  have hb : 0 ≤ n ∧ n < 256 := by simp [Lit.wf, IntKind.min, IntKind.max, IntKind.signed, IntKind.bits] at hw; omega
  refine ⟨UInt8.ofNat n.toNat, ?_⟩
  simp
  omega
theorem u32_of {w : World} {cs : List Value} (g : Rd Try.prog w 48 cs) : ∃ n : Nat, cs = [.int .u32 (n : Int)] ∧ n < 4294967296 := by
  obtain ⟨n, rfl, hw⟩ := g.int (k := .u32) (by kernel_rfl)
  have hb : 0 ≤ n ∧ n < 4294967296 := by simp [Lit.wf, IntKind.min, IntKind.max, IntKind.signed, IntKind.bits] at hw; omega
  refine ⟨n.toNat, ?_, by omega⟩
  rw [Int.toNat_of_nonneg hb.1]
theorem hash_of {w : World} {cs : List Value} (g : Rd Try.prog w 52 cs) : ∃ xs : List UInt8, xs.length = 32 ∧ cs = bs xs := by
  obtain ⟨hl, h⟩ := g.array (n := 32) (e := 5) (by kernel_rfl)
  rw [cells52] at hl
  obtain ⟨xs, hxl, hx⟩ := list_of (n := 32) (p := fun i (b : UInt8) => cs[i]? = some (.int .u8 (b.toNat : Int))) (fun i hi => by
    have hr := h i hi
    rw [cells5, Nat.mul_one] at hr
    obtain ⟨x, hx⟩ := u8_of hr
    refine ⟨x, ?_⟩
    have := congrArg (·[0]?) hx
    simpa [List.getElem?_take, List.getElem?_drop] using this)
  refine ⟨xs, hxl, ?_⟩
  apply List.ext_getElem?
  intro i
  by_cases hi : i < 32
  · have h1 : xs[i]? = some xs[i] := List.getElem?_eq_getElem (by omega)
    rw [hx i _ h1]
    simp [bs, h1]
  · rw [List.getElem?_eq_none (by omega), List.getElem?_eq_none (by simp; omega)]
theorem cut_next (l : List Value) (a n : Nat) : l.drop a = (l.drop a).take n ++ l.drop (a + n) := by
  rw [← List.drop_drop, List.take_append_drop]
theorem rq_of {w : World} {cs : List Value} (g : Rd Try.prog w 56 cs) : ∃ r s b, cs = rcs r s b ∧ r.ok ∧ HB w s r.sb ∧ HB w b r.bb := by
  obtain ⟨fs, hu⟩ : ∃ fs, Try.prog.underlying 56 = some (.struct fs) := ⟨_, Try.underlying56⟩
  obtain ⟨hl, hf⟩ := g.struct Try.underlying56
  rw [cells56] at hl
  have f0 := hf _ (List.mem_cons_self ..)
  have f1 := hf _ (List.mem_cons_of_mem _ (List.mem_cons_self ..))
  have f2 := hf _ (List.mem_cons_of_mem _ (List.mem_cons_of_mem _ (List.mem_cons_self ..)))
  have f3 := hf _ (List.mem_cons_of_mem _ (List.mem_cons_of_mem _ (List.mem_cons_of_mem _ (List.mem_cons_self ..))))
  have f4 := hf _ (List.mem_cons_of_mem _ (List.mem_cons_of_mem _ (List.mem_cons_of_mem _ (List.mem_cons_of_mem _ (List.mem_cons_self ..)))))
  have f5 := hf _ (List.mem_cons_of_mem _ (List.mem_cons_of_mem _ (List.mem_cons_of_mem _ (List.mem_cons_of_mem _ (List.mem_cons_of_mem _ (List.mem_cons_self ..))))))
  have f6 := hf _ (List.mem_cons_of_mem _ (List.mem_cons_of_mem _ (List.mem_cons_of_mem _ (List.mem_cons_of_mem _ (List.mem_cons_of_mem _ (List.mem_cons_of_mem _ (List.mem_cons_self ..)))))))
  clear hf
  simp only [cells3, cells22, cells52, cells54, cells48] at f0 f1 f2 f3 f4 f5 f6
  obtain ⟨_, hp⟩ := f1.struct Try.underlying54
  have p0 := hp _ (List.mem_cons_self ..)
  have p1 := hp _ (List.mem_cons_of_mem _ (List.mem_cons_self ..))
  clear hp
  simp only [cells52, cells48] at p0 p1
  obtain ⟨k, h0, _⟩ := f0.int Try.underlying3
  obtain ⟨tx, htl, htx⟩ := hash_of p0
  obtain ⟨n, hn, hn2⟩ := u32_of p1
  obtain ⟨h, hh, hh2⟩ := u32_of f2
  obtain ⟨m, hm, hm2⟩ := u32_of f3
  obtain ⟨s, sb, hs, hsb⟩ := hbd_of f4
  obtain ⟨ha, hal, hha⟩ := hash_of f5
  obtain ⟨b, bb, hb, hbb⟩ := hbd_of f6
  refine ⟨⟨k, tx, n, h, m, sb, ha, bb⟩, s, b, ?_, ⟨htl, hal, hn2, hh2, hm2⟩, hsb, hbb⟩
  have e1 : (cs.drop 1).take 33 = bs tx ++ [.int .u32 (n : Int)] := by
    rw [← htx, ← hn]
    simp only [List.drop_zero]
    have h33 : ((cs.drop 1).take 33).length = 33 := by rw [List.length_take, List.length_drop, hl]; rfl
    have e : ((cs.drop 1).take 33).drop 32 = (((cs.drop 1).take 33).drop 32).take 1 := (List.take_of_length_le (by rw [List.length_drop, h33]; decide)).symm
    show _ = List.take 32 ((cs.drop 1).take 33) ++ List.take 1 (List.drop 32 ((cs.drop 1).take 33))
    rw [← e, List.take_append_drop]
  have e : cs = (cs.drop 0).take 1 ++ ((cs.drop 1).take 33 ++ ((cs.drop 34).take 1 ++ ((cs.drop 35).take 1 ++ ((cs.drop 36).take 1 ++ ((cs.drop 37).take 32 ++ ((cs.drop 69).take 1 ++ [])))))) := by
    have z : ([] : List Value) = cs.drop 70 := (List.drop_of_length_le (by omega)).symm
    rw [z, ← cut_next cs 69 1, ← cut_next cs 37 32, ← cut_next cs 36 1, ← cut_next cs 35 1, ← cut_next cs 34 1, ← cut_next cs 1 33, ← cut_next cs 0 1]
    rfl
  rw [e, e1]
  have g0 : (cs.drop 0).take 1 = [.int .i64 k] := h0
  have g2 : (cs.drop 34).take 1 = [.int .u32 (h : Int)] := hh
  have g3 : (cs.drop 35).take 1 = [.int .u32 (m : Int)] := hm
  have g4 : (cs.drop 36).take 1 = [s] := hs
  have g5 : (cs.drop 37).take 32 = bs ha := hha
  have g6 : (cs.drop 69).take 1 = [b] := hb
  rw [g0, g2, g3, g4, g5, g6]
  simp [rcs]
end
end Go.Proofs.Ytlpklbpaknemaaa
