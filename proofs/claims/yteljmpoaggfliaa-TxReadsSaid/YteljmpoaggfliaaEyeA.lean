/- Contracts and words that the laws stand on (EyeA). -/
import Derived.RangeFuncNested
import Derived.RangeFuncBound
import Derived.RangeFuncCalls
import Derived.RangeFuncLeaves
import Derived.Shelf.Abstract
import Derived.Shelf.RegionOpen
import Derived.OwnWalkIn
import Derived.TacticsInMore
import Derived.LoopNIn
import Derived.LoopIn
import Derived.Laws.BitsAllLaws
import Derived.Test.YteljmpoaggfliaaOctA
import Derived.Test.YteljmpoaggfliaaBase
set_option linter.unusedVariables false
set_option linter.unusedSimpArgs false
namespace Go.Proofs.Yteljmpoaggfliaa
section
open Go.RowKit Go.Proofs

/-- An eye at block p: what is left is v's bytes. -/
structure IsEye (w : World) (p : Nat) (v : Value) (xs : List UInt8) : Prop where
  blk : w.heap[p]? = some (.cells #[.bool true, v] 170 (0, 0))
  left : HB w v xs
theorem IsEye.cell0 {w : World} {p : Nat} {v : Value} {xs : List UInt8} (h : IsEye w p v xs) : w.cell? ⟨p, 0, none⟩ = some (.bool true) := blk_cell h.blk 0
theorem IsEye.cell1 {w : World} {p : Nat} {v : Value} {xs : List UInt8} (h : IsEye w p v xs) : w.cell? ⟨p, 1, none⟩ = some v := blk_cell h.blk 1
theorem IsEye.free {w : World} {p : Nat} {v : Value} {xs : List UInt8} (h : IsEye w p v xs) (i : Nat) : w.frozen? ⟨p, i, none⟩ = false := blk_free h.blk i

set_option maxHeartbeats 400000 in
set_option maxRecDepth 100000 in
theorem look_any (v : Value) (xs : List UInt8) (w : World) (h : HB w v xs) (hl : xs.length ≤ 70368744177664) :
    Calls Try.prog 63 #[v] w fun e w' => ∃ g u, e = .returned (.pointer (some ⟨g, 0, none⟩)) ∧ w.heap.size ≤ g ∧ IsEye w' g u xs ∧ (∀ k, u.ownBlock = some k → w.heap.size ≤ k ∧ k ≠ g) ∧ Below w.heap.size w w' := by
  have H := Lib.hid h; clear h
  go_enter Try.func63, Try.ntmps63
  go_wp2_with (go_at_call 78; refine (clone_any _ xs _ H.out hl).mono ?_; rintro e w1 ⟨v', rfl, hown, hbl⟩; have HO := Lib.hid hown; obtain ⟨A, c, rfl⟩ := own_slice hown; clear hown)
  go_ret
  have h1 := HO.out.lt
  refine ⟨w1.heap.size, _, rfl, hbl.size, ⟨heap_alloc_new w1 _, ?_⟩, fun k hk => ⟨(h1 k hk).1, by have := (h1 k hk).2; omega⟩, hbl.alloc hbl.size _⟩
  exact (HB.of_own HO.out).chg (S := []) ((Chg.refl _ _).alloc _) (by simp)
set_option maxHeartbeats 400000 in
set_option maxRecDepth 100000 in
theorem shut_any (p : Nat) (w : World) (hc : w.cell? ⟨p, 0, none⟩ = some (.bool true)) :
    Calls Try.prog 123 #[.pointer (some ⟨p, 0, none⟩)] w fun e w' => e = .returned (.bool false) ∧ w = w' := by
  go_enter Try.func123, Try.ntmps123
  go_wp2
  go_ret
  exact ⟨rfl, rfl⟩
set_option maxHeartbeats 400000 in
set_option maxRecDepth 100000 in
theorem left_any (p : Nat) (v : Value) (xs : List UInt8) (w : World) (h : IsEye w p v xs) :
    Calls Try.prog 65 #[.pointer (some ⟨p, 0, none⟩)] w fun e w' => e = .returned (.int .i64 xs.length) ∧ w = w' := by
  have hc0 := h.cell0
  have hc1 := h.cell1
  obtain ⟨A, c, rfl, _⟩ := h.left.shape
  clear h
  go_enter Try.func65, Try.ntmps65
  go_wp2_with (go_at_call 123; refine (shut_any p _ hc0).mono ?_; rintro e w1 ⟨rfl, rfl⟩)
  go_ret
  exact ⟨rfl, rfl⟩
end
section
open Go.RowKit Go.Proofs

theorem run_cut_l {P : Program} (t e : TypeId) (ht : P.underlying t = some (.slice e)) (hz : ∀ w, (Go.sizeOf e).run P w = .ok 1 w) (A : Option Addr) (n c k : Nat) (hk : k ≤ n) (W : World) :
    (Instr.slice t (.slice A n c) (some (.int .i64 (k : Int))) none none).run P W = .ok (.slice (cutA A c k) (n - k) (c - k)) W := by
  have ht' : P.underlying t = some (.slice (P.elem t)) := by simp [Program.elem, ht]
  have he : P.elem t = e := by simp [Program.elem, ht]
  rw [run_slice_l W t _ _ _ ht' .i64 _ (by omega) (by omega), he, hz]
  simp [Result.andThen, sliced, cutA]
theorem run_cut_h {P : Program} (t e : TypeId) (ht : P.underlying t = some (.slice e)) (hz : ∀ w, (Go.sizeOf e).run P w = .ok 1 w) (A : Option Addr) (n c k : Nat) (hk : k ≤ n) (hn : n ≤ c) (W : World) :
    (Instr.slice t (.slice A n c) none (some (.int .i64 (k : Int))) none).run P W = .ok (.slice A k c) W := by
  have ht' : P.underlying t = some (.slice (P.elem t)) := by simp [Program.elem, ht]
  have he : P.elem t = e := by simp [Program.elem, ht]
  rw [run_slice_h W t _ _ _ ht' .i64 _ (by omega) (by omega), he, hz]
  cases A <;> simp [Result.andThen, sliced, Addr.add]
theorem run_cut_lh {P : Program} (t e : TypeId) (ht : P.underlying t = some (.slice e)) (hz : ∀ w, (Go.sizeOf e).run P w = .ok 1 w) (A : Option Addr) (n c a b : Nat) (hab : a ≤ b) (hb : b ≤ n) (hn : n ≤ c) (W : World) :
    (Instr.slice t (.slice A n c) (some (.int .i64 (a : Int))) (some (.int .i64 (b : Int))) none).run P W = .ok (.slice (cutA A c a) (b - a) (c - a)) W := by
  have ht' : P.underlying t = some (.slice (P.elem t)) := by simp [Program.elem, ht]
  have he : P.elem t = e := by simp [Program.elem, ht]
  rw [run_slice_lh W t _ _ _ ht' .i64 .i64 _ _ (by omega) (by omega) (by omega), he, hz]
  simp [Result.andThen, sliced, cutA]

/-- No byte lies in block k. -/
def NoU8 (w : World) (k : Nat) : Prop := ∀ (a : Addr) (x : Int), a.block = k → w.cell? a ≠ some (.int .u8 x)
theorem HB.chgN {S : List Nat} {w w' : World} {v : Value} {xs : List UInt8} (h : HB w v xs) (hc : Chg S w w') (hn : ∀ k, k ∈ S → NoU8 w k) : HB w' v xs := by
  obtain ⟨p, c, rfl, h0, h1, h2⟩ := h
  exact ⟨p, c, rfl, h0, h1, fun a ha i x hx => hc.cell (h2 a ha i x hx) (fun hm => hn _ hm _ _ rfl (h2 a ha i x hx))⟩
theorem IsEye.no {w : World} {p : Nat} {v : Value} {xs : List UInt8} (h : IsEye w p v xs) : NoU8 w p := by
  rintro ⟨b, o, sp⟩ x rfl
  obtain ⟨A, c, rfl, _⟩ := h.left.shape
  simp only [World.cell?, h.blk]
  split
  · simp
  · match o with
    | 0 => simp
    | 1 => simp
    | n + 2 => simp
theorem IsPen.no {w : World} {p : Nat} {v : Value} {xs : List UInt8} (h : IsPen w p v xs) : NoU8 w p := by
  rintro ⟨b, o, sp⟩ x rfl
  obtain ⟨A, c, rfl⟩ := own_slice h.row
  simp only [World.cell?, h.blk]
  split
  · simp
  · match o with
    | 0 => simp
    | n + 1 => simp

/-- An eye has gone on. -/
structure EyeGo (w w' : World) (p : Nat) (u u' : Value) (ys : List UInt8) : Prop where
  eye : IsEye w' p u' ys
  chg : Chg [p] w w'
  same : u'.ownBlock = u.ownBlock
theorem EyeGo.refl {w : World} {p : Nat} {u : Value} {ys : List UInt8} (h : IsEye w p u ys) : EyeGo w w p u u ys := ⟨h, Chg.refl _ _, rfl⟩
theorem EyeGo.trans {w w1 w2 : World} {p : Nat} {u u1 u2 : Value} {ys zs : List UInt8} (h : EyeGo w w1 p u u1 ys) (h' : EyeGo w1 w2 p u1 u2 zs) : EyeGo w w2 p u u2 zs :=
  ⟨h'.eye, h.chg.trans h'.chg (fun k hk => .inl hk), h'.same.trans h.same⟩
theorem IsEye.chg {S : List Nat} {w w' : World} {p : Nat} {v : Value} {xs : List UInt8} (h : IsEye w p v xs) (hc : Chg S w w') (hp : p ∉ S) (hv : ∀ k, v.ownBlock = some k → k ∉ S) : IsEye w' p v xs :=
  ⟨hc.blk h.blk hp, h.left.chg hc hv⟩
theorem IsEye.below {w w' : World} {p : Nat} {v : Value} {xs : List UInt8} (h : IsEye w p v xs) (hc : Below w.heap.size w w') : IsEye w' p v xs := h.chg (Chg.of_below hc) (by simp) (by simp)
/-- What is left is stored back, cut. -/
theorem IsEye.cut {w : World} {p : Nat} {A : Option Addr} {n c k : Nat} {xs : List UInt8} (h : IsEye w p (.slice A n c) xs) (hk : k ≤ n) :
    EyeGo w (w.setCell ⟨p, 1, none⟩ (.slice (cutA A c k) (n - k) (c - k))) p (.slice A n c) (.slice (cutA A c k) (n - k) (c - k)) (xs.drop k) := by
  have hc : Chg [p] w (w.setCell ⟨p, 1, none⟩ (.slice (cutA A c k) (n - k) (c - k))) := (Chg.refl _ _).setCell (.inl (by simp)) _
  refine ⟨⟨?_, (h.left.drop hk).chgN hc (by intro q hq; simp at hq; subst hq; exact h.no)⟩, hc, cutA_block _ _ _ _ _ _ _⟩
  simpa using blk_set h.blk 1 (.slice (cutA A c k) (n - k) (c - k))

def rawE (n : Int) (l : Nat) : Int := if n < 0 then 2 else if (l : Int) < n then 10 else 0

theorem size5 : ∀ w, (Go.sizeOf 5).run Try.prog w = .ok 1 w := Try.sizeOf5

set_option maxHeartbeats 400000 in
set_option maxRecDepth 100000 in
/-- Eye.Raw, well. -/
theorem eraw_ok (p : Nat) (n : Nat) (u : Value) (xs : List UInt8) (w : World) (h : IsEye w p u xs) (hn : n ≤ xs.length) (hl : xs.length ≤ 70368744177664) :
    Calls Try.prog 127 #[.pointer (some ⟨p, 0, none⟩), .int .i64 (n : Int)] w fun e w' => ∃ v' u', e = .returned (.tuple #[v', .int .i64 0]) ∧ w'.ownsRow w.heap.size 5 1 v' n (bs (xs.take n)) ∧ EyeGo w w' p u u' (xs.drop n) := by
  have hc0 := h.cell0
  have hc1 := h.cell1
  have hf1 := h.free 1
  have H := Lib.hid h
  obtain ⟨A, c, rfl, hlc⟩ := h.left.shape
  clear h
  have hs1 := run_cut_h 28 5 Try.underlying28 size5 A xs.length c n hn hlc
  have hs2 := run_cut_l 28 5 Try.underlying28 size5 A xs.length c n hn
  have ht : (xs.take n).length = n := by simp; omega
  have HT := Lib.hid ht; clear ht
  go_enter Try.func127, Try.ntmps127
  go_wp2_with (first
    | (go_at_call 123; refine (shut_any p _ hc0).mono ?_; rintro e w1 ⟨rfl, rfl⟩)
    | (go_at_call 78; refine (clone_any _ _ _ (H.out.left.take hn) (by rw [HT.out]; omega)).mono ?_; rintro e w1 ⟨v', rfl, hown, hbl⟩; have H1 := Lib.hid (H.out.below hbl); have hc1 := H1.out.cell1; have hf1 := H1.out.free 1))
  go_ret2
  have HO := H1.out.cut hn
  exact ⟨_, _, rfl, own_chg (by rw [HT.out] at hown; exact hown) HO.chg (fun k hk => by have := (hown.lt k hk).1; have := blk_lt H.out.blk; simp; omega), HO.eye, (Chg.of_belowS [p] hbl).trans HO.chg (fun k hk => .inl hk), HO.same⟩

set_option maxHeartbeats 400000 in
set_option maxRecDepth 100000 in
theorem eraw_bad (p : Nat) (n : Int) (u : Value) (xs : List UInt8) (w : World) (h : IsEye w p u xs) (hn : n < 0 ∨ (xs.length : Int) < n) (hl : xs.length ≤ 70368744177664) :
    Calls Try.prog 127 #[.pointer (some ⟨p, 0, none⟩), .int .i64 n] w fun e w' => e = .returned (.tuple #[.slice none 0 0, .int .i64 (rawE n xs.length)]) ∧ w = w' := by
  have hc0 := h.cell0
  have hc1 := h.cell1
  obtain ⟨A, c, rfl, hlc⟩ := h.left.shape
  clear h
  rcases hn with hn | hn
  · have he : rawE n xs.length = 2 := by simp [rawE, hn]
    have HE := Lib.hid he; clear he
    go_enter Try.func127, Try.ntmps127
    go_wp2_with (go_at_call 123; refine (shut_any p _ hc0).mono ?_; rintro e w1 ⟨rfl, rfl⟩)
    go_ret2
    exact ⟨by rw [HE.out]; rfl, rfl⟩
  · have he : rawE n xs.length = 10 := by unfold rawE; rw [if_neg (by omega), if_pos hn]
    have HE := Lib.hid he; clear he
    go_enter Try.func127, Try.ntmps127
    go_wp2_with (go_at_call 123; refine (shut_any p _ hc0).mono ?_; rintro e w1 ⟨rfl, rfl⟩)
    go_ret2
    exact ⟨by rw [HE.out]; rfl, rfl⟩
end
section
open Go.RowKit Go.Proofs Go.Shelf
attribute [local go_sem] Oper.semAt_some

def items : Nat → List UInt8 → List (Nat × UInt8)
  | 0, _ => []
  | j + 1, xs => (j, xs.getD j 0) :: items j xs
def encs (x : Nat × UInt8) : Array Value := #[.int .i64 (x.1 : Int), .int .u8 (x.2.toNat : Int)]

set_option maxHeartbeats 1000000 in
set_option maxRecDepth 100000 in
theorem high1_in (F : Fence) (n : Nat) (h77 : F.fn 158) (hro : F.round = none) (hn : 1 ≤ n) (X : Nat → Prop) (b e p : Nat) (u : Value) (xs : List UInt8) (k : Nat) (w : World)
    (hb : w.cell? ⟨b, 0, none⟩ = some (.int .i64 (k : Int))) (he : w.cell? ⟨e, 0, none⟩ = some (.pointer (some ⟨p, 0, none⟩))) (hi : w.cell? ⟨p, 1, none⟩ = some u) (hu : HB w u xs) (hk : k ≤ xs.length) (hk8 : k ≤ 8)
    (hXe : X e) (hXp : X p) (hXu : ∀ g, u.ownBlock = some g → X g) (hX : ∀ k, X k → k < w.heap.size) (hXb : b < w.heap.size) :
    SeqStopsK F n Try.prog 158 #[.pointer (some ⟨b, 0, none⟩), .pointer (some ⟨e, 0, none⟩)] encs (Keeps X) (fun ys => ys = items k xs) (fun pre => pre <+: items k xs) k w := by
  intro l J Jx W hW hJ hJx hY h0
  have hb' := (hW.cell (p := ⟨b, 0, none⟩) hXb).trans hb
  have hK := Keeps.of_below hW hX
  refine callsIn_of_wp Try.func158 rfl h77 ?_ hro
  simp only [Try.ntmps158, List.size_toArray, List.length_cons, List.length_nil, Nat.reduceAdd, Nat.reduceSub, Array.replicate_succ, Array.replicate_zero, List.push_toArray, List.append_toArray, List.nil_append, List.cons_append]
  gi_wp2
  gi_loopw [4] (fun s4 wr => ∃ (j : Nat) (pre : List (Nat × UInt8)), s4 = .int .i64 ((j : Int) - 1) ∧ items k xs = pre ++ items j xs ∧ j ≤ k ∧ Keeps X w wr ∧ J pre wr) (fun s4 _ => (intOf s4 + 1).toNat)
  case atStart => exact ⟨k, [], rfl, rfl, Nat.le_refl _, hK, h0⟩
  case round =>
    obtain ⟨j, pre, rfl, hx, hj, hK1, hJ1⟩ := hrel
    have HX := Lib.hid hx; clear hx
    cases j with
    | zero =>
      gi_wp2
      go_end0
      exact ⟨⟨_, rfl⟩, .inl ⟨items k xs, rfl, by rw [HX.out]; simpa [items] using hJ1⟩⟩
    | succ j =>
      have hjx : j < xs.length := by omega
      have he1 := hK1.cell he hXe
      have hi1 := hK1.cell hi hXp
      obtain ⟨A, c, rfl, hlc⟩ := hu.shape
      obtain ⟨a0, rfl, hc0⟩ := hu.at_ (i := j) hjx hjx
      have hc1 := hK1.cell hc0 (by rw [blk_of_add]; exact hXu _ rfl)
      have hlen : pre.length < k := by
        have := congrArg List.length HX.out
        simp only [List.length_append] at this
        have e1 : ∀ m, (items m xs).length = m := fun m => by induction m with | zero => rfl | succ m ih => simp [items, ih]
        rw [e1, e1] at this
        omega
      obtain ⟨fn, tmps, assign, body, hy, hR⟩ := hY pre (j, xs[j]) wr hJ1 hlen
      dsimp only [encs] at hy
      clear hu hi he
      have hxj : xs.getD j 0 = xs[j] := by simp [List.getD, List.getElem?_eq_getElem hjx]
      have hx2 : items k xs = (pre ++ [(j, xs[j])]) ++ items j xs := by
        rw [HX.out, items, hxj]; simp
      have HX2 := Lib.hid hx2
      clear hxj hx2
      gi_wp2
      refine hR.mono ?_
      rintro e W3 (⟨rfl, hJ3, hk3⟩ | ⟨rfl, hJx3⟩)
      · gi_wp2
        go_roundw
        case rel => exact ⟨j, pre ++ [(j, xs[j])], by go_num, HX2.out, by omega, hK1.trans hk3, hJ3⟩
        case measure => simp [intOf]
      · gi_wp2
        refine bodyPost_ret (results_none rfl _ _ _) rfl ?_
        exact ⟨⟨_, rfl⟩, .inr ⟨pre ++ [(j, xs[j])], ⟨items j xs, HX2.out.symm⟩, hJx3⟩⟩

set_option maxHeartbeats 400000 in
set_option maxRecDepth 100000 in
theorem high_in (F : Fence) (n : Nat) (h76 : F.fn 156) (hro : F.round = none) (p : Nat) (k : Int) (w : World) :
    CallsIn F n Try.prog 156 #[.pointer (some ⟨p, 0, none⟩), .int .i64 k] w fun e w' => e = .returned (.func (.func 158) #[] #[.pointer (some ⟨w.heap.size + 1, 0, none⟩), .pointer (some ⟨w.heap.size, 0, none⟩)]) ∧ w' = (w.alloc (.cells #[.pointer (some ⟨p, 0, none⟩)] 102)).alloc (.cells #[.int .i64 k] 3) := by
  refine callsIn_of_wp Try.func156 rfl h76 ?_ hro
  simp only [Try.ntmps156, List.size_toArray, List.length_cons, List.length_nil, Nat.reduceAdd, Nat.reduceSub, Array.replicate_succ, Array.replicate_zero, List.push_toArray, List.append_toArray, List.nil_append, List.cons_append]
  gi_wp2
  go_ret
  exact ⟨rfl, rfl⟩

/-- Bytes as a number, the lowest first. -/
def leNum : List UInt8 → Nat
  | [] => 0
  | x :: r => x.toNat + 256 * leNum r
/-- What has been read of the items. -/
def itv (l : List (Nat × UInt8)) : Nat := l.foldl (fun n x => n * 256 + x.2.toNat) 0
theorem itv_snoc (l : List (Nat × UInt8)) (x : Nat × UInt8) : itv (l ++ [x]) = itv l * 256 + x.2.toNat := by simp [itv]
theorem itv_lt_of (l : List (Nat × UInt8)) : ∀ (a m : Nat), a < 256 ^ m → l.foldl (fun n x => n * 256 + x.2.toNat) a < 256 ^ (m + l.length) := by
  induction l with
  | nil => intro a m h; simpa using h
  | cons x l ih =>
    intro a m h
    have := ih (a * 256 + x.2.toNat) (m + 1) (by have := x.2.toNat_lt; rw [Nat.pow_succ]; omega)
    simpa [Nat.add_assoc, Nat.add_comm 1] using this
theorem itv_lt (l : List (Nat × UInt8)) : itv l < 256 ^ l.length := by have := itv_lt_of l 0 0 (by simp); rwa [Nat.zero_add] at this
theorem itv_items (j : Nat) (xs : List UInt8) (hj : j ≤ xs.length) : itv (items j xs) = leNum (xs.take j) := by
  have key : ∀ (j : Nat) (a : Nat), j ≤ xs.length → (items j xs).foldl (fun n x => n * 256 + x.2.toNat) a = a * 256 ^ j + leNum (xs.take j) := by
    intro j
    induction j with
    | zero => intro a _; simp [items, leNum]
    | succ j ih =>
      intro a hj
      have e : leNum (xs.take (j + 1)) = leNum (xs.take j) + 256 ^ j * (xs.getD j 0).toNat := by
        have hs : ∀ (l : List UInt8) (c : UInt8), leNum (l ++ [c]) = leNum l + 256 ^ l.length * c.toNat := by
          intro l c
          induction l with
          | nil => simp [leNum]
          | cons y l ih => simp only [List.cons_append, leNum, ih, List.length_cons, Nat.pow_succ]; rw [Nat.mul_add, Nat.add_assoc]; congr 2; rw [← Nat.mul_assoc, Nat.mul_comm 256]
        rw [List.take_succ_eq_append_getElem (by omega), hs]
        simp [List.getD, List.getElem?_eq_getElem (show j < xs.length by omega), Nat.min_eq_left (show j ≤ xs.length by omega)]
      rw [items, List.foldl_cons, ih _ (by omega), e, Nat.add_mul, Nat.mul_assoc, Nat.mul_comm 256, ← Nat.pow_succ, Nat.mul_comm (256 ^ j) (xs.getD j 0).toNat, Nat.add_assoc, Nat.add_comm (leNum _)]
  have := key j 0 hj; rwa [Nat.zero_mul, Nat.zero_add] at this
theorem items_length (j : Nat) (xs : List UInt8) : (items j xs).length = j := by
  induction j with
  | zero => rfl
  | succ j ih => simp [items, ih]

theorem items_get (j : Nat) (xs : List UInt8) : ∀ i x, (items j xs)[i]? = some x → x.1 + i + 1 = j := by
  induction j with
  | zero => intro i x h; simp [items] at h
  | succ j ih =>
    intro i x h
    cases i with
    | zero => simp [items] at h; subst h; simp
    | succ i => rw [items, List.getElem?_cons_succ] at h; have := ih i x h; omega
theorem items_last {k : Nat} {xs : List UInt8} {pre : List (Nat × UInt8)} {x : Nat × UInt8} (h : pre ++ [x] <+: items k xs) (hx : x.1 = 0) : pre ++ [x] = items k xs := by
  obtain ⟨t, ht⟩ := h
  have h1 : (items k xs)[pre.length]? = some x := by rw [← ht]; simp
  have h2 := items_get k xs _ _ h1
  have h3 := congrArg List.length ht
  rw [items_length] at h3
  simp at h3
  have : t = [] := List.eq_nil_of_length_eq_zero (by omega)
  subst this
  simpa using ht

theorem or_val (n : Nat) (c : UInt8) (hn : n < 72057594037927936) : bits BinOp.or IntKind.u64 (IntKind.u64.wrap ((n : Int) * 256)) (IntKind.u64.wrap (c.toNat : Int)) = ((n * 256 + c.toNat : Nat) : Int) := by
  have hc := c.toNat_lt
  have h1 : IntKind.u64.wrap ((n : Int) * 256) = ((n * 256 : Nat) : Int) := by rw [IntKind.wrap_u64]; omega
  have h2 : IntKind.u64.wrap (c.toNat : Int) = (c.toNat : Int) := by rw [IntKind.wrap_u64]; omega
  rw [h1, h2, u64_or_nat _ _ (by omega) (by omega)]
  congr 1
  have := Nat.two_pow_add_eq_or_of_lt (i := 8) (b := c.toNat) (by omega) n
  rw [Nat.mul_comm n 256]
  exact this.symm
theorem itv_small (l : List (Nat × UInt8)) (h : l.length ≤ 7) : itv l < 72057594037927936 := by
  have h1 := itv_lt l
  have h2 : 256 ^ l.length ≤ 256 ^ 7 := Nat.pow_le_pow_right (by omega) h
  have h3 : (256 : Nat) ^ 7 = 72057594037927936 := by decide
  omega

set_option maxHeartbeats 1000000 in
set_option maxRecDepth 100000 in
theorem number_in (F : Fence) (n : Nat) (h66 : F.fn 147) (h76 : F.fn 156) (h77 : F.fn 158) (hro : F.round = none) (hn : 3 ≤ n) (p : Nat) (u : Value) (xs : List UInt8) (k : Nat) (w : World)
    (h : IsEye w p u xs) (hk : k ≤ xs.length) (hk8 : k ≤ 8) (hk1 : 1 ≤ k) :
    CallsIn F n Try.prog 147 #[.pointer (some ⟨p, 0, none⟩), .int .i64 (k : Int)] w fun e w' => e = .returned (.int .u64 (leNum (xs.take k) : Nat)) ∧ Below w.heap.size w w' := by
  have h1 : 1 ≤ n := by omega
  refine callsIn_of_wp_marks Try.func147 rfl h66 ?_ hro
  simp only [Try.ntmps147, List.size_toArray, List.length_cons, List.length_nil, Nat.reduceAdd, Nat.reduceSub, Array.replicate_succ, Array.replicate_zero, List.push_toArray, List.append_toArray, List.nil_append, List.cons_append]
  gi_wp2
  refine wpIn_scope ?_
  gi_wp2
  refine wpIn_label ?_
  gi_wp2_with (gi_at_call 156; refine (high_in F (n - 1) h76 hro _ _ _).mono ?_; rintro e w' ⟨rfl, rfl⟩)
  have hp := blk_lt h.blk
  have hcell := h.cell1
  obtain ⟨W0, hW0⟩ : ∃ W0, (((w.alloc (Obj.cells #[Value.int IntKind.u64 0] 98)).alloc (Obj.cells #[Value.pointer (some { block := p, off := 0 })] 102)).alloc (Obj.cells #[Value.int IntKind.i64 (k : Int)] 3)) = W0 := ⟨_, rfl⟩
  have hB0 : Below w.heap.size w W0 := by rw [← hW0]; exact (((Below.refl _ w).alloc (Nat.le_refl _) _).alloc (by simp) _).alloc (by simp; omega) _
  have hsz : W0.heap.size = w.heap.size + 3 := by rw [← hW0]; simp
  have h0 : W0.heap[w.heap.size]? = some (.cells #[Value.int IntKind.u64 0] 98 (0, 0)) := by rw [← hW0]; exact (Below.heap_alloc _ _ _ (by simp; omega)).trans ((Below.heap_alloc _ _ _ (by simp)).trans (heap_alloc_new w _))
  have h1' : W0.heap[w.heap.size + 1]? = some (.cells #[Value.pointer (some { block := p, off := 0 })] 102 (0, 0)) := by rw [← hW0]; exact (Below.heap_alloc _ _ _ (by simp)).trans (by have := heap_alloc_new (w.alloc (Obj.cells #[Value.int IntKind.u64 0] 98)) (Obj.cells #[Value.pointer (some { block := p, off := 0 })] 102); simpa using this)
  have h2' : W0.heap[w.heap.size + 1 + 1]? = some (.cells #[Value.int IntKind.i64 (k : Int)] 3 (0, 0)) := by rw [← hW0]; have := heap_alloc_new ((w.alloc (Obj.cells #[Value.int IntKind.u64 0] 98)).alloc (Obj.cells #[Value.pointer (some { block := p, off := 0 })] 102)) (Obj.cells #[Value.int IntKind.i64 (k : Int)] 3); simpa using this
  rw [hW0]
  refine wpIn_rangeFunc_ownF hro h1 (gf := 158) (lb := #[.pointer (some ⟨w.heap.size + 1 + 1, 0, none⟩), .pointer (some ⟨w.heap.size + 1, 0, none⟩)]) rfl h77 (enters_of Try.func158 (by kernel_rfl) rfl)
    (high1_in F (n - 1) h77 hro (by omega) (fun k => k = w.heap.size + 1 ∨ k = p ∨ u.ownBlock = some k) (w.heap.size + 1 + 1) (w.heap.size + 1) p u xs k W0 (blk_cell h2' 0) (blk_cell h1' 0) ((h.below hB0).cell1) (h.left.below hB0) hk hk8 (.inl rfl) (.inr (.inl rfl)) (fun g hg => .inr (.inr hg)) ?hX (by omega))
    Keeps.trans ?hKb (Below.refl _ _) (fun _ => rfl)
    (fun pre W => (W.cell? ⟨w.heap.size, 0, none⟩ = some (.int .u64 (itv pre : Nat)) ∧ W.frozen? ⟨w.heap.size, 0, none⟩ = false) ∧ Below w.heap.size w W)
    (fun c pre W => (c = .exit 0 ∧ ∃ pre' x, pre = pre' ++ [x] ∧ x.1 = 0) ∧ (W.cell? ⟨w.heap.size, 0, none⟩ = some (.int .u64 (itv pre : Nat)) ∧ W.frozen? ⟨w.heap.size, 0, none⟩ = false) ∧ Below w.heap.size w W)
    ?hI ?hIx ⟨⟨blk_cell h0 0, blk_free h0 0⟩, hB0⟩
    (fun x => { tmps := #[.pointer (some ⟨p, 0, none⟩), .int .i64 (k : Int), undef, undef, .int .u64 0, .pointer (some ⟨w.heap.size, 0, none⟩), .int .i64 (x.1 : Int), .int .u8 (x.2.toNat : Int), .pointer (some ⟨p, 0, none⟩), .int .i64 (k : Int), .func (.func 158) #[] #[.pointer (some ⟨w.heap.size + 1 + 1, 0, none⟩), .pointer (some ⟨w.heap.size + 1, 0, none⟩)], .int .i64 (x.1 : Int), .int .u8 (x.2.toNat : Int), undef, undef, undef, undef, undef, undef, undef, undef], defers := [] }) ?assign ?body ?done ?stop
  case hX =>
    rintro g (rfl | rfl | hg)
    · omega
    · omega
    · obtain ⟨g', e', hg'⟩ := h.left.lt (by intro e; subst e; simp at hk; omega)
      rw [hg] at e'; injection e' with e'; omega
  case hKb =>
    intro W l o o' hl _ _ _ g hg
    refine World.putObj_heap_other ?_
    rcases hg with rfl | rfl | hg
    · omega
    · omega
    · obtain ⟨g', e', hg'⟩ := h.left.lt (by intro e; subst e; simp at hk; omega)
      rw [hg] at e'; injection e' with e'; omega
  case hI =>
    exact OwnFrom.and (Own.from (fun s A B row hs hg hr => ⟨cell_kept hs.1 hg hr, (frozen_kept hs.1 hg hr).trans hs.2⟩) _) (ownFrom_below (Nat.le_refl _) (by omega))
  case hIx =>
    intro c
    exact OwnFrom.and (ownFrom_pure _ _) (OwnFrom.and (Own.from (fun s A B row hs hg hr => ⟨cell_kept hs.1 hg hr, (frozen_kept hs.1 hg hr).trans hs.2⟩) _) (ownFrom_below (Nat.le_refl _) (by omega)))
  case assign =>
    intro l x W K hK
    dsimp only [encs]
    gi_wp2
    exact hK
  case body =>
    rintro l pre x W ⟨⟨hc, hf⟩, hB⟩ hlt
    have hv := or_val (itv pre) x.2 (itv_small pre (by omega))
    have HV := Lib.hid hv; clear hv
    have hns : ∀ v, Keeps (fun k => k = w.heap.size + 1 ∨ k = p ∨ u.ownBlock = some k) W (W.setCell ⟨w.heap.size, 0, none⟩ v) := by
      intro v g hg
      refine Below.heap_setCell _ _ _ _ ?_
      rcases hg with rfl | rfl | hg
      · show w.heap.size + 1 ≠ w.heap.size; omega
      · show g ≠ w.heap.size; omega
      · obtain ⟨g', e', hg'⟩ := h.left.lt (by intro e; subst e; simp at hk; omega)
        rw [hg] at e'; injection e' with e'
        show g ≠ w.heap.size; omega
    have hcs : ∀ v, (W.setCell ⟨w.heap.size, 0, none⟩ v).cell? ⟨w.heap.size, 0, none⟩ = some v := fun v => World.cell?_setCell_same' _ _ _ (by rw [hc]; rfl)
    have HNS := Lib.hid hns
    have HCS := Lib.hid hcs
    clear hns hcs
    by_cases hx0 : (x.1 : Int) = 0
    · gi_wp2
      refine ⟨KeepsOthers.setCell _ _ _, ⟨rfl, pre, x, rfl, by omega⟩, ⟨?_, by rw [World.frozen?_setCell]; exact hf⟩, hB.setCell (Nat.le_refl _) _⟩
      rw [itv_snoc, ← HV.out]; exact HCS.out _
    · gi_wp2
      refine ⟨KeepsOthers.setCell _ _ _, HNS.out _, ⟨?_, by rw [World.frozen?_setCell]; exact hf⟩, hB.setCell (Nat.le_refl _) _⟩
      rw [itv_snoc, ← HV.out]; exact HCS.out _
  case done =>
    rintro D ys W hD rfl ⟨⟨hc, _⟩, hB⟩ hK
    have HI := Lib.hid (itv_items k xs hk)
    have HB := Lib.hid (hB.trans (belowK_b (w := w) (Nat.le_refl _) W D _ (.deferred none) (by omega) hK rfl rfl))
    gi_wp2
    rw [Exit.noGoto_ret]
    refine ⟨by simp, .inl ⟨_, _, rfl, run_takeDeferred hK, ?_⟩⟩
    exact ⟨_, results_tmp rfl _ _ _, by rw [← HI.out]; rfl, HB.out⟩
  case stop =>
    rintro D c pre W hD hpre ⟨⟨rfl, pre', x, rfl, hx0⟩, ⟨hc, _⟩, hB⟩ hK
    have hl := items_last hpre hx0
    rw [hl] at hc
    have HI := Lib.hid (itv_items k xs hk)
    have HB := Lib.hid (hB.trans (belowK_b (w := w) (Nat.le_refl _) W D _ (.deferred none) (by omega) hK rfl rfl))
    clear hpre hl
    gi_wp2
    rw [Exit.noGoto_ret]
    refine ⟨by simp, .inl ⟨_, _, rfl, run_takeDeferred hK, ?_⟩⟩
    exact ⟨_, results_tmp rfl _ _ _, by rw [← HI.out]; rfl, HB.out⟩

/-- The bytes' number. -/
theorem number_any (p : Nat) (u : Value) (xs : List UInt8) (k : Int) (w : World) (h : IsEye w p u xs) (hk : k ≤ xs.length) (hk8 : k ≤ 8) (hk1 : 1 ≤ k) :
    Calls Try.prog 147 #[.pointer (some ⟨p, 0, none⟩), .int .i64 k] w fun e w' => e = .returned (.int .u64 (leNum (xs.take k.toNat) : Nat)) ∧ Below w.heap.size w w' := by
  obtain ⟨m, rfl⟩ := Int.eq_ofNat_of_zero_le (show 0 ≤ k by omega)
  exact callsIn_wide.1 (number_in Fence.wide 3 trivial trivial trivial rfl (Nat.le_refl _) p u xs m w h (by omega) (by omega) (by omega))
end
section
open Go.RowKit Go.Proofs

theorem wideB_cases {k : Int} (h : wideB k = true) : k = 1 ∨ k = 2 ∨ k = 4 ∨ k = 8 := by simp [wideB] at h; omega

set_option maxHeartbeats 400000 in
set_option maxRecDepth 100000 in
/-- Eye.Fixed, well. -/
theorem efixed_ok (p : Nat) (k : Int) (u : Value) (xs : List UInt8) (w : World) (h : IsEye w p u xs) (hw : wideB k = true) (hn : k ≤ xs.length) :
    Calls Try.prog 122 #[.pointer (some ⟨p, 0, none⟩), .int .i64 k] w fun e w' => ∃ u', e = .returned (.tuple #[.int .u64 (leNum (xs.take k.toNat) : Nat), .int .i64 0]) ∧ EyeGo w w' p u u' (xs.drop k.toNat) := by
  have hk := wideB_cases hw
  obtain ⟨m, rfl⟩ := Int.eq_ofNat_of_zero_le (show 0 ≤ k by omega)
  rw [Int.toNat_natCast]
  have hm8 : m ≤ 8 := by omega
  have hm1 : 1 ≤ m := by omega
  have hmx : m ≤ xs.length := by omega
  clear hk hn
  have hc0 := h.cell0
  have hc1 := h.cell1
  have H := Lib.hid h
  obtain ⟨A, c, rfl, hlc⟩ := h.left.shape
  clear h
  have hs2 := run_cut_l 28 5 Try.underlying28 size5 A xs.length c m hmx
  go_enter Try.func122, Try.ntmps122
  go_wp2_with (first
    | (go_at_call 123; refine (shut_any p _ hc0).mono ?_; rintro e w1 ⟨rfl, rfl⟩)
    | (go_at_call 118; refine (wide_any _ _).mono ?_; rintro e w1 ⟨rfl, rfl⟩)
    | (go_at_call 147; refine (number_any p _ xs _ _ H.out (by omega) (by omega) (by omega)).mono ?_; rintro e w1 ⟨rfl, hbl⟩; have H1 := Lib.hid (H.out.below hbl); have hc1 := H1.out.cell1; have hf1 := H1.out.free 1))
  go_ret2
  have HO := H1.out.cut hmx
  exact ⟨_, rfl, HO.eye, (Chg.of_belowS [p] hbl).trans HO.chg (fun k hk => .inl hk), HO.same⟩

def efixE (k : Int) (l : Nat) : Int := if wideB k = false then 2 else if (l : Int) < k then 10 else 0
set_option maxHeartbeats 400000 in
set_option maxRecDepth 100000 in
theorem efixed_bad (p : Nat) (k : Int) (u : Value) (xs : List UInt8) (w : World) (h : IsEye w p u xs) (hn : efixE k xs.length ≠ 0) :
    Calls Try.prog 122 #[.pointer (some ⟨p, 0, none⟩), .int .i64 k] w fun e w' => e = .returned (.tuple #[.int .u64 0, .int .i64 (efixE k xs.length)]) ∧ w = w' := by
  have hc0 := h.cell0
  have hc1 := h.cell1
  obtain ⟨A, c, rfl, hlc⟩ := h.left.shape
  clear h
  by_cases hw : wideB k = true
  · have hl : (xs.length : Int) < k := by
      unfold efixE at hn; rw [if_neg (by simp [hw])] at hn
      split at hn
      · assumption
      · simp at hn
    have he : efixE k xs.length = 10 := by unfold efixE; rw [if_neg (by simp [hw]), if_pos hl]
    have HE := Lib.hid he; clear he hn
    go_enter Try.func122, Try.ntmps122
    go_wp2_with (first
      | (go_at_call 123; refine (shut_any p _ hc0).mono ?_; rintro e w1 ⟨rfl, rfl⟩)
      | (go_at_call 118; refine (wide_any _ _).mono ?_; rintro e w1 ⟨rfl, rfl⟩))
    go_ret2
    exact ⟨by rw [HE.out]; rfl, rfl⟩
  · simp only [Bool.not_eq_true] at hw
    have he : efixE k xs.length = 2 := by unfold efixE; rw [if_pos hw]
    have HE := Lib.hid he; clear he hn
    go_enter Try.func122, Try.ntmps122
    go_wp2_with (first
      | (go_at_call 123; refine (shut_any p _ hc0).mono ?_; rintro e w1 ⟨rfl, rfl⟩)
      | (go_at_call 118; refine (wide_any _ _).mono ?_; rintro e w1 ⟨rfl, rfl⟩))
    go_ret2
    exact ⟨by rw [HE.out]; rfl, rfl⟩

theorem leNum_lt (l : List UInt8) : leNum l < 256 ^ l.length := by
  induction l with
  | nil => simp [leNum]
  | cons x r ih => have := x.toNat_lt; simp only [leNum, List.length_cons, Nat.pow_succ]; omega
theorem leNum_64 (l : List UInt8) (h : l.length ≤ 8) : leNum l < 18446744073709551616 := by
  have h1 := leNum_lt l
  have h2 : 256 ^ l.length ≤ 256 ^ 8 := Nat.pow_le_pow_right (by omega) h
  have h3 : (256 : Nat) ^ 8 = 18446744073709551616 := by decide
  omega

/-- The compact size that stands first, and how many bytes it has. -/
def msz (f : UInt8) : Nat := if f.toNat = 253 then 2 else if f.toNat = 254 then 4 else 8
def getSize : List UInt8 → Option (Nat × Nat)
  | [] => none
  | f :: r => if f.toNat < 253 then some (f.toNat, 1)
    else if r.length < msz f then none else if compact (leNum (r.take (msz f))) = msz f + 1 then some (leNum (r.take (msz f)), msz f + 1) else none
theorem msz_le (f : UInt8) : 2 ≤ msz f ∧ msz f ≤ 8 := by unfold msz; split; simp; split <;> simp
def sizeV (o : Option (Nat × Nat)) : Value := match o with
  | some (n, k) => .tuple #[.int .u64 (n : Int), .int .i64 (k : Int)]
  | none => .tuple #[.int .u64 0, .int .i64 0]
set_option maxHeartbeats 400000 in
set_option maxRecDepth 100000 in
theorem esize_any (p : Nat) (u : Value) (xs : List UInt8) (w : World) (h : IsEye w p u xs) :
    Calls Try.prog 148 #[.pointer (some ⟨p, 0, none⟩)] w fun e w' => e = .returned (sizeV (getSize xs)) ∧ Below w.heap.size w w' := by
  have hc1 := h.cell1
  have H := Lib.hid h
  obtain ⟨A, c, rfl, hlc⟩ := h.left.shape
  rcases xs with _ | ⟨f, r⟩
  · clear h
    go_enter Try.func148, Try.ntmps148
    go_wp2_with fail
    go_ret2
    exact ⟨rfl, Below.refl _ _⟩
  · obtain ⟨a, rfl, hcf⟩ := h.left.at_ (i := 0) (by simp) (by simp)
    have hs1 : ∀ W, (Instr.slice 28 (.slice (some a) (r.length + 1) c) (some (.int .i64 1)) none none).run Try.prog W = .ok (.slice (cutA (some a) c 1) r.length (c - 1)) W := run_cut_l 28 5 Try.underlying28 size5 (some a) (r.length + 1) c 1 (by omega)
    have ha0 : a.add 0 = a := by simp [Addr.add]
    rw [ha0] at hcf
    clear h ha0
    have hfc : f = 253 ∨ f = 254 ∨ f = 255 ∨ f.toNat < 253 := by
      have := f.toNat_lt
      by_cases h1 : f.toNat < 253
      · exact .inr (.inr (.inr h1))
      · have : f.toNat = 253 ∨ f.toNat = 254 ∨ f.toNat = 255 := by omega
        rcases this with h | h | h
        · exact .inl (UInt8.toNat_inj.1 h)
        · exact .inr (.inl (UInt8.toNat_inj.1 h))
        · exact .inr (.inr (.inl (UInt8.toNat_inj.1 h)))
    rcases hfc with rfl | rfl | rfl | hf
    · replace hcf : w.cell? a = some (.int .u8 253) := hcf
      by_cases hr : r.length < 2
      · have hg : getSize (253 :: r) = none := by simp [getSize, msz, hr]
        have HG := Lib.hid hg; clear hg
        go_enter Try.func148, Try.ntmps148
        go_wp2_with fail
        go_ret2
        exact ⟨by rw [HG.out]; rfl, Below.refl _ _⟩
      · have hn64 := leNum_64 (r.take 2) (by simp; omega)
        have hg : getSize (253 :: r) = if compact (leNum (r.take 2)) = 2 + 1 then some (leNum (r.take 2), 2 + 1) else none := by simp [getSize, msz, hr]
        have HG := Lib.hid hg; clear hg
        have hl1 : HB w (.slice (cutA (some a) c 1) r.length (c - 1)) r := by simpa using H.out.left.drop (a := 1) (by simp)
        have HL := Lib.hid hl1; clear hl1
        have HN := Lib.hid hn64; clear hn64
        go_enter Try.func148, Try.ntmps148
        go_wp2_with fail
        refine (number_any w.heap.size _ r 2 _ ⟨heap_alloc_new w _, HL.out.chg (S := []) ((Chg.refl _ _).alloc _) (by simp)⟩ (by omega) (by omega) (by omega)).mono ?_
        rintro e w1 ⟨rfl, hbl⟩
        rw [show Int.toNat 2 = 2 from rfl]
        have hbl' := Lib.hid (((Below.refl w.heap.size w).alloc (Nat.le_refl _) _).trans (hbl.mono (by simp)))
        by_cases hcm : compact (leNum (r.take 2)) = 2 + 1
        · have HC := Lib.hid hcm
          have hcb : ((compact (leNum (r.take 2)) : Int) == 2 + 1) = true := by simp; omega
          have hcb' : (compact (leNum (r.take 2)) : Int) = 3 := by omega
          clear hcm
          go_wp2_with (go_at_call 140; refine (compact_any _ _ HN.out).mono ?_; rw [hcb']; rintro e w2 ⟨rfl, rfl⟩)
          go_ret2
          exact ⟨by rw [HG.out, if_pos HC.out]; rfl, hbl'.out⟩
        · have HC := Lib.hid hcm
          have hcb' : ((compact (leNum (r.take 2)) : Int) == 3) = false := by simp; omega
          have hcb : (!((compact (leNum (r.take 2)) : Int) == 3)) = true := by rw [hcb']; rfl
          clear hcm
          go_wp2_with (go_at_call 140; refine (compact_any _ _ HN.out).mono ?_; rintro e w2 ⟨rfl, rfl⟩)
          go_ret2
          exact ⟨by rw [HG.out, if_neg HC.out]; rfl, hbl'.out⟩
    · replace hcf : w.cell? a = some (.int .u8 254) := hcf
      by_cases hr : r.length < 4
      · have hg : getSize (254 :: r) = none := by simp [getSize, msz, hr]
        have HG := Lib.hid hg; clear hg
        go_enter Try.func148, Try.ntmps148
        go_wp2_with fail
        go_ret2
        exact ⟨by rw [HG.out]; rfl, Below.refl _ _⟩
      · have hn64 := leNum_64 (r.take 4) (by simp; omega)
        have hg : getSize (254 :: r) = if compact (leNum (r.take 4)) = 4 + 1 then some (leNum (r.take 4), 4 + 1) else none := by simp [getSize, msz, hr]
        have HG := Lib.hid hg; clear hg
        have hl1 : HB w (.slice (cutA (some a) c 1) r.length (c - 1)) r := by simpa using H.out.left.drop (a := 1) (by simp)
        have HL := Lib.hid hl1; clear hl1
        have HN := Lib.hid hn64; clear hn64
        go_enter Try.func148, Try.ntmps148
        go_wp2_with fail
        refine (number_any w.heap.size _ r 4 _ ⟨heap_alloc_new w _, HL.out.chg (S := []) ((Chg.refl _ _).alloc _) (by simp)⟩ (by omega) (by omega) (by omega)).mono ?_
        rintro e w1 ⟨rfl, hbl⟩
        rw [show Int.toNat 4 = 4 from rfl]
        have hbl' := Lib.hid (((Below.refl w.heap.size w).alloc (Nat.le_refl _) _).trans (hbl.mono (by simp)))
        by_cases hcm : compact (leNum (r.take 4)) = 4 + 1
        · have HC := Lib.hid hcm
          have hcb : ((compact (leNum (r.take 4)) : Int) == 4 + 1) = true := by simp; omega
          have hcb' : (compact (leNum (r.take 4)) : Int) = 5 := by omega
          clear hcm
          go_wp2_with (go_at_call 140; refine (compact_any _ _ HN.out).mono ?_; rw [hcb']; rintro e w2 ⟨rfl, rfl⟩)
          go_ret2
          exact ⟨by rw [HG.out, if_pos HC.out]; rfl, hbl'.out⟩
        · have HC := Lib.hid hcm
          have hcb' : ((compact (leNum (r.take 4)) : Int) == 5) = false := by simp; omega
          have hcb : (!((compact (leNum (r.take 4)) : Int) == 5)) = true := by rw [hcb']; rfl
          clear hcm
          go_wp2_with (go_at_call 140; refine (compact_any _ _ HN.out).mono ?_; rintro e w2 ⟨rfl, rfl⟩)
          go_ret2
          exact ⟨by rw [HG.out, if_neg HC.out]; rfl, hbl'.out⟩
    · replace hcf : w.cell? a = some (.int .u8 255) := hcf
      by_cases hr : r.length < 8
      · have hg : getSize (255 :: r) = none := by simp [getSize, msz, hr]
        have HG := Lib.hid hg; clear hg
        go_enter Try.func148, Try.ntmps148
        go_wp2_with fail
        go_ret2
        exact ⟨by rw [HG.out]; rfl, Below.refl _ _⟩
      · have hn64 := leNum_64 (r.take 8) (by simp; omega)
        have hg : getSize (255 :: r) = if compact (leNum (r.take 8)) = 8 + 1 then some (leNum (r.take 8), 8 + 1) else none := by simp [getSize, msz, hr]
        have HG := Lib.hid hg; clear hg
        have hl1 : HB w (.slice (cutA (some a) c 1) r.length (c - 1)) r := by simpa using H.out.left.drop (a := 1) (by simp)
        have HL := Lib.hid hl1; clear hl1
        have HN := Lib.hid hn64; clear hn64
        go_enter Try.func148, Try.ntmps148
        go_wp2_with fail
        refine (number_any w.heap.size _ r 8 _ ⟨heap_alloc_new w _, HL.out.chg (S := []) ((Chg.refl _ _).alloc _) (by simp)⟩ (by omega) (by omega) (by omega)).mono ?_
        rintro e w1 ⟨rfl, hbl⟩
        rw [show Int.toNat 8 = 8 from rfl]
        have hbl' := Lib.hid (((Below.refl w.heap.size w).alloc (Nat.le_refl _) _).trans (hbl.mono (by simp)))
        by_cases hcm : compact (leNum (r.take 8)) = 8 + 1
        · have HC := Lib.hid hcm
          have hcb : ((compact (leNum (r.take 8)) : Int) == 8 + 1) = true := by simp; omega
          have hcb' : (compact (leNum (r.take 8)) : Int) = 9 := by omega
          clear hcm
          go_wp2_with (go_at_call 140; refine (compact_any _ _ HN.out).mono ?_; rw [hcb']; rintro e w2 ⟨rfl, rfl⟩)
          go_ret2
          exact ⟨by rw [HG.out, if_pos HC.out]; rfl, hbl'.out⟩
        · have HC := Lib.hid hcm
          have hcb' : ((compact (leNum (r.take 8)) : Int) == 9) = false := by simp; omega
          have hcb : (!((compact (leNum (r.take 8)) : Int) == 9)) = true := by rw [hcb']; rfl
          clear hcm
          go_wp2_with (go_at_call 140; refine (compact_any _ _ HN.out).mono ?_; rintro e w2 ⟨rfl, rfl⟩)
          go_ret2
          exact ⟨by rw [HG.out, if_neg HC.out]; rfl, hbl'.out⟩
    · have hg : getSize (f :: r) = some (f.toNat, 1) := by simp [getSize, hf]
      have HG := Lib.hid hg; clear hg
      have h1 : ((f.toNat : Int) == 253) = false := by simp; omega
      have h2 : ((f.toNat : Int) == 254) = false := by simp; omega
      have h3 : ((f.toNat : Int) == 255) = false := by simp; omega
      replace hcf : w.cell? a = some (.int .u8 (f.toNat : Int)) := hcf
      go_enter Try.func148, Try.ntmps148
      go_wp2_with fail
      go_ret2
      exact ⟨by rw [HG.out]; rfl, Below.refl _ _⟩
end
section
open Go.RowKit Go.Proofs

theorem getSize_some {xs : List UInt8} {n k : Nat} (h : getSize xs = some (n, k)) : 1 ≤ k ∧ k ≤ 9 ∧ k ≤ xs.length ∧ n < 18446744073709551616 := by
  cases xs with
  | nil => simp [getSize] at h
  | cons f r =>
    simp only [getSize] at h
    have hm := msz_le f
    have hf := f.toNat_lt
    split at h
    · simp only [Option.some.injEq, Prod.mk.injEq] at h; obtain ⟨rfl, rfl⟩ := h; simp only [List.length_cons]; omega
    · split at h
      · cases h
      · split at h
        · simp only [Option.some.injEq, Prod.mk.injEq] at h; obtain ⟨rfl, rfl⟩ := h
          have := leNum_64 (r.take (msz f)) (by simp; omega)
          simp only [List.length_cons]; omega
        · cases h

theorem Below.eye {w w' : World} {p : Nat} {u : Value} {xs : List UInt8} (hb : Below w.heap.size w w') (h : IsEye w p u xs) : EyeGo w w' p u u xs := ⟨h.below hb, Chg.of_belowS _ hb, rfl⟩

/-- The byte string that stands first, and how many bytes it has with its size. -/
def getBytes (most : Int) (xs : List UInt8) : Option (List UInt8 × Nat) :=
  match getSize xs with
  | some (n, k) => if most < 0 ∨ most < n ∨ xs.length - k < n then none else some ((xs.drop k).take n, k + n)
  | none => none
theorem getBytes_some {most : Int} {xs l : List UInt8} {m : Nat} (h : getBytes most xs = some (l, m)) : ∃ n k, getSize xs = some (n, k) ∧ l = (xs.drop k).take n ∧ m = k + n ∧ 0 ≤ most ∧ (n : Int) ≤ most ∧ k + n ≤ xs.length := by
  unfold getBytes at h
  split at h
  · rename_i n k hg
    split at h
    · cases h
    · rename_i hn
      simp only [Option.some.injEq, Prod.mk.injEq] at h
      have := getSize_some hg
      exact ⟨n, k, hg, h.1.symm, h.2.symm, by omega, by omega, by omega⟩
  · cases h

set_option maxHeartbeats 800000 in
set_option maxRecDepth 100000 in
theorem ebytes_ok (p : Nat) (u : Value) (xs l : List UInt8) (m : Nat) (most : Int) (w : World) (h : IsEye w p u xs) (hb : getBytes most xs = some (l, m)) (hmo : most ≤ 9223372036854775807) (hl : xs.length ≤ 70368744177664) :
    Calls Try.prog 143 #[.pointer (some ⟨p, 0, none⟩), .int .i64 most] w fun e w' => ∃ v' u', e = .returned (.tuple #[v', .int .i64 0]) ∧ w'.ownsRow w.heap.size 5 1 v' l.length (bs l) ∧ EyeGo w w' p u u' (xs.drop m) := by
  obtain ⟨n, k, hg, rfl, rfl, h0, hm, hx⟩ := getBytes_some hb
  obtain ⟨k1, k9, kx, hn⟩ := getSize_some hg
  have HN := Lib.hid hn; clear hn hb
  have HG := Lib.hid hg; clear hg
  have hc0 := h.cell0
  have hc1 := h.cell1
  have H := Lib.hid h
  obtain ⟨A, c, rfl, hlc⟩ := h.left.shape
  clear h
  have hs1 : ∀ W, (Instr.slice 28 (.slice A xs.length c) (some (.int .i64 (k : Int))) (some (.int .i64 ((k : Int) + (n : Int)))) none).run Try.prog W = .ok (.slice (cutA A c k) n (c - k)) W := by
    have := run_cut_lh 28 5 Try.underlying28 size5 A xs.length c k (k + n) (by omega) hx hlc
    intro W
    have := this W
    rw [show k + n - k = n by omega, Int.natCast_add] at this
    exact this
  have hs2 : ∀ W, (Instr.slice 28 (.slice A xs.length c) (some (.int .i64 ((k : Int) + (n : Int)))) none none).run Try.prog W = .ok (.slice (cutA A c (k + n)) (xs.length - (k + n)) (c - (k + n))) W := run_cut_l 28 5 Try.underlying28 size5 A xs.length c (k + n) hx
  have hw : IntKind.u64.wrap most = most := by rw [IntKind.wrap_u64]; omega
  have hk0 : ((k : Int) == 0) = false := by simp; omega
  have hll : ((xs.drop k).take n).length = n := by simp; omega
  have HLL := Lib.hid hll; clear hll
  go_enter Try.func143, Try.ntmps143
  go_wp2_with (first
    | (go_at_call 123; refine (shut_any p _ hc0).mono ?_; rintro e w1 ⟨rfl, rfl⟩)
    | (go_at_call 148; refine (esize_any p _ xs _ H.out).mono ?_; rw [HG.out]; rintro e w1 ⟨rfl, hbl⟩; dsimp only [sizeV]; have H1 := Lib.hid (H.out.below hbl); have hc1 := H1.out.cell1; have hf1 := H1.out.free 1))
  have hcut := H1.out.left.cut (a := k) (b := k + n) (by omega) hx
  rw [show k + n - k = n by omega] at hcut
  refine (clone_any _ _ _ hcut (by rw [HLL.out]; omega)).mono ?_
  rintro e w2 ⟨v', rfl, hown, hbl2⟩
  rw [HLL.out] at hown
  have H2 := Lib.hid (H1.out.below hbl2); have hc1 := H2.out.cell1; have hf1 := H2.out.free 1
  have HO := Lib.hid hown
  clear hown hcut
  go_wp2_with fail
  go_ret2
  have HE := H2.out.cut (k := k + n) hx
  have hlo := HO.out.lt
  have hpl := blk_lt H1.out.blk
  have h9 := own_chg (own_base HO.out (fun k hk => Nat.le_trans hbl.size (hlo k hk).1)) HE.chg (fun k hk => by have := (hlo k hk).1; simp; omega)
  refine ⟨v', _, rfl, ?_, HE.eye, ((Chg.of_belowS [p] hbl).trans (Chg.of_belowS [p] hbl2) (fun k hk => .inl hk)).trans HE.chg (fun k hk => .inl hk), HE.same⟩
  rw [HLL.out]; exact h9

set_option maxHeartbeats 800000 in
set_option maxRecDepth 100000 in
theorem ebytes_bad (p : Nat) (u : Value) (xs : List UInt8) (most : Int) (w : World) (h : IsEye w p u xs) (hb : getBytes most xs = none) (hmo : most ≤ 9223372036854775807) (hl : xs.length ≤ 70368744177664) :
    Calls Try.prog 143 #[.pointer (some ⟨p, 0, none⟩), .int .i64 most] w fun e w' => e = .returned (.tuple #[.slice none 0 0, .int .i64 10]) ∧ Below w.heap.size w w' := by
  have hc0 := h.cell0
  have hc1 := h.cell1
  have H := Lib.hid h
  obtain ⟨A, c, rfl, hlc⟩ := h.left.shape
  clear h
  rcases hg : getSize xs with _ | ⟨n, k⟩
  · have HG := Lib.hid hg; clear hg hb
    go_enter Try.func143, Try.ntmps143
    go_wp2_with (first
      | (go_at_call 123; refine (shut_any p _ hc0).mono ?_; rintro e w1 ⟨rfl, rfl⟩)
      | (go_at_call 148; refine (esize_any p _ xs _ H.out).mono ?_; rw [HG.out]; rintro e w1 ⟨rfl, hbl⟩; dsimp only [sizeV]; have H1 := Lib.hid (H.out.below hbl); have hc1 := H1.out.cell1))
    go_ret2
    exact ⟨rfl, hbl⟩
  · obtain ⟨k1, k9, kx, hn⟩ := getSize_some hg
    have hcase : most < 0 ∨ (0 ≤ most ∧ most < n) ∨ (0 ≤ most ∧ (n : Int) ≤ most ∧ xs.length - k < n) := by
      simp only [getBytes, hg] at hb
      split at hb
      · rename_i hh
        by_cases h0 : most < 0
        · exact .inl h0
        · rcases hh with h1 | h1 | h1
          · exact absurd h1 h0
          · exact .inr (.inl ⟨by omega, h1⟩)
          · by_cases h2 : most < n
            · exact .inr (.inl ⟨by omega, h2⟩)
            · exact .inr (.inr ⟨by omega, by omega, h1⟩)
      · cases hb
    have hk0 : ((k : Int) == 0) = false := by simp; omega
    have HN := Lib.hid hn; clear hn
    have HG := Lib.hid hg; clear hg hb
    rcases hcase with hc | ⟨h0, hc⟩ | ⟨h0, hm, hc⟩
    · go_enter Try.func143, Try.ntmps143
      go_wp2_with (first
        | (go_at_call 123; refine (shut_any p _ hc0).mono ?_; rintro e w1 ⟨rfl, rfl⟩)
        | (go_at_call 148; refine (esize_any p _ xs _ H.out).mono ?_; rw [HG.out]; rintro e w1 ⟨rfl, hbl⟩; dsimp only [sizeV]; have H1 := Lib.hid (H.out.below hbl); have hc1 := H1.out.cell1))
      go_ret2
      exact ⟨rfl, hbl⟩
    · have hw : IntKind.u64.wrap most = most := by rw [IntKind.wrap_u64]; omega
      go_enter Try.func143, Try.ntmps143
      go_wp2_with (first
        | (go_at_call 123; refine (shut_any p _ hc0).mono ?_; rintro e w1 ⟨rfl, rfl⟩)
        | (go_at_call 148; refine (esize_any p _ xs _ H.out).mono ?_; rw [HG.out]; rintro e w1 ⟨rfl, hbl⟩; dsimp only [sizeV]; have H1 := Lib.hid (H.out.below hbl); have hc1 := H1.out.cell1))
      go_ret2
      exact ⟨rfl, hbl⟩
    · have hw : IntKind.u64.wrap most = most := by rw [IntKind.wrap_u64]; omega
      have hc' : ((xs.length : Int) - (k : Int)) < (n : Int) := by omega
      go_enter Try.func143, Try.ntmps143
      go_wp2_with (first
        | (go_at_call 123; refine (shut_any p _ hc0).mono ?_; rintro e w1 ⟨rfl, rfl⟩)
        | (go_at_call 148; refine (esize_any p _ xs _ H.out).mono ?_; rw [HG.out]; rintro e w1 ⟨rfl, hbl⟩; dsimp only [sizeV]; have H1 := Lib.hid (H.out.below hbl); have hc1 := H1.out.cell1))
      go_ret2
      exact ⟨rfl, hbl⟩
end
end Go.Proofs.Yteljmpoaggfliaa
