/- Contracts and words that the laws stand on (OctA). -/
import Derived.Test.YteljmpoaggfliaaShelf
import Derived.Deep.RegionHeld3
import Derived.Deep.RegionLaw
import Derived.Test.YteljmpoaggfliaaBase
set_option linter.unusedVariables false
set_option linter.unusedSimpArgs false
namespace Go.Proofs.Yteljmpoaggfliaa
section
open Go.RowKit Go.Proofs

theorem u8_info : (Try.prog.info? 5).map (fun i => (i.zero, i.size, i.bytes)) = some (some (.int .u8 0), 1, 1) := by kernel_rfl

def le : Nat → Nat → List UInt8
  | 0, _ => []
  | k + 1, n => UInt8.ofNat (n % 256) :: le k (n / 256)
theorem le_length (k n : Nat) : (le k n).length = k := by
  induction k generalizing n with
  | zero => rfl
  | succ k ih => simp [le, ih]
theorem le_snoc (k n : Nat) : le (k + 1) n = le k n ++ [UInt8.ofNat (n / 256 ^ k % 256)] := by
  induction k generalizing n with
  | zero => simp [le]
  | succ k ih =>
    rw [le, ih (n / 256), le]
    simp [Nat.div_div_eq_div_mul, Nat.pow_succ, Nat.mul_comm]

def PutRel (w : World) (p : Nat) (v : Value) (xs : List UInt8) (n size : Nat) (s2 s7 : Value) (wr : World) : Prop :=
  ∃ k v', k ≤ size ∧ s7 = .int .i64 (k : Int) ∧ s2 = .int .u64 ((n / 256 ^ k : Nat) : Int) ∧ IsPen wr p v' (xs ++ le k n) ∧ Chg (p :: v.ownBlock.toList) w wr ∧ Nx w v v'

theorem u8_cell (m : Nat) : (Value.int .u8 ((m : Int) % 256)) = .int .u8 ((UInt8.ofNat (m % 256)).toNat : Int) := by
  congr 1
  simp

set_option maxHeartbeats 1000000 in
set_option maxRecDepth 100000 in
theorem put_any (p : Nat) (size n : Nat) (v : Value) (xs : List UInt8) (w : World) (hp : IsPen w p v xs) (hs : size ≤ 8) (hn : n < 18446744073709551616) (hb : xs.length + size ≤ 70368744177664) :
    Calls Try.prog 120 #[.pointer (some ⟨p, 0, none⟩), .int .i64 (size : Int), .int .u64 (n : Int)] w fun e w' => e = .returned (.tuple #[]) ∧
      ∃ v', IsPen w' p v' (xs ++ le size n) ∧ Chg (p :: v.ownBlock.toList) w w' ∧ Nx w v v' := by
  have Hn := Lib.hid hn; clear hn
  go_enter Try.func120, Try.ntmps120
  go_wp2
  go_loopw [2, 7] (fun s2 s7 wr => PutRel w p v xs n size s2 s7 wr) (fun _ s7 _ => size - (intOf s7).toNat)
  case atStart =>
    exact ⟨0, v, Nat.zero_le _, rfl, by simp, by simpa [le] using hp, Chg.refl _ _, .inl rfl⟩
  case round =>
    obtain ⟨k, v', hk, rfl, rfl, hp1, hc1, hv1⟩ := hrel
    have hl := le_length k n
    generalize hm : n / 256 ^ k = m
    have Hm := Lib.hid hm; clear hm
    have hc := blk_cell hp1.blk 0
    have hf := blk_free hp1.blk 0
    simp at hc
    by_cases hlt : k < size
    · go_wp2_with (at_builtin; refine wpl_push 0 rfl _ _ 28 5 (.int .u8 0) 1 rfl Try.underlying28 u8_info rfl (by decide) v' (bs (xs ++ le k n)) _ rfl rfl rfl (by simpa using hp1.row) (Nat.zero_le _) ?c1 ?_)
      case c1 => simp; omega
      intro v1 w1 hown hg hnx
      have hb1 : w1.heap[p]? = some (.cells #[v'] 96 (0, 0)) := (hg.block p (blk_lt hp1.blk) (fun e => hp1.ne e.symm)).trans hp1.blk
      have hc1' := blk_cell hb1 0
      have hf1' := blk_free hb1 0
      obtain ⟨A1, c1, rfl⟩ := own_slice hown
      have hy : bs (xs ++ le (k + 1) n) = bs (xs ++ le k n) ++ [Value.int .u8 ((m : Int) % 256)] := by
        rw [le_snoc, Hm.out, ← List.append_assoc, bs_append, u8_cell]; rfl
      have hyl : (xs ++ le (k + 1) n).length = xs.length + k + 1 := by simp [le_length]; omega
      have HS := Lib.hid (hp1.step (ys := xs ++ le (k + 1) n) hg (by rw [hyl, hy]; exact hown))
      clear hy hyl
      go_wp2
      go_roundw
      case rel =>
        refine ⟨k + 1, _, by omega, by go_num, ?_, HS.out, ?_, hv1.trans hnx hc1.size⟩
        · rw [Nat.pow_succ, ← Nat.div_div_eq_div_mul, Hm.out]; simp
        · refine (hc1.grown hg ?_).setCell (.inl (by simp)) _
          exact hv1.mem (fun k hk => by simp [hk])
      case measure => simp [intOf]; omega
    · go_wp2
      obtain rfl : k = size := by omega
      go_end0
      exact ⟨rfl, v', hp1, hc1, hv1⟩
end
section
open Go.RowKit Go.Proofs

def wideB (k : Int) : Bool := k == 1 || k == 2 || k == 4 || k == 8
def goesB (n : Nat) (k : Nat) : Bool := decide (n < 256 ^ k)
def compact (n : Nat) : Nat := if n < 253 then 1 else if n < 65536 then 3 else if n < 4294967296 then 5 else 9

theorem ret_bool {a b : Bool} (h : a = b) : Ending.returned (.bool a) = .returned (.bool b) := by rw [h]
theorem ret_int {k : IntKind} {a b : Int} (h : a = b) : Ending.returned (.int k a) = .returned (.int k b) := by rw [h]

theorem wide_bits (k : Int) (h0 : 0 < k) (h8 : k ≤ 8) : (bits BinOp.and IntKind.i64 k (k - 1) == 0) = wideB k := by
  have : k = 1 ∨ k = 2 ∨ k = 3 ∨ k = 4 ∨ k = 5 ∨ k = 6 ∨ k = 7 ∨ k = 8 := by omega
  rcases this with rfl | rfl | rfl | rfl | rfl | rfl | rfl | rfl <;> decide

set_option maxHeartbeats 400000 in
set_option maxRecDepth 100000 in
theorem wide_any (k : Int) (w : World) :
    Calls Try.prog 118 #[.int .i64 k] w fun e w' => e = .returned (.bool (wideB k)) ∧ w = w' := by
  go_enter Try.func118, Try.ntmps118
  go_wp2
  · go_ret
    exact ⟨ret_bool (wide_bits k ‹_› ‹_›), rfl⟩
  · go_ret
    refine ⟨ret_bool ?_, rfl⟩
    have : 8 < k := by assumption
    simp [wideB]; omega
  · go_ret
    refine ⟨ret_bool ?_, rfl⟩
    have : k ≤ 0 := by assumption
    simp [wideB]; omega

set_option maxHeartbeats 400000 in
set_option maxRecDepth 100000 in
theorem goes_any (n : Nat) (k : Int) (w : World) (hk : wideB k = true) (hn : n < 18446744073709551616) :
    Calls Try.prog 119 #[.int .u64 n, .int .i64 k] w fun e w' => e = .returned (.bool (goesB n k.toNat)) ∧ w = w' := by
  have hk' : k = 1 ∨ k = 2 ∨ k = 4 ∨ k = 8 := by simp [wideB] at hk; omega
  clear hk
  have Hn := Lib.hid hn; clear hn
  rcases hk' with rfl | rfl | rfl | rfl
  all_goals
    go_enter Try.func119, Try.ntmps119
    go_wp2
    go_ret
    refine ⟨ret_bool ?_, rfl⟩
    have := Hn.out
    rw [goesB, Bool.eq_iff_iff]
    simp
    omega

theorem goesB_iff (n k : Nat) : goesB n k = true ↔ n < 256 ^ k := by simp [goesB]
theorem goesB_not (n k : Nat) : goesB n k = false ↔ ¬ n < 256 ^ k := by simp [goesB]

set_option maxHeartbeats 400000 in
set_option maxRecDepth 100000 in
theorem compact_any (n : Nat) (w : World) (hn : n < 18446744073709551616) :
    Calls Try.prog 140 #[.int .u64 n] w fun e w' => e = .returned (.int .i64 (compact n)) ∧ w = w' := by
  have Hn := Lib.hid hn; clear hn
  go_enter Try.func140, Try.ntmps140
  go_wp2_with (go_at_call 119; refine (goes_any n _ _ (by decide) Hn.out).mono ?_; rintro e w' ⟨rfl, rfl⟩)
  all_goals
    go_ret
    refine ⟨ret_int ?_, rfl⟩
    try simp only [goesB_iff, goesB_not] at *
    try simp only [Int.toNat_ofNat, Nat.reducePow] at *
    unfold compact
    repeat' split
    all_goals first | rfl | omega
end
section
open Go.RowKit Go.Proofs

set_option maxHeartbeats 400000 in
set_option maxRecDepth 100000 in
theorem clone_any (v : Value) (xs : List UInt8) (w : World) (h : HB w v xs) (hl : xs.length ≤ 70368744177664) :
    Calls Try.prog 78 #[v] w fun e w' => ∃ v', e = .returned v' ∧ w'.ownsRow w.heap.size 5 1 v' xs.length (bs xs) ∧ Below w.heap.size w w' := by
  have q29 : ∀ (w : World) (a : Option Addr) (n c n' c' : Nat), (binOp .eql 28 (.slice a n c) (.slice none n' c')).run Try.prog w = .ok (.bool a.isNone) w := fun w a n c n' c' => Lib.run_eql_slice_nil w _ _ a n c n' c' Try.underlying28
  have H := Lib.hid h
  obtain ⟨A, c, rfl, h0, h1, h2⟩ := h
  clear h2 h0
  rcases A with _ | a
  · obtain rfl := h1 rfl
    clear h1
    go_enter Try.func78, Try.ntmps78
    go_wp2
    go_ret
    exact ⟨_, rfl, World.ownsRow_nil _ _ _ _, Below.refl _ _⟩
  · clear h1
    go_enter Try.func78, Try.ntmps78
    go_wp2_with (at_builtin; refine wpl_pushes _ rfl (.tmp 5) (.tmp 6) 28 rfl w.heap.size 5 Try.underlying28 u8_info _ [] xs _ rfl rfl ?c1 ?c2 ?c3 ?c4 ?_)
    case c1 => exact World.ownsRow_made w #[] 0 (Nat.le_refl _) (Nat.zero_le _) rfl
    case c2 => exact HB.chg (S := []) H.out ((Chg.refl _ _).alloc _) (by simp)
    case c3 => simp; omega
    case c4 => simp
    intro v1 w1 hown hg _
    go_wp2
    go_ret
    exact ⟨_, rfl, by simpa using hown, ((Below.refl _ w).alloc (Nat.le_refl _) _).grown hg (by simp) (by intro k hk; simp [Value.ownBlock] at hk; omega)⟩

def fixedE (k : Int) (n : Nat) : Int := if wideB k = false then 2 else if goesB n k.toNat = false then 10 else 0
def fixedB (k : Int) (n : Nat) : List UInt8 := if fixedE k n = 0 then le k.toNat n else []
/-- A pen has gone on. -/
structure PenGo (w w' : World) (p : Nat) (v v' : Value) (ys : List UInt8) : Prop where
  pen : IsPen w' p v' ys
  chg : Chg (p :: v.ownBlock.toList) w w'
  nx : Nx w v v'
theorem PenGo.refl {w : World} {p : Nat} {v : Value} {ys : List UInt8} (h : IsPen w p v ys) : PenGo w w p v v ys := ⟨h, Chg.refl _ _, .inl rfl⟩
theorem PenGo.trans {w w1 w2 : World} {p : Nat} {v v1 v2 : Value} {ys zs : List UInt8} (h : PenGo w w1 p v v1 ys) (h' : PenGo w1 w2 p v1 v2 zs) : PenGo w w2 p v v2 zs :=
  ⟨h'.pen, h.chg.trans h'.chg (fun k hk => by
    simp only [List.mem_cons, Option.mem_toList] at hk
    rcases hk with rfl | hk
    · exact .inl (by simp)
    · exact h.nx.mem (fun k hk => by simp [hk]) k hk), h.nx.trans h'.nx h.chg.size⟩

set_option maxHeartbeats 400000 in
set_option maxRecDepth 100000 in
theorem fixed_any (p : Nat) (k : Int) (n : Nat) (v : Value) (xs : List UInt8) (w : World) (hp : IsPen w p v xs) (hn : n < 18446744073709551616) (hb : xs.length + 8 ≤ 70368744177664) :
    Calls Try.prog 60 #[.pointer (some ⟨p, 0, none⟩), .int .i64 k, .int .u64 n] w fun e w' => e = .returned (.int .i64 (fixedE k n)) ∧ ∃ v', PenGo w w' p v v' (xs ++ fixedB k n) := by
  have Hn := Lib.hid hn; clear hn
  have Hp := Lib.hid hp; clear hp
  by_cases hk : wideB k = true
  · obtain ⟨m, rfl⟩ : ∃ m : Nat, k = m := ⟨k.toNat, by simp [wideB] at hk; omega⟩
    have hm : m ≤ 8 := by simp [wideB] at hk; omega
    have hk1 : fixedE m n = if goesB n m = false then 10 else 0 := by simp [fixedE, hk]
    by_cases hg : goesB n m = true
    · have h0 : fixedE m n = 0 := by simp [hk1, hg]
      have h1 : fixedB m n = le m n := by simp [fixedB, h0]
      have H0 := Lib.hid h0; have H1 := Lib.hid h1; clear h0 h1 hk1
      go_enter Try.func60, Try.ntmps60
      go_wp2_with (first
        | (go_at_call 118; refine (wide_any _ _).mono ?_; rintro e w' ⟨rfl, rfl⟩)
        | (go_at_call 119; refine (goes_any n _ _ hk Hn.out).mono ?_; rintro e w' ⟨rfl, rfl⟩)
        | (go_at_call 120; refine (put_any p m n v xs _ Hp.out hm Hn.out (by omega)).mono ?_; rintro e w' ⟨rfl, v', hp', hc', hx'⟩))
      go_ret
      exact ⟨by rw [H0.out]; rfl, v', by rw [H1.out]; exact ⟨hp', hc', hx'⟩⟩
    · simp only [Bool.not_eq_true] at hg
      have h0 : fixedE m n = 10 := by simp [hk1, hg]
      have h1 : fixedB m n = [] := by simp [fixedB, h0]
      have H0 := Lib.hid h0; have H1 := Lib.hid h1; clear h0 h1 hk1
      go_enter Try.func60, Try.ntmps60
      go_wp2_with (first
        | (go_at_call 118; refine (wide_any _ _).mono ?_; rintro e w' ⟨rfl, rfl⟩)
        | (go_at_call 119; refine (goes_any n _ _ hk Hn.out).mono ?_; rintro e w' ⟨rfl, rfl⟩))
      go_ret
      exact ⟨by rw [H0.out]; rfl, v, by rw [H1.out, List.append_nil]; exact PenGo.refl Hp.out⟩
  · simp only [Bool.not_eq_true] at hk
    have h0 : fixedE k n = 2 := by simp [fixedE, hk]
    have h1 : fixedB k n = [] := by simp [fixedB, h0]
    have H0 := Lib.hid h0; have H1 := Lib.hid h1; clear h0 h1
    go_enter Try.func60, Try.ntmps60
    go_wp2_with (go_at_call 118; refine (wide_any _ _).mono ?_; rintro e w' ⟨rfl, rfl⟩)
    go_ret
    exact ⟨by rw [H0.out]; rfl, v, by rw [H1.out, List.append_nil]; exact PenGo.refl Hp.out⟩
end
section
open Go.RowKit Go.Proofs

/-- A slice of byte strings that is read. -/
def Parts (w : World) (v : Value) (ls : List (List UInt8)) : Prop :=
  ∃ A c, v = .slice A ls.length c ∧ ls.length ≤ c ∧ (ls ≠ [] → ∃ b o vs, A = some ⟨b, o, none⟩ ∧ Lib.PartsAt w ⟨b, o, none⟩ vs ls)

theorem IsPen.cell {w : World} {p : Nat} {v : Value} {xs : List UInt8} (h : IsPen w p v xs) : w.cell? ⟨p, 0, none⟩ = some v := blk_cell h.blk 0
theorem Parts.drew {w : World} {v : Value} {ls : List (List UInt8)} (h : Parts w v ls) : Parts w.drew v ls := h
theorem HB.of_fresh {B : Nat} {w : World} {v : Value} {l : List UInt8} (h : Lib.FreshBytes B w v l) : HB w v l ∧ ∀ k, v.ownBlock = some k → B ≤ k := by
  obtain ⟨g, cap, zs, rfl, hg, hlc, hcm, hzl, hr, hb, hc, hf⟩ := h
  refine ⟨⟨some ⟨g, 0, none⟩, cap, rfl, hlc, (fun e => by cases e), fun a ha i x hx => ?_⟩, fun k hk => ?_⟩
  · injection ha with ha
    subst ha
    have hi : i < l.length := (List.getElem?_eq_some_iff.1 hx).1
    have e : (⟨g, 0, none⟩ : Addr).add i = ⟨g, i, none⟩ := by unfold Addr.add; split <;> simp_all
    rw [e, hc i (by omega)]
    rw [← hb] at hx
    simp only [Lib.bytesOf, List.getElem?_map, List.getElem?_take, Option.map_eq_some_iff] at hx
    obtain ⟨y, hy, rfl⟩ := hx
    rw [if_pos hi] at hy
    have hm := hr y (List.mem_of_getElem? hy)
    have : zs.getD i 0 = y := by simp [List.getD, hy]
    rw [this]
    congr 2
    simp
    omega
  · have : g = k := by simpa [Value.ownBlock] using hk
    omega

theorem lens_flatten (ls : List (List UInt8)) : Lib.lens ls = ls.flatten.length := by
  simp [Lib.lens, List.length_flatten]
theorem join_nil (ls : List (List UInt8)) : Lib.join ls [] = ls.flatten := by
  induction ls with
  | nil => rfl
  | cons x r ih =>
    cases r with
    | nil => simp [Lib.join, List.intercalate]
    | cons y r => 
      simp only [Lib.join, List.intercalate, List.intersperse, List.flatten_cons, List.nil_append] at ih ⊢
      rw [ih]

theorem join_any (v : Value) (ls : List (List UInt8)) (w : World) (h : Parts w v ls) (hl : ls.flatten.length ≤ 140737488355328) (hn : ls.length ≤ 140737488355328) :
    Calls Try.prog 141 #[v, .slice none 0 0] w fun e w' => ∃ v', e = .returned v' ∧ HB w' v' ls.flatten ∧ (∀ k, v'.ownBlock = some k → w.heap.size ≤ k) ∧ Below w.heap.size w w' := by
  obtain ⟨A, c, rfl, hc, h⟩ := h
  match ls, h, hl, hn, hc with
  | [], _, _, _, _ =>
    refine (Try.bytes_Join_none A c (.slice none 0 0) w).mono ?_
    rintro e w' ⟨rfl, rfl⟩
    exact ⟨_, rfl, HB.nil _ _ _, (fun k hk => by simp [Value.ownBlock] at hk; omega), (Below.refl _ w).alloc (Nat.le_refl _) _⟩
  | [l0], h, hl, _, _ =>
    obtain ⟨b, o, vs, rfl, hP⟩ := h (by simp)
    obtain ⟨p, cap, l, hl0, hcell, hnil, hcells⟩ := hP.get 0 (by simp)
    simp at hl0
    subst hl0
    have hz : (⟨b, o, none⟩ : Addr).add 0 = ⟨b, o, none⟩ := by simp [Addr.add]
    rw [hz] at hcell
    by_cases h0 : l0 = []
    · subst h0
      refine (Try.bytes_Join_one_empty b o c p cap (.slice none 0 0) w hcell).mono ?_
      rintro e w' ⟨rfl, rfl⟩
      exact ⟨_, rfl, HB.nil _ _ _, (fun k hk => by simp [Value.ownBlock] at hk), Below.refl _ _⟩
    · rcases p with _ | a
      · exact absurd (hnil rfl) h0
      · refine (Try.bytes_Join_one b o c a cap l0 (.slice none 0 0) w hcell (hcells a rfl) (List.length_pos_iff.2 h0) (by simpa using hl)).mono ?_
        rintro e w' ⟨v', rfl, hf, hb⟩
        exact ⟨v', rfl, by simpa using (HB.of_fresh hf).1, (HB.of_fresh hf).2, hb⟩
  | x :: y :: r, h, hl, hn, hc =>
    obtain ⟨b, o, vs, rfl, hP⟩ := h (by simp)
    refine (Try.bytes_Join_many b o _ c vs (x :: y :: r) (.slice none 0 0) [] w rfl (by simp) hP hc (HB.nil _ _ _).holds hn (by rw [lens_flatten]; simpa using hl)).mono ?_
    rintro e w' ⟨v', rfl, hf, hb⟩
    rw [join_nil] at hf
    exact ⟨v', rfl, (HB.of_fresh hf).1, (HB.of_fresh hf).2, hb⟩

set_option maxHeartbeats 800000 in
set_option maxRecDepth 100000 in
theorem raw_any (p : Nat) (u v : Value) (ls : List (List UInt8)) (xs : List UInt8) (w : World) (hp : IsPen w p v xs) (hu : Parts w u ls) (hl : xs.length + ls.flatten.length ≤ 70368744177664) (hn : ls.length ≤ 70368744177664) :
    Calls Try.prog 94 #[.pointer (some ⟨p, 0, none⟩), u] w fun e w' => e = .returned (.int .i64 0) ∧ ∃ v', PenGo w w' p v v' (xs ++ ls.flatten) := by
  have hc := blk_cell hp.blk 0
  have hf := blk_free hp.blk 0
  simp at hc
  have hpl := blk_lt hp.blk
  have Hp := Lib.hid hp
  clear hp
  go_enter Try.func94, Try.ntmps94
  go_wp2_with fail
  go_region_law (first | (refine step_pushes _ rfl (.tmp 11) (.tmp 13) 28 rfl 0 5 Try.underlying28 u8_info v xs ls.flatten _ rfl rfl ?_ hb1 ?_ (Nat.zero_le _) ?_; (exact Hp1.out.row); omega; generalize hzs : xs ++ ls.flatten = zs; intro v1 w2 hown2 hg2 hnx2; have Hz := Lib.hid hzs; clear hzs; obtain ⟨A1, cc1, rfl⟩ := own_slice hown2; have hb2 : w2.heap[p]? = some (.cells #[v] 96 (0, 0)) := (hg2.block p (blk_lt Hp1.out.blk) (fun e => Hp1.out.ne e.symm)).trans Hp1.out.blk; have hc2 := blk_cell hb2 0; have hf2 := blk_free hb2 0) | (go_simp; go_at_call 141; refine (join_any u ls _ hu.drew (by omega) (by omega)).mono ?_; rintro e w1 ⟨u1, rfl, hb1, hfr1, hbl1⟩; have Hp1 := Lib.hid ((Hp.out.drew).below hbl1); have hc1 := Hp1.out.cell))
  all_goals
    have HS := Lib.hid (Hp1.out.step hg2 hown2)
    have HC := Lib.hid (((Chg.refl (p :: v.ownBlock.toList) w).drew.trans (Chg.of_below hbl1) (by simp)).grown hg2 (by intro k hk; simp [hk]))
    have HX := Lib.hid ((Nx.refl w v).trans hnx2 hbl1.size)
    go_wp2
    go_ret
    exact ⟨rfl, _, by rw [Hz.out]; exact HS.out, HC.out.setCell (.inl (by simp)) _, HX.out⟩
end
section
open Go.RowKit Go.Proofs

/-- A compact size's bytes. -/
def csize (n : Nat) : List UInt8 :=
  if n < 253 then [UInt8.ofNat n] else if n < 65536 then 253 :: le 2 n else if n < 4294967296 then 254 :: le 4 n else 255 :: le 8 n
theorem csize_length (n : Nat) : (csize n).length = compact n := by
  unfold csize compact; repeat' split
  all_goals simp [le_length]

/-- A number of 64 bits. -/
def U64 (n : Int) : Prop := 0 ≤ n ∧ n < 18446744073709551616
theorem U64.nat {n : Int} (h : U64 n) : ∃ m : Nat, n = m ∧ m < 18446744073709551616 := ⟨n.toNat, by have := h.1; omega, by have := h.1; have := h.2; omega⟩
theorem U64.of {m : Nat} (h : m < 18446744073709551616) : U64 m := ⟨by omega, by omega⟩

theorem putI (p : Nat) (size n : Int) (v : Value) (xs : List UInt8) (w : World) (hp : IsPen w p v xs) (h0 : 0 ≤ size) (hs : size ≤ 8) (hn : U64 n) (hb : xs.length + 8 ≤ 70368744177664) :
    Calls Try.prog 120 #[.pointer (some ⟨p, 0, none⟩), .int .i64 size, .int .u64 n] w fun e w' => e = .returned (.tuple #[]) ∧ ∃ v', PenGo w w' p v v' (xs ++ le size.toNat n.toNat) := by
  obtain ⟨m, rfl, hm⟩ := hn.nat
  obtain ⟨k, rfl⟩ := Int.eq_ofNat_of_zero_le h0
  refine (put_any p k m v xs w hp (by omega) hm (by omega)).mono ?_
  rintro e w' ⟨rfl, v', h1, h2, h3⟩
  exact ⟨rfl, v', h1, h2, h3⟩

theorem csize_cases (n : Nat) : (compact n = 1 ∧ csize n = le 1 n) ∨ (compact n = 3 ∧ csize n = le 1 253 ++ le 2 n) ∨ (compact n = 5 ∧ csize n = le 1 254 ++ le 4 n) ∨ (compact n = 9 ∧ csize n = le 1 255 ++ le 8 n) := by
  unfold compact csize
  repeat' split
  · refine .inl ⟨rfl, ?_⟩
    rw [le, le, Nat.mod_eq_of_lt (by omega)]
  · exact .inr (.inl ⟨rfl, rfl⟩)
  · exact .inr (.inr (.inl ⟨rfl, rfl⟩))
  · exact .inr (.inr (.inr ⟨rfl, rfl⟩))

set_option maxHeartbeats 400000 in
set_option maxRecDepth 100000 in
theorem psize_any (p : Nat) (n : Int) (v : Value) (xs : List UInt8) (w : World) (hp : IsPen w p v xs) (hn : U64 n) (hb : xs.length + 9 ≤ 70368744177664) :
    Calls Try.prog 93 #[.pointer (some ⟨p, 0, none⟩), .int .u64 n] w fun e w' => e = .returned (.int .i64 0) ∧ ∃ v', PenGo w w' p v v' (xs ++ csize n.toNat) := by
  obtain ⟨m, rfl, hm⟩ := hn.nat
  have Hm := Lib.hid hm; clear hm hn
  have Hp := Lib.hid hp; clear hp
  rw [Int.toNat_natCast]
  rcases csize_cases m with ⟨h, he⟩ | ⟨h, he⟩ | ⟨h, he⟩ | ⟨h, he⟩
  · have He := Lib.hid he; clear he
    go_enter Try.func93, Try.ntmps93
    go_wp2_with (go_at_call 140; refine (compact_any m _ Hm.out).mono ?_; rw [h]; rintro e w' ⟨rfl, rfl⟩)
    refine (putI p 1 m v xs _ Hp.out (by omega) (by omega) (U64.of Hm.out) (by omega)).mono ?_
    rintro e w' ⟨rfl, v1, h1⟩
    go_wp2_with fail
    go_ret
    exact ⟨rfl, v1, by rw [He.out]; exact h1⟩
  all_goals
    have He := Lib.hid he; clear he
    go_enter Try.func93, Try.ntmps93
    go_wp2_with (go_at_call 140; refine (compact_any m _ Hm.out).mono ?_; rw [h]; rintro e w' ⟨rfl, rfl⟩)
    refine (putI p 1 _ v xs _ Hp.out (by omega) (by omega) (by exact ⟨by omega, by omega⟩) (by omega)).mono ?_
    rintro e w' ⟨rfl, v1, h1⟩
    go_wp2_with fail
    refine (putI p _ m v1 _ _ h1.pen (by omega) (by omega) (U64.of Hm.out) (by simp [le_length]; omega)).mono ?_
    rintro e w' ⟨rfl, v2, h2⟩
    go_wp2_with fail
    go_ret
    exact ⟨rfl, v2, by rw [He.out, ← List.append_assoc]; exact h1.trans h2⟩

set_option maxHeartbeats 400000 in
set_option maxRecDepth 100000 in
theorem pall_any (p : Nat) (v : Value) (xs : List UInt8) (w : World) (hp : IsPen w p v xs) (hb : xs.length ≤ 70368744177664) :
    Calls Try.prog 61 #[.pointer (some ⟨p, 0, none⟩)] w fun e w' => ∃ v', e = .returned v' ∧ w'.ownsRow w.heap.size 5 1 v' xs.length (bs xs) ∧ Below w.heap.size w w' := by
  have hc := hp.cell
  have HB0 := Lib.hid (HB.of_own hp.row)
  clear hp
  go_enter Try.func61, Try.ntmps61
  go_wp2_with (go_at_call 78; refine (clone_any _ xs _ HB0.out hb).mono ?_; rintro e w' ⟨v', rfl, hown, hbl⟩)
  go_ret
  exact ⟨_, rfl, hown, hbl⟩

theorem Parts.one {w : World} {u : Value} {ys : List UInt8} (h : HB w u ys) (t : TypeId) : Parts (w.alloc (.cells #[u] t)) (.slice (some ⟨w.heap.size, 0, none⟩) 1 1) [ys] := by
  refine ⟨_, _, rfl, Nat.le_refl _, fun _ => ⟨w.heap.size, 0, [u], rfl, rfl, ?_, ?_⟩⟩
  · exact World.news_of_block (cs := #[u]) (t := t) (fr := (0, 0)) (heap_alloc_new w _)
  · intro i v l h1 h2
    have : i = 0 := by have := (List.getElem?_eq_some_iff.1 h1).1; simpa using this
    subst this
    simp at h1 h2
    subst h1 h2
    exact (h.chg (S := []) ((Chg.refl _ _).alloc _) (by simp)).holds
set_option maxHeartbeats 400000 in
set_option maxRecDepth 100000 in
theorem pbytes_any (p : Nat) (u v : Value) (ys xs : List UInt8) (w : World) (hp : IsPen w p v xs) (hu : HB w u ys) (hl : xs.length + ys.length + 9 ≤ 70368744177664) (hu0 : ∀ k, u.ownBlock = some k → k ∉ p :: v.ownBlock.toList) :
    Calls Try.prog 95 #[.pointer (some ⟨p, 0, none⟩), u] w fun e w' => e = .returned (.int .i64 0) ∧ ∃ v', PenGo w w' p v v' (xs ++ csize ys.length ++ ys) := by
  have HU := Lib.hid hu
  obtain ⟨A, c, rfl, _⟩ := hu.shape
  clear hu
  have HP := Lib.hid hp; clear hp
  go_enter Try.func95, Try.ntmps95
  go_wp2_with fail
  refine (psize_any p _ v xs _ HP.out (U64.of (by omega)) (by omega)).mono ?_
  rintro e w1 ⟨rfl, v1, h1⟩
  rw [Int.toNat_natCast] at h1
  have HU1 := HU.out.chg h1.chg hu0
  have hq := csize_length ys.length
  have hq9 : compact ys.length ≤ 9 := by unfold compact; repeat' split
                                         all_goals simp
  have h1p := Lib.hid h1.pen
  go_wp2_with fail
  refine (raw_any p _ v1 [ys] _ _ (h1.pen.chg (S := []) ((Chg.refl _ _).alloc _) (by simp) (by simp)) (Parts.one HU1 _) (by simp; omega) (by simp)).mono ?_
  rintro e w2 ⟨rfl, v2, h2⟩
  have h3 : PenGo w1 w2 p v1 v2 (xs ++ csize ys.length ++ ys) := ⟨by simpa using h2.pen, ((Chg.refl (p :: v1.ownBlock.toList) w1).alloc _).trans h2.chg (fun k hk => .inl hk), (Nx.refl w1 v1).trans h2.nx (by simp)⟩
  have H3 := Lib.hid (h1.trans h3)
  go_wp2_with fail
  go_ret
  exact ⟨rfl, v2, H3.out⟩
end
end Go.Proofs.Yteljmpoaggfliaa
