/- Contracts and words that the laws stand on (OctetWritesWalk). -/
import Derived.Test.YtkibccmfgndfjaaRef2
import Derived.Test.YtkibccmfgndfjaaOctetBackWalk
import Derived.Test.YtkibccmfgndfjaaCrcMark
import Derived.Test.YtkibccmfgndfjaaCrcRunsWalk
set_option linter.unusedVariables false
set_option linter.unusedSimpArgs false
namespace Go.Proofs.Ytkibccmfgndfjaa
section
open Go.RowKit Go.Proofs
theorem fixedB_of {k n : Nat} (hk : k = 1 ∨ k = 2 ∨ k = 4 ∨ k = 8) (h : n < 256 ^ k) : fixedB (k : Int) n = le k n := by
  have hE : fixedE (k : Int) n = 0 := by
    have : wideB (k : Int) = true := by rcases hk with rfl | rfl | rfl | rfl <;> rfl
    have h2 : goesB n (k : Int).toNat = true := by simpa [goesB] using h
    rw [fixedE, if_neg (by rw [this]; decide), if_neg (by rw [h2]; decide)]
  rw [fixedB, if_pos hE, Int.toNat_natCast]
attribute [local irreducible] Calls
set_option maxHeartbeats 1000000 in
set_option maxRecDepth 100000 in
theorem rsize_any (n : Nat) (w : World) (hn : n < 18446744073709551616) :
    Calls Try.prog 30 #[.int .u64 (n : Int)] w fun e w' => ∃ v', e = .returned v' ∧ w'.ownsRow w.heap.size 5 1 v' (csize n).length (bs (csize n)) ∧ Below w.heap.size w w' := by
  have HN := Lib.hid hn
  by_cases h1 : n < 253
  · have hc : csize n = [UInt8.ofNat n] := by rw [csize, if_pos h1]
    rw [hc]
    have hi : (n : Int) < 253 := by omega
    have hm : (n : Int) % 256 = n := by omega
    have ht : ((UInt8.ofNat n).toNat : Int) = n := by rw [UInt8.toNat_ofNat_of_lt' (show n < 256 by omega)]
    have HT := Lib.hid ht
    clear hn hc ht
    go_enter Try.func30, Try.ntmps30
    go_wp2_with fail
    go_ret
    refine ⟨_, rfl, ?_, (Below.refl _ _).alloc (Nat.le_refl _) _⟩
    have := World.ownsRow_lit (base := w.heap.size) (size := 1) (e := 5) w #[.int .u8 (n : Int)] 1 (Nat.le_refl _) (by decide) rfl
    show World.ownsRow _ _ _ _ _ 1 [.int .u8 ((UInt8.ofNat n).toNat : Int)]
    rw [HT.out]; exact this
  · have hi1 : ¬ (n : Int) < 253 := by omega
    by_cases h2 : n < 65536
    · have hi2 : ¬ (65535 : Int) < n := by omega
      have hi3 : ¬ (4294967295 : Int) < n := by omega
      have HBB := Lib.hid ((show fixedB 2 n = le 2 n from fixedB_of (k := 2) (n := n) (.inr (.inl rfl)) (by simpa using h2))); have HCS := Lib.hid ((show csize n = [UInt8.ofNat 253] ++ le 2 n by rw [csize, if_neg h1, if_pos h2]; rfl))
      clear hn
      go_enter Try.func30, Try.ntmps30
      go_wp2_with fail
      refine (rfixed_any 2 n w HN.out).mono ?_
      rw [HBB.out, le_length]
      rintro e w1 ⟨v1, rfl, hown, hb⟩
      have hbb : HB w1 v1 (le 2 n) := HB.of_own (base := w.heap.size) (e := 5) (by rw [le_length]; exact hown)
      obtain ⟨A, c, rfl⟩ := own_slice hown
      have hlit : (w1.alloc (.cells #[.int .u8 253] 5)).ownsRow w.heap.size 5 1 (.slice (some ⟨w1.heap.size, 0, none⟩) 1 1) [UInt8.ofNat 253].length (bs [UInt8.ofNat 253]) := World.ownsRow_lit w1 #[.int .u8 253] 1 hb.size (by decide) rfl
      have HL := Lib.hid hlit
      have HB2 := Lib.hid (hbb.below ((Below.refl _ _).alloc (Nat.le_refl _) (.cells #[.int .u8 253] 5)))
      have HX := Lib.hid (hb.alloc hb.size (.cells #[.int .u8 253] 5))
      clear hbb hlit hb hown
      go_wp2_with (at_builtin; go_loud (refine wpl_pushes _ rfl (.tmp 23) (.tmp 24) 29 rfl w.heap.size 5 Try.underlying29 u8_info (.slice (some ⟨w1.heap.size, 0, none⟩) 1 1) [UInt8.ofNat 253] (le 2 n) _ rfl rfl ?c1 ?c2 ?c3 ?c4 ?_))
      case c1 => exact HL.out
      case c2 => exact HB2.out
      case c3 => rw [le_length]; decide
      case c4 => exact HX.out.size
      intro v' w' hown hg hnx
      have hbl : Below w.heap.size w w' := HX.out.grown hg HX.out.size (fun k hk => (HL.out.lt k hk).1)
      have HO3 := Lib.hid hown; have HB3 := Lib.hid hbl
      clear hown hbl hg hnx
      go_wp2_with fail
      go_ret
      refine ⟨_, rfl, ?_, HB3.out⟩
      rw [HCS.out]; exact HO3.out
    · have hi2 : (65535 : Int) < n := by omega
      by_cases h3 : n < 4294967296
      · have hi3 : ¬ (4294967295 : Int) < n := by omega
        have HBB := Lib.hid ((show fixedB 4 n = le 4 n from fixedB_of (k := 4) (n := n) (.inr (.inr (.inl rfl))) (by simpa using h3))); have HCS := Lib.hid ((show csize n = [UInt8.ofNat 254] ++ le 4 n by rw [csize, if_neg h1, if_neg h2, if_pos h3]; rfl))
        clear hn
        go_enter Try.func30, Try.ntmps30
        go_wp2_with fail
        refine (rfixed_any 4 n w HN.out).mono ?_
        rw [HBB.out, le_length]
        rintro e w1 ⟨v1, rfl, hown, hb⟩
        have hbb : HB w1 v1 (le 4 n) := HB.of_own (base := w.heap.size) (e := 5) (by rw [le_length]; exact hown)
        obtain ⟨A, c, rfl⟩ := own_slice hown
        have hlit : (w1.alloc (.cells #[.int .u8 254] 5)).ownsRow w.heap.size 5 1 (.slice (some ⟨w1.heap.size, 0, none⟩) 1 1) [UInt8.ofNat 254].length (bs [UInt8.ofNat 254]) := World.ownsRow_lit w1 #[.int .u8 254] 1 hb.size (by decide) rfl
        have HL := Lib.hid hlit
        have HB2 := Lib.hid (hbb.below ((Below.refl _ _).alloc (Nat.le_refl _) (.cells #[.int .u8 254] 5)))
        have HX := Lib.hid (hb.alloc hb.size (.cells #[.int .u8 254] 5))
        clear hbb hlit hb hown
        go_wp2_with (at_builtin; go_loud (refine wpl_pushes _ rfl (.tmp 23) (.tmp 24) 29 rfl w.heap.size 5 Try.underlying29 u8_info (.slice (some ⟨w1.heap.size, 0, none⟩) 1 1) [UInt8.ofNat 254] (le 4 n) _ rfl rfl ?c1 ?c2 ?c3 ?c4 ?_))
        case c1 => exact HL.out
        case c2 => exact HB2.out
        case c3 => rw [le_length]; decide
        case c4 => exact HX.out.size
        intro v' w' hown hg hnx
        have hbl : Below w.heap.size w w' := HX.out.grown hg HX.out.size (fun k hk => (HL.out.lt k hk).1)
        have HO3 := Lib.hid hown; have HB3 := Lib.hid hbl
        clear hown hbl hg hnx
        go_wp2_with fail
        go_ret
        refine ⟨_, rfl, ?_, HB3.out⟩
        rw [HCS.out]; exact HO3.out
      · have hi3 : (4294967295 : Int) < n := by omega
        have HBB := Lib.hid ((show fixedB 8 n = le 8 n from fixedB_of (k := 8) (n := n) (.inr (.inr (.inr rfl))) (by simpa using hn))); have HCS := Lib.hid ((show csize n = [UInt8.ofNat 255] ++ le 8 n by rw [csize, if_neg h1, if_neg h2, if_neg h3]; rfl))
        clear hn
        go_enter Try.func30, Try.ntmps30
        go_wp2_with fail
        refine (rfixed_any 8 n w HN.out).mono ?_
        rw [HBB.out, le_length]
        rintro e w1 ⟨v1, rfl, hown, hb⟩
        have hbb : HB w1 v1 (le 8 n) := HB.of_own (base := w.heap.size) (e := 5) (by rw [le_length]; exact hown)
        obtain ⟨A, c, rfl⟩ := own_slice hown
        have hlit : (w1.alloc (.cells #[.int .u8 255] 5)).ownsRow w.heap.size 5 1 (.slice (some ⟨w1.heap.size, 0, none⟩) 1 1) [UInt8.ofNat 255].length (bs [UInt8.ofNat 255]) := World.ownsRow_lit w1 #[.int .u8 255] 1 hb.size (by decide) rfl
        have HL := Lib.hid hlit
        have HB2 := Lib.hid (hbb.below ((Below.refl _ _).alloc (Nat.le_refl _) (.cells #[.int .u8 255] 5)))
        have HX := Lib.hid (hb.alloc hb.size (.cells #[.int .u8 255] 5))
        clear hbb hlit hb hown
        go_wp2_with (at_builtin; go_loud (refine wpl_pushes _ rfl (.tmp 23) (.tmp 24) 29 rfl w.heap.size 5 Try.underlying29 u8_info (.slice (some ⟨w1.heap.size, 0, none⟩) 1 1) [UInt8.ofNat 255] (le 8 n) _ rfl rfl ?c1 ?c2 ?c3 ?c4 ?_))
        case c1 => exact HL.out
        case c2 => exact HB2.out
        case c3 => rw [le_length]; decide
        case c4 => exact HX.out.size
        intro v' w' hown hg hnx
        have hbl : Below w.heap.size w w' := HX.out.grown hg HX.out.size (fun k hk => (HL.out.lt k hk).1)
        have HO3 := Lib.hid hown; have HB3 := Lib.hid hbl
        clear hown hbl hg hnx
        go_wp2_with fail
        go_ret
        refine ⟨_, rfl, ?_, HB3.out⟩
        rw [HCS.out]; exact HO3.out
set_option maxHeartbeats 1000000 in
set_option maxRecDepth 100000 in
theorem rbytes_any (b : Value) (xs : List UInt8) (w : World) (hb : HB w b xs) (hl : xs.length ≤ 1000000) :
    Calls Try.prog 62 #[b] w fun e w' => ∃ v', e = .returned v' ∧ w'.ownsRow w.heap.size 5 1 v' (csize xs.length ++ xs).length (bs (csize xs.length ++ xs)) ∧ Below w.heap.size w w' := by
  have Hb := Lib.hid hb
  obtain ⟨A, c, rfl, hlc⟩ := hb.shape
  clear hb
  have w64 : IntKind.u64.wrap (xs.length : Int) = xs.length := by rw [IntKind.wrap_u64]; omega
  go_enter Try.func62, Try.ntmps62
  go_wp2_with fail
  refine (rsize_any xs.length w (by omega)).mono ?_
  rintro e w1 ⟨v1, rfl, hown, hb1⟩
  have HO1 := Lib.hid hown; have HX := Lib.hid hb1; have Hb1 := Lib.hid (Hb.out.below hb1)
  obtain ⟨A1, c1, rfl⟩ := own_slice hown
  have hq9 : (csize xs.length).length ≤ 9 := by rw [csize_length]; unfold compact; repeat' split
                                                all_goals simp
  have HQ := Lib.hid hq9
  clear hown hb1 hq9
  go_wp2_with (at_builtin; go_loud (refine wpl_pushes _ rfl (.tmp 6) (.tmp 7) 29 rfl w.heap.size 5 Try.underlying29 u8_info (.slice A1 (csize xs.length).length c1) (csize xs.length) xs _ rfl rfl ?c1 ?c2 ?c3 ?c4 ?_))
  case c1 => exact HO1.out
  case c2 => exact Hb1.out
  case c3 => have := HQ.out; omega
  case c4 => exact HX.out.size
  intro v' w' hown hg hnx
  have hbl : Below w.heap.size w w' := HX.out.grown hg HX.out.size (fun k hk => (HO1.out.lt k hk).1)
  have HO3 := Lib.hid hown; have HB3 := Lib.hid hbl
  clear hown hbl hg hnx
  go_wp2_with fail
  go_ret
  refine ⟨_, rfl, ?_, HB3.out⟩
  rw [List.length_append]; exact HO3.out
end
section
open Go.RowKit Go.Proofs
def wrE (d : OpD) : Int := if d.k = 0 then fixedE d.s d.n else 0
def wrB (d : OpD) : List UInt8 := if d.k = 0 then fixedB d.s d.n else if d.k = 1 then csize d.n else if d.k = 2 then csize d.xs.length ++ d.xs else if d.k = 3 then d.xs else []
/-- Behind a call: the pen, the call's own twin, and what was to be written. -/
structure Wt (W0 w3 : World) (p : Nat) (v v' own vb : Value) (xs B zs : List UInt8) : Prop where
  go : PenGo W0 w3 p v v' zs
  row : w3.ownsRow W0.heap.size 5 1 own xs.length (bs xs)
  hb : HB w3 vb B
  sep : ∀ k, own.ownBlock = some k → (B ≠ [] → vb.ownBlock ≠ some k) ∧ p ≠ k ∧ v'.ownBlock ≠ some k
theorem Wt.fin {W0 w3 wr : World} {p : Nat} {v v' own vb : Value} {xs B zs : List UInt8} (h : Wt W0 w3 p v v' own vb xs B zs) (hc : Chg own.ownBlock.toList w3 wr) : PenGo W0 wr p v v' zs ∧ HB wr vb B := by
  refine ⟨⟨h.go.pen.chg hc (fun hp => ?_) (fun k hk hm => ?_), h.go.chg.trans hc (fun k hk => ?_), h.go.nx⟩, h.hb.chgE hc (fun hB k hk hm => ?_)⟩
  · simp at hp; exact (h.sep p hp).2.1 rfl
  · simp at hm; exact (h.sep k hm).2.2 hk
  · simp at hk; exact .inr (h.row.lt k hk).1
  · simp at hm; exact (h.sep k hm).1 hB hk
/-- The end of a loop that adds one to each byte of a row. -/
def BumpRel (base n : Nat) (A : Option Addr) (c : Nat) (w3 : World) (s75 : Value) (wr : World) : Prop :=
  ∃ (i : Nat) (l : List UInt8), i ≤ n ∧ s75 = .int .i64 i ∧ l.length = n ∧ wr.ownsRow base 5 1 (.slice A n c) n (bs l) ∧ Chg (Value.slice A n c).ownBlock.toList w3 wr
theorem bump_step {base n : Nat} {A : Option Addr} {c i : Nat} {w3 wr : World} {l : List UInt8} (hi : i < n) (hl : l.length = n) (ho : wr.ownsRow base 5 1 (.slice A n c) n (bs l)) (hc : Chg (Value.slice A n c).ownBlock.toList w3 wr) :
    ∃ g, A = some ⟨g, 0, none⟩ ∧ wr.cell? ⟨g, i, none⟩ = some (.int .u8 ((l.getD i 0).toNat : Int)) ∧ wr.frozen? ⟨g, i, none⟩ = false ∧
      (∀ y : Int, y = ((l.getD i 0).toNat : Int) + 1 → BumpRel base n A c w3 (.int .i64 ((i : Int) + 1)) (wr.setCell ⟨g, i, none⟩ (.int .u8 (y % 256)))) := by
  obtain ⟨g, rfl⟩ : ∃ gd, A = some ⟨gd, 0, none⟩ := by
    rcases ho.2 with ⟨e, hn⟩ | ⟨gd, cap, cur, e, _⟩
    · omega
    · injection e with e1; exact ⟨gd, e1⟩
  have hil : i < l.length := by omega
  have hgd : l.getD i 0 = l[i] := by simp [List.getD, List.getElem?_eq_getElem hil]
  have hcell : wr.cell? ⟨g, i, none⟩ = some (.int .u8 ((l[i]).toNat : Int)) := by
    obtain ⟨a, ea, hca⟩ := (HB.of_own (xs := l) (by rw [hl]; exact ho)).at_ (i := i) hi hil
    injection ea with ea
    subst ea
    have : (Addr.add ⟨g, 0, none⟩ i : Addr) = ⟨g, i, none⟩ := by unfold Addr.add; split <;> simp_all
    rwa [this] at hca
  refine ⟨g, rfl, by rw [hgd]; exact hcell, (own_set ho i hi 0).2.2, fun y hy => ?_⟩
  have hyv : Value.int .u8 (y % 256) = .int .u8 ((UInt8.ofNat ((l[i].toNat + 1) % 256)).toNat : Int) := by
    rw [hy, hgd, ← u8_cell]; rfl
  rw [hyv]
  exact ⟨i + 1, l.set i _, by omega, by go_num, by simpa using hl, (own_set ho i hi _).1, hc.setCell (by simp [Value.ownBlock]) _⟩
def WOut (p : Nat) (d : OpD) (v : Value) (ys : List UInt8) (w : World) (e : Ending) (w' : World) : Prop :=
  ∃ v' vb, e = .returned (.tuple #[.int .i64 (wrE d), vb, .int .i64 (wrE d)]) ∧ HB w' vb (wrB d) ∧ PenGo w w' p v v' (ys ++ wrB d)
def W0 (w : World) (d : OpD) (u : Value) : World := w.alloc (.cells (opC4 d u) 52)
theorem heldThree {w : World} {u v x : Value} {a b c : List UInt8} (hu : HB w u a) (hv : HB w v b) (hx : HB w x c) : Held w [u, v, x] [a, b, c] :=
  (Held.snoc (Held.snoc (Held.snoc (vs := []) (ls := []) ⟨rfl, by simp⟩ hu) hv) hx)
theorem Parts.three {w : World} {u v x : Value} {a b c : List UInt8} (hu : HB w u a) (hv : HB w v b) (hx : HB w x c) (t : TypeId) : Parts (w.alloc (.cells #[u, v, x] t)) (.slice (some ⟨w.heap.size, 0, none⟩) 3 3) [a, b, c] :=
  Parts.of_held (heldThree hu hv hx) ((Below.refl _ _).alloc (Nat.le_refl _) _) (World.ownsRow_lit (base := 0) (size := 1) w #[u, v, x] 3 (Nat.zero_le _) (by decide) rfl)
attribute [local irreducible] Calls
set_option maxHeartbeats 2000000 in
set_option maxRecDepth 100000 in
theorem write27_0 (p : Nat) (s : Int) (n : Nat) (xs : List UInt8) (u v : Value) (ys : List UInt8) (w : World) (hp : IsPen w p v ys) (hd : OpIn w ⟨0, s, n, xs⟩ u) (hl : ys.length ≤ 100000000) (hu0 : xs ≠ [] → ∀ k, u.ownBlock = some k → k ∉ p :: v.ownBlock.toList) :
    Calls Try.prog 27 #[.pointer (some ⟨p, 0, none⟩), .agg (opC4 ⟨0, s, n, xs⟩ u)] w (WOut p ⟨0, s, n, xs⟩ v ys w) := by
  obtain ⟨A, c, rfl, _⟩ := hd.bytes.shape
  obtain ⟨C, hC⟩ : ∃ C, C = opC4 ⟨0, s, n, xs⟩ (.slice A xs.length c) := ⟨_, rfl⟩
  rw [← hC]
  have HC := Lib.hid hC; clear hC
  have HP := Lib.hid (hp.below ((Below.refl _ _).alloc (Nat.le_refl _) (.cells (C) 52)))
  have HU := Lib.hid (hd.bytes.below ((Below.refl _ _).alloc (Nat.le_refl _) (.cells (C) 52)))
  have hlen := hd.len
  have hn := hd.n64
  simp only at hlen hn
  have HN := Lib.hid hn; have HLEN := Lib.hid hlen
  have HBX := Lib.hid (heap_alloc_new w (.cells C 52))
  have HUU := Lib.hid (fun (w3 : World) (h : Chg (p :: v.ownBlock.toList) (w.alloc (.cells C 52)) w3) => HU.out.chgE h hu0)
  have hpl := blk_lt hp.blk
  have hvl : ∀ k, v.ownBlock = some k → k < w.heap.size := fun k hk => own_lt hp.row k hk
  have HNB := Lib.hid (show w.heap.size ∉ p :: v.ownBlock.toList by
    simp only [List.mem_cons, Option.mem_toList, not_or]
    exact ⟨by omega, fun e => by have := hvl _ e; omega⟩)
  have HPL := Lib.hid hpl; have HVL := Lib.hid hvl
  have HU0 := Lib.hid (show xs ≠ [] → ∀ k, (Value.slice A xs.length c).ownBlock = some k → k < w.heap.size from fun h k hk => by obtain ⟨j, hj, hjl⟩ := hd.bytes.lt h; rw [hk] at hj; injection hj with hj; subst hj; exact hjl)
  clear hp hd hu0 hpl hvl hn hlen
  go_enter Try.func27, Try.ntmps27
  have g3 : (w.alloc (.cells C 52)).cell? ⟨w.heap.size, 3, none⟩ = some (.slice A xs.length c) := by rw [blk_cell (heap_alloc_new w (.cells C 52)), HC.out]; rfl
  have g4 : C[3]? = some (.slice A xs.length c) := by rw [HC.out]; rfl
  go_wp2_with fail
  clear g3
  refine (twin_any _ xs _ HU.out (by have := HLEN.out; omega)).mono ?_
  rintro e w1 ⟨o1, rfl, hown1, hb1⟩
  have HO1 := Lib.hid hown1; have HB1 := Lib.hid hb1
  have HP1 := Lib.hid (HP.out.below hb1)
  have HOL := Lib.hid (show ∀ k, o1.ownBlock = some k → w.heap.size < k ∧ k < w1.heap.size from fun k hk => by have := hown1.lt k hk; simp at this; omega)
  have hs1 : w.heap.size < w1.heap.size := by have := hb1.size; simp at this; omega
  have HS1 := Lib.hid hs1
  have hbox1 : w1.heap[w.heap.size]? = some (.cells C 52 (0, 0)) := (hb1.block _ (by simp)).trans HBX.out
  have g0 : w1.cell? ⟨w.heap.size, 0, none⟩ = some (.int .i64 0) := by rw [blk_cell hbox1, HC.out]; rfl
  have g1 : w1.cell? ⟨w.heap.size, 1, none⟩ = some (.int .i64 s) := by rw [blk_cell hbox1, HC.out]; rfl
  have g2 : w1.cell? ⟨w.heap.size, 2, none⟩ = some (.int .u64 (n : Int)) := by rw [blk_cell hbox1, HC.out]; rfl
  have g3 : w1.cell? ⟨w.heap.size, 3, none⟩ = some (.slice A xs.length c) := by rw [blk_cell hbox1, HC.out]; rfl
  clear hown1 hb1 hs1 hbox1
  obtain ⟨F, hF⟩ : ∃ F, F = fixedE s n := ⟨_, rfl⟩
  obtain ⟨B, hB⟩ : ∃ B, B = fixedB s n := ⟨_, rfl⟩
  have HF := Lib.hid hF; have HBQ := Lib.hid hB
  clear hF hB
  go_wp2_with fail
  refine (fixed_any p s n v ys w1 HP1.out HN.out (by omega)).mono ?_
  rw [← HF.out, ← HBQ.out]
  rintro e w2 ⟨rfl, v2, g⟩
  have hbox2 : w2.heap[w.heap.size]? = some (.cells C 52 (0, 0)) := g.chg.blk ((HB1.out.block _ (by simp)).trans HBX.out) HNB.out
  have g1 : w2.cell? ⟨w.heap.size, 1, none⟩ = some (.int .i64 s) := by rw [blk_cell hbox2, HC.out]; rfl
  have g2 : w2.cell? ⟨w.heap.size, 2, none⟩ = some (.int .u64 (n : Int)) := by rw [blk_cell hbox2, HC.out]; rfl
  have g3 : w2.cell? ⟨w.heap.size, 3, none⟩ = some (.slice A xs.length c) := by rw [blk_cell hbox2, HC.out]; rfl
  have hgo : PenGo (w.alloc (.cells C 52)) w2 p v v2 (ys ++ B) := ⟨g.pen, (Chg.of_belowS _ HB1.out).trans g.chg (fun k hk => .inl hk), (Nx.refl _ v).trans g.nx HB1.out.size⟩
  have hsp : ∀ k, o1.ownBlock = some k → p ≠ k ∧ v2.ownBlock ≠ some k ∧ k ∉ p :: v.ownBlock.toList := fun k hk => by
    have h1 := HOL.out k hk
    have h2 := HPL.out
    refine ⟨by omega, fun e => ?_, ?_⟩
    · rcases g.nx with e2 | ⟨j, e2, hj⟩
      · rw [e2] at e; have := HVL.out k e; omega
      · rw [e2] at e; injection e with e; omega
    · simp only [List.mem_cons, Option.mem_toList, not_or]
      exact ⟨by omega, fun e => by have := HVL.out k e; omega⟩
  have hown2 : w2.ownsRow (w.alloc (.cells C 52)).heap.size 5 1 o1 xs.length (bs xs) := own_chg HO1.out g.chg (fun k hk => (hsp k hk).2.2)
  have HGO := Lib.hid hgo; have HSP := Lib.hid hsp; have HO2 := Lib.hid hown2; have HS2 := Lib.hid g.chg.size
  clear hgo hsp hown2 g
  clear hbox2
  go_wp2_with fail
  refine (rfixed_any s n w2 HN.out).mono ?_
  rw [← HF.out, ← HBQ.out]
  rintro e w3 ⟨vb, rfl, hownb, hb3⟩
  have HT := Lib.hid (show Wt (w.alloc (.cells C 52)) w3 p v v2 o1 vb xs B (ys ++ B) from
    ⟨⟨HGO.out.pen.below hb3, HGO.out.chg.trans (Chg.of_below hb3) (by simp), HGO.out.nx⟩, own_chg HO2.out (Chg.of_below hb3) (by simp), HB.of_own hownb,
      fun k hk => ⟨fun _ e => by have h1 := (hownb.lt k e).1; have h2 := HOL.out k hk; have h3 := HS2.out; omega, (HSP.out k hk).1, (HSP.out k hk).2.1⟩⟩)
  clear hownb hb3 HGO HSP HO2
  obtain ⟨Ao, co, rfl⟩ := own_slice HT.out.row
  have HTW := Lib.hid (show HB w3 (.slice Ao xs.length co) xs from HB.of_own HT.out.row)
  have hbox : w3.heap[w.heap.size]? = some (.cells C 52 (0, 0)) := HT.out.go.chg.blk HBX.out HNB.out
  have f3 : w3.cell? ⟨w.heap.size, 3, none⟩ = some (.slice A xs.length c) := (blk_cell hbox 3).trans g4
  have HU3 := Lib.hid (HUU.out w3 HT.out.go.chg)
  have ks1 := HTW.out.string (P := Try.prog) 29 9 5 Try.underlying29 Try.underlying5 Try.underlying9
  have ks2 := HU3.out.string (P := Try.prog) 29 9 5 Try.underlying29 Try.underlying5 Try.underlying9
  clear hbox
  go_wp2_with fail
  go_loopw [75] (fun s75 w' => BumpRel (w.alloc (.cells C 52)).heap.size xs.length Ao co w3 s75 w') (fun s75 _ => xs.length - (intOf s75).toNat)
  case atStart => exact ⟨0, xs, by omega, rfl, rfl, HT.out.row, Chg.refl _ _⟩
  case round =>
    clear ks1 ks2 f3
    have hx5 := HLEN.out
    obtain ⟨i, l, hi, rfl, hll, hown, hch⟩ := hrel
    by_cases hlt : i < xs.length
    · obtain ⟨g, rfl, hcell, hfz, hrel2⟩ := bump_step hlt hll hown hch
      have HR2 := Lib.hid hrel2
      clear hown hch hrel2 hll
      go_wp2_with fail
      go_roundw
      case rel => exact HR2.out _ rfl
      case measure => simp [intOf]; omega
    · obtain rfl : i = xs.length := by omega
      obtain ⟨hg, hv⟩ := HT.out.fin hch
      have HG := Lib.hid hg; have HV := Lib.hid hv
      clear hg hv hown hch
      go_wp2_with fail
      go_ret3
      refine ⟨v2, vb, ?_, ?_, ?_⟩
      rotate_left
      · rw [(show wrB ⟨0, s, n, xs⟩ = B from HBQ.out.symm)]; exact HV.out
      · rw [(show wrB ⟨0, s, n, xs⟩ = B from HBQ.out.symm)]; exact HG.out.pre
      · rw [(show wrE ⟨0, s, n, xs⟩ = F from HF.out.symm)]; rfl
set_option maxHeartbeats 2000000 in
set_option maxRecDepth 100000 in
theorem write27_1 (p : Nat) (s : Int) (n : Nat) (xs : List UInt8) (u v : Value) (ys : List UInt8) (w : World) (hp : IsPen w p v ys) (hd : OpIn w ⟨1, s, n, xs⟩ u) (hl : ys.length ≤ 100000000) (hu0 : xs ≠ [] → ∀ k, u.ownBlock = some k → k ∉ p :: v.ownBlock.toList) :
    Calls Try.prog 27 #[.pointer (some ⟨p, 0, none⟩), .agg (opC4 ⟨1, s, n, xs⟩ u)] w (WOut p ⟨1, s, n, xs⟩ v ys w) := by
  obtain ⟨A, c, rfl, _⟩ := hd.bytes.shape
  obtain ⟨C, hC⟩ : ∃ C, C = opC4 ⟨1, s, n, xs⟩ (.slice A xs.length c) := ⟨_, rfl⟩
  rw [← hC]
  have HC := Lib.hid hC; clear hC
  have HP := Lib.hid (hp.below ((Below.refl _ _).alloc (Nat.le_refl _) (.cells (C) 52)))
  have HU := Lib.hid (hd.bytes.below ((Below.refl _ _).alloc (Nat.le_refl _) (.cells (C) 52)))
  have hlen := hd.len
  have hn := hd.n64
  simp only at hlen hn
  have HN := Lib.hid hn; have HLEN := Lib.hid hlen
  have HBX := Lib.hid (heap_alloc_new w (.cells C 52))
  have HUU := Lib.hid (fun (w3 : World) (h : Chg (p :: v.ownBlock.toList) (w.alloc (.cells C 52)) w3) => HU.out.chgE h hu0)
  have hpl := blk_lt hp.blk
  have hvl : ∀ k, v.ownBlock = some k → k < w.heap.size := fun k hk => own_lt hp.row k hk
  have HNB := Lib.hid (show w.heap.size ∉ p :: v.ownBlock.toList by
    simp only [List.mem_cons, Option.mem_toList, not_or]
    exact ⟨by omega, fun e => by have := hvl _ e; omega⟩)
  have HPL := Lib.hid hpl; have HVL := Lib.hid hvl
  have HU0 := Lib.hid (show xs ≠ [] → ∀ k, (Value.slice A xs.length c).ownBlock = some k → k < w.heap.size from fun h k hk => by obtain ⟨j, hj, hjl⟩ := hd.bytes.lt h; rw [hk] at hj; injection hj with hj; subst hj; exact hjl)
  clear hp hd hu0 hpl hvl hn hlen
  go_enter Try.func27, Try.ntmps27
  have g3 : (w.alloc (.cells C 52)).cell? ⟨w.heap.size, 3, none⟩ = some (.slice A xs.length c) := by rw [blk_cell (heap_alloc_new w (.cells C 52)), HC.out]; rfl
  have g4 : C[3]? = some (.slice A xs.length c) := by rw [HC.out]; rfl
  go_wp2_with fail
  clear g3
  refine (twin_any _ xs _ HU.out (by have := HLEN.out; omega)).mono ?_
  rintro e w1 ⟨o1, rfl, hown1, hb1⟩
  have HO1 := Lib.hid hown1; have HB1 := Lib.hid hb1
  have HP1 := Lib.hid (HP.out.below hb1)
  have HOL := Lib.hid (show ∀ k, o1.ownBlock = some k → w.heap.size < k ∧ k < w1.heap.size from fun k hk => by have := hown1.lt k hk; simp at this; omega)
  have hs1 : w.heap.size < w1.heap.size := by have := hb1.size; simp at this; omega
  have HS1 := Lib.hid hs1
  have hbox1 : w1.heap[w.heap.size]? = some (.cells C 52 (0, 0)) := (hb1.block _ (by simp)).trans HBX.out
  have g0 : w1.cell? ⟨w.heap.size, 0, none⟩ = some (.int .i64 1) := by rw [blk_cell hbox1, HC.out]; rfl
  have g1 : w1.cell? ⟨w.heap.size, 1, none⟩ = some (.int .i64 s) := by rw [blk_cell hbox1, HC.out]; rfl
  have g2 : w1.cell? ⟨w.heap.size, 2, none⟩ = some (.int .u64 (n : Int)) := by rw [blk_cell hbox1, HC.out]; rfl
  have g3 : w1.cell? ⟨w.heap.size, 3, none⟩ = some (.slice A xs.length c) := by rw [blk_cell hbox1, HC.out]; rfl
  clear hown1 hb1 hs1 hbox1
  obtain ⟨B, hB⟩ : ∃ B, B = csize n := ⟨_, rfl⟩
  have HBQ := Lib.hid hB
  clear hB
  go_wp2_with fail
  refine (psize_any p n v ys w1 HP1.out (U64.of HN.out) (by omega)).mono ?_
  rw [Int.toNat_natCast, ← HBQ.out]
  rintro e w2 ⟨rfl, v2, g⟩
  have hbox2 : w2.heap[w.heap.size]? = some (.cells C 52 (0, 0)) := g.chg.blk ((HB1.out.block _ (by simp)).trans HBX.out) HNB.out
  have g1 : w2.cell? ⟨w.heap.size, 1, none⟩ = some (.int .i64 s) := by rw [blk_cell hbox2, HC.out]; rfl
  have g2 : w2.cell? ⟨w.heap.size, 2, none⟩ = some (.int .u64 (n : Int)) := by rw [blk_cell hbox2, HC.out]; rfl
  have g3 : w2.cell? ⟨w.heap.size, 3, none⟩ = some (.slice A xs.length c) := by rw [blk_cell hbox2, HC.out]; rfl
  have hgo : PenGo (w.alloc (.cells C 52)) w2 p v v2 (ys ++ B) := ⟨g.pen, (Chg.of_belowS _ HB1.out).trans g.chg (fun k hk => .inl hk), (Nx.refl _ v).trans g.nx HB1.out.size⟩
  have hsp : ∀ k, o1.ownBlock = some k → p ≠ k ∧ v2.ownBlock ≠ some k ∧ k ∉ p :: v.ownBlock.toList := fun k hk => by
    have h1 := HOL.out k hk
    have h2 := HPL.out
    refine ⟨by omega, fun e => ?_, ?_⟩
    · rcases g.nx with e2 | ⟨j, e2, hj⟩
      · rw [e2] at e; have := HVL.out k e; omega
      · rw [e2] at e; injection e with e; omega
    · simp only [List.mem_cons, Option.mem_toList, not_or]
      exact ⟨by omega, fun e => by have := HVL.out k e; omega⟩
  have hown2 : w2.ownsRow (w.alloc (.cells C 52)).heap.size 5 1 o1 xs.length (bs xs) := own_chg HO1.out g.chg (fun k hk => (hsp k hk).2.2)
  have HGO := Lib.hid hgo; have HSP := Lib.hid hsp; have HO2 := Lib.hid hown2; have HS2 := Lib.hid g.chg.size
  clear hgo hsp hown2 g
  clear hbox2
  go_wp2_with fail
  refine (rsize_any n w2 HN.out).mono ?_
  rw [← HBQ.out]
  rintro e w3 ⟨vb, rfl, hownb, hb3⟩
  have HT := Lib.hid (show Wt (w.alloc (.cells C 52)) w3 p v v2 o1 vb xs B (ys ++ B) from
    ⟨⟨HGO.out.pen.below hb3, HGO.out.chg.trans (Chg.of_below hb3) (by simp), HGO.out.nx⟩, own_chg HO2.out (Chg.of_below hb3) (by simp), HB.of_own hownb,
      fun k hk => ⟨fun _ e => by have h1 := (hownb.lt k e).1; have h2 := HOL.out k hk; have h3 := HS2.out; omega, (HSP.out k hk).1, (HSP.out k hk).2.1⟩⟩)
  clear hownb hb3 HGO HSP HO2
  obtain ⟨Ao, co, rfl⟩ := own_slice HT.out.row
  have HTW := Lib.hid (show HB w3 (.slice Ao xs.length co) xs from HB.of_own HT.out.row)
  have hbox : w3.heap[w.heap.size]? = some (.cells C 52 (0, 0)) := HT.out.go.chg.blk HBX.out HNB.out
  have f3 : w3.cell? ⟨w.heap.size, 3, none⟩ = some (.slice A xs.length c) := (blk_cell hbox 3).trans g4
  have HU3 := Lib.hid (HUU.out w3 HT.out.go.chg)
  have ks1 := HTW.out.string (P := Try.prog) 29 9 5 Try.underlying29 Try.underlying5 Try.underlying9
  have ks2 := HU3.out.string (P := Try.prog) 29 9 5 Try.underlying29 Try.underlying5 Try.underlying9
  clear hbox
  go_wp2_with fail
  go_loopw [75] (fun s75 w' => BumpRel (w.alloc (.cells C 52)).heap.size xs.length Ao co w3 s75 w') (fun s75 _ => xs.length - (intOf s75).toNat)
  case atStart => exact ⟨0, xs, by omega, rfl, rfl, HT.out.row, Chg.refl _ _⟩
  case round =>
    clear ks1 ks2 f3
    have hx5 := HLEN.out
    obtain ⟨i, l, hi, rfl, hll, hown, hch⟩ := hrel
    by_cases hlt : i < xs.length
    · obtain ⟨g, rfl, hcell, hfz, hrel2⟩ := bump_step hlt hll hown hch
      have HR2 := Lib.hid hrel2
      clear hown hch hrel2 hll
      go_wp2_with fail
      go_roundw
      case rel => exact HR2.out _ rfl
      case measure => simp [intOf]; omega
    · obtain rfl : i = xs.length := by omega
      obtain ⟨hg, hv⟩ := HT.out.fin hch
      have HG := Lib.hid hg; have HV := Lib.hid hv
      clear hg hv hown hch
      go_wp2_with fail
      go_ret3
      refine ⟨v2, vb, ?_, ?_, ?_⟩
      rotate_left
      · rw [(show wrB ⟨1, s, n, xs⟩ = B from HBQ.out.symm)]; exact HV.out
      · rw [(show wrB ⟨1, s, n, xs⟩ = B from HBQ.out.symm)]; exact HG.out.pre
      · rw [(show wrE ⟨1, s, n, xs⟩ = 0 from rfl)]; rfl
set_option maxHeartbeats 2000000 in
set_option maxRecDepth 100000 in
theorem write27_2 (p : Nat) (s : Int) (n : Nat) (xs : List UInt8) (u v : Value) (ys : List UInt8) (w : World) (hp : IsPen w p v ys) (hd : OpIn w ⟨2, s, n, xs⟩ u) (hl : ys.length ≤ 100000000) (hu0 : xs ≠ [] → ∀ k, u.ownBlock = some k → k ∉ p :: v.ownBlock.toList) :
    Calls Try.prog 27 #[.pointer (some ⟨p, 0, none⟩), .agg (opC4 ⟨2, s, n, xs⟩ u)] w (WOut p ⟨2, s, n, xs⟩ v ys w) := by
  obtain ⟨A, c, rfl, _⟩ := hd.bytes.shape
  obtain ⟨C, hC⟩ : ∃ C, C = opC4 ⟨2, s, n, xs⟩ (.slice A xs.length c) := ⟨_, rfl⟩
  rw [← hC]
  have HC := Lib.hid hC; clear hC
  have HP := Lib.hid (hp.below ((Below.refl _ _).alloc (Nat.le_refl _) (.cells (C) 52)))
  have HU := Lib.hid (hd.bytes.below ((Below.refl _ _).alloc (Nat.le_refl _) (.cells (C) 52)))
  have hlen := hd.len
  have hn := hd.n64
  simp only at hlen hn
  have HN := Lib.hid hn; have HLEN := Lib.hid hlen
  have HBX := Lib.hid (heap_alloc_new w (.cells C 52))
  have HUU := Lib.hid (fun (w3 : World) (h : Chg (p :: v.ownBlock.toList) (w.alloc (.cells C 52)) w3) => HU.out.chgE h hu0)
  have hpl := blk_lt hp.blk
  have hvl : ∀ k, v.ownBlock = some k → k < w.heap.size := fun k hk => own_lt hp.row k hk
  have HNB := Lib.hid (show w.heap.size ∉ p :: v.ownBlock.toList by
    simp only [List.mem_cons, Option.mem_toList, not_or]
    exact ⟨by omega, fun e => by have := hvl _ e; omega⟩)
  have HPL := Lib.hid hpl; have HVL := Lib.hid hvl
  have HU0 := Lib.hid (show xs ≠ [] → ∀ k, (Value.slice A xs.length c).ownBlock = some k → k < w.heap.size from fun h k hk => by obtain ⟨j, hj, hjl⟩ := hd.bytes.lt h; rw [hk] at hj; injection hj with hj; subst hj; exact hjl)
  clear hp hd hu0 hpl hvl hn hlen
  go_enter Try.func27, Try.ntmps27
  have g3 : (w.alloc (.cells C 52)).cell? ⟨w.heap.size, 3, none⟩ = some (.slice A xs.length c) := by rw [blk_cell (heap_alloc_new w (.cells C 52)), HC.out]; rfl
  have g4 : C[3]? = some (.slice A xs.length c) := by rw [HC.out]; rfl
  go_wp2_with fail
  clear g3
  refine (twin_any _ xs _ HU.out (by have := HLEN.out; omega)).mono ?_
  rintro e w1 ⟨o1, rfl, hown1, hb1⟩
  have HO1 := Lib.hid hown1; have HB1 := Lib.hid hb1
  have HP1 := Lib.hid (HP.out.below hb1)
  have HOL := Lib.hid (show ∀ k, o1.ownBlock = some k → w.heap.size < k ∧ k < w1.heap.size from fun k hk => by have := hown1.lt k hk; simp at this; omega)
  have hs1 : w.heap.size < w1.heap.size := by have := hb1.size; simp at this; omega
  have HS1 := Lib.hid hs1
  have hbox1 : w1.heap[w.heap.size]? = some (.cells C 52 (0, 0)) := (hb1.block _ (by simp)).trans HBX.out
  have g0 : w1.cell? ⟨w.heap.size, 0, none⟩ = some (.int .i64 2) := by rw [blk_cell hbox1, HC.out]; rfl
  have g1 : w1.cell? ⟨w.heap.size, 1, none⟩ = some (.int .i64 s) := by rw [blk_cell hbox1, HC.out]; rfl
  have g2 : w1.cell? ⟨w.heap.size, 2, none⟩ = some (.int .u64 (n : Int)) := by rw [blk_cell hbox1, HC.out]; rfl
  have g3 : w1.cell? ⟨w.heap.size, 3, none⟩ = some (.slice A xs.length c) := by rw [blk_cell hbox1, HC.out]; rfl
  clear hown1 hb1 hs1 hbox1
  obtain ⟨B, hB⟩ : ∃ B, B = csize xs.length ++ xs := ⟨_, rfl⟩
  have HBQ := Lib.hid hB
  clear hB
  have HTW1 := Lib.hid (show HB w1 o1 xs from HB.of_own HO1.out)
  go_wp2_with fail
  refine (pbytes_any p o1 v xs ys w1 HP1.out HTW1.out (by have := HLEN.out; omega) (fun k hk => by
    have h1 := HOL.out k hk
    have h2 := HPL.out
    simp only [List.mem_cons, Option.mem_toList, not_or]
    exact ⟨by omega, fun e => by have := HVL.out k e; omega⟩)).mono ?_
  rw [List.append_assoc, ← HBQ.out]
  rintro e w2 ⟨rfl, v2, g⟩
  have hbox2 : w2.heap[w.heap.size]? = some (.cells C 52 (0, 0)) := g.chg.blk ((HB1.out.block _ (by simp)).trans HBX.out) HNB.out
  have g1 : w2.cell? ⟨w.heap.size, 1, none⟩ = some (.int .i64 s) := by rw [blk_cell hbox2, HC.out]; rfl
  have g2 : w2.cell? ⟨w.heap.size, 2, none⟩ = some (.int .u64 (n : Int)) := by rw [blk_cell hbox2, HC.out]; rfl
  have g3 : w2.cell? ⟨w.heap.size, 3, none⟩ = some (.slice A xs.length c) := by rw [blk_cell hbox2, HC.out]; rfl
  have hgo : PenGo (w.alloc (.cells C 52)) w2 p v v2 (ys ++ B) := ⟨g.pen, (Chg.of_belowS _ HB1.out).trans g.chg (fun k hk => .inl hk), (Nx.refl _ v).trans g.nx HB1.out.size⟩
  have hsp : ∀ k, o1.ownBlock = some k → p ≠ k ∧ v2.ownBlock ≠ some k ∧ k ∉ p :: v.ownBlock.toList := fun k hk => by
    have h1 := HOL.out k hk
    have h2 := HPL.out
    refine ⟨by omega, fun e => ?_, ?_⟩
    · rcases g.nx with e2 | ⟨j, e2, hj⟩
      · rw [e2] at e; have := HVL.out k e; omega
      · rw [e2] at e; injection e with e; omega
    · simp only [List.mem_cons, Option.mem_toList, not_or]
      exact ⟨by omega, fun e => by have := HVL.out k e; omega⟩
  have hown2 : w2.ownsRow (w.alloc (.cells C 52)).heap.size 5 1 o1 xs.length (bs xs) := own_chg HO1.out g.chg (fun k hk => (hsp k hk).2.2)
  have HGO := Lib.hid hgo; have HSP := Lib.hid hsp; have HO2 := Lib.hid hown2; have HS2 := Lib.hid g.chg.size
  clear hgo hsp hown2 g
  have HU2 := Lib.hid (HUU.out w2 HGO.out.chg)
  clear hbox2 HTW1
  go_wp2_with fail
  refine (rbytes_any _ xs w2 HU2.out (by have := HLEN.out; omega)).mono ?_
  rw [← HBQ.out]
  rintro e w3 ⟨vb, rfl, hownb, hb3⟩
  have HT := Lib.hid (show Wt (w.alloc (.cells C 52)) w3 p v v2 o1 vb xs B (ys ++ B) from
    ⟨⟨HGO.out.pen.below hb3, HGO.out.chg.trans (Chg.of_below hb3) (by simp), HGO.out.nx⟩, own_chg HO2.out (Chg.of_below hb3) (by simp), HB.of_own hownb,
      fun k hk => ⟨fun _ e => by have h1 := (hownb.lt k e).1; have h2 := HOL.out k hk; have h3 := HS2.out; omega, (HSP.out k hk).1, (HSP.out k hk).2.1⟩⟩)
  clear hownb hb3 HGO HSP HO2
  obtain ⟨Ao, co, rfl⟩ := own_slice HT.out.row
  have HTW := Lib.hid (show HB w3 (.slice Ao xs.length co) xs from HB.of_own HT.out.row)
  have hbox : w3.heap[w.heap.size]? = some (.cells C 52 (0, 0)) := HT.out.go.chg.blk HBX.out HNB.out
  have f3 : w3.cell? ⟨w.heap.size, 3, none⟩ = some (.slice A xs.length c) := (blk_cell hbox 3).trans g4
  have HU3 := Lib.hid (HUU.out w3 HT.out.go.chg)
  have ks1 := HTW.out.string (P := Try.prog) 29 9 5 Try.underlying29 Try.underlying5 Try.underlying9
  have ks2 := HU3.out.string (P := Try.prog) 29 9 5 Try.underlying29 Try.underlying5 Try.underlying9
  clear hbox
  go_wp2_with fail
  go_loopw [75] (fun s75 w' => BumpRel (w.alloc (.cells C 52)).heap.size xs.length Ao co w3 s75 w') (fun s75 _ => xs.length - (intOf s75).toNat)
  case atStart => exact ⟨0, xs, by omega, rfl, rfl, HT.out.row, Chg.refl _ _⟩
  case round =>
    clear ks1 ks2 f3
    have hx5 := HLEN.out
    obtain ⟨i, l, hi, rfl, hll, hown, hch⟩ := hrel
    by_cases hlt : i < xs.length
    · obtain ⟨g, rfl, hcell, hfz, hrel2⟩ := bump_step hlt hll hown hch
      have HR2 := Lib.hid hrel2
      clear hown hch hrel2 hll
      go_wp2_with fail
      go_roundw
      case rel => exact HR2.out _ rfl
      case measure => simp [intOf]; omega
    · obtain rfl : i = xs.length := by omega
      obtain ⟨hg, hv⟩ := HT.out.fin hch
      have HG := Lib.hid hg; have HV := Lib.hid hv
      clear hg hv hown hch
      go_wp2_with fail
      go_ret3
      refine ⟨v2, vb, ?_, ?_, ?_⟩
      rotate_left
      · rw [(show wrB ⟨2, s, n, xs⟩ = B from HBQ.out.symm)]; exact HV.out
      · rw [(show wrB ⟨2, s, n, xs⟩ = B from HBQ.out.symm)]; exact HG.out.pre
      · rw [(show wrE ⟨2, s, n, xs⟩ = 0 from rfl)]; rfl
set_option maxHeartbeats 2000000 in
set_option maxRecDepth 100000 in
theorem write27_3 (p : Nat) (s : Int) (n : Nat) (xs : List UInt8) (u v : Value) (ys : List UInt8) (w : World) (hp : IsPen w p v ys) (hd : OpIn w ⟨3, s, n, xs⟩ u) (hl : ys.length ≤ 100000000) (hu0 : xs ≠ [] → ∀ k, u.ownBlock = some k → k ∉ p :: v.ownBlock.toList) :
    Calls Try.prog 27 #[.pointer (some ⟨p, 0, none⟩), .agg (opC4 ⟨3, s, n, xs⟩ u)] w (WOut p ⟨3, s, n, xs⟩ v ys w) := by
  obtain ⟨A, c, rfl, _⟩ := hd.bytes.shape
  obtain ⟨C, hC⟩ : ∃ C, C = opC4 ⟨3, s, n, xs⟩ (.slice A xs.length c) := ⟨_, rfl⟩
  rw [← hC]
  have HC := Lib.hid hC; clear hC
  have HP := Lib.hid (hp.below ((Below.refl _ _).alloc (Nat.le_refl _) (.cells (C) 52)))
  have HU := Lib.hid (hd.bytes.below ((Below.refl _ _).alloc (Nat.le_refl _) (.cells (C) 52)))
  have hlen := hd.len
  have hn := hd.n64
  simp only at hlen hn
  have HN := Lib.hid hn; have HLEN := Lib.hid hlen
  have HBX := Lib.hid (heap_alloc_new w (.cells C 52))
  have HUU := Lib.hid (fun (w3 : World) (h : Chg (p :: v.ownBlock.toList) (w.alloc (.cells C 52)) w3) => HU.out.chgE h hu0)
  have hpl := blk_lt hp.blk
  have hvl : ∀ k, v.ownBlock = some k → k < w.heap.size := fun k hk => own_lt hp.row k hk
  have HNB := Lib.hid (show w.heap.size ∉ p :: v.ownBlock.toList by
    simp only [List.mem_cons, Option.mem_toList, not_or]
    exact ⟨by omega, fun e => by have := hvl _ e; omega⟩)
  have HPL := Lib.hid hpl; have HVL := Lib.hid hvl
  have HU0 := Lib.hid (show xs ≠ [] → ∀ k, (Value.slice A xs.length c).ownBlock = some k → k < w.heap.size from fun h k hk => by obtain ⟨j, hj, hjl⟩ := hd.bytes.lt h; rw [hk] at hj; injection hj with hj; subst hj; exact hjl)
  clear hp hd hu0 hpl hvl hn hlen
  go_enter Try.func27, Try.ntmps27
  have g3 : (w.alloc (.cells C 52)).cell? ⟨w.heap.size, 3, none⟩ = some (.slice A xs.length c) := by rw [blk_cell (heap_alloc_new w (.cells C 52)), HC.out]; rfl
  have g4 : C[3]? = some (.slice A xs.length c) := by rw [HC.out]; rfl
  go_wp2_with fail
  clear g3
  refine (twin_any _ xs _ HU.out (by have := HLEN.out; omega)).mono ?_
  rintro e w1 ⟨o1, rfl, hown1, hb1⟩
  have HO1 := Lib.hid hown1; have HB1 := Lib.hid hb1
  have HP1 := Lib.hid (HP.out.below hb1)
  have HOL := Lib.hid (show ∀ k, o1.ownBlock = some k → w.heap.size < k ∧ k < w1.heap.size from fun k hk => by have := hown1.lt k hk; simp at this; omega)
  have hs1 : w.heap.size < w1.heap.size := by have := hb1.size; simp at this; omega
  have HS1 := Lib.hid hs1
  have hbox1 : w1.heap[w.heap.size]? = some (.cells C 52 (0, 0)) := (hb1.block _ (by simp)).trans HBX.out
  have g0 : w1.cell? ⟨w.heap.size, 0, none⟩ = some (.int .i64 3) := by rw [blk_cell hbox1, HC.out]; rfl
  have g1 : w1.cell? ⟨w.heap.size, 1, none⟩ = some (.int .i64 s) := by rw [blk_cell hbox1, HC.out]; rfl
  have g2 : w1.cell? ⟨w.heap.size, 2, none⟩ = some (.int .u64 (n : Int)) := by rw [blk_cell hbox1, HC.out]; rfl
  have g3 : w1.cell? ⟨w.heap.size, 3, none⟩ = some (.slice A xs.length c) := by rw [blk_cell hbox1, HC.out]; rfl
  clear hown1 hb1 hs1 hbox1
  obtain ⟨A1, c1, rfl⟩ := own_slice HO1.out
  obtain ⟨m, hm⟩ : ∃ m : Nat, m = xs.length / 2 := ⟨_, rfl⟩
  have hmy : m ≤ xs.length := by omega
  have hlc : xs.length ≤ c1 := by
    obtain ⟨_, _, e, hlc⟩ := (show HB w1 (.slice A1 xs.length c1) xs from HB.of_own HO1.out).shape
    injection e with _ _ e; omega
  have hdv : (xs.length : Int).tdiv 2 = (m : Int) := by rw [hm, Int.tdiv_eq_ediv_of_nonneg (by omega)]; rfl
  have hw : IntKind.i64.wrap (m : Int) = m := by rw [IntKind.wrap_i64]; have := HLEN.out; omega
  have hs1 := run_cut_h 29 5 Try.underlying29 size5 A1 xs.length c1 m hmy hlc
  have hs2 := run_cut_l 29 5 Try.underlying29 size5 A1 xs.length c1 m hmy
  have HTW1 := Lib.hid (show HB w1 (.slice A1 xs.length c1) xs from HB.of_own HO1.out)
  have HC1 := Lib.hid (HTW1.out.take hmy); have HC2 := Lib.hid (HTW1.out.drop hmy)
  have hTD : [xs.take m, [], xs.drop m].flatten = xs := by simp
  have HTD := Lib.hid hTD
  have HMY := Lib.hid hmy
  clear hTD hmy hm
  go_wp2_with fail
  refine wp_region_pi [(0, true), (1, true), (2, true), (3, true), (4, true), (5, true), (6, true), (7, false), (8, false), (9, true)] (by kernel_rfl) (by kernel_rfl) rfl (by kernel_rfl) (fun _ _ _ _ _ h => h) (fun w2 => w2 = w1.drew ∨ w2 = w1.drew.alloc (.cells #[.slice A1 m c1, .slice none 0 0, .slice (cutA A1 c1 m) (xs.length - m) (c1 - m)] 29) ∨ ∃ v2, PenGo w1 w2 p v v2 (ys ++ xs)) (.inl rfl) ?_
  intro OPS hops
  iterate 7
    first | (refine wpPi_yield _ (by rw [hops.out]; simp only [List.getElem?_toArray, List.getElem?_cons_succ, List.getElem?_cons_zero]; rfl) (by first | rfl | (rw [hops.out]; rfl)) (fun w' hS => by go_simp; rfl) ?_; simp only [Act.put, List.setIfInBounds_toArray, List.set_cons_succ, List.set_cons_zero]) | (refine wpPi_skip (by rw [hops.out]; simp only [List.getElem?_toArray, List.getElem?_cons_succ, List.getElem?_cons_zero]; rfl) (by first | rfl | (rw [hops.out]; rfl)) ?_; simp only [Act.put, List.setIfInBounds_toArray, List.set_cons_succ, List.set_cons_zero])
  refine wpPi_act (by rw [hops.out]; simp only [List.getElem?_toArray, List.getElem?_cons_succ, List.getElem?_cons_zero]; rfl) (by first | rfl | (rw [hops.out]; rfl)) ?_
  go_simp
  try (refine ⟨(by first | exact .inl rfl | exact .inr (.inl rfl) | exact .inr (.inr ⟨v2, HG2.out⟩)), ?_⟩)
  refine wpPi_act (by rw [hops.out]; simp only [List.getElem?_toArray, List.getElem?_cons_succ, List.getElem?_cons_zero]; rfl) (by first | rfl | (rw [hops.out]; rfl)) ?_
  go_simp
  refine (raw_any p _ v [xs.take m, [], xs.drop m] ys _ (HP1.out.drew.below ((Below.refl _ _).alloc (Nat.le_refl _) _)) (Parts.three (w := w1.drew) HC1.out.drew (HB.nil _ none 0) HC2.out.drew 29) (by rw [HTD.out]; have := HLEN.out; omega) (by simp)).mono ?_
  rw [HTD.out]
  rintro e w2 ⟨rfl, v2, g0⟩
  have HG2 := Lib.hid (show PenGo w1 w2 p v v2 (ys ++ xs) from ⟨g0.pen, (((Chg.refl (p :: v.ownBlock.toList) w1).drew).alloc (.cells #[.slice A1 m c1, .slice none 0 0, .slice (cutA A1 c1 m) (xs.length - m) (c1 - m)] 29)).trans g0.chg (fun k hk => .inl hk), (show Nx w1 v v from .inl rfl).trans g0.nx (by simp)⟩)
  clear g0
  try (refine ⟨(by first | exact .inl rfl | exact .inr (.inl rfl) | exact .inr (.inr ⟨v2, HG2.out⟩)), ?_⟩)
  iterate 1
    first | (refine wpPi_yield _ (by rw [hops.out]; simp only [List.getElem?_toArray, List.getElem?_cons_succ, List.getElem?_cons_zero]; rfl) (by first | rfl | (rw [hops.out]; rfl)) (fun w' hS => by go_simp; rfl) ?_; simp only [Act.put, List.setIfInBounds_toArray, List.set_cons_succ, List.set_cons_zero]) | (refine wpPi_skip (by rw [hops.out]; simp only [List.getElem?_toArray, List.getElem?_cons_succ, List.getElem?_cons_zero]; rfl) (by first | rfl | (rw [hops.out]; rfl)) ?_; simp only [Act.put, List.setIfInBounds_toArray, List.set_cons_succ, List.set_cons_zero])
  simp only [wpPi]
  have g := HG2.out
  have hbox2 : w2.heap[w.heap.size]? = some (.cells C 52 (0, 0)) := g.chg.blk ((HB1.out.block _ (by simp)).trans HBX.out) HNB.out
  have g1 : w2.cell? ⟨w.heap.size, 1, none⟩ = some (.int .i64 s) := by rw [blk_cell hbox2, HC.out]; rfl
  have g2 : w2.cell? ⟨w.heap.size, 2, none⟩ = some (.int .u64 (n : Int)) := by rw [blk_cell hbox2, HC.out]; rfl
  have g3 : w2.cell? ⟨w.heap.size, 3, none⟩ = some (.slice A xs.length c) := by rw [blk_cell hbox2, HC.out]; rfl
  have hgo : PenGo (w.alloc (.cells C 52)) w2 p v v2 (ys ++ xs) := ⟨g.pen, (Chg.of_belowS _ HB1.out).trans g.chg (fun k hk => .inl hk), (Nx.refl _ v).trans g.nx HB1.out.size⟩
  have hsp : ∀ k, (Value.slice A1 xs.length c1).ownBlock = some k → p ≠ k ∧ v2.ownBlock ≠ some k ∧ k ∉ p :: v.ownBlock.toList := fun k hk => by
    have h1 := HOL.out k hk
    have h2 := HPL.out
    refine ⟨by omega, fun e => ?_, ?_⟩
    · rcases g.nx with e2 | ⟨j, e2, hj⟩
      · rw [e2] at e; have := HVL.out k e; omega
      · rw [e2] at e; injection e with e; omega
    · simp only [List.mem_cons, Option.mem_toList, not_or]
      exact ⟨by omega, fun e => by have := HVL.out k e; omega⟩
  have hown2 : w2.ownsRow (w.alloc (.cells C 52)).heap.size 5 1 (.slice A1 xs.length c1) xs.length (bs xs) := own_chg HO1.out g.chg (fun k hk => (hsp k hk).2.2)
  have HGO := Lib.hid hgo; have HSP := Lib.hid hsp; have HO2 := Lib.hid hown2; have HS2 := Lib.hid g.chg.size
  clear hgo hsp hown2 g
  have HU2 := Lib.hid (HUU.out w2 HGO.out.chg)
  clear hbox2 HTW1
  obtain ⟨w3, hw3⟩ : ∃ w3, w3 = w2 := ⟨_, rfl⟩
  have HT := Lib.hid (show Wt (w.alloc (.cells C 52)) w3 p v v2 (.slice A1 xs.length c1) (.slice A xs.length c) xs xs (ys ++ xs) from by
    rw [hw3]
    exact ⟨HGO.out, HO2.out, HU2.out, fun k hk => ⟨fun hx e => by have h1 := HU0.out hx k e; have h2 := HOL.out k hk; omega, (HSP.out k hk).1, (HSP.out k hk).2.1⟩⟩)
  rw [← hw3]
  rw [← hw3] at g1 g2 g3
  clear hw3 HGO HSP HO2
  have HTW := Lib.hid (show HB w3 (.slice A1 xs.length c1) xs from HB.of_own HT.out.row)
  have hbox : w3.heap[w.heap.size]? = some (.cells C 52 (0, 0)) := HT.out.go.chg.blk HBX.out HNB.out
  have f3 : w3.cell? ⟨w.heap.size, 3, none⟩ = some (.slice A xs.length c) := (blk_cell hbox 3).trans g4
  have HU3 := Lib.hid (HUU.out w3 HT.out.go.chg)
  have ks1 := HTW.out.string (P := Try.prog) 29 9 5 Try.underlying29 Try.underlying5 Try.underlying9
  have ks2 := HU3.out.string (P := Try.prog) 29 9 5 Try.underlying29 Try.underlying5 Try.underlying9
  clear hbox
  go_wp2_with fail
  go_loopw [75] (fun s75 w' => BumpRel (w.alloc (.cells C 52)).heap.size xs.length A1 c1 w3 s75 w') (fun s75 _ => xs.length - (intOf s75).toNat)
  case atStart => exact ⟨0, xs, by omega, rfl, rfl, HT.out.row, Chg.refl _ _⟩
  case round =>
    clear ks1 ks2 f3
    have hx5 := HLEN.out
    obtain ⟨i, l, hi, rfl, hll, hown, hch⟩ := hrel
    by_cases hlt : i < xs.length
    · obtain ⟨g, rfl, hcell, hfz, hrel2⟩ := bump_step hlt hll hown hch
      have HR2 := Lib.hid hrel2
      clear hown hch hrel2 hll
      go_wp2_with fail
      go_roundw
      case rel => exact HR2.out _ rfl
      case measure => simp [intOf]; omega
    · obtain rfl : i = xs.length := by omega
      obtain ⟨hg, hv⟩ := HT.out.fin hch
      have HG := Lib.hid hg; have HV := Lib.hid hv
      clear hg hv hown hch
      go_wp2_with fail
      go_ret3
      refine ⟨v2, (.slice A xs.length c), ?_, ?_, ?_⟩
      rotate_left
      · rw [(show wrB ⟨3, s, n, xs⟩ = xs from rfl)]; exact HV.out
      · rw [(show wrB ⟨3, s, n, xs⟩ = xs from rfl)]; exact HG.out.pre
      · rw [(show wrE ⟨3, s, n, xs⟩ = 0 from rfl)]; rfl
set_option maxHeartbeats 2000000 in
set_option maxRecDepth 100000 in
theorem write27_4 (p : Nat) (k s : Int) (n : Nat) (xs : List UInt8) (u v : Value) (ys : List UInt8) (w : World) (hp : IsPen w p v ys) (hd : OpIn w ⟨k, s, n, xs⟩ u) (hl : ys.length ≤ 100000000) (hu0 : xs ≠ [] → ∀ k, u.ownBlock = some k → k ∉ p :: v.ownBlock.toList) (h0 : ¬ k = 0) (h1 : ¬ k = 1) (h2 : ¬ k = 2) (h3 : ¬ k = 3) :
    Calls Try.prog 27 #[.pointer (some ⟨p, 0, none⟩), .agg (opC4 ⟨k, s, n, xs⟩ u)] w (WOut p ⟨k, s, n, xs⟩ v ys w) := by
  obtain ⟨A, c, rfl, _⟩ := hd.bytes.shape
  obtain ⟨C, hC⟩ : ∃ C, C = opC4 ⟨k, s, n, xs⟩ (.slice A xs.length c) := ⟨_, rfl⟩
  rw [← hC]
  have HC := Lib.hid hC; clear hC
  have HP := Lib.hid (hp.below ((Below.refl _ _).alloc (Nat.le_refl _) (.cells (C) 52)))
  have HU := Lib.hid (hd.bytes.below ((Below.refl _ _).alloc (Nat.le_refl _) (.cells (C) 52)))
  have hlen := hd.len
  have hn := hd.n64
  simp only at hlen hn
  have HN := Lib.hid hn; have HLEN := Lib.hid hlen
  have HBX := Lib.hid (heap_alloc_new w (.cells C 52))
  have HUU := Lib.hid (fun (w3 : World) (h : Chg (p :: v.ownBlock.toList) (w.alloc (.cells C 52)) w3) => HU.out.chgE h hu0)
  have hpl := blk_lt hp.blk
  have hvl : ∀ k, v.ownBlock = some k → k < w.heap.size := fun k hk => own_lt hp.row k hk
  have HNB := Lib.hid (show w.heap.size ∉ p :: v.ownBlock.toList by
    simp only [List.mem_cons, Option.mem_toList, not_or]
    exact ⟨by omega, fun e => by have := hvl _ e; omega⟩)
  have HPL := Lib.hid hpl; have HVL := Lib.hid hvl
  have HU0 := Lib.hid (show xs ≠ [] → ∀ k, (Value.slice A xs.length c).ownBlock = some k → k < w.heap.size from fun h k hk => by obtain ⟨j, hj, hjl⟩ := hd.bytes.lt h; rw [hk] at hj; injection hj with hj; subst hj; exact hjl)
  clear hp hd hu0 hpl hvl hn hlen
  go_enter Try.func27, Try.ntmps27
  have g3 : (w.alloc (.cells C 52)).cell? ⟨w.heap.size, 3, none⟩ = some (.slice A xs.length c) := by rw [blk_cell (heap_alloc_new w (.cells C 52)), HC.out]; rfl
  have g4 : C[3]? = some (.slice A xs.length c) := by rw [HC.out]; rfl
  go_wp2_with fail
  clear g3
  refine (twin_any _ xs _ HU.out (by have := HLEN.out; omega)).mono ?_
  rintro e w1 ⟨o1, rfl, hown1, hb1⟩
  have HO1 := Lib.hid hown1; have HB1 := Lib.hid hb1
  have HP1 := Lib.hid (HP.out.below hb1)
  have HOL := Lib.hid (show ∀ k, o1.ownBlock = some k → w.heap.size < k ∧ k < w1.heap.size from fun k hk => by have := hown1.lt k hk; simp at this; omega)
  have hs1 : w.heap.size < w1.heap.size := by have := hb1.size; simp at this; omega
  have HS1 := Lib.hid hs1
  have hbox1 : w1.heap[w.heap.size]? = some (.cells C 52 (0, 0)) := (hb1.block _ (by simp)).trans HBX.out
  have g0 : w1.cell? ⟨w.heap.size, 0, none⟩ = some (.int .i64 k) := by rw [blk_cell hbox1, HC.out]; rfl
  have g1 : w1.cell? ⟨w.heap.size, 1, none⟩ = some (.int .i64 s) := by rw [blk_cell hbox1, HC.out]; rfl
  have g2 : w1.cell? ⟨w.heap.size, 2, none⟩ = some (.int .u64 (n : Int)) := by rw [blk_cell hbox1, HC.out]; rfl
  have g3 : w1.cell? ⟨w.heap.size, 3, none⟩ = some (.slice A xs.length c) := by rw [blk_cell hbox1, HC.out]; rfl
  clear hown1 hb1 hs1 hbox1
  have HT := Lib.hid (show Wt (w.alloc (.cells C 52)) w1 p v v o1 (.slice none 0 0) xs [] ys from
    ⟨⟨HP1.out, Chg.of_belowS _ HB1.out, .inl rfl⟩, HO1.out, HB.nil _ _ _, fun k hk => ⟨fun h => absurd rfl h, by have := HOL.out k hk; have := HPL.out; omega, fun e => by have := HVL.out k e; have := HOL.out k hk; omega⟩⟩)
  obtain ⟨Ao, co, rfl⟩ := own_slice HT.out.row
  have HTW := Lib.hid (show HB w1 (.slice Ao xs.length co) xs from HB.of_own HT.out.row)
  have hbox : w1.heap[w.heap.size]? = some (.cells C 52 (0, 0)) := HT.out.go.chg.blk HBX.out HNB.out
  have f3 : w1.cell? ⟨w.heap.size, 3, none⟩ = some (.slice A xs.length c) := (blk_cell hbox 3).trans g4
  have HU3 := Lib.hid (HUU.out w1 HT.out.go.chg)
  have ks1 := HTW.out.string (P := Try.prog) 29 9 5 Try.underlying29 Try.underlying5 Try.underlying9
  have ks2 := HU3.out.string (P := Try.prog) 29 9 5 Try.underlying29 Try.underlying5 Try.underlying9
  clear hbox
  go_wp2_with fail
  go_loopw [75] (fun s75 w' => BumpRel (w.alloc (.cells C 52)).heap.size xs.length Ao co w1 s75 w') (fun s75 _ => xs.length - (intOf s75).toNat)
  case atStart => exact ⟨0, xs, by omega, rfl, rfl, HT.out.row, Chg.refl _ _⟩
  case round =>
    clear ks1 ks2 f3
    have hx5 := HLEN.out
    obtain ⟨i, l, hi, rfl, hll, hown, hch⟩ := hrel
    by_cases hlt : i < xs.length
    · obtain ⟨g, rfl, hcell, hfz, hrel2⟩ := bump_step hlt hll hown hch
      have HR2 := Lib.hid hrel2
      clear hown hch hrel2 hll
      go_wp2_with fail
      go_roundw
      case rel => exact HR2.out _ rfl
      case measure => simp [intOf]; omega
    · obtain rfl : i = xs.length := by omega
      obtain ⟨hg, hv⟩ := HT.out.fin hch
      have HG := Lib.hid hg; have HV := Lib.hid hv
      clear hg hv hown hch
      go_wp2_with fail
      go_ret3
      refine ⟨v, (.slice none 0 0), ?_, ?_, ?_⟩
      rotate_left
      · rw [(show wrB ⟨k, s, n, xs⟩ = [] by rw [wrB, if_neg h0, if_neg h1, if_neg h2, if_neg h3])]; exact HV.out
      · rw [(show wrB ⟨k, s, n, xs⟩ = [] by rw [wrB, if_neg h0, if_neg h1, if_neg h2, if_neg h3])]; exact by rw [List.append_nil]; exact HG.out.pre
      · rw [(show wrE ⟨k, s, n, xs⟩ = 0 by rw [wrE, if_neg h0])]; rfl
theorem write27 (p : Nat) (d : OpD) (u v : Value) (ys : List UInt8) (w : World) (hp : IsPen w p v ys) (hd : OpIn w d u) (hl : ys.length ≤ 100000000) (hu0 : d.xs ≠ [] → ∀ k, u.ownBlock = some k → k ∉ p :: v.ownBlock.toList) :
    Calls Try.prog 27 #[.pointer (some ⟨p, 0, none⟩), .agg (opC4 d u)] w (WOut p d v ys w) := by
  obtain ⟨k, s, n, xs⟩ := d
  by_cases h0 : k = 0
  · subst h0; exact write27_0 p s n xs u v ys w hp hd hl hu0
  · by_cases h1 : k = 1
    · subst h1; exact write27_1 p s n xs u v ys w hp hd hl hu0
    · by_cases h2 : k = 2
      · subst h2; exact write27_2 p s n xs u v ys w hp hd hl hu0
      · by_cases h3 : k = 3
        · subst h3; exact write27_3 p s n xs u v ys w hp hd hl hu0
        · exact write27_4 p k s n xs u v ys w hp hd hl hu0 h0 h1 h2 h3
theorem wrB_len (d : OpD) : (wrB d).length ≤ 9 + d.xs.length := by
  have hc : ∀ n, compact n ≤ 9 := fun n => by unfold compact; repeat' split
                                              all_goals simp
  unfold wrB
  split
  · unfold fixedB
    split
    · rename_i h
      have hw : wideB d.s = true := by
        by_cases hw : wideB d.s = true
        · exact hw
        · simp at hw; rw [fixedE, if_pos hw] at h; simp at h
      have := wideB_cases hw
      rw [le_length]; omega
    · simp
  · split
    · rw [csize_length]; have := hc d.n; omega
    · split
      · rw [List.length_append, csize_length]; have := hc d.xs.length; omega
      · split
        · omega
        · simp
end
section
open Go.RowKit Go.Proofs
structure W1 (w : World) (n p : Nat) (zs : List UInt8) (i : Nat) (vp s6 : Value) (w' : World) : Prop where
  bytes : zs.length ≤ 9 * i + n
  pen : PenIn w.heap.size w w' p vp zs
  row : w'.ownsRow w.heap.size 5 1 s6 zs.length (bs zs)
  apart : ∀ k, s6.ownBlock = some k → k ∉ p :: vp.ownBlock.toList
def WRel (w : World) (ds : List OpD) (p : Nat) (s18 s6 : Value) (w' : World) : Prop := ∃ (i : Nat) (zs : List UInt8) (vp : Value), i ≤ ds.length ∧ s18 = .int .i64 i ∧ W1 w (bsum ds i) p zs i vp s6 w'
attribute [local irreducible] Calls
set_option maxHeartbeats 4000000 in
set_option maxRecDepth 100000 in
theorem octetWrites_walk (v : Value) (ds : List OpD) (N : Nat) (w : World) (h : OpsIn w v ds) (hN : N < 18446744073709551616) :
    Calls Try.prog 7 #[v, .int .u64 (N : Int)] w fun e w' => e = .returned (.bool true) ∧ Below w.heap.size w w' := by
  have HNN := Lib.hid hN; clear hN
  have HOP := Lib.hid h
  obtain ⟨A, c, rfl, hdl, hA, hops⟩ := h
  have HOPS := Lib.hid hops
  clear hops
  go_enter Try.func7, Try.ntmps7
  go_wp2_with fail
  refine (great26 _ ds w HOP.out).mono ?_
  rintro e w1' ⟨r, rfl, hw, hr⟩
  rw [hw]; clear hw
  cases r with
  | true =>
    go_wp2_with fail
    go_ret
    exact ⟨rfl, Below.refl _ _⟩
  | false =>
    obtain ⟨hn, hbn⟩ := hr rfl
    clear hr
    obtain ⟨W1', hW1⟩ : ∃ W1', W1' = w.alloc (.cells #[.slice none 0 0] 39) := ⟨_, rfl⟩
    obtain ⟨p, hp⟩ : ∃ p, p = w.heap.size := ⟨_, rfl⟩
    have hpn := PenIn.new w
    rw [← hW1] at hpn
    have hpen : PenIn w.heap.size w W1' p (.slice none 0 0) [] := by rw [hp]; exact hpn
    have HPEN := Lib.hid hpen
    clear hpn hpen
    go_wp2_with fail
    rw [← hW1, ← hp]
    clear hW1 hp
    go_loopw [18, 6] (fun s18 s6 w' => WRel w ds p s18 s6 w') (fun s18 _ _ => ds.length - (intOf s18).toNat)
    case atStart => exact ⟨0, [], .slice none 0 0, by omega, rfl, ⟨by simp, HPEN.out, World.ownsRow_nil _ _ _ _, by simp [Value.ownBlock]⟩⟩
    case round =>
      clear HPEN
      obtain ⟨i, zs, vp, hi, rfl, hB⟩ := hrel
      have HB1 := Lib.hid hB
      obtain ⟨A6, c6, rfl⟩ := own_slice hB.row
      clear hB
      by_cases hlt : i < ds.length
      · obtain ⟨d, hd⟩ : ∃ d, ds[i]? = some d := ⟨_, List.getElem?_eq_getElem hlt⟩
        cases A with
        | none => rw [hA rfl] at hlt; simp at hlt
        | some a =>
          obtain ⟨u, hcell, hbu, hn64, _⟩ := HOPS.out a rfl i d hd
          have hbs := bsum_succ ds i d hd
          have hmono : bsum ds (i + 1) ≤ bsum ds ds.length := bsum_mono ds (by omega)
          have hop : OpIn w d u := ⟨hn64, hbu, by omega⟩
          have hcw : ∀ w', Below w.heap.size w w' → w'.cell? (a.add (i * 4)) = some (.int .i64 d.k) ∧ w'.cell? ⟨(a.add (i * 4)).block, (a.add (i * 4)).off + 1, none⟩ = some (.int .i64 d.s) ∧ w'.cell? ⟨(a.add (i * 4)).block, (a.add (i * 4)).off + 2, none⟩ = some (.int .u64 (d.n : Int)) ∧ w'.cell? ⟨(a.add (i * 4)).block, (a.add (i * 4)).off + 3, none⟩ = some u := fun w' hb => by
            have k := fun j x (hx : (opC4 d u)[j]? = some x) => (World.cell?_of_block (hb.block _ (World.block_lt_of_cell? w _ (hcell j x hx)))).trans (hcell j x hx)
            exact ⟨by have := k 0 _ rfl; rwa [addr0] at this, k 1 _ rfl, k 2 _ rfl, k 3 _ rfl⟩
          have HOPI := Lib.hid hop; have HBS := Lib.hid hbs; have HMO := Lib.hid hmono
          obtain ⟨f0, f1, f2, f3⟩ := hcw wr HB1.out.pen.below
          have ki0 : (0 : Int) ≤ (i : Int) := by omega
          have ki1 : (i : Int) < (ds.length : Int) := by omega
          have hsep : d.xs ≠ [] → ∀ k, u.ownBlock = some k → k ∉ p :: vp.ownBlock.toList := fun hx k hk => by
            have h1 := hbu.sep hx hk
            have h2 := HB1.out.pen.lo
            simp only [List.mem_cons, Option.mem_toList, not_or]
            exact ⟨by omega, fun e => by have := HB1.out.pen.lov k e; omega⟩
          have HSEP := Lib.hid hsep
          clear hcw hcell hop hbs hmono hsep hbu
          go_wp2_with fail
          refine (write27 p d u vp zs wr HB1.out.pen.pen (HOPI.out.below HB1.out.pen.below) (by have := HB1.out.bytes; have := bsum_mono ds (i := i) (j := ds.length) (by omega); omega) HSEP.out).mono ?_
          rintro e w2 ⟨vp2, vb, rfl, hvb, g⟩
          have HQ := Lib.hid (wrB_len d)
          obtain ⟨E, hE⟩ : ∃ E, E = wrE d := ⟨_, rfl⟩
          obtain ⟨B, hB⟩ : ∃ B, B = wrB d := ⟨_, rfl⟩
          rw [← hB] at hvb g HQ
          rw [← hE]
          have hpen2 := HB1.out.pen.go g HB1.out.pen.below.size
          have hrow2 : w2.ownsRow w.heap.size 5 1 (.slice A6 zs.length c6) zs.length (bs zs) := own_chg HB1.out.row g.chg HB1.out.apart
          have hap2 : ∀ k, (Value.slice A6 zs.length c6).ownBlock = some k → k ∉ p :: vp2.ownBlock.toList := fun k hk => by
            have h1 := HB1.out.apart k hk
            have h2 := own_lt HB1.out.row k hk
            simp only [List.mem_cons, Option.mem_toList, not_or] at h1 ⊢
            refine ⟨h1.1, fun e => ?_⟩
            rcases g.nx with e2 | ⟨j, e2, hj⟩
            · rw [e2] at e; exact h1.2 e
            · rw [e2] at e; injection e with e; omega
          have hlen2 : zs.length + B.length ≤ 9 * (i + 1) + bsum ds (i + 1) := by have := HQ.out; have := HB1.out.bytes; have := HBS.out; omega
          have HP2 := Lib.hid hpen2; have HR2 := Lib.hid hrow2; have HA2 := Lib.hid hap2; have HL2 := Lib.hid hlen2; have HVB := Lib.hid hvb
          clear g hpen2 hrow2 hap2 hlen2 hvb hE hB
          go_wp2_with (at_builtin; go_loud (refine wpl_pushes _ rfl (.tmp 33) (.tmp 34) 29 rfl w.heap.size 5 Try.underlying29 u8_info (.slice A6 zs.length c6) zs B _ rfl rfl ?c1 ?c2 ?c3 ?c4 ?_))
          case c1 => exact HR2.out
          case c2 => exact HVB.out
          case c3 => have := HL2.out; have := HMO.out; omega
          case c4 => exact HP2.out.below.size
          intro v' w3 hown hg hnx
          have hap3 : ∀ k, v'.ownBlock = some k → k ∉ p :: vp2.ownBlock.toList := fun k hk => by
            rcases hnx with e2 | ⟨j, e2, hj⟩
            · rw [e2] at hk; exact HA2.out k hk
            · rw [e2] at hk; injection hk with hk
              have h1 := blk_lt HP2.out.pen.blk
              simp only [List.mem_cons, Option.mem_toList, not_or]
              exact ⟨by omega, fun e => by have := own_lt HP2.out.pen.row k e; omega⟩
          have hpn3 : IsPen w3 p vp2 (zs ++ B) := ⟨(hg.block p (blk_lt HP2.out.pen.blk) (fun e => by have := HA2.out p e.symm; simp at this)).trans HP2.out.pen.blk,
            own_block HP2.out.pen.row fun k hk => hg.block k (own_lt HP2.out.pen.row k hk) (fun e => by have := HA2.out k e.symm; simp [hk] at this)⟩
          have hp3 : PenIn w.heap.size w w3 p vp2 (zs ++ B) := ⟨hpn3, HP2.out.lo, HP2.out.lov, HP2.out.below.grown hg HP2.out.below.size (fun k hk => own_ge HR2.out hk)⟩
          have HB3 := Lib.hid (show W1 w (bsum ds (i + 1)) p (zs ++ B) (i + 1) vp2 v' w3 from ⟨by rw [List.length_append]; exact HL2.out, hp3, by rw [List.length_append]; exact hown, hap3⟩)
          obtain ⟨A7, c7, rfl⟩ := own_slice hown
          clear hap3 hpn3 hp3 hown hg hnx
          have hlb : ((zs ++ B).length : Int) = (zs ++ B).length := rfl
          go_wp2_with (go_at_call 28; refine (plen_any p vp2 (zs ++ B) w3 HB3.out.pen.pen).mono ?_; rintro e w4 ⟨rfl, rfl⟩)
          go_roundw
          case rel => exact ⟨i + 1, zs ++ B, vp2, by omega, by go_num, HB3.out⟩
          case measure => simp [intOf]; omega
      · obtain rfl : i = ds.length := by omega
        have hl1 := HB1.out.bytes
        have hz1 : zs.length ≤ 200000 := by omega
        have HZ1 := Lib.hid hz1
        clear hl1 hz1
        go_wp2_with fail
        refine (pall_any p vp zs wr HB1.out.pen.pen (by have := HZ1.out; omega)).mono ?_
        rintro e w4 ⟨vb, rfl, hown, hb4⟩
        have HX4 := Lib.hid (thx HB1.out.pen.below hb4)
        have HPN4 := Lib.hid (HB1.out.pen.pen.below hb4)
        have HW4 := Lib.hid (own_chg HB1.out.row (Chg.of_below hb4) (by simp))
        obtain ⟨M, hM⟩ : ∃ M, M = wr.heap.size := ⟨_, rfl⟩
        rw [← hM] at hown
        have HO4 := Lib.hid hown
        have HSW := Lib.hid (show w.heap.size ≤ M by rw [hM]; exact HB1.out.pen.below.size)
        have HLW := Lib.hid (show ∀ k, (Value.slice A6 zs.length c6).ownBlock = some k → k < M from fun k hk => by rw [hM]; exact own_lt HB1.out.row k hk)
        have HLP := Lib.hid (show p < M ∧ ∀ k, vp.ownBlock = some k → k < M by rw [hM]; exact ⟨blk_lt HB1.out.pen.pen.blk, fun k hk => own_lt HB1.out.pen.pen.row k hk⟩)
        obtain ⟨Ab, cb, rfl⟩ := own_slice hown
        have hsa := HB.string (P := Try.prog) (show HB w4 (.slice Ab zs.length cb) zs from HB.of_own HO4.out) 29 9 5 Try.underlying29 Try.underlying5 Try.underlying9
        have hsw := HB.string (P := Try.prog) (show HB w4 (.slice A6 zs.length c6) zs from HB.of_own HW4.out) 29 9 5 Try.underlying29 Try.underlying5 Try.underlying9
        clear hown hb4 HB1 hM
        go_wp2_with fail
        go_loopw [49] (fun s49 w' => BumpRel M zs.length Ab cb w4 s49 w') (fun s49 _ => zs.length - (intOf s49).toNat)
        case atStart => exact ⟨0, zs, by omega, rfl, rfl, HO4.out, Chg.refl _ _⟩
        case round =>
          clear hsa hsw
          have hx5 := HZ1.out
          obtain ⟨i, l, hi, rfl, hll, hown, hch⟩ := hrel
          by_cases hlt2 : i < zs.length
          · obtain ⟨g, rfl, hcell, hfz, hrel2⟩ := bump_step hlt2 hll hown hch
            have HR2 := Lib.hid hrel2
            clear hown hch hrel2 hll
            go_wp2_with fail
            go_roundw
            case rel => exact HR2.out _ rfl
            case measure => simp [intOf]; omega
          · obtain rfl : i = zs.length := by omega
            have hge : ∀ k, (Value.slice Ab zs.length cb).ownBlock = some k → M ≤ k := fun k hk => own_ge hown hk
            have HX5 := Lib.hid (HX4.out.trans (hch.below (B := w.heap.size) (fun k hk => by simp at hk; have h1 := hge k hk; have := HSW.out; omega) HX4.out.size))
            have hpn5 : IsPen wr p vp zs := HPN4.out.chg hch (fun hk => by simp at hk; have h1 := hge p hk; have := HLP.out.1; omega) (fun k hk hm => by simp at hm; have h1 := hge k hm; have := HLP.out.2 k hk; omega)
            have hw5 : wr.ownsRow w.heap.size 5 1 (.slice A6 zs.length c6) zs.length (bs zs) := own_chg HW4.out hch (fun k hk hm => by simp at hm; have h1 := hge k hm; have := HLW.out k hk; omega)
            have HPN5 := Lib.hid hpn5; have HW5 := Lib.hid (show HB wr (.slice A6 zs.length c6) zs from HB.of_own hw5)
            clear hown hch hge hpn5 hw5 HW4 HPN4 HX4 HO4
            go_wp2_with fail
            refine wp_region_pi [(0, true), (1, true), (4, true), (5, true), (2, false), (3, false), (6, true), (7, true), (8, true), (9, true), (11, true), (10, false), (12, false), (13, true), (14, true), (15, true), (16, true)] (by kernel_rfl) (by kernel_rfl) rfl (by kernel_rfl) (fun _ _ _ _ _ h => h) (fun w6 => HB w6 (.slice A6 zs.length c6) zs) HW5.out.drew ?_
            intro OPS hops
            iterate 4
              first | (refine wpPi_yield _ (by rw [hops.out]; simp only [List.getElem?_toArray, List.getElem?_cons_succ, List.getElem?_cons_zero]; rfl) (by first | rfl | (rw [hops.out]; rfl)) (fun w' hS => by have hsw := HB.string (P := Try.prog) hS 29 9 5 Try.underlying29 Try.underlying5 Try.underlying9; go_simp; rfl) ?_; simp only [Act.put, List.setIfInBounds_toArray, List.set_cons_succ, List.set_cons_zero]) | (refine wpPi_skip (by rw [hops.out]; simp only [List.getElem?_toArray, List.getElem?_cons_succ, List.getElem?_cons_zero]; rfl) (by first | rfl | (rw [hops.out]; rfl)) ?_; simp only [Act.put, List.setIfInBounds_toArray, List.set_cons_succ, List.set_cons_zero])
            refine wpPi_act (by rw [hops.out]; simp only [List.getElem?_toArray, List.getElem?_cons_succ, List.getElem?_cons_zero]; rfl) (by first | rfl | (rw [hops.out]; rfl)) ?_
            go_simp
            refine (pall_any p vp zs _ HPN5.out.drew (by have := HZ1.out; omega)).mono ?_
            rintro e w6 ⟨va, rfl, hown, hb6⟩
            have HX6 := Lib.hid ((HX5.out.drew).trans (hb6.mono (by have := HX5.out.size; simpa using this)))
            have HW6 := Lib.hid ((HW5.out.drew).below hb6)
            obtain ⟨Aa, ca, rfl⟩ := own_slice hown
            have hsa := HB.string (P := Try.prog) (show HB w6 (.slice Aa zs.length ca) zs from HB.of_own hown) 29 9 5 Try.underlying29 Try.underlying5 Try.underlying9
            clear hown hb6
            try (refine ⟨(by first | exact HW5.out.drew | exact HW6.out | exact HW8.out), ?_⟩)
            refine wpPi_act (by rw [hops.out]; simp only [List.getElem?_toArray, List.getElem?_cons_succ, List.getElem?_cons_zero]; rfl) (by first | rfl | (rw [hops.out]; rfl)) ?_
            go_simp
            clear hsa
            try (refine ⟨(by first | exact HW5.out.drew | exact HW6.out | exact HW8.out), ?_⟩)
            iterate 5
              first | (refine wpPi_yield _ (by rw [hops.out]; simp only [List.getElem?_toArray, List.getElem?_cons_succ, List.getElem?_cons_zero]; rfl) (by first | rfl | (rw [hops.out]; rfl)) (fun w' hS => by have hsw := HB.string (P := Try.prog) hS 29 9 5 Try.underlying29 Try.underlying5 Try.underlying9; go_simp; rfl) ?_; simp only [Act.put, List.setIfInBounds_toArray, List.set_cons_succ, List.set_cons_zero]) | (refine wpPi_skip (by rw [hops.out]; simp only [List.getElem?_toArray, List.getElem?_cons_succ, List.getElem?_cons_zero]; rfl) (by first | rfl | (rw [hops.out]; rfl)) ?_; simp only [Act.put, List.setIfInBounds_toArray, List.set_cons_succ, List.set_cons_zero])
            refine wpPi_act (by rw [hops.out]; simp only [List.getElem?_toArray, List.getElem?_cons_succ, List.getElem?_cons_zero]; rfl) (by first | rfl | (rw [hops.out]; rfl)) ?_
            go_simp
            refine (compact_any N _ HNN.out).mono ?_
            rintro e w7 ⟨rfl, rfl⟩
            try (refine ⟨(by first | exact HW5.out.drew | exact HW6.out | exact HW8.out), ?_⟩)
            refine wpPi_act (by rw [hops.out]; simp only [List.getElem?_toArray, List.getElem?_cons_succ, List.getElem?_cons_zero]; rfl) (by first | rfl | (rw [hops.out]; rfl)) ?_
            go_simp
            refine (rsize_any N _ HNN.out).mono ?_
            rintro e w8 ⟨v8, rfl, hown, hb8⟩
            have HX8 := Lib.hid (thx HX6.out hb8)
            have HW8 := Lib.hid (HW6.out.below hb8)
            rw [csize_length] at hown
            obtain ⟨A8, c8, rfl⟩ := own_slice hown
            clear hown hb8
            try (refine ⟨(by first | exact HW5.out.drew | exact HW6.out | exact HW8.out), ?_⟩)
            iterate 4
              first | (refine wpPi_yield _ (by rw [hops.out]; simp only [List.getElem?_toArray, List.getElem?_cons_succ, List.getElem?_cons_zero]; rfl) (by first | rfl | (rw [hops.out]; rfl)) (fun w' hS => by have hsw := HB.string (P := Try.prog) hS 29 9 5 Try.underlying29 Try.underlying5 Try.underlying9; go_simp; rfl) ?_; simp only [Act.put, List.setIfInBounds_toArray, List.set_cons_succ, List.set_cons_zero]) | (refine wpPi_skip (by rw [hops.out]; simp only [List.getElem?_toArray, List.getElem?_cons_succ, List.getElem?_cons_zero]; rfl) (by first | rfl | (rw [hops.out]; rfl)) ?_; simp only [Act.put, List.setIfInBounds_toArray, List.set_cons_succ, List.set_cons_zero])
            simp only [wpPi]
            go_wp2_with fail
            go_ret
            exact ⟨ret_bool (by simp), HX8.out⟩
end
end Go.Proofs.Ytkibccmfgndfjaa
