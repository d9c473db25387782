/- Contracts and words that the laws stand on (Oa). -/
import Derived.Lib.SlBytesConst
import Derived.Test.YtkibccmfgndfjaaEye
set_option linter.unusedVariables false
set_option linter.unusedSimpArgs false
namespace Go.Proofs.Ytkibccmfgndfjaa
section
open Go.RowKit Go.Proofs
theorem fixedI (p : Nat) (k n : Int) (v : Value) (xs : List UInt8) (w : World) (hp : IsPen w p v xs) (hn : U64 n) (hb : xs.length + 8 ≤ 70368744177664) :
    Calls Try.prog 51 #[.pointer (some ⟨p, 0, none⟩), .int .i64 k, .int .u64 n] w fun e w' => e = .returned (.int .i64 (fixedE k n.toNat)) ∧ ∃ v', PenGo w w' p v v' (xs ++ fixedB k n.toNat) := by
  obtain ⟨m, rfl, hm⟩ := hn.nat
  exact fixed_any p k m v xs w hp hm hb
theorem IsPen.new (w : World) : IsPen (w.alloc (.cells #[.slice none 0 0] 39)) w.heap.size (.slice none 0 0) [] := ⟨heap_alloc_new w _, World.ownsRow_nil _ _ _ _⟩
/-- A pen that lies from B on, and all that was there is as it was. -/
structure PenIn (B : Nat) (w w' : World) (p : Nat) (v : Value) (xs : List UInt8) : Prop where
  pen : IsPen w' p v xs
  lo : B ≤ p
  lov : ∀ k, v.ownBlock = some k → B ≤ k
  below : Below B w w'
theorem PenIn.new (w : World) : PenIn w.heap.size w (w.alloc (.cells #[.slice none 0 0] 39)) w.heap.size (.slice none 0 0) [] := ⟨IsPen.new w, Nat.le_refl _, by simp [Value.ownBlock], (Below.refl _ _).alloc (Nat.le_refl _) _⟩
theorem PenIn.go {B : Nat} {w w1 w2 : World} {p : Nat} {v v' : Value} {xs ys : List UInt8} (h : PenIn B w w1 p v xs) (g : PenGo w1 w2 p v v' ys) (hB : B ≤ w1.heap.size) : PenIn B w w2 p v' ys :=
  ⟨g.pen, h.lo, fun k hk => by
    rcases g.nx with e | ⟨g', e, hg⟩
    · exact h.lov k (e ▸ hk)
    · rw [e] at hk; injection hk with hk; omega, h.below.trans (g.chg.below (fun k hk => by
      simp only [List.mem_cons, Option.mem_toList] at hk
      rcases hk with rfl | hk
      · exact h.lo
      · exact h.lov k hk) hB)⟩
theorem PenIn.chg {B : Nat} {w w1 w2 : World} {p : Nat} {v : Value} {xs : List UInt8} (h : PenIn B w w1 p v xs) (hb : Below w1.heap.size w1 w2) (hB : B ≤ w1.heap.size) : PenIn B w w2 p v xs :=
  ⟨h.pen.below hb, h.lo, h.lov, h.below.trans (hb.mono hB)⟩
theorem HB.lit (w : World) (xs : List UInt8) (t : TypeId) (fr : Nat × Nat) : HB (w.alloc (.cells (bs xs).toArray t fr)) (.slice (some ⟨w.heap.size, 0, none⟩) xs.length xs.length) xs := by
  refine ⟨_, _, rfl, Nat.le_refl _, (fun e => by cases e), fun a ha i x hx => ?_⟩
  injection ha with ha
  subst ha
  exact World.news_of_block (cs := (bs xs).toArray) (t := t) (fr := fr) (heap_alloc_new w _) i _ (by simp [bs, hx])
set_option maxHeartbeats 1000000 in
set_option maxRecDepth 100000 in
theorem alive1_any (w : World) : Calls Try.prog 23 #[] w fun e w' => e = .returned (.bool true) ∧ Below w.heap.size w w' := by
  have P0 := PenIn.new w
  have HB0 := Lib.hid P0; clear P0
  have kc := fun (w : World) (C : Array Value) (n c : Nat) => Lib.run_convert_bytes_const (P := Try.prog) w 29 5 C n c Try.underlying29 Try.underlying5
  go_enter Try.func23, Try.ntmps23
  go_wp2_with fail
  refine (fixedI _ _ _ _ _ _ HB0.out.pen ⟨by omega, by omega⟩ (by simp)).mono ?_
  rw [show fixedE 4 (Int.toNat 258) = 0 from by decide]
  rintro e w1 ⟨rfl, v1, g1⟩
  have H1 := Lib.hid (HB0.out.go g1 (by simp)); clear g1
  go_wp2_with fail
  refine (psize_any _ _ _ _ _ H1.out.pen ⟨by omega, by omega⟩ (by decide)).mono ?_
  rintro e w2 ⟨rfl, v2, g2⟩
  have H2 := Lib.hid (H1.out.go g2 H1.out.below.size); clear g2
  go_wp2_with fail
  refine (psize_any _ _ _ _ _ H2.out.pen ⟨by omega, by omega⟩ (by decide)).mono ?_
  rintro e w3 ⟨rfl, v3, g3⟩
  have H3 := Lib.hid (H2.out.go g3 H2.out.below.size); clear g3
  go_wp2_with fail
  have HL := Lib.hid (HB.lit w3 [97, 98] 5 (2, 3))
  have H4 := Lib.hid (H3.out.chg ((Below.refl _ _).alloc (Nat.le_refl _) (.cells (bs [97, 98]).toArray 5 (2, 3))) H3.out.below.size)
  refine (pbytes_any _ _ _ [97, 98] _ _ H4.out.pen HL.out (by decide) (by
    intro k hk; simp [Value.ownBlock] at hk; subst hk
    have h1 := blk_lt H3.out.pen.blk
    simp only [List.mem_cons, Option.mem_toList, not_or]
    exact ⟨by omega, fun h => by have := own_lt H3.out.pen.row _ h; omega⟩)).mono ?_
  rintro e w4 ⟨rfl, v4, g4⟩
  have H5 := Lib.hid (H4.out.go g4 H4.out.below.size); clear g4
  go_wp2_with fail
  refine (pall_any _ _ _ _ H5.out.pen (by decide)).mono ?_
  rintro e w5 ⟨v5, rfl, hown, hbl⟩
  have hst := (HB.of_own hown).string (P := Try.prog) 29 9 5 Try.underlying29 Try.underlying5 Try.underlying9
  have HB5 := Lib.hid (H5.out.below.trans (hbl.mono H5.out.below.size))
  clear hown
  go_wp2_with fail
  go_ret
  exact ⟨ret_bool (by decide), HB5.out⟩
end
section
open Go.RowKit Go.Proofs
/-- A slice of bytes that came in, as the row's frame tells it, holds bytes. -/
theorem HB.of_cells {w : World} {x : Addr} {len cap : Nat} {zs : List Int} (hl : len ≤ cap) (hz : zs.length = cap) (hc : ∀ i, i < zs.length → w.cell? (x.add i) = some (.int .u8 (zs.getD i 0))) (hw : ∀ n ∈ zs, (Lit.int .u8 n).wf = true) :
    HB w (.slice (some x) len cap) ((zs.take len).map fun n => UInt8.ofNat n.toNat) := by
  have hlen : ((zs.take len).map fun n => UInt8.ofNat n.toNat).length = len := by simp; omega
  refine ⟨some x, cap, by rw [hlen], by rw [hlen]; exact hl, (fun e => by cases e), fun a ha i u hu => ?_⟩
  injection ha with ha
  subst ha
  have hi := (List.getElem?_eq_some_iff.1 hu).1
  rw [hlen] at hi
  simp only [List.getElem?_map, List.getElem?_take, Option.map_eq_some_iff] at hu
  obtain ⟨y, hy, rfl⟩ := hu
  rw [if_pos hi] at hy
  have hm := hw y (List.mem_of_getElem? hy)
  have hb : 0 ≤ y ∧ y < 256 := by simp [Lit.wf, IntKind.min, IntKind.max, IntKind.signed, IntKind.bits] at hm; omega
  rw [hc i (by omega)]
  have : zs.getD i 0 = y := by simp [List.getD, hy]
  rw [this]
  congr 2
  simp
  omega
theorem u64_wf {n : Int} (h : (Lit.int .u64 n).wf = true) : 0 ≤ n ∧ n < 18446744073709551616 := by simp [Lit.wf, IntKind.min, IntKind.max, IntKind.signed, IntKind.bits] at h; omega
theorem u32_wf {n : Int} (h : (Lit.int .u32 n).wf = true) : 0 ≤ n ∧ n < 4294967296 := by simp [Lit.wf, IntKind.min, IntKind.max, IntKind.signed, IntKind.bits] at h; omega
theorem u16_wf {n : Int} (h : (Lit.int .u16 n).wf = true) : 0 ≤ n ∧ n < 65536 := by simp [Lit.wf, IntKind.min, IntKind.max, IntKind.signed, IntKind.bits] at h; omega
theorem i64_wf {n : Int} (h : (Lit.int .i64 n).wf = true) : -9223372036854775808 ≤ n ∧ n ≤ 9223372036854775807 := by simp [Lit.wf, IntKind.min, IntKind.max, IntKind.signed, IntKind.bits] at h; omega
end
end Go.Proofs.Ytkibccmfgndfjaa
