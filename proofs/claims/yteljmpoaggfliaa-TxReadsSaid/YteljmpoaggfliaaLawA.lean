/- Contracts and words that the laws stand on (LawA). -/
import Derived.Lib.SlBytesConst
import Derived.Test.YteljmpoaggfliaaEyeA
import Derived.Test.YteljmpoaggfliaaBase
import Derived.Test.YteljmpoaggfliaaOctA
set_option linter.unusedVariables false
set_option linter.unusedSimpArgs false
namespace Go.Proofs.Yteljmpoaggfliaa
section
open Go.RowKit Go.Proofs
theorem fixedI (p : Nat) (k n : Int) (v : Value) (xs : List UInt8) (w : World) (hp : IsPen w p v xs) (hn : U64 n) (hb : xs.length + 8 ≤ 70368744177664) :
    Calls Try.prog 60 #[.pointer (some ⟨p, 0, none⟩), .int .i64 k, .int .u64 n] w fun e w' => e = .returned (.int .i64 (fixedE k n.toNat)) ∧ ∃ v', PenGo w w' p v v' (xs ++ fixedB k n.toNat) := by
  obtain ⟨m, rfl, hm⟩ := hn.nat
  exact fixed_any p k m v xs w hp hm hb
theorem IsPen.new (w : World) : IsPen (w.alloc (.cells #[.slice none 0 0] 96)) w.heap.size (.slice none 0 0) [] := ⟨heap_alloc_new w _, World.ownsRow_nil _ _ _ _⟩
/-- A pen that lies from B on, and all that was there is as it was. -/
structure PenIn (B : Nat) (w w' : World) (p : Nat) (v : Value) (xs : List UInt8) : Prop where
  pen : IsPen w' p v xs
  lo : B ≤ p
  lov : ∀ k, v.ownBlock = some k → B ≤ k
  below : Below B w w'
theorem PenIn.new (w : World) : PenIn w.heap.size w (w.alloc (.cells #[.slice none 0 0] 96)) w.heap.size (.slice none 0 0) [] := ⟨IsPen.new w, Nat.le_refl _, by simp [Value.ownBlock], (Below.refl _ _).alloc (Nat.le_refl _) _⟩
theorem PenIn.go {B : Nat} {w w1 w2 : World} {p : Nat} {v v' : Value} {xs ys : List UInt8} (h : PenIn B w w1 p v xs) (g : PenGo w1 w2 p v v' ys) (hB : B ≤ w1.heap.size) : PenIn B w w2 p v' ys :=
  ⟨g.pen, h.lo, fun k hk => by
    rcases g.nx with e | ⟨g', e, hg⟩
    · exact h.lov k (e ▸ hk)
    · rw [e] at hk; injection hk with hk; omega, h.below.trans (g.chg.below (fun k hk => by
      simp only [List.mem_cons, Option.mem_toList] at hk
      rcases hk with rfl | hk
      · exact h.lo
      · exact h.lov k hk) hB)⟩
theorem PenIn.chg {B : Nat} {w w1 w2 : World} {p : Nat} {v : Value} {xs : List UInt8} (h : PenIn B w w1 p v xs) (hb : Below w1.heap.size w1 w2) (hB : B ≤ w1.heap.size) : PenIn B w w2 p v xs :=
  ⟨h.pen.below hb, h.lo, h.lov, h.below.trans (hb.mono hB)⟩
theorem HB.lit (w : World) (xs : List UInt8) (t : TypeId) (fr : Nat × Nat) : HB (w.alloc (.cells (bs xs).toArray t fr)) (.slice (some ⟨w.heap.size, 0, none⟩) xs.length xs.length) xs := by
  refine ⟨_, _, rfl, Nat.le_refl _, (fun e => by cases e), fun a ha i x hx => ?_⟩
  injection ha with ha
  subst ha
  exact World.news_of_block (cs := (bs xs).toArray) (t := t) (fr := fr) (heap_alloc_new w _) i _ (by simp [bs, hx])
end
section
open Go.RowKit Go.Proofs
/-- A slice of bytes that came in, as the row's frame tells it, holds bytes. -/
theorem HB.of_cells {w : World} {x : Addr} {len cap : Nat} {zs : List Int} (hl : len ≤ cap) (hz : zs.length = cap) (hc : ∀ i, i < zs.length → w.cell? (x.add i) = some (.int .u8 (zs.getD i 0))) (hw : ∀ n ∈ zs, (Lit.int .u8 n).wf = true) :
    HB w (.slice (some x) len cap) ((zs.take len).map fun n => UInt8.ofNat n.toNat) := by
  have hlen : ((zs.take len).map fun n => UInt8.ofNat n.toNat).length = len := by simp; omega
  refine ⟨some x, cap, by rw [hlen], by rw [hlen]; exact hl, (fun e => by cases e), fun a ha i u hu => ?_⟩
  injection ha with ha
  subst ha
  have hi := (List.getElem?_eq_some_iff.1 hu).1
  rw [hlen] at hi
  simp only [List.getElem?_map, List.getElem?_take, Option.map_eq_some_iff] at hu
  obtain ⟨y, hy, rfl⟩ := hu
  rw [if_pos hi] at hy
  have hm := hw y (List.mem_of_getElem? hy)
  have hb : 0 ≤ y ∧ y < 256 := by simp [Lit.wf, IntKind.min, IntKind.max, IntKind.signed, IntKind.bits] at hm; omega
  rw [hc i (by omega)]
  have : zs.getD i 0 = y := by simp [List.getD, hy]
  rw [this]
  congr 2
  simp
  omega
theorem u64_wf {n : Int} (h : (Lit.int .u64 n).wf = true) : 0 ≤ n ∧ n < 18446744073709551616 := by simp [Lit.wf, IntKind.min, IntKind.max, IntKind.signed, IntKind.bits] at h; omega
theorem u32_wf {n : Int} (h : (Lit.int .u32 n).wf = true) : 0 ≤ n ∧ n < 4294967296 := by simp [Lit.wf, IntKind.min, IntKind.max, IntKind.signed, IntKind.bits] at h; omega
theorem u16_wf {n : Int} (h : (Lit.int .u16 n).wf = true) : 0 ≤ n ∧ n < 65536 := by simp [Lit.wf, IntKind.min, IntKind.max, IntKind.signed, IntKind.bits] at h; omega
theorem i64_wf {n : Int} (h : (Lit.int .i64 n).wf = true) : -9223372036854775808 ≤ n ∧ n ≤ 9223372036854775807 := by simp [Lit.wf, IntKind.min, IntKind.max, IntKind.signed, IntKind.bits] at h; omega
end
section
open Go.RowKit Go.Proofs
theorem own_type_ne {w : World} {b b' : Nat} {e e' : TypeId} {s s' n n' : Nat} {v v' : Value} {xs xs' : List Value} (h : w.ownsRow b e s v n xs) (h' : w.ownsRow b' e' s' v' n' xs') (hne : e ≠ e') : v.ownBlock = none ∨ v.ownBlock ≠ v'.ownBlock := by
  rcases h.2 with ⟨rfl, _⟩ | ⟨g, cap, cur, rfl, _, hh, _⟩
  · exact .inl rfl
  · refine .inr fun hk => ?_
    rcases h'.2 with ⟨rfl, _⟩ | ⟨g', cap', cur', rfl, _, hh', _⟩
    · simp [Value.ownBlock] at hk
    · have : g = g' := by simpa [Value.ownBlock] using hk
      subst this
      rw [hh] at hh'
      injection hh' with hh'
      injection hh' with _ ht
      exact hne ht
/-- What is appended to is a row of another type: the pen is as it was. -/
theorem IsPen.beside {w w' : World} {p b n : Nat} {v vp : Value} {xs : List UInt8} {vs : List Value} {t : TypeId} (h : IsPen w p v xs) (hown : w.ownsRow b t 1 vp n vs) (hg : w.grownBy w' vp.ownBlock) (h5 : t ≠ 5) (h39 : t ≠ 96) : IsPen w' p v xs :=
  ⟨(hg.block p (blk_lt h.blk) (fun e => own_ne hown h.blk h39 e.symm)).trans h.blk, h.row.kept hg (own_type_ne h.row hown (fun e => h5 e.symm))⟩
theorem PenIn.beside {B : Nat} {w0 w w' : World} {p b n : Nat} {v vp : Value} {xs : List UInt8} {vs : List Value} {t : TypeId} (h : PenIn B w0 w p v xs) (hown : w.ownsRow b t 1 vp n vs) (hg : w.grownBy w' vp.ownBlock) (h5 : t ≠ 5) (h39 : t ≠ 96) (hB : B ≤ w.heap.size) (hb : B ≤ b) : PenIn B w0 w' p v xs :=
  ⟨h.pen.beside hown hg h5 h39, h.lo, h.lov, h.below.grown hg hB (fun k hk => Nat.le_trans hb (hown.lt k hk).1)⟩
/-- The list's slices, told in the first world. -/
def Held (w : World) (vs : List Value) (ls : List (List UInt8)) : Prop := vs.length = ls.length ∧ ∀ (i : Nat) v l, vs[i]? = some v → ls[i]? = some l → HB w v l
theorem Held.snoc {w : World} {vs : List Value} {ls : List (List UInt8)} {v : Value} {l : List UInt8} (h : Held w vs ls) (hv : HB w v l) : Held w (vs ++ [v]) (ls ++ [l]) := by
  refine ⟨by simp [h.1], fun i u m hu hm => ?_⟩
  by_cases hi : i < vs.length
  · rw [List.getElem?_append_left hi] at hu
    rw [List.getElem?_append_left (by have := h.1; omega)] at hm
    exact h.2 i u m hu hm
  · rw [List.getElem?_append_right (by omega)] at hu
    rw [List.getElem?_append_right (by have := h.1; omega)] at hm
    have : i - vs.length = 0 := by have := (List.getElem?_eq_some_iff.1 hu).1; simpa using this
    rw [← h.1, this] at hm
    rw [this] at hu
    simp at hu hm
    subst hu hm
    exact hv
theorem Parts.of_held {w w' : World} {b : Nat} {t : TypeId} {v : Value} {vs : List Value} {ls : List (List UInt8)} (h : Held w vs ls) (hb : Below w.heap.size w w') (hown : w'.ownsRow b t 1 v vs.length vs) : Parts w' v ls := by
  have hl := h.1
  rcases hown.2 with ⟨rfl, hn⟩ | ⟨g, cap, cur, rfl, _, _, hnc, _⟩
  · have : vs = [] := List.eq_nil_of_length_eq_zero hn
    subst this
    have : ls = [] := List.eq_nil_of_length_eq_zero (by simpa using hl.symm)
    subst this
    exact ⟨none, 0, rfl, Nat.le_refl _, fun h => absurd rfl h⟩
  · refine ⟨some ⟨g, 0, none⟩, cap, by rw [hl], by omega, fun _ => ⟨g, 0, vs, rfl, hl, fun i v hv => hown.cells (g := g) rfl i v hv, fun i v l hv hm => ((h.2 i v l hv hm).below hb).holds⟩⟩

theorem slice_info : (Try.prog.info? 28).map (fun i => (i.zero, i.size, i.bytes)) = some (some (.slice none 0 0), 1, 24) := by kernel_rfl
end
section
open Go.RowKit Go.Proofs
theorem le_leNum (l : List UInt8) : le l.length (leNum l) = l := by
  induction l with
  | nil => rfl
  | cons x r ih =>
    have hx := x.toNat_lt
    rw [List.length_cons, le, leNum]
    have h1 : (x.toNat + 256 * leNum r) % 256 = x.toNat := by omega
    have h2 : (x.toNat + 256 * leNum r) / 256 = leNum r := by omega
    rw [h1, h2, ih]
    simp
/-- What is read as a size is what is written for it. -/
theorem getSize_csize {xs : List UInt8} {n k : Nat} (h : getSize xs = some (n, k)) : csize n = xs.take k ∧ k = compact n := by
  cases xs with
  | nil => simp [getSize] at h
  | cons f r =>
    simp only [getSize] at h
    have hf := f.toNat_lt
    split at h
    · rename_i h1
      simp only [Option.some.injEq, Prod.mk.injEq] at h; obtain ⟨rfl, rfl⟩ := h
      simp [csize, compact, h1]
    · rename_i h1
      split at h
      · cases h
      · rename_i h2
        split at h
        · rename_i h3
          simp only [Option.some.injEq, Prod.mk.injEq] at h; obtain ⟨rfl, rfl⟩ := h
          refine ⟨?_, h3.symm⟩
          have hl : (r.take (msz f)).length = msz f := by simp; omega
          have hle := le_leNum (r.take (msz f))
          rw [hl] at hle
          have hm : msz f = 2 ∨ msz f = 4 ∨ msz f = 8 := by unfold msz; split; simp; split <;> simp
          have hmf : (msz f = 2 → f = 253) ∧ (msz f = 4 → f = 254) ∧ (msz f = 8 → f = 255) := by
            unfold msz
            split
            · rename_i h; exact ⟨fun _ => UInt8.toNat_inj.1 h, by simp, by simp⟩
            · split
              · rename_i h; exact ⟨by simp, fun _ => UInt8.toNat_inj.1 h, by simp⟩
              · exact ⟨by simp, by simp, fun _ => UInt8.toNat_inj.1 (show f.toNat = 255 by omega)⟩
          rw [List.take_succ_cons]
          generalize leNum (r.take (msz f)) = v at h3 hle ⊢
          rw [← hle]
          have hc : (compact v = 3 → ¬ v < 253 ∧ v < 65536) ∧ (compact v = 5 → ¬ v < 253 ∧ ¬ v < 65536 ∧ v < 4294967296) ∧ (compact v = 9 → ¬ v < 253 ∧ ¬ v < 65536 ∧ ¬ v < 4294967296) := by
            unfold compact
            refine ⟨?_, ?_, ?_⟩ <;> (split <;> (try split) <;> (try split) <;> simp <;> omega)
          unfold csize
          rcases hm with h | h | h <;> rw [h] at h3 ⊢
          · have := hmf.1 h; subst this
            have := hc.1 h3
            rw [if_neg this.1, if_pos this.2]
          · have := hmf.2.1 h; subst this
            have := hc.2.1 h3
            rw [if_neg this.1, if_neg this.2.1, if_pos this.2.2]
          · have := hmf.2.2 h; subst this
            have := hc.2.2 h3
            rw [if_neg this.1, if_neg this.2.1, if_neg this.2.2]
        · cases h
theorem getBytes_csize {most : Int} {xs l : List UInt8} {m : Nat} (h : getBytes most xs = some (l, m)) : csize l.length ++ l = xs.take m ∧ ∃ k, getSize xs = some (l.length, k) ∧ (l.length : Int) ≤ most ∧ m = k + l.length ∧ m ≤ xs.length := by
  obtain ⟨n, k, hg, rfl, rfl, h0, hm, hx⟩ := getBytes_some h
  have hl : ((xs.drop k).take n).length = n := by simp; omega
  rw [hl]
  refine ⟨?_, k, hg, hm, rfl, hx⟩
  rw [(getSize_csize hg).1, List.take_add]
end
section
open Go.RowKit Go.Proofs
set_option maxHeartbeats 400000 in
set_option maxRecDepth 100000 in
theorem twin_any (b : Value) (xs : List UInt8) (w : World) (hb : HB w b xs) (hl : xs.length ≤ 70368744177664) :
    Calls Try.prog 75 #[b] w fun e w' => ∃ v', e = .returned v' ∧ w'.ownsRow w.heap.size 5 1 v' xs.length (bs xs) ∧ Below w.heap.size w w' := by
  have Hb := Lib.hid hb
  obtain ⟨A, c, rfl, hlc⟩ := hb.shape
  clear hb
  go_enter Try.func75, Try.ntmps75
  go_wp2_with (at_builtin; refine wpl_pushes _ rfl (.tmp 4) (.tmp 5) 28 rfl w.heap.size 5 Try.underlying28 u8_info _ [] xs _ rfl rfl ?c1 ?c2 ?c3 ?c4 ?_)
  case c1 => exact World.ownsRow_nil _ _ _ _
  case c2 => exact Hb.out
  case c3 => simp; omega
  case c4 => exact Nat.le_refl _
  intro v' w' hown hg hnx
  have hbl : Below w.heap.size w w' := (Below.refl _ _).grown hg (Nat.le_refl _) (by simp [Value.ownBlock])
  go_wp2_with fail
  go_ret
  exact ⟨_, rfl, hown, hbl⟩
def PowRel (k : Nat) (w : World) (s4 s3 : Value) (w' : World) : Prop := ∃ i : Nat, i ≤ k ∧ s4 = .int .i64 i ∧ s3 = .int .u64 (256 ^ i : Nat) ∧ w' = w
set_option maxHeartbeats 400000 in
set_option maxRecDepth 100000 in
theorem power_any (k : Nat) (hk : k ≤ 7) (w : World) : Calls Try.prog 124 #[.int .i64 (k : Int)] w fun e w' => e = .returned (.int .u64 (256 ^ k : Nat)) ∧ w = w' := by
  go_enter Try.func124, Try.ntmps124
  go_wp2_with fail
  go_loopw [4, 3] (fun s4 s3 w' => PowRel k w s4 s3 w') (fun s4 _ _ => k - (intOf s4).toNat)
  case atStart => exact ⟨0, by omega, rfl, rfl, rfl⟩
  case round =>
    obtain ⟨i, hi, rfl, rfl, rfl⟩ := hrel
    by_cases hlt : i < k
    · have hp : 256 ^ i ≤ 256 ^ 6 := Nat.pow_le_pow_right (by omega) (by omega)
      have h6 : (256 : Nat) ^ 6 = 281474976710656 := by decide
      rw [h6] at hp
      have hs : 256 ^ (i + 1) = 256 ^ i * 256 := Nat.pow_succ ..
      generalize 256 ^ i = q at *
      have HS := Lib.hid hs; clear hs h6
      go_wp2_with fail
      go_roundw
      case rel => exact ⟨i + 1, by omega, by go_num, by rw [HS.out]; go_num, rfl⟩
      case measure => simp [intOf]; omega
    · obtain rfl : i = k := by omega
      obtain ⟨q, hq⟩ : ∃ q, q = 256 ^ i := ⟨_, rfl⟩
      rw [← hq]
      have HQ := Lib.hid hq; clear hq
      go_wp2_with fail
      go_ret
      exact ⟨by rw [← HQ.out]; rfl, rfl⟩
end
section
open Go.RowKit Go.Proofs
theorem wrap_div (n q : Nat) (hn : n < 18446744073709551616) : IntKind.u64.wrap ((n : Int) / (q : Int)) = (n : Int) / (q : Int) := by
  rw [← Int.natCast_ediv, IntKind.wrap_u64]
  have := Nat.div_le_self n q
  generalize n / q = t at *
  omega
def RFixRel (w : World) (k n : Nat) (s7 s6 : Value) (w' : World) : Prop :=
  ∃ i : Nat, i ≤ k ∧ s7 = .int .i64 i ∧ w'.ownsRow w.heap.size 5 1 s6 (le i n).length (bs (le i n)) ∧ Below w.heap.size w w'
set_option maxHeartbeats 400000 in
set_option maxRecDepth 100000 in
theorem rfixed_1 (n : Nat) (w : World) (hn : n < 18446744073709551616) (hg : n < 256 ^ 1) :
    Calls Try.prog 121 #[.int .i64 1, .int .u64 (n : Int)] w fun e w' => ∃ v', e = .returned (.tuple #[v', .int .i64 0]) ∧ w'.ownsRow w.heap.size 5 1 v' (le 1 n).length (bs (le 1 n)) ∧ Below w.heap.size w w' := by
  have Hn := Lib.hid hn
  clear hn
  obtain ⟨p, hp⟩ : ∃ p, 256 ^ 1 = p := ⟨_, rfl⟩
  rw [hp] at hg
  have hpb : decide (p ≤ n) = false := by simp; omega
  have HP := Lib.hid hp
  clear hp
  go_enter Try.func121, Try.ntmps121
  go_wp2_with (go_at_call 124; refine (power_any 1 (by decide) _).mono ?_; rw [HP.out]; rintro e w' ⟨rfl, rfl⟩)
  go_loopw [7, 6] (fun s7 s6 w' => RFixRel w 1 n s7 s6 w') (fun s7 _ _ => 1 - (intOf s7).toNat)
  case atStart => exact ⟨0, by omega, rfl, World.ownsRow_nil _ _ _ _, Below.refl _ _⟩
  case round =>
    obtain ⟨i, hi, rfl, hown, hb⟩ := hrel
    have HO := Lib.hid hown; have HB := Lib.hid hb
    obtain ⟨A, c, rfl⟩ := own_slice hown
    clear hown hb
    by_cases hlt : i < 1
    · have hp0 : 0 < 256 ^ i := Nat.pow_pos (by omega)
      have hln : le (i + 1) n = le i n ++ [UInt8.ofNat (n / 256 ^ i % 256)] := le_snoc i n
      have hll := le_length i n
      obtain ⟨q, hq⟩ : ∃ q, 256 ^ i = q := ⟨_, rfl⟩
      rw [hq] at hp0 hln
      have HQ := Lib.hid hq; have HLN := Lib.hid hln; have HLL := Lib.hid hll
      clear hq hln hll
      have hq0 : ((q : Int) == 0) = false := by simp; omega
      have hdq : ((n / q : Nat) : Int) = (n : Int) / (q : Int) := Int.natCast_ediv n q
      have wq : IntKind.u64.wrap ((n : Int) / (q : Int)) = (n : Int) / (q : Int) := wrap_div n q Hn.out
      have htm : ((n : Int) / (q : Int)).tmod 256 = (n : Int) / (q : Int) % 256 := Int.tmod_eq_emod_of_nonneg (by rw [← hdq]; exact Int.natCast_nonneg _)
      have HDQ := Lib.hid hdq
      have HOb := Lib.hid (show wr.ownsRow w.heap.size 5 1 (.slice A (le i n).length c) (bs (le i n)).length (bs (le i n)) from by rw [bs_length]; exact HO.out)
      clear hdq
      go_wp2_with (first
        | (go_at_call 124; refine (power_any i (by omega) _).mono ?_; rw [HQ.out]; rintro e w' ⟨rfl, rfl⟩)
        | (at_builtin; go_loud (refine wpl_push w.heap.size rfl _ _ 28 5 (.int .u8 0) 1 rfl Try.underlying28 u8_info rfl (by decide) (.slice A (le i n).length c) (bs (le i n)) _ rfl rfl rfl HOb.out HB.out.size ?c1 ?_)))
      case c1 => rw [bs_length, HLL.out]; omega
      intro v1 w1 hown1 hg1 hnx1
      have hb1 : Below w.heap.size w w1 := HB.out.grown hg1 HB.out.size (fun g hk => (HO.out.lt g hk).1)
      have hy : bs (le (i + 1) n) = bs (le i n) ++ [Value.int .u8 ((n : Int) / (q : Int) % 256)] := by
        rw [HLN.out, bs_append, ← HDQ.out, u8_cell]; rfl
      have hown2 : w1.ownsRow w.heap.size 5 1 v1 (le (i + 1) n).length (bs (le (i + 1) n)) := by
        rw [hy, show (le (i + 1) n).length = (le i n).length + 1 from by simp [le_length]]; exact hown1
      obtain ⟨A2, c2, rfl⟩ := own_slice hown2
      have HO2 := Lib.hid hown2; have HB2 := Lib.hid hb1
      clear hy hown2 hb1 hown1 hg1 hnx1
      go_wp2_with fail
      go_roundw
      case rel => exact ⟨i + 1, by omega, by go_num, HO2.out, HB2.out⟩
      case measure => simp [intOf]; omega
    · obtain rfl : i = 1 := by omega
      go_wp2_with fail
      go_ret2
      exact ⟨_, rfl, HO.out, HB.out⟩
set_option maxHeartbeats 400000 in
set_option maxRecDepth 100000 in
theorem rfixed_2 (n : Nat) (w : World) (hn : n < 18446744073709551616) (hg : n < 256 ^ 2) :
    Calls Try.prog 121 #[.int .i64 2, .int .u64 (n : Int)] w fun e w' => ∃ v', e = .returned (.tuple #[v', .int .i64 0]) ∧ w'.ownsRow w.heap.size 5 1 v' (le 2 n).length (bs (le 2 n)) ∧ Below w.heap.size w w' := by
  have Hn := Lib.hid hn
  clear hn
  obtain ⟨p, hp⟩ : ∃ p, 256 ^ 2 = p := ⟨_, rfl⟩
  rw [hp] at hg
  have hpb : decide (p ≤ n) = false := by simp; omega
  have HP := Lib.hid hp
  clear hp
  go_enter Try.func121, Try.ntmps121
  go_wp2_with (go_at_call 124; refine (power_any 2 (by decide) _).mono ?_; rw [HP.out]; rintro e w' ⟨rfl, rfl⟩)
  go_loopw [7, 6] (fun s7 s6 w' => RFixRel w 2 n s7 s6 w') (fun s7 _ _ => 2 - (intOf s7).toNat)
  case atStart => exact ⟨0, by omega, rfl, World.ownsRow_nil _ _ _ _, Below.refl _ _⟩
  case round =>
    obtain ⟨i, hi, rfl, hown, hb⟩ := hrel
    have HO := Lib.hid hown; have HB := Lib.hid hb
    obtain ⟨A, c, rfl⟩ := own_slice hown
    clear hown hb
    by_cases hlt : i < 2
    · have hp0 : 0 < 256 ^ i := Nat.pow_pos (by omega)
      have hln : le (i + 1) n = le i n ++ [UInt8.ofNat (n / 256 ^ i % 256)] := le_snoc i n
      have hll := le_length i n
      obtain ⟨q, hq⟩ : ∃ q, 256 ^ i = q := ⟨_, rfl⟩
      rw [hq] at hp0 hln
      have HQ := Lib.hid hq; have HLN := Lib.hid hln; have HLL := Lib.hid hll
      clear hq hln hll
      have hq0 : ((q : Int) == 0) = false := by simp; omega
      have hdq : ((n / q : Nat) : Int) = (n : Int) / (q : Int) := Int.natCast_ediv n q
      have wq : IntKind.u64.wrap ((n : Int) / (q : Int)) = (n : Int) / (q : Int) := wrap_div n q Hn.out
      have htm : ((n : Int) / (q : Int)).tmod 256 = (n : Int) / (q : Int) % 256 := Int.tmod_eq_emod_of_nonneg (by rw [← hdq]; exact Int.natCast_nonneg _)
      have HDQ := Lib.hid hdq
      have HOb := Lib.hid (show wr.ownsRow w.heap.size 5 1 (.slice A (le i n).length c) (bs (le i n)).length (bs (le i n)) from by rw [bs_length]; exact HO.out)
      clear hdq
      go_wp2_with (first
        | (go_at_call 124; refine (power_any i (by omega) _).mono ?_; rw [HQ.out]; rintro e w' ⟨rfl, rfl⟩)
        | (at_builtin; go_loud (refine wpl_push w.heap.size rfl _ _ 28 5 (.int .u8 0) 1 rfl Try.underlying28 u8_info rfl (by decide) (.slice A (le i n).length c) (bs (le i n)) _ rfl rfl rfl HOb.out HB.out.size ?c1 ?_)))
      case c1 => rw [bs_length, HLL.out]; omega
      intro v1 w1 hown1 hg1 hnx1
      have hb1 : Below w.heap.size w w1 := HB.out.grown hg1 HB.out.size (fun g hk => (HO.out.lt g hk).1)
      have hy : bs (le (i + 1) n) = bs (le i n) ++ [Value.int .u8 ((n : Int) / (q : Int) % 256)] := by
        rw [HLN.out, bs_append, ← HDQ.out, u8_cell]; rfl
      have hown2 : w1.ownsRow w.heap.size 5 1 v1 (le (i + 1) n).length (bs (le (i + 1) n)) := by
        rw [hy, show (le (i + 1) n).length = (le i n).length + 1 from by simp [le_length]]; exact hown1
      obtain ⟨A2, c2, rfl⟩ := own_slice hown2
      have HO2 := Lib.hid hown2; have HB2 := Lib.hid hb1
      clear hy hown2 hb1 hown1 hg1 hnx1
      go_wp2_with fail
      go_roundw
      case rel => exact ⟨i + 1, by omega, by go_num, HO2.out, HB2.out⟩
      case measure => simp [intOf]; omega
    · obtain rfl : i = 2 := by omega
      go_wp2_with fail
      go_ret2
      exact ⟨_, rfl, HO.out, HB.out⟩
set_option maxHeartbeats 400000 in
set_option maxRecDepth 100000 in
theorem rfixed_4 (n : Nat) (w : World) (hn : n < 18446744073709551616) (hg : n < 256 ^ 4) :
    Calls Try.prog 121 #[.int .i64 4, .int .u64 (n : Int)] w fun e w' => ∃ v', e = .returned (.tuple #[v', .int .i64 0]) ∧ w'.ownsRow w.heap.size 5 1 v' (le 4 n).length (bs (le 4 n)) ∧ Below w.heap.size w w' := by
  have Hn := Lib.hid hn
  clear hn
  obtain ⟨p, hp⟩ : ∃ p, 256 ^ 4 = p := ⟨_, rfl⟩
  rw [hp] at hg
  have hpb : decide (p ≤ n) = false := by simp; omega
  have HP := Lib.hid hp
  clear hp
  go_enter Try.func121, Try.ntmps121
  go_wp2_with (go_at_call 124; refine (power_any 4 (by decide) _).mono ?_; rw [HP.out]; rintro e w' ⟨rfl, rfl⟩)
  go_loopw [7, 6] (fun s7 s6 w' => RFixRel w 4 n s7 s6 w') (fun s7 _ _ => 4 - (intOf s7).toNat)
  case atStart => exact ⟨0, by omega, rfl, World.ownsRow_nil _ _ _ _, Below.refl _ _⟩
  case round =>
    obtain ⟨i, hi, rfl, hown, hb⟩ := hrel
    have HO := Lib.hid hown; have HB := Lib.hid hb
    obtain ⟨A, c, rfl⟩ := own_slice hown
    clear hown hb
    by_cases hlt : i < 4
    · have hp0 : 0 < 256 ^ i := Nat.pow_pos (by omega)
      have hln : le (i + 1) n = le i n ++ [UInt8.ofNat (n / 256 ^ i % 256)] := le_snoc i n
      have hll := le_length i n
      obtain ⟨q, hq⟩ : ∃ q, 256 ^ i = q := ⟨_, rfl⟩
      rw [hq] at hp0 hln
      have HQ := Lib.hid hq; have HLN := Lib.hid hln; have HLL := Lib.hid hll
      clear hq hln hll
      have hq0 : ((q : Int) == 0) = false := by simp; omega
      have hdq : ((n / q : Nat) : Int) = (n : Int) / (q : Int) := Int.natCast_ediv n q
      have wq : IntKind.u64.wrap ((n : Int) / (q : Int)) = (n : Int) / (q : Int) := wrap_div n q Hn.out
      have htm : ((n : Int) / (q : Int)).tmod 256 = (n : Int) / (q : Int) % 256 := Int.tmod_eq_emod_of_nonneg (by rw [← hdq]; exact Int.natCast_nonneg _)
      have HDQ := Lib.hid hdq
      have HOb := Lib.hid (show wr.ownsRow w.heap.size 5 1 (.slice A (le i n).length c) (bs (le i n)).length (bs (le i n)) from by rw [bs_length]; exact HO.out)
      clear hdq
      go_wp2_with (first
        | (go_at_call 124; refine (power_any i (by omega) _).mono ?_; rw [HQ.out]; rintro e w' ⟨rfl, rfl⟩)
        | (at_builtin; go_loud (refine wpl_push w.heap.size rfl _ _ 28 5 (.int .u8 0) 1 rfl Try.underlying28 u8_info rfl (by decide) (.slice A (le i n).length c) (bs (le i n)) _ rfl rfl rfl HOb.out HB.out.size ?c1 ?_)))
      case c1 => rw [bs_length, HLL.out]; omega
      intro v1 w1 hown1 hg1 hnx1
      have hb1 : Below w.heap.size w w1 := HB.out.grown hg1 HB.out.size (fun g hk => (HO.out.lt g hk).1)
      have hy : bs (le (i + 1) n) = bs (le i n) ++ [Value.int .u8 ((n : Int) / (q : Int) % 256)] := by
        rw [HLN.out, bs_append, ← HDQ.out, u8_cell]; rfl
      have hown2 : w1.ownsRow w.heap.size 5 1 v1 (le (i + 1) n).length (bs (le (i + 1) n)) := by
        rw [hy, show (le (i + 1) n).length = (le i n).length + 1 from by simp [le_length]]; exact hown1
      obtain ⟨A2, c2, rfl⟩ := own_slice hown2
      have HO2 := Lib.hid hown2; have HB2 := Lib.hid hb1
      clear hy hown2 hb1 hown1 hg1 hnx1
      go_wp2_with fail
      go_roundw
      case rel => exact ⟨i + 1, by omega, by go_num, HO2.out, HB2.out⟩
      case measure => simp [intOf]; omega
    · obtain rfl : i = 4 := by omega
      go_wp2_with fail
      go_ret2
      exact ⟨_, rfl, HO.out, HB.out⟩
set_option maxHeartbeats 400000 in
set_option maxRecDepth 100000 in
theorem rfixed_8 (n : Nat) (w : World) (hn : n < 18446744073709551616) (hg : n < 256 ^ 8) :
    Calls Try.prog 121 #[.int .i64 8, .int .u64 (n : Int)] w fun e w' => ∃ v', e = .returned (.tuple #[v', .int .i64 0]) ∧ w'.ownsRow w.heap.size 5 1 v' (le 8 n).length (bs (le 8 n)) ∧ Below w.heap.size w w' := by
  have Hn := Lib.hid hn
  clear hn
  clear hg
  go_enter Try.func121, Try.ntmps121
  go_wp2_with fail
  go_loopw [7, 6] (fun s7 s6 w' => RFixRel w 8 n s7 s6 w') (fun s7 _ _ => 8 - (intOf s7).toNat)
  case atStart => exact ⟨0, by omega, rfl, World.ownsRow_nil _ _ _ _, Below.refl _ _⟩
  case round =>
    obtain ⟨i, hi, rfl, hown, hb⟩ := hrel
    have HO := Lib.hid hown; have HB := Lib.hid hb
    obtain ⟨A, c, rfl⟩ := own_slice hown
    clear hown hb
    by_cases hlt : i < 8
    · have hp0 : 0 < 256 ^ i := Nat.pow_pos (by omega)
      have hln : le (i + 1) n = le i n ++ [UInt8.ofNat (n / 256 ^ i % 256)] := le_snoc i n
      have hll := le_length i n
      obtain ⟨q, hq⟩ : ∃ q, 256 ^ i = q := ⟨_, rfl⟩
      rw [hq] at hp0 hln
      have HQ := Lib.hid hq; have HLN := Lib.hid hln; have HLL := Lib.hid hll
      clear hq hln hll
      have hq0 : ((q : Int) == 0) = false := by simp; omega
      have hdq : ((n / q : Nat) : Int) = (n : Int) / (q : Int) := Int.natCast_ediv n q
      have wq : IntKind.u64.wrap ((n : Int) / (q : Int)) = (n : Int) / (q : Int) := wrap_div n q Hn.out
      have htm : ((n : Int) / (q : Int)).tmod 256 = (n : Int) / (q : Int) % 256 := Int.tmod_eq_emod_of_nonneg (by rw [← hdq]; exact Int.natCast_nonneg _)
      have HDQ := Lib.hid hdq
      have HOb := Lib.hid (show wr.ownsRow w.heap.size 5 1 (.slice A (le i n).length c) (bs (le i n)).length (bs (le i n)) from by rw [bs_length]; exact HO.out)
      clear hdq
      go_wp2_with (first
        | (go_at_call 124; refine (power_any i (by omega) _).mono ?_; rw [HQ.out]; rintro e w' ⟨rfl, rfl⟩)
        | (at_builtin; go_loud (refine wpl_push w.heap.size rfl _ _ 28 5 (.int .u8 0) 1 rfl Try.underlying28 u8_info rfl (by decide) (.slice A (le i n).length c) (bs (le i n)) _ rfl rfl rfl HOb.out HB.out.size ?c1 ?_)))
      case c1 => rw [bs_length, HLL.out]; omega
      intro v1 w1 hown1 hg1 hnx1
      have hb1 : Below w.heap.size w w1 := HB.out.grown hg1 HB.out.size (fun g hk => (HO.out.lt g hk).1)
      have hy : bs (le (i + 1) n) = bs (le i n) ++ [Value.int .u8 ((n : Int) / (q : Int) % 256)] := by
        rw [HLN.out, bs_append, ← HDQ.out, u8_cell]; rfl
      have hown2 : w1.ownsRow w.heap.size 5 1 v1 (le (i + 1) n).length (bs (le (i + 1) n)) := by
        rw [hy, show (le (i + 1) n).length = (le i n).length + 1 from by simp [le_length]]; exact hown1
      obtain ⟨A2, c2, rfl⟩ := own_slice hown2
      have HO2 := Lib.hid hown2; have HB2 := Lib.hid hb1
      clear hy hown2 hb1 hown1 hg1 hnx1
      go_wp2_with fail
      go_roundw
      case rel => exact ⟨i + 1, by omega, by go_num, HO2.out, HB2.out⟩
      case measure => simp [intOf]; omega
    · obtain rfl : i = 8 := by omega
      go_wp2_with fail
      go_ret2
      exact ⟨_, rfl, HO.out, HB.out⟩
set_option maxHeartbeats 400000 in
set_option maxRecDepth 100000 in
theorem rbig_1 (n : Nat) (w : World) (hg : 256 ^ 1 ≤ n) :
    Calls Try.prog 121 #[.int .i64 1, .int .u64 (n : Int)] w fun e w' => e = .returned (.tuple #[.slice none 0 0, .int .i64 10]) ∧ w = w' := by
  obtain ⟨p, hp⟩ : ∃ p, 256 ^ 1 = p := ⟨_, rfl⟩
  rw [hp] at hg
  have hpb : decide (p ≤ n) = true := by simp; omega
  have HP := Lib.hid hp
  clear hp
  go_enter Try.func121, Try.ntmps121
  go_wp2_with (go_at_call 124; refine (power_any 1 (by decide) _).mono ?_; rw [HP.out]; rintro e w' ⟨rfl, rfl⟩)
  go_ret2
  exact ⟨rfl, rfl⟩
set_option maxHeartbeats 400000 in
set_option maxRecDepth 100000 in
theorem rbig_2 (n : Nat) (w : World) (hg : 256 ^ 2 ≤ n) :
    Calls Try.prog 121 #[.int .i64 2, .int .u64 (n : Int)] w fun e w' => e = .returned (.tuple #[.slice none 0 0, .int .i64 10]) ∧ w = w' := by
  obtain ⟨p, hp⟩ : ∃ p, 256 ^ 2 = p := ⟨_, rfl⟩
  rw [hp] at hg
  have hpb : decide (p ≤ n) = true := by simp; omega
  have HP := Lib.hid hp
  clear hp
  go_enter Try.func121, Try.ntmps121
  go_wp2_with (go_at_call 124; refine (power_any 2 (by decide) _).mono ?_; rw [HP.out]; rintro e w' ⟨rfl, rfl⟩)
  go_ret2
  exact ⟨rfl, rfl⟩
set_option maxHeartbeats 400000 in
set_option maxRecDepth 100000 in
theorem rbig_4 (n : Nat) (w : World) (hg : 256 ^ 4 ≤ n) :
    Calls Try.prog 121 #[.int .i64 4, .int .u64 (n : Int)] w fun e w' => e = .returned (.tuple #[.slice none 0 0, .int .i64 10]) ∧ w = w' := by
  obtain ⟨p, hp⟩ : ∃ p, 256 ^ 4 = p := ⟨_, rfl⟩
  rw [hp] at hg
  have hpb : decide (p ≤ n) = true := by simp; omega
  have HP := Lib.hid hp
  clear hp
  go_enter Try.func121, Try.ntmps121
  go_wp2_with (go_at_call 124; refine (power_any 4 (by decide) _).mono ?_; rw [HP.out]; rintro e w' ⟨rfl, rfl⟩)
  go_ret2
  exact ⟨rfl, rfl⟩
set_option maxHeartbeats 400000 in
set_option maxRecDepth 100000 in
theorem rfixed_wide (k : Int) (n : Nat) (w : World) (hw : wideB k = false) :
    Calls Try.prog 121 #[.int .i64 k, .int .u64 (n : Int)] w fun e w' => e = .returned (.tuple #[.slice none 0 0, .int .i64 2]) ∧ w = w' := by
  have h1 : (k != 1) = true := by simp [wideB] at hw ⊢; omega
  have h2 : (k != 2) = true := by simp [wideB] at hw ⊢; omega
  have h4 : (k != 4) = true := by simp [wideB] at hw ⊢; omega
  have h8 : (k != 8) = true := by simp [wideB] at hw ⊢; omega
  clear hw
  go_enter Try.func121, Try.ntmps121
  go_wp2_with fail
  go_ret2
  exact ⟨rfl, rfl⟩
/-- The reference's fixed number. -/
theorem rfixed_any (k : Int) (n : Nat) (w : World) (hn : n < 18446744073709551616) :
    Calls Try.prog 121 #[.int .i64 k, .int .u64 (n : Int)] w fun e w' => ∃ v', e = .returned (.tuple #[v', .int .i64 (fixedE k n)]) ∧ w'.ownsRow w.heap.size 5 1 v' (fixedB k n).length (bs (fixedB k n)) ∧ Below w.heap.size w w' := by
  by_cases hw : wideB k = true
  · have hk := wideB_cases hw
    by_cases hg : goesB n k.toNat = true
    · have hE : fixedE k n = 0 := by rw [fixedE, if_neg (by rw [hw]; decide), if_neg (by rw [hg]; decide)]
      rw [fixedB, hE, if_pos rfl]
      have hgp : n < 256 ^ k.toNat := by simpa [goesB] using hg
      rcases hk with rfl | rfl | rfl | rfl
      · exact rfixed_1 n w hn hgp
      · exact rfixed_2 n w hn hgp
      · exact rfixed_4 n w hn hgp
      · exact rfixed_8 n w hn hgp
    · have hE : fixedE k n = 10 := by rw [fixedE, if_neg (by rw [hw]; decide), if_pos (by simpa using hg)]
      rw [fixedB, hE, if_neg (by decide)]
      have hgp : 256 ^ k.toNat ≤ n := by simpa [goesB] using hg
      have key : Calls Try.prog 121 #[.int .i64 k, .int .u64 (n : Int)] w fun e w' => e = .returned (.tuple #[.slice none 0 0, .int .i64 10]) ∧ w = w' := by
        rcases hk with rfl | rfl | rfl | rfl
        · exact rbig_1 n w hgp
        · exact rbig_2 n w hgp
        · exact rbig_4 n w hgp
        · exact absurd hn (by have : (256 : Nat) ^ (8 : Int).toNat = 18446744073709551616 := by decide
                              omega)
      refine key.mono ?_
      rintro e w' ⟨rfl, rfl⟩
      exact ⟨_, rfl, World.ownsRow_nil _ _ _ _, Below.refl _ _⟩
  · simp only [Bool.not_eq_true] at hw
    have hE : fixedE k n = 2 := by rw [fixedE, if_pos hw]
    rw [fixedB, hE, if_neg (by decide)]
    refine (rfixed_wide k n w hw).mono ?_
    rintro e w' ⟨rfl, rfl⟩
    exact ⟨_, rfl, World.ownsRow_nil _ _ _ _, Below.refl _ _⟩
end
section
open Go.RowKit Go.Proofs
theorem leNum_app (a b : List UInt8) : leNum (a ++ b) = leNum a + 256 ^ a.length * leNum b := by
  induction a with
  | nil => simp [leNum]
  | cons x r ih => rw [List.cons_append, leNum, leNum, ih, List.length_cons, Nat.pow_succ, Nat.mul_add, ← Nat.mul_assoc, Nat.mul_comm 256 (256 ^ r.length), Nat.add_assoc]
theorem leNum_take1 (l : List UInt8) (i : Nat) (h : i < l.length) : leNum (l.take (i + 1)) = leNum (l.take i) + l[i].toNat * 256 ^ i := by
  rw [List.take_succ_eq_append_getElem h, leNum_app, List.length_take, Nat.min_eq_left (by omega), Nat.mul_comm]; simp [leNum]
def NumRel (l : List UInt8) (w : World) (s4 s3 : Value) (w' : World) : Prop := ∃ i : Nat, i ≤ l.length ∧ s4 = .int .i64 i ∧ s3 = .int .u64 (leNum (l.take i) : Nat) ∧ Below w.heap.size w w'
attribute [local irreducible] Calls
set_option maxHeartbeats 1000000 in
set_option maxRecDepth 100000 in
theorem rnum_any (b : Value) (l : List UInt8) (w : World) (hb : HB w b l) (hl : l.length ≤ 8) :
    Calls Try.prog 66 #[b] w fun e w' => e = .returned (.int .u64 (leNum l : Nat)) ∧ Below w.heap.size w w' := by
  have Hb := Lib.hid hb
  obtain ⟨A, c, rfl, hlc⟩ := hb.shape
  clear hb
  go_enter Try.func66, Try.ntmps66
  go_wp2_with fail
  go_loopw [4, 3] (fun s4 s3 w' => NumRel l w s4 s3 w') (fun s4 _ _ => l.length - (intOf s4).toNat)
  case atStart => exact ⟨0, by omega, rfl, rfl, Below.refl _ _⟩
  case round =>
    obtain ⟨i, hi, rfl, rfl, hb⟩ := hrel
    have HX := Lib.hid hb
    by_cases hlt : i < l.length
    · obtain ⟨a, rfl, hca⟩ := Hb.out.at_ hlt hlt
      have hca1 := (World.cell?_of_block (hb.block _ (World.block_lt_of_cell? w _ hca))).trans hca
      have hs := leNum_take1 l i hlt
      have h1 := leNum_64 (l.take (i + 1)) (by simp; omega)
      have hx := (l[i]).toNat_lt
      have hq : 256 ^ i ≤ 256 ^ 7 := Nat.pow_le_pow_right (by omega) (by omega)
      rw [show (256 : Nat) ^ 7 = 72057594037927936 from by decide] at hq
      generalize l[i] = x at *
      generalize hqq : 256 ^ i = q at *
      generalize leNum (l.take i) = m at *
      generalize hm2 : leNum (l.take (i + 1)) = m2 at *
      have HM2 := Lib.hid hm2
      have hp : x.toNat * q ≤ 255 * q := Nat.mul_le_mul_right _ (by omega)
      have HQ := Lib.hid hqq
      have w1 : IntKind.u64.wrap (x.toNat : Int) = (x.toNat : Int) := by rw [IntKind.wrap_u64]; omega
      have w2 : IntKind.u64.wrap ((x.toNat : Int) * (q : Int)) = ((x.toNat * q : Nat) : Int) := by rw [← Int.natCast_mul, IntKind.wrap_u64]; generalize x.toNat * q = t at *; omega
      have w3 : IntKind.u64.wrap ((m : Int) + ((x.toNat * q : Nat) : Int)) = ((m2 : Nat) : Int) := by rw [IntKind.wrap_u64]; generalize x.toNat * q = t at *; omega
      have W3 := Lib.hid w3
      have HS := Lib.hid hs
      clear hs h1 hx hq hqq hp hb hca w3 hm2
      go_wp2_with fail
      refine wp_region_pi [(0, true), (1, true), (2, true), (3, true), (4, true), (5, true), (6, true), (7, false), (8, true), (9, true), (10, true)] (by kernel_rfl) (by kernel_rfl) rfl (by kernel_rfl) (fun _ _ _ _ _ h => h) (fun w6 => w6 = wr.drew) rfl ?_
      intro OPS hops
      iterate 7
        first | (refine wpPi_yield _ (by rw [hops.out]; simp only [List.getElem?_toArray, List.getElem?_cons_succ, List.getElem?_cons_zero]; rfl) (by first | rfl | (rw [hops.out]; rfl)) (fun w' hS => by subst hS; go_simp; rfl) ?_; simp only [Act.put, List.setIfInBounds_toArray, List.set_cons_succ, List.set_cons_zero]) | (refine wpPi_skip (by rw [hops.out]; simp only [List.getElem?_toArray, List.getElem?_cons_succ, List.getElem?_cons_zero]; rfl) (by first | rfl | (rw [hops.out]; rfl)) ?_; simp only [Act.put, List.setIfInBounds_toArray, List.set_cons_succ, List.set_cons_zero])
      refine wpPi_act (by rw [hops.out]; simp only [List.getElem?_toArray, List.getElem?_cons_succ, List.getElem?_cons_zero]; rfl) (by first | rfl | (rw [hops.out]; rfl)) ?_
      go_simp
      refine (power_any i (by omega) _).mono ?_
      rw [HQ.out]
      rintro e w6 ⟨rfl, rfl⟩
      try (refine ⟨rfl, ?_⟩)
      iterate 3
        first | (refine wpPi_yield _ (by rw [hops.out]; simp only [List.getElem?_toArray, List.getElem?_cons_succ, List.getElem?_cons_zero]; rfl) (by first | rfl | (rw [hops.out]; rfl)) (fun w' hS => by subst hS; go_simp; rfl) ?_; simp only [Act.put, List.setIfInBounds_toArray, List.set_cons_succ, List.set_cons_zero]) | (refine wpPi_skip (by rw [hops.out]; simp only [List.getElem?_toArray, List.getElem?_cons_succ, List.getElem?_cons_zero]; rfl) (by first | rfl | (rw [hops.out]; rfl)) ?_; simp only [Act.put, List.setIfInBounds_toArray, List.set_cons_succ, List.set_cons_zero])
      simp only [wpPi]
      go_wp2_with fail
      go_roundw
      case rel => rw [← Int.natCast_mul, W3.out]; exact ⟨i + 1, by omega, by go_num, by rw [HM2.out], HX.out.drew⟩
      case measure => simp [intOf]; omega
    · obtain rfl : i = l.length := by omega
      have ht : l.take l.length = l := List.take_length
      rw [ht]
      clear ht
      go_wp2_with fail
      go_ret
      exact ⟨rfl, HX.out⟩
end
end Go.Proofs.Yteljmpoaggfliaa
