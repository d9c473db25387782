/- Contracts and words that the laws stand on (RexR). -/
import Derived.Test.YteljmpoaggfliaaLawA
import Derived.Test.YteljmpoaggfliaaPenA
set_option linter.unusedVariables false
set_option linter.unusedSimpArgs false
namespace Go.Proofs.Yteljmpoaggfliaa
section
open Go.RowKit Go.Proofs
theorem fixedB_of {k n : Nat} (hk : k = 1 ∨ k = 2 ∨ k = 4 ∨ k = 8) (h : n < 256 ^ k) : fixedB (k : Int) n = le k n := by
  have hE : fixedE (k : Int) n = 0 := by
    have : wideB (k : Int) = true := by rcases hk with rfl | rfl | rfl | rfl <;> rfl
    have h2 : goesB n (k : Int).toNat = true := by simpa [goesB] using h
    rw [fixedE, if_neg (by rw [this]; decide), if_neg (by rw [h2]; decide)]
  rw [fixedB, if_pos hE, Int.toNat_natCast]
attribute [local irreducible] Calls
set_option maxHeartbeats 1000000 in
set_option maxRecDepth 100000 in
theorem rsize_any (n : Nat) (w : World) (hn : n < 18446744073709551616) :
    Calls Try.prog 97 #[.int .u64 (n : Int)] w fun e w' => ∃ v', e = .returned v' ∧ w'.ownsRow w.heap.size 5 1 v' (csize n).length (bs (csize n)) ∧ Below w.heap.size w w' := by
  have HN := Lib.hid hn
  by_cases h1 : n < 253
  · have hc : csize n = [UInt8.ofNat n] := by rw [csize, if_pos h1]
    rw [hc]
    have hi : (n : Int) < 253 := by omega
    have hm : (n : Int) % 256 = n := by omega
    have ht : ((UInt8.ofNat n).toNat : Int) = n := by rw [UInt8.toNat_ofNat_of_lt' (show n < 256 by omega)]
    have HT := Lib.hid ht
    clear hn hc ht
    go_enter Try.func97, Try.ntmps97
    go_wp2_with fail
    go_ret
    refine ⟨_, rfl, ?_, (Below.refl _ _).alloc (Nat.le_refl _) _⟩
    have := World.ownsRow_lit (base := w.heap.size) (size := 1) (e := 5) w #[.int .u8 (n : Int)] 1 (Nat.le_refl _) (by decide) rfl
    show World.ownsRow _ _ _ _ _ 1 [.int .u8 ((UInt8.ofNat n).toNat : Int)]
    rw [HT.out]; exact this
  · have hi1 : ¬ (n : Int) < 253 := by omega
    by_cases h2 : n < 65536
    · have hi2 : ¬ (65535 : Int) < n := by omega
      have hi3 : ¬ (4294967295 : Int) < n := by omega
      have HBB := Lib.hid ((show fixedB 2 n = le 2 n from fixedB_of (k := 2) (n := n) (.inr (.inl rfl)) (by simpa using h2))); have HCS := Lib.hid ((show csize n = [UInt8.ofNat 253] ++ le 2 n by rw [csize, if_neg h1, if_pos h2]; rfl))
      clear hn
      go_enter Try.func97, Try.ntmps97
      go_wp2_with fail
      refine (rfixed_any 2 n w HN.out).mono ?_
      rw [HBB.out, le_length]
      rintro e w1 ⟨v1, rfl, hown, hb⟩
      have hbb : HB w1 v1 (le 2 n) := HB.of_own (base := w.heap.size) (e := 5) (by rw [le_length]; exact hown)
      obtain ⟨A, c, rfl⟩ := own_slice hown
      have hlit : (w1.alloc (.cells #[.int .u8 253] 5)).ownsRow w.heap.size 5 1 (.slice (some ⟨w1.heap.size, 0, none⟩) 1 1) [UInt8.ofNat 253].length (bs [UInt8.ofNat 253]) := World.ownsRow_lit w1 #[.int .u8 253] 1 hb.size (by decide) rfl
      have HL := Lib.hid hlit
      have HB2 := Lib.hid (hbb.below ((Below.refl _ _).alloc (Nat.le_refl _) (.cells #[.int .u8 253] 5)))
      have HX := Lib.hid (hb.alloc hb.size (.cells #[.int .u8 253] 5))
      clear hbb hlit hb hown
      go_wp2_with (at_builtin; go_loud (refine wpl_pushes _ rfl (.tmp 23) (.tmp 24) 28 rfl w.heap.size 5 Try.underlying28 u8_info (.slice (some ⟨w1.heap.size, 0, none⟩) 1 1) [UInt8.ofNat 253] (le 2 n) _ rfl rfl ?c1 ?c2 ?c3 ?c4 ?_))
      case c1 => exact HL.out
      case c2 => exact HB2.out
      case c3 => rw [le_length]; decide
      case c4 => exact HX.out.size
      intro v' w' hown hg hnx
      have hbl : Below w.heap.size w w' := HX.out.grown hg HX.out.size (fun k hk => (HL.out.lt k hk).1)
      have HO3 := Lib.hid hown; have HB3 := Lib.hid hbl
      clear hown hbl hg hnx
      go_wp2_with fail
      go_ret
      refine ⟨_, rfl, ?_, HB3.out⟩
      rw [HCS.out]; exact HO3.out
    · have hi2 : (65535 : Int) < n := by omega
      by_cases h3 : n < 4294967296
      · have hi3 : ¬ (4294967295 : Int) < n := by omega
        have HBB := Lib.hid ((show fixedB 4 n = le 4 n from fixedB_of (k := 4) (n := n) (.inr (.inr (.inl rfl))) (by simpa using h3))); have HCS := Lib.hid ((show csize n = [UInt8.ofNat 254] ++ le 4 n by rw [csize, if_neg h1, if_neg h2, if_pos h3]; rfl))
        clear hn
        go_enter Try.func97, Try.ntmps97
        go_wp2_with fail
        refine (rfixed_any 4 n w HN.out).mono ?_
        rw [HBB.out, le_length]
        rintro e w1 ⟨v1, rfl, hown, hb⟩
        have hbb : HB w1 v1 (le 4 n) := HB.of_own (base := w.heap.size) (e := 5) (by rw [le_length]; exact hown)
        obtain ⟨A, c, rfl⟩ := own_slice hown
        have hlit : (w1.alloc (.cells #[.int .u8 254] 5)).ownsRow w.heap.size 5 1 (.slice (some ⟨w1.heap.size, 0, none⟩) 1 1) [UInt8.ofNat 254].length (bs [UInt8.ofNat 254]) := World.ownsRow_lit w1 #[.int .u8 254] 1 hb.size (by decide) rfl
        have HL := Lib.hid hlit
        have HB2 := Lib.hid (hbb.below ((Below.refl _ _).alloc (Nat.le_refl _) (.cells #[.int .u8 254] 5)))
        have HX := Lib.hid (hb.alloc hb.size (.cells #[.int .u8 254] 5))
        clear hbb hlit hb hown
        go_wp2_with (at_builtin; go_loud (refine wpl_pushes _ rfl (.tmp 23) (.tmp 24) 28 rfl w.heap.size 5 Try.underlying28 u8_info (.slice (some ⟨w1.heap.size, 0, none⟩) 1 1) [UInt8.ofNat 254] (le 4 n) _ rfl rfl ?c1 ?c2 ?c3 ?c4 ?_))
        case c1 => exact HL.out
        case c2 => exact HB2.out
        case c3 => rw [le_length]; decide
        case c4 => exact HX.out.size
        intro v' w' hown hg hnx
        have hbl : Below w.heap.size w w' := HX.out.grown hg HX.out.size (fun k hk => (HL.out.lt k hk).1)
        have HO3 := Lib.hid hown; have HB3 := Lib.hid hbl
        clear hown hbl hg hnx
        go_wp2_with fail
        go_ret
        refine ⟨_, rfl, ?_, HB3.out⟩
        rw [HCS.out]; exact HO3.out
      · have hi3 : (4294967295 : Int) < n := by omega
        have HBB := Lib.hid ((show fixedB 8 n = le 8 n from fixedB_of (k := 8) (n := n) (.inr (.inr (.inr rfl))) (by simpa using hn))); have HCS := Lib.hid ((show csize n = [UInt8.ofNat 255] ++ le 8 n by rw [csize, if_neg h1, if_neg h2, if_neg h3]; rfl))
        clear hn
        go_enter Try.func97, Try.ntmps97
        go_wp2_with fail
        refine (rfixed_any 8 n w HN.out).mono ?_
        rw [HBB.out, le_length]
        rintro e w1 ⟨v1, rfl, hown, hb⟩
        have hbb : HB w1 v1 (le 8 n) := HB.of_own (base := w.heap.size) (e := 5) (by rw [le_length]; exact hown)
        obtain ⟨A, c, rfl⟩ := own_slice hown
        have hlit : (w1.alloc (.cells #[.int .u8 255] 5)).ownsRow w.heap.size 5 1 (.slice (some ⟨w1.heap.size, 0, none⟩) 1 1) [UInt8.ofNat 255].length (bs [UInt8.ofNat 255]) := World.ownsRow_lit w1 #[.int .u8 255] 1 hb.size (by decide) rfl
        have HL := Lib.hid hlit
        have HB2 := Lib.hid (hbb.below ((Below.refl _ _).alloc (Nat.le_refl _) (.cells #[.int .u8 255] 5)))
        have HX := Lib.hid (hb.alloc hb.size (.cells #[.int .u8 255] 5))
        clear hbb hlit hb hown
        go_wp2_with (at_builtin; go_loud (refine wpl_pushes _ rfl (.tmp 23) (.tmp 24) 28 rfl w.heap.size 5 Try.underlying28 u8_info (.slice (some ⟨w1.heap.size, 0, none⟩) 1 1) [UInt8.ofNat 255] (le 8 n) _ rfl rfl ?c1 ?c2 ?c3 ?c4 ?_))
        case c1 => exact HL.out
        case c2 => exact HB2.out
        case c3 => rw [le_length]; decide
        case c4 => exact HX.out.size
        intro v' w' hown hg hnx
        have hbl : Below w.heap.size w w' := HX.out.grown hg HX.out.size (fun k hk => (HL.out.lt k hk).1)
        have HO3 := Lib.hid hown; have HB3 := Lib.hid hbl
        clear hown hbl hg hnx
        go_wp2_with fail
        go_ret
        refine ⟨_, rfl, ?_, HB3.out⟩
        rw [HCS.out]; exact HO3.out
set_option maxHeartbeats 1000000 in
set_option maxRecDepth 100000 in
theorem rbytes_any (b : Value) (xs : List UInt8) (w : World) (hb : HB w b xs) (hl : xs.length ≤ 1000000) :
    Calls Try.prog 99 #[b] w fun e w' => ∃ v', e = .returned v' ∧ w'.ownsRow w.heap.size 5 1 v' (csize xs.length ++ xs).length (bs (csize xs.length ++ xs)) ∧ Below w.heap.size w w' := by
  have Hb := Lib.hid hb
  obtain ⟨A, c, rfl, hlc⟩ := hb.shape
  clear hb
  have w64 : IntKind.u64.wrap (xs.length : Int) = xs.length := by rw [IntKind.wrap_u64]; omega
  go_enter Try.func99, Try.ntmps99
  go_wp2_with fail
  refine (rsize_any xs.length w (by omega)).mono ?_
  rintro e w1 ⟨v1, rfl, hown, hb1⟩
  have HO1 := Lib.hid hown; have HX := Lib.hid hb1; have Hb1 := Lib.hid (Hb.out.below hb1)
  obtain ⟨A1, c1, rfl⟩ := own_slice hown
  have hq9 : (csize xs.length).length ≤ 9 := by rw [csize_length]; unfold compact; repeat' split
                                                all_goals simp
  have HQ := Lib.hid hq9
  clear hown hb1 hq9
  go_wp2_with (at_builtin; go_loud (refine wpl_pushes _ rfl (.tmp 6) (.tmp 7) 28 rfl w.heap.size 5 Try.underlying28 u8_info (.slice A1 (csize xs.length).length c1) (csize xs.length) xs _ rfl rfl ?c1 ?c2 ?c3 ?c4 ?_))
  case c1 => exact HO1.out
  case c2 => exact Hb1.out
  case c3 => have := HQ.out; omega
  case c4 => exact HX.out.size
  intro v' w' hown hg hnx
  have hbl : Below w.heap.size w w' := HX.out.grown hg HX.out.size (fun k hk => (HO1.out.lt k hk).1)
  have HO3 := Lib.hid hown; have HB3 := Lib.hid hbl
  clear hown hbl hg hnx
  go_wp2_with fail
  go_ret
  refine ⟨_, rfl, ?_, HB3.out⟩
  rw [List.length_append]; exact HO3.out
end
section
open Go.RowKit Go.Proofs
attribute [local irreducible] Calls
theorem cut_at {w : World} {A : Option Addr} {c : Nat} {zs : List UInt8} (h : HB w (.slice A zs.length c) zs) (i k : Nat) (hk : i + k ≤ zs.length) : HB w (.slice (cutA A c i) k (c - i)) ((zs.drop i).take k) := by
  have := h.cut (a := i) (b := i + k) (by omega) hk
  rwa [Nat.add_sub_cancel_left] at this
set_option maxHeartbeats 1000000 in
set_option maxRecDepth 100000 in
theorem rgetfix_ok (b : Value) (zs : List UInt8) (i k : Nat) (w : World) (hb : HB w b zs) (hl : zs.length ≤ 20000) (hw : wideB (k : Int) = true) (hk : i + k ≤ zs.length) :
    Calls Try.prog 85 #[b, .int .i64 (i : Int), .int .i64 (k : Int)] w fun e w' => e = .returned (.tuple #[.int .u64 (leNum ((zs.drop i).take k) : Nat), .int .i64 ((i + k : Nat) : Int), .int .i64 0]) ∧ Below w.heap.size w w' := by
  have Hb := Lib.hid hb
  obtain ⟨A, c, rfl, hlc⟩ := hb.shape
  clear hb
  have hkk := wideB_cases hw
  have HC := Lib.hid (cut_at Hb.out i k hk)
  have hlk : ((zs.drop i).take k).length = k := by simp; omega
  have hs := run_cut_lh 28 5 Try.underlying28 size5 A zs.length c i (i + k) (by omega) hk hlc
  rw [Nat.add_sub_cancel_left, Int.natCast_add] at hs
  rw [Int.natCast_add]
  have hsub : (zs.length : Int) - (i : Int) = ((zs.length - i : Nat) : Int) := by omega
  generalize hl2 : (zs.drop i).take k = l2 at *
  have HLK := Lib.hid hlk
  clear hlk hl2
  have hk2 : k = 1 ∨ k = 2 ∨ k = 4 ∨ k = 8 := by omega
  clear hkk hw
  have hk8 : k ≤ 8 := by omega
  rcases hk2 with e | e | e | e
  · have b1 : ((k : Int) != 1) = false := by rw [e]; rfl
    clear e
    go_enter Try.func85, Try.ntmps85
    go_wp2_with fail
    refine (rnum_any _ l2 _ HC.out (by have := HLK.out; omega)).mono ?_
    rintro e w1 ⟨rfl, hb1⟩
    go_wp2_with fail
    go_ret3
    exact ⟨rfl, hb1⟩
  · have b1 : ((k : Int) != 1) = true := by rw [e]; rfl
    have b2 : ((k : Int) != 2) = false := by rw [e]; rfl
    clear e
    go_enter Try.func85, Try.ntmps85
    go_wp2_with fail
    refine (rnum_any _ l2 _ HC.out (by have := HLK.out; omega)).mono ?_
    rintro e w1 ⟨rfl, hb1⟩
    go_wp2_with fail
    go_ret3
    exact ⟨rfl, hb1⟩
  · have b1 : ((k : Int) != 1) = true := by rw [e]; rfl
    have b2 : ((k : Int) != 2) = true := by rw [e]; rfl
    have b4 : ((k : Int) != 4) = false := by rw [e]; rfl
    clear e
    go_enter Try.func85, Try.ntmps85
    go_wp2_with fail
    refine (rnum_any _ l2 _ HC.out (by have := HLK.out; omega)).mono ?_
    rintro e w1 ⟨rfl, hb1⟩
    go_wp2_with fail
    go_ret3
    exact ⟨rfl, hb1⟩
  · have b1 : ((k : Int) != 1) = true := by rw [e]; rfl
    have b2 : ((k : Int) != 2) = true := by rw [e]; rfl
    have b4 : ((k : Int) != 4) = true := by rw [e]; rfl
    have b8 : ((k : Int) != 8) = false := by rw [e]; rfl
    clear e
    go_enter Try.func85, Try.ntmps85
    go_wp2_with fail
    refine (rnum_any _ l2 _ HC.out (by have := HLK.out; omega)).mono ?_
    rintro e w1 ⟨rfl, hb1⟩
    go_wp2_with fail
    go_ret3
    exact ⟨rfl, hb1⟩
set_option maxHeartbeats 1000000 in
set_option maxRecDepth 100000 in
theorem rgetfix_bad (b : Value) (zs : List UInt8) (i : Nat) (k : Int) (w : World) (hb : HB w b zs) (hl : zs.length ≤ 20000) (hi : i ≤ zs.length) (hf : efixE k (zs.length - i) ≠ 0) :
    Calls Try.prog 85 #[b, .int .i64 (i : Int), .int .i64 k] w fun e w' => e = .returned (.tuple #[.int .u64 0, .int .i64 (i : Int), .int .i64 (efixE k (zs.length - i))]) ∧ w = w' := by
  obtain ⟨A, c, rfl, hlc⟩ := hb.shape
  clear hb
  by_cases hw : wideB k = true
  · have hkk := wideB_cases hw
    have hlt : ¬ i + k.toNat ≤ zs.length := fun h => hf (by rw [efixE, if_neg (by rw [hw]; decide), if_neg (by omega)])
    have hE : efixE k (zs.length - i) = 10 := by rw [efixE, if_neg (by rw [hw]; decide), if_pos (by omega)]
    rw [hE]
    clear hf hE hw
    rcases hkk with rfl | rfl | rfl | rfl
    all_goals
      go_enter Try.func85, Try.ntmps85
      go_wp2_with fail
      go_ret3
      exact ⟨rfl, rfl⟩
  · have hw2 : wideB k = false := by simpa using hw
    have hE : efixE k (zs.length - i) = 2 := by rw [efixE, if_pos hw2]
    rw [hE]
    have h1 : (k != 1) = true := by simp [wideB] at hw2 ⊢; omega
    have h2 : (k != 2) = true := by simp [wideB] at hw2 ⊢; omega
    have h4 : (k != 4) = true := by simp [wideB] at hw2 ⊢; omega
    have h8 : (k != 8) = true := by simp [wideB] at hw2 ⊢; omega
    clear hw hw2 hE hf
    go_enter Try.func85, Try.ntmps85
    go_wp2_with fail
    go_ret3
    exact ⟨rfl, rfl⟩
end
section
open Go.RowKit Go.Proofs
theorem strq_ne {a b : List UInt8} (h : a ≠ b) : (a == b) = false := by simpa using h
theorem strq_eq {a b : List UInt8} (h : a = b) : (a == b) = true := by simpa using h
theorem thx9 {a w w1 : World} (h : Below a.heap.size a w) (k : Below w.heap.size w w1) : Below a.heap.size a w1 := h.trans (k.mono h.size)
attribute [local irreducible] Calls
set_option maxHeartbeats 1000000 in
set_option maxRecDepth 100000 in
theorem rgs_s_eq (b : Value) (zs : List UInt8) (i : Nat) (w : World) (hb : HB w b zs) (hl : zs.length ≤ 20000) (x : UInt8) (hi : zs[i]? = some x) (b253 : ((x.toNat : Int) == 253) = false) (b254 : ((x.toNat : Int) == 254) = false) (b255 : ((x.toNat : Int) == 255) = false) (hk : i + 1 ≤ zs.length) (hq : csize (leNum ((zs.drop (i)).take 1)) = (zs.drop i).take 1) :
    Calls Try.prog 86 #[b, .int .i64 (i : Int)] w fun e w' => e = .returned (.tuple #[.int .u64 (leNum ((zs.drop (i)).take 1) : Nat), .int .i64 ((i + 1 : Nat) : Int), .int .i64 0]) ∧ Below w.heap.size w w' := by
  have Hb := Lib.hid hb
  obtain ⟨A, c, rfl, hlc⟩ := hb.shape
  clear hb
  obtain ⟨hil, hix⟩ := List.getElem?_eq_some_iff.1 hi
  obtain ⟨a, rfl, hca⟩ := Hb.out.at_ hil hil
  rw [hix] at hca
  clear hix hi
  have h64 := leNum_64 ((zs.drop (i)).take 1) (by simp; omega)
  obtain ⟨q, hqq⟩ : ∃ q, leNum ((zs.drop (i)).take 1) = q := ⟨_, rfl⟩
  rw [hqq] at h64 hq
  try rw [hqq]
  obtain ⟨kk, hkk⟩ : ∃ kk : Nat, 1 = kk := ⟨_, rfl⟩
  rw [hkk] at hk hq
  try rw [hkk]
  have hs := run_cut_lh 28 5 Try.underlying28 size5 (some a) zs.length c i (i + kk) (by omega) hk hlc
  rw [Nat.add_sub_cancel_left, Int.natCast_add] at hs
  have HQQ := Lib.hid hqq; have HQ := Lib.hid hq; have H64 := Lib.hid h64; have HK := Lib.hid hk
  have HKK := Lib.hid hkk
  clear hqq hq h64 hkk
  try rw [Int.natCast_add]
  go_enter Try.func86, Try.ntmps86
  go_wp2_with fail
  refine (rgetfix_ok _ zs (i) 1 w Hb.out hl rfl (by have := HK.out; have := HKK.out; omega)).mono ?_
  rw [HQQ.out, show i + 1 = i + 1 from rfl, HKK.out]
  simp only [Int.natCast_add]
  rintro e w1 ⟨rfl, hb1⟩
  have HX := Lib.hid hb1; have Hb1 := Lib.hid (Hb.out.below hb1)
  have hto : IntKind.i64.wrap ((i : Int) + (kk : Int)) = ((i : Int) + (kk : Int)) := by rw [IntKind.wrap_i64]; have := HK.out; omega
  clear hb1
  go_wp2_with fail
  have hse := strq_eq HQ.out
  refine wp_region_pi [(0, true), (1, true), (2, true), (3, true), (6, true), (7, true), (8, true), (9, true), (10, true), (4, false), (5, false), (11, true), (12, true)] (by kernel_rfl) (by kernel_rfl) rfl (by kernel_rfl) (fun _ _ _ _ _ h => h) (fun w6 => HB w6 (.slice (some a) zs.length c) zs) Hb1.out.drew ?_
  intro OPS hops
  iterate 9
    first | (refine wpPi_yield _ (by rw [hops.out]; simp only [List.getElem?_toArray, List.getElem?_cons_succ, List.getElem?_cons_zero]; rfl) (by first | rfl | (rw [hops.out]; rfl)) (fun w' hS => by have hsw := HB.string (P := Try.prog) (cut_at hS i kk HK.out) 28 9 5 Try.underlying28 Try.underlying5 Try.underlying9; go_simp; rfl) ?_; simp only [Act.put, List.setIfInBounds_toArray, List.set_cons_succ, List.set_cons_zero]) | (refine wpPi_skip (by rw [hops.out]; simp only [List.getElem?_toArray, List.getElem?_cons_succ, List.getElem?_cons_zero]; rfl) (by first | rfl | (rw [hops.out]; rfl)) ?_; simp only [Act.put, List.setIfInBounds_toArray, List.set_cons_succ, List.set_cons_zero])
  refine wpPi_act (by rw [hops.out]; simp only [List.getElem?_toArray, List.getElem?_cons_succ, List.getElem?_cons_zero]; rfl) (by first | rfl | (rw [hops.out]; rfl)) ?_
  go_simp
  refine (rsize_any q _ H64.out).mono ?_
  rintro e w6 ⟨v6, rfl, hown, hb6⟩
  have HX6 := Lib.hid (thx9 (HX.out.drew) hb6)
  have HS6 := Lib.hid (Hb1.out.drew.below hb6)
  have hsz := HB.string (P := Try.prog) (show HB w6 v6 (csize q) from HB.of_own hown) 28 9 5 Try.underlying28 Try.underlying5 Try.underlying9
  obtain ⟨A6, c6, rfl⟩ := own_slice hown
  clear hown hb6
  try (refine ⟨(by first | exact Hb1.out.drew | exact HS6.out), ?_⟩)
  refine wpPi_act (by rw [hops.out]; simp only [List.getElem?_toArray, List.getElem?_cons_succ, List.getElem?_cons_zero]; rfl) (by first | rfl | (rw [hops.out]; rfl)) ?_
  go_simp
  clear hsz
  try (refine ⟨(by first | exact Hb1.out.drew | exact HS6.out), ?_⟩)
  iterate 2
    first | (refine wpPi_yield _ (by rw [hops.out]; simp only [List.getElem?_toArray, List.getElem?_cons_succ, List.getElem?_cons_zero]; rfl) (by first | rfl | (rw [hops.out]; rfl)) (fun w' hS => by have hsw := HB.string (P := Try.prog) (cut_at hS i kk HK.out) 28 9 5 Try.underlying28 Try.underlying5 Try.underlying9; go_simp; rfl) ?_; simp only [Act.put, List.setIfInBounds_toArray, List.set_cons_succ, List.set_cons_zero]) | (refine wpPi_skip (by rw [hops.out]; simp only [List.getElem?_toArray, List.getElem?_cons_succ, List.getElem?_cons_zero]; rfl) (by first | rfl | (rw [hops.out]; rfl)) ?_; simp only [Act.put, List.setIfInBounds_toArray, List.set_cons_succ, List.set_cons_zero])
  simp only [wpPi]
  go_wp2_with fail
  go_ret3
  exact ⟨rfl, HX6.out⟩
set_option maxHeartbeats 1000000 in
set_option maxRecDepth 100000 in
theorem rgs_t_eq (b : Value) (zs : List UInt8) (i : Nat) (w : World) (hb : HB w b zs) (hl : zs.length ≤ 20000) (x : UInt8) (hi : zs[i]? = some x) (b253 : ((x.toNat : Int) == 253) = true) (hk : i + 3 ≤ zs.length) (hq : csize (leNum ((zs.drop (i + 1)).take 2)) = (zs.drop i).take 3) :
    Calls Try.prog 86 #[b, .int .i64 (i : Int)] w fun e w' => e = .returned (.tuple #[.int .u64 (leNum ((zs.drop (i + 1)).take 2) : Nat), .int .i64 ((i + 3 : Nat) : Int), .int .i64 0]) ∧ Below w.heap.size w w' := by
  have Hb := Lib.hid hb
  obtain ⟨A, c, rfl, hlc⟩ := hb.shape
  clear hb
  obtain ⟨hil, hix⟩ := List.getElem?_eq_some_iff.1 hi
  obtain ⟨a, rfl, hca⟩ := Hb.out.at_ hil hil
  rw [hix] at hca
  clear hix hi
  have h64 := leNum_64 ((zs.drop (i + 1)).take 2) (by simp; omega)
  obtain ⟨q, hqq⟩ : ∃ q, leNum ((zs.drop (i + 1)).take 2) = q := ⟨_, rfl⟩
  rw [hqq] at h64 hq
  try rw [hqq]
  obtain ⟨kk, hkk⟩ : ∃ kk : Nat, 3 = kk := ⟨_, rfl⟩
  rw [hkk] at hk hq
  try rw [hkk]
  have hs := run_cut_lh 28 5 Try.underlying28 size5 (some a) zs.length c i (i + kk) (by omega) hk hlc
  rw [Nat.add_sub_cancel_left, Int.natCast_add] at hs
  have HQQ := Lib.hid hqq; have HQ := Lib.hid hq; have H64 := Lib.hid h64; have HK := Lib.hid hk
  have HKK := Lib.hid hkk
  clear hqq hq h64 hkk
  try rw [Int.natCast_add]
  go_enter Try.func86, Try.ntmps86
  go_wp2_with fail
  refine (rgetfix_ok _ zs (i + 1) 2 w Hb.out hl rfl (by have := HK.out; have := HKK.out; omega)).mono ?_
  rw [HQQ.out, show i + 1 + 2 = i + 3 from rfl, HKK.out]
  simp only [Int.natCast_add]
  rintro e w1 ⟨rfl, hb1⟩
  have HX := Lib.hid hb1; have Hb1 := Lib.hid (Hb.out.below hb1)
  have hto : IntKind.i64.wrap ((i : Int) + (kk : Int)) = ((i : Int) + (kk : Int)) := by rw [IntKind.wrap_i64]; have := HK.out; omega
  clear hb1
  go_wp2_with fail
  have hse := strq_eq HQ.out
  refine wp_region_pi [(0, true), (1, true), (2, true), (3, true), (6, true), (7, true), (8, true), (9, true), (10, true), (4, false), (5, false), (11, true), (12, true)] (by kernel_rfl) (by kernel_rfl) rfl (by kernel_rfl) (fun _ _ _ _ _ h => h) (fun w6 => HB w6 (.slice (some a) zs.length c) zs) Hb1.out.drew ?_
  intro OPS hops
  iterate 9
    first | (refine wpPi_yield _ (by rw [hops.out]; simp only [List.getElem?_toArray, List.getElem?_cons_succ, List.getElem?_cons_zero]; rfl) (by first | rfl | (rw [hops.out]; rfl)) (fun w' hS => by have hsw := HB.string (P := Try.prog) (cut_at hS i kk HK.out) 28 9 5 Try.underlying28 Try.underlying5 Try.underlying9; go_simp; rfl) ?_; simp only [Act.put, List.setIfInBounds_toArray, List.set_cons_succ, List.set_cons_zero]) | (refine wpPi_skip (by rw [hops.out]; simp only [List.getElem?_toArray, List.getElem?_cons_succ, List.getElem?_cons_zero]; rfl) (by first | rfl | (rw [hops.out]; rfl)) ?_; simp only [Act.put, List.setIfInBounds_toArray, List.set_cons_succ, List.set_cons_zero])
  refine wpPi_act (by rw [hops.out]; simp only [List.getElem?_toArray, List.getElem?_cons_succ, List.getElem?_cons_zero]; rfl) (by first | rfl | (rw [hops.out]; rfl)) ?_
  go_simp
  refine (rsize_any q _ H64.out).mono ?_
  rintro e w6 ⟨v6, rfl, hown, hb6⟩
  have HX6 := Lib.hid (thx9 (HX.out.drew) hb6)
  have HS6 := Lib.hid (Hb1.out.drew.below hb6)
  have hsz := HB.string (P := Try.prog) (show HB w6 v6 (csize q) from HB.of_own hown) 28 9 5 Try.underlying28 Try.underlying5 Try.underlying9
  obtain ⟨A6, c6, rfl⟩ := own_slice hown
  clear hown hb6
  try (refine ⟨(by first | exact Hb1.out.drew | exact HS6.out), ?_⟩)
  refine wpPi_act (by rw [hops.out]; simp only [List.getElem?_toArray, List.getElem?_cons_succ, List.getElem?_cons_zero]; rfl) (by first | rfl | (rw [hops.out]; rfl)) ?_
  go_simp
  clear hsz
  try (refine ⟨(by first | exact Hb1.out.drew | exact HS6.out), ?_⟩)
  iterate 2
    first | (refine wpPi_yield _ (by rw [hops.out]; simp only [List.getElem?_toArray, List.getElem?_cons_succ, List.getElem?_cons_zero]; rfl) (by first | rfl | (rw [hops.out]; rfl)) (fun w' hS => by have hsw := HB.string (P := Try.prog) (cut_at hS i kk HK.out) 28 9 5 Try.underlying28 Try.underlying5 Try.underlying9; go_simp; rfl) ?_; simp only [Act.put, List.setIfInBounds_toArray, List.set_cons_succ, List.set_cons_zero]) | (refine wpPi_skip (by rw [hops.out]; simp only [List.getElem?_toArray, List.getElem?_cons_succ, List.getElem?_cons_zero]; rfl) (by first | rfl | (rw [hops.out]; rfl)) ?_; simp only [Act.put, List.setIfInBounds_toArray, List.set_cons_succ, List.set_cons_zero])
  simp only [wpPi]
  go_wp2_with fail
  go_ret3
  exact ⟨rfl, HX6.out⟩
set_option maxHeartbeats 1000000 in
set_option maxRecDepth 100000 in
theorem rgs_t_ne (b : Value) (zs : List UInt8) (i : Nat) (w : World) (hb : HB w b zs) (hl : zs.length ≤ 20000) (x : UInt8) (hi : zs[i]? = some x) (b253 : ((x.toNat : Int) == 253) = true) (hk : i + 3 ≤ zs.length) (hq : csize (leNum ((zs.drop (i + 1)).take 2)) ≠ (zs.drop i).take 3) :
    Calls Try.prog 86 #[b, .int .i64 (i : Int)] w fun e w' => e = .returned (.tuple #[.int .u64 0, .int .i64 (i : Int), .int .i64 10]) ∧ Below w.heap.size w w' := by
  have Hb := Lib.hid hb
  obtain ⟨A, c, rfl, hlc⟩ := hb.shape
  clear hb
  obtain ⟨hil, hix⟩ := List.getElem?_eq_some_iff.1 hi
  obtain ⟨a, rfl, hca⟩ := Hb.out.at_ hil hil
  rw [hix] at hca
  clear hix hi
  have h64 := leNum_64 ((zs.drop (i + 1)).take 2) (by simp; omega)
  obtain ⟨q, hqq⟩ : ∃ q, leNum ((zs.drop (i + 1)).take 2) = q := ⟨_, rfl⟩
  rw [hqq] at h64 hq
  try rw [hqq]
  obtain ⟨kk, hkk⟩ : ∃ kk : Nat, 3 = kk := ⟨_, rfl⟩
  rw [hkk] at hk hq
  try rw [hkk]
  have hs := run_cut_lh 28 5 Try.underlying28 size5 (some a) zs.length c i (i + kk) (by omega) hk hlc
  rw [Nat.add_sub_cancel_left, Int.natCast_add] at hs
  have HQQ := Lib.hid hqq; have HQ := Lib.hid hq; have H64 := Lib.hid h64; have HK := Lib.hid hk
  have HKK := Lib.hid hkk
  clear hqq hq h64 hkk
  try rw [Int.natCast_add]
  go_enter Try.func86, Try.ntmps86
  go_wp2_with fail
  refine (rgetfix_ok _ zs (i + 1) 2 w Hb.out hl rfl (by have := HK.out; have := HKK.out; omega)).mono ?_
  rw [HQQ.out, show i + 1 + 2 = i + 3 from rfl, HKK.out]
  simp only [Int.natCast_add]
  rintro e w1 ⟨rfl, hb1⟩
  have HX := Lib.hid hb1; have Hb1 := Lib.hid (Hb.out.below hb1)
  have hto : IntKind.i64.wrap ((i : Int) + (kk : Int)) = ((i : Int) + (kk : Int)) := by rw [IntKind.wrap_i64]; have := HK.out; omega
  clear hb1
  go_wp2_with fail
  have hse := strq_ne HQ.out
  refine wp_region_pi [(0, true), (1, true), (2, true), (3, true), (6, true), (7, true), (8, true), (9, true), (10, true), (4, false), (5, false), (11, true), (12, true)] (by kernel_rfl) (by kernel_rfl) rfl (by kernel_rfl) (fun _ _ _ _ _ h => h) (fun w6 => HB w6 (.slice (some a) zs.length c) zs) Hb1.out.drew ?_
  intro OPS hops
  iterate 9
    first | (refine wpPi_yield _ (by rw [hops.out]; simp only [List.getElem?_toArray, List.getElem?_cons_succ, List.getElem?_cons_zero]; rfl) (by first | rfl | (rw [hops.out]; rfl)) (fun w' hS => by have hsw := HB.string (P := Try.prog) (cut_at hS i kk HK.out) 28 9 5 Try.underlying28 Try.underlying5 Try.underlying9; go_simp; rfl) ?_; simp only [Act.put, List.setIfInBounds_toArray, List.set_cons_succ, List.set_cons_zero]) | (refine wpPi_skip (by rw [hops.out]; simp only [List.getElem?_toArray, List.getElem?_cons_succ, List.getElem?_cons_zero]; rfl) (by first | rfl | (rw [hops.out]; rfl)) ?_; simp only [Act.put, List.setIfInBounds_toArray, List.set_cons_succ, List.set_cons_zero])
  refine wpPi_act (by rw [hops.out]; simp only [List.getElem?_toArray, List.getElem?_cons_succ, List.getElem?_cons_zero]; rfl) (by first | rfl | (rw [hops.out]; rfl)) ?_
  go_simp
  refine (rsize_any q _ H64.out).mono ?_
  rintro e w6 ⟨v6, rfl, hown, hb6⟩
  have HX6 := Lib.hid (thx9 (HX.out.drew) hb6)
  have HS6 := Lib.hid (Hb1.out.drew.below hb6)
  have hsz := HB.string (P := Try.prog) (show HB w6 v6 (csize q) from HB.of_own hown) 28 9 5 Try.underlying28 Try.underlying5 Try.underlying9
  obtain ⟨A6, c6, rfl⟩ := own_slice hown
  clear hown hb6
  try (refine ⟨(by first | exact Hb1.out.drew | exact HS6.out), ?_⟩)
  refine wpPi_act (by rw [hops.out]; simp only [List.getElem?_toArray, List.getElem?_cons_succ, List.getElem?_cons_zero]; rfl) (by first | rfl | (rw [hops.out]; rfl)) ?_
  go_simp
  clear hsz
  try (refine ⟨(by first | exact Hb1.out.drew | exact HS6.out), ?_⟩)
  iterate 2
    first | (refine wpPi_yield _ (by rw [hops.out]; simp only [List.getElem?_toArray, List.getElem?_cons_succ, List.getElem?_cons_zero]; rfl) (by first | rfl | (rw [hops.out]; rfl)) (fun w' hS => by have hsw := HB.string (P := Try.prog) (cut_at hS i kk HK.out) 28 9 5 Try.underlying28 Try.underlying5 Try.underlying9; go_simp; rfl) ?_; simp only [Act.put, List.setIfInBounds_toArray, List.set_cons_succ, List.set_cons_zero]) | (refine wpPi_skip (by rw [hops.out]; simp only [List.getElem?_toArray, List.getElem?_cons_succ, List.getElem?_cons_zero]; rfl) (by first | rfl | (rw [hops.out]; rfl)) ?_; simp only [Act.put, List.setIfInBounds_toArray, List.set_cons_succ, List.set_cons_zero])
  simp only [wpPi]
  go_wp2_with fail
  go_ret3
  exact ⟨rfl, HX6.out⟩
set_option maxHeartbeats 1000000 in
set_option maxRecDepth 100000 in
theorem rgs_t_sh (b : Value) (zs : List UInt8) (i : Nat) (w : World) (hb : HB w b zs) (hl : zs.length ≤ 20000) (x : UInt8) (hi : zs[i]? = some x) (b253 : ((x.toNat : Int) == 253) = true) (hk : zs.length < i + 3) :
    Calls Try.prog 86 #[b, .int .i64 (i : Int)] w fun e w' => e = .returned (.tuple #[.int .u64 0, .int .i64 (i : Int), .int .i64 10]) ∧ Below w.heap.size w w' := by
  have Hb := Lib.hid hb
  obtain ⟨A, c, rfl, hlc⟩ := hb.shape
  clear hb
  obtain ⟨hil, hix⟩ := List.getElem?_eq_some_iff.1 hi
  obtain ⟨a, rfl, hca⟩ := Hb.out.at_ hil hil
  rw [hix] at hca
  clear hix hi
  go_enter Try.func86, Try.ntmps86
  go_wp2_with fail
  refine (rgetfix_bad _ zs (i + 1) 2 w Hb.out hl (by omega) (by rw [efixE, if_neg (by decide), if_pos (by omega)]; decide)).mono ?_
  rw [show efixE 2 (zs.length - (i + 1)) = 10 by rw [efixE, if_neg (by decide), if_pos (by omega)]]
  rintro e w1 ⟨rfl, rfl⟩
  go_wp2_with fail
  refine wp_region_pi [(0, true), (1, true), (2, true), (3, true), (6, true), (7, true), (8, true), (9, true), (10, true), (4, false), (5, false), (11, true), (12, true)] (by kernel_rfl) (by kernel_rfl) rfl (by kernel_rfl) (fun _ _ _ _ _ h => h) (fun w6 => w6 = w.drew) rfl ?_
  intro OPS hops
  iterate 9
    first | (refine wpPi_yield _ (by rw [hops.out]; simp only [List.getElem?_toArray, List.getElem?_cons_succ, List.getElem?_cons_zero]; rfl) (by first | rfl | (rw [hops.out]; rfl)) (fun w' hS => by subst hS; go_simp; rfl) ?_; simp only [Act.put, List.setIfInBounds_toArray, List.set_cons_succ, List.set_cons_zero]) | (refine wpPi_skip (by rw [hops.out]; simp only [List.getElem?_toArray, List.getElem?_cons_succ, List.getElem?_cons_zero]; rfl) (by first | rfl | (rw [hops.out]; rfl)) ?_; simp only [Act.put, List.setIfInBounds_toArray, List.set_cons_succ, List.set_cons_zero])
  refine wpPi_actSkip (by rw [hops.out]; simp only [List.getElem?_toArray, List.getElem?_cons_succ, List.getElem?_cons_zero]; rfl) (by first | rfl | (rw [hops.out]; rfl)) ?_ ?_
  · rfl
  simp only [Act.put, List.setIfInBounds_toArray, List.set_cons_succ, List.set_cons_zero]
  refine wpPi_actSkip (by rw [hops.out]; simp only [List.getElem?_toArray, List.getElem?_cons_succ, List.getElem?_cons_zero]; rfl) (by first | rfl | (rw [hops.out]; rfl)) ?_ ?_
  · rfl
  simp only [Act.put, List.setIfInBounds_toArray, List.set_cons_succ, List.set_cons_zero]
  iterate 2
    first | (refine wpPi_yield _ (by rw [hops.out]; simp only [List.getElem?_toArray, List.getElem?_cons_succ, List.getElem?_cons_zero]; rfl) (by first | rfl | (rw [hops.out]; rfl)) (fun w' hS => by subst hS; go_simp; rfl) ?_; simp only [Act.put, List.setIfInBounds_toArray, List.set_cons_succ, List.set_cons_zero]) | (refine wpPi_skip (by rw [hops.out]; simp only [List.getElem?_toArray, List.getElem?_cons_succ, List.getElem?_cons_zero]; rfl) (by first | rfl | (rw [hops.out]; rfl)) ?_; simp only [Act.put, List.setIfInBounds_toArray, List.set_cons_succ, List.set_cons_zero])
  simp only [wpPi]
  go_wp2_with fail
  go_ret3
  exact ⟨rfl, (Below.refl _ _).drew⟩
set_option maxHeartbeats 1000000 in
set_option maxRecDepth 100000 in
theorem rgs_f_eq (b : Value) (zs : List UInt8) (i : Nat) (w : World) (hb : HB w b zs) (hl : zs.length ≤ 20000) (x : UInt8) (hi : zs[i]? = some x) (b253 : ((x.toNat : Int) == 253) = false) (b254 : ((x.toNat : Int) == 254) = true) (hk : i + 5 ≤ zs.length) (hq : csize (leNum ((zs.drop (i + 1)).take 4)) = (zs.drop i).take 5) :
    Calls Try.prog 86 #[b, .int .i64 (i : Int)] w fun e w' => e = .returned (.tuple #[.int .u64 (leNum ((zs.drop (i + 1)).take 4) : Nat), .int .i64 ((i + 5 : Nat) : Int), .int .i64 0]) ∧ Below w.heap.size w w' := by
  have Hb := Lib.hid hb
  obtain ⟨A, c, rfl, hlc⟩ := hb.shape
  clear hb
  obtain ⟨hil, hix⟩ := List.getElem?_eq_some_iff.1 hi
  obtain ⟨a, rfl, hca⟩ := Hb.out.at_ hil hil
  rw [hix] at hca
  clear hix hi
  have h64 := leNum_64 ((zs.drop (i + 1)).take 4) (by simp; omega)
  obtain ⟨q, hqq⟩ : ∃ q, leNum ((zs.drop (i + 1)).take 4) = q := ⟨_, rfl⟩
  rw [hqq] at h64 hq
  try rw [hqq]
  obtain ⟨kk, hkk⟩ : ∃ kk : Nat, 5 = kk := ⟨_, rfl⟩
  rw [hkk] at hk hq
  try rw [hkk]
  have hs := run_cut_lh 28 5 Try.underlying28 size5 (some a) zs.length c i (i + kk) (by omega) hk hlc
  rw [Nat.add_sub_cancel_left, Int.natCast_add] at hs
  have HQQ := Lib.hid hqq; have HQ := Lib.hid hq; have H64 := Lib.hid h64; have HK := Lib.hid hk
  have HKK := Lib.hid hkk
  clear hqq hq h64 hkk
  try rw [Int.natCast_add]
  go_enter Try.func86, Try.ntmps86
  go_wp2_with fail
  refine (rgetfix_ok _ zs (i + 1) 4 w Hb.out hl rfl (by have := HK.out; have := HKK.out; omega)).mono ?_
  rw [HQQ.out, show i + 1 + 4 = i + 5 from rfl, HKK.out]
  simp only [Int.natCast_add]
  rintro e w1 ⟨rfl, hb1⟩
  have HX := Lib.hid hb1; have Hb1 := Lib.hid (Hb.out.below hb1)
  have hto : IntKind.i64.wrap ((i : Int) + (kk : Int)) = ((i : Int) + (kk : Int)) := by rw [IntKind.wrap_i64]; have := HK.out; omega
  clear hb1
  go_wp2_with fail
  have hse := strq_eq HQ.out
  refine wp_region_pi [(0, true), (1, true), (2, true), (3, true), (6, true), (7, true), (8, true), (9, true), (10, true), (4, false), (5, false), (11, true), (12, true)] (by kernel_rfl) (by kernel_rfl) rfl (by kernel_rfl) (fun _ _ _ _ _ h => h) (fun w6 => HB w6 (.slice (some a) zs.length c) zs) Hb1.out.drew ?_
  intro OPS hops
  iterate 9
    first | (refine wpPi_yield _ (by rw [hops.out]; simp only [List.getElem?_toArray, List.getElem?_cons_succ, List.getElem?_cons_zero]; rfl) (by first | rfl | (rw [hops.out]; rfl)) (fun w' hS => by have hsw := HB.string (P := Try.prog) (cut_at hS i kk HK.out) 28 9 5 Try.underlying28 Try.underlying5 Try.underlying9; go_simp; rfl) ?_; simp only [Act.put, List.setIfInBounds_toArray, List.set_cons_succ, List.set_cons_zero]) | (refine wpPi_skip (by rw [hops.out]; simp only [List.getElem?_toArray, List.getElem?_cons_succ, List.getElem?_cons_zero]; rfl) (by first | rfl | (rw [hops.out]; rfl)) ?_; simp only [Act.put, List.setIfInBounds_toArray, List.set_cons_succ, List.set_cons_zero])
  refine wpPi_act (by rw [hops.out]; simp only [List.getElem?_toArray, List.getElem?_cons_succ, List.getElem?_cons_zero]; rfl) (by first | rfl | (rw [hops.out]; rfl)) ?_
  go_simp
  refine (rsize_any q _ H64.out).mono ?_
  rintro e w6 ⟨v6, rfl, hown, hb6⟩
  have HX6 := Lib.hid (thx9 (HX.out.drew) hb6)
  have HS6 := Lib.hid (Hb1.out.drew.below hb6)
  have hsz := HB.string (P := Try.prog) (show HB w6 v6 (csize q) from HB.of_own hown) 28 9 5 Try.underlying28 Try.underlying5 Try.underlying9
  obtain ⟨A6, c6, rfl⟩ := own_slice hown
  clear hown hb6
  try (refine ⟨(by first | exact Hb1.out.drew | exact HS6.out), ?_⟩)
  refine wpPi_act (by rw [hops.out]; simp only [List.getElem?_toArray, List.getElem?_cons_succ, List.getElem?_cons_zero]; rfl) (by first | rfl | (rw [hops.out]; rfl)) ?_
  go_simp
  clear hsz
  try (refine ⟨(by first | exact Hb1.out.drew | exact HS6.out), ?_⟩)
  iterate 2
    first | (refine wpPi_yield _ (by rw [hops.out]; simp only [List.getElem?_toArray, List.getElem?_cons_succ, List.getElem?_cons_zero]; rfl) (by first | rfl | (rw [hops.out]; rfl)) (fun w' hS => by have hsw := HB.string (P := Try.prog) (cut_at hS i kk HK.out) 28 9 5 Try.underlying28 Try.underlying5 Try.underlying9; go_simp; rfl) ?_; simp only [Act.put, List.setIfInBounds_toArray, List.set_cons_succ, List.set_cons_zero]) | (refine wpPi_skip (by rw [hops.out]; simp only [List.getElem?_toArray, List.getElem?_cons_succ, List.getElem?_cons_zero]; rfl) (by first | rfl | (rw [hops.out]; rfl)) ?_; simp only [Act.put, List.setIfInBounds_toArray, List.set_cons_succ, List.set_cons_zero])
  simp only [wpPi]
  go_wp2_with fail
  go_ret3
  exact ⟨rfl, HX6.out⟩
set_option maxHeartbeats 1000000 in
set_option maxRecDepth 100000 in
theorem rgs_f_ne (b : Value) (zs : List UInt8) (i : Nat) (w : World) (hb : HB w b zs) (hl : zs.length ≤ 20000) (x : UInt8) (hi : zs[i]? = some x) (b253 : ((x.toNat : Int) == 253) = false) (b254 : ((x.toNat : Int) == 254) = true) (hk : i + 5 ≤ zs.length) (hq : csize (leNum ((zs.drop (i + 1)).take 4)) ≠ (zs.drop i).take 5) :
    Calls Try.prog 86 #[b, .int .i64 (i : Int)] w fun e w' => e = .returned (.tuple #[.int .u64 0, .int .i64 (i : Int), .int .i64 10]) ∧ Below w.heap.size w w' := by
  have Hb := Lib.hid hb
  obtain ⟨A, c, rfl, hlc⟩ := hb.shape
  clear hb
  obtain ⟨hil, hix⟩ := List.getElem?_eq_some_iff.1 hi
  obtain ⟨a, rfl, hca⟩ := Hb.out.at_ hil hil
  rw [hix] at hca
  clear hix hi
  have h64 := leNum_64 ((zs.drop (i + 1)).take 4) (by simp; omega)
  obtain ⟨q, hqq⟩ : ∃ q, leNum ((zs.drop (i + 1)).take 4) = q := ⟨_, rfl⟩
  rw [hqq] at h64 hq
  try rw [hqq]
  obtain ⟨kk, hkk⟩ : ∃ kk : Nat, 5 = kk := ⟨_, rfl⟩
  rw [hkk] at hk hq
  try rw [hkk]
  have hs := run_cut_lh 28 5 Try.underlying28 size5 (some a) zs.length c i (i + kk) (by omega) hk hlc
  rw [Nat.add_sub_cancel_left, Int.natCast_add] at hs
  have HQQ := Lib.hid hqq; have HQ := Lib.hid hq; have H64 := Lib.hid h64; have HK := Lib.hid hk
  have HKK := Lib.hid hkk
  clear hqq hq h64 hkk
  try rw [Int.natCast_add]
  go_enter Try.func86, Try.ntmps86
  go_wp2_with fail
  refine (rgetfix_ok _ zs (i + 1) 4 w Hb.out hl rfl (by have := HK.out; have := HKK.out; omega)).mono ?_
  rw [HQQ.out, show i + 1 + 4 = i + 5 from rfl, HKK.out]
  simp only [Int.natCast_add]
  rintro e w1 ⟨rfl, hb1⟩
  have HX := Lib.hid hb1; have Hb1 := Lib.hid (Hb.out.below hb1)
  have hto : IntKind.i64.wrap ((i : Int) + (kk : Int)) = ((i : Int) + (kk : Int)) := by rw [IntKind.wrap_i64]; have := HK.out; omega
  clear hb1
  go_wp2_with fail
  have hse := strq_ne HQ.out
  refine wp_region_pi [(0, true), (1, true), (2, true), (3, true), (6, true), (7, true), (8, true), (9, true), (10, true), (4, false), (5, false), (11, true), (12, true)] (by kernel_rfl) (by kernel_rfl) rfl (by kernel_rfl) (fun _ _ _ _ _ h => h) (fun w6 => HB w6 (.slice (some a) zs.length c) zs) Hb1.out.drew ?_
  intro OPS hops
  iterate 9
    first | (refine wpPi_yield _ (by rw [hops.out]; simp only [List.getElem?_toArray, List.getElem?_cons_succ, List.getElem?_cons_zero]; rfl) (by first | rfl | (rw [hops.out]; rfl)) (fun w' hS => by have hsw := HB.string (P := Try.prog) (cut_at hS i kk HK.out) 28 9 5 Try.underlying28 Try.underlying5 Try.underlying9; go_simp; rfl) ?_; simp only [Act.put, List.setIfInBounds_toArray, List.set_cons_succ, List.set_cons_zero]) | (refine wpPi_skip (by rw [hops.out]; simp only [List.getElem?_toArray, List.getElem?_cons_succ, List.getElem?_cons_zero]; rfl) (by first | rfl | (rw [hops.out]; rfl)) ?_; simp only [Act.put, List.setIfInBounds_toArray, List.set_cons_succ, List.set_cons_zero])
  refine wpPi_act (by rw [hops.out]; simp only [List.getElem?_toArray, List.getElem?_cons_succ, List.getElem?_cons_zero]; rfl) (by first | rfl | (rw [hops.out]; rfl)) ?_
  go_simp
  refine (rsize_any q _ H64.out).mono ?_
  rintro e w6 ⟨v6, rfl, hown, hb6⟩
  have HX6 := Lib.hid (thx9 (HX.out.drew) hb6)
  have HS6 := Lib.hid (Hb1.out.drew.below hb6)
  have hsz := HB.string (P := Try.prog) (show HB w6 v6 (csize q) from HB.of_own hown) 28 9 5 Try.underlying28 Try.underlying5 Try.underlying9
  obtain ⟨A6, c6, rfl⟩ := own_slice hown
  clear hown hb6
  try (refine ⟨(by first | exact Hb1.out.drew | exact HS6.out), ?_⟩)
  refine wpPi_act (by rw [hops.out]; simp only [List.getElem?_toArray, List.getElem?_cons_succ, List.getElem?_cons_zero]; rfl) (by first | rfl | (rw [hops.out]; rfl)) ?_
  go_simp
  clear hsz
  try (refine ⟨(by first | exact Hb1.out.drew | exact HS6.out), ?_⟩)
  iterate 2
    first | (refine wpPi_yield _ (by rw [hops.out]; simp only [List.getElem?_toArray, List.getElem?_cons_succ, List.getElem?_cons_zero]; rfl) (by first | rfl | (rw [hops.out]; rfl)) (fun w' hS => by have hsw := HB.string (P := Try.prog) (cut_at hS i kk HK.out) 28 9 5 Try.underlying28 Try.underlying5 Try.underlying9; go_simp; rfl) ?_; simp only [Act.put, List.setIfInBounds_toArray, List.set_cons_succ, List.set_cons_zero]) | (refine wpPi_skip (by rw [hops.out]; simp only [List.getElem?_toArray, List.getElem?_cons_succ, List.getElem?_cons_zero]; rfl) (by first | rfl | (rw [hops.out]; rfl)) ?_; simp only [Act.put, List.setIfInBounds_toArray, List.set_cons_succ, List.set_cons_zero])
  simp only [wpPi]
  go_wp2_with fail
  go_ret3
  exact ⟨rfl, HX6.out⟩
set_option maxHeartbeats 1000000 in
set_option maxRecDepth 100000 in
theorem rgs_f_sh (b : Value) (zs : List UInt8) (i : Nat) (w : World) (hb : HB w b zs) (hl : zs.length ≤ 20000) (x : UInt8) (hi : zs[i]? = some x) (b253 : ((x.toNat : Int) == 253) = false) (b254 : ((x.toNat : Int) == 254) = true) (hk : zs.length < i + 5) :
    Calls Try.prog 86 #[b, .int .i64 (i : Int)] w fun e w' => e = .returned (.tuple #[.int .u64 0, .int .i64 (i : Int), .int .i64 10]) ∧ Below w.heap.size w w' := by
  have Hb := Lib.hid hb
  obtain ⟨A, c, rfl, hlc⟩ := hb.shape
  clear hb
  obtain ⟨hil, hix⟩ := List.getElem?_eq_some_iff.1 hi
  obtain ⟨a, rfl, hca⟩ := Hb.out.at_ hil hil
  rw [hix] at hca
  clear hix hi
  go_enter Try.func86, Try.ntmps86
  go_wp2_with fail
  refine (rgetfix_bad _ zs (i + 1) 4 w Hb.out hl (by omega) (by rw [efixE, if_neg (by decide), if_pos (by omega)]; decide)).mono ?_
  rw [show efixE 4 (zs.length - (i + 1)) = 10 by rw [efixE, if_neg (by decide), if_pos (by omega)]]
  rintro e w1 ⟨rfl, rfl⟩
  go_wp2_with fail
  refine wp_region_pi [(0, true), (1, true), (2, true), (3, true), (6, true), (7, true), (8, true), (9, true), (10, true), (4, false), (5, false), (11, true), (12, true)] (by kernel_rfl) (by kernel_rfl) rfl (by kernel_rfl) (fun _ _ _ _ _ h => h) (fun w6 => w6 = w.drew) rfl ?_
  intro OPS hops
  iterate 9
    first | (refine wpPi_yield _ (by rw [hops.out]; simp only [List.getElem?_toArray, List.getElem?_cons_succ, List.getElem?_cons_zero]; rfl) (by first | rfl | (rw [hops.out]; rfl)) (fun w' hS => by subst hS; go_simp; rfl) ?_; simp only [Act.put, List.setIfInBounds_toArray, List.set_cons_succ, List.set_cons_zero]) | (refine wpPi_skip (by rw [hops.out]; simp only [List.getElem?_toArray, List.getElem?_cons_succ, List.getElem?_cons_zero]; rfl) (by first | rfl | (rw [hops.out]; rfl)) ?_; simp only [Act.put, List.setIfInBounds_toArray, List.set_cons_succ, List.set_cons_zero])
  refine wpPi_actSkip (by rw [hops.out]; simp only [List.getElem?_toArray, List.getElem?_cons_succ, List.getElem?_cons_zero]; rfl) (by first | rfl | (rw [hops.out]; rfl)) ?_ ?_
  · rfl
  simp only [Act.put, List.setIfInBounds_toArray, List.set_cons_succ, List.set_cons_zero]
  refine wpPi_actSkip (by rw [hops.out]; simp only [List.getElem?_toArray, List.getElem?_cons_succ, List.getElem?_cons_zero]; rfl) (by first | rfl | (rw [hops.out]; rfl)) ?_ ?_
  · rfl
  simp only [Act.put, List.setIfInBounds_toArray, List.set_cons_succ, List.set_cons_zero]
  iterate 2
    first | (refine wpPi_yield _ (by rw [hops.out]; simp only [List.getElem?_toArray, List.getElem?_cons_succ, List.getElem?_cons_zero]; rfl) (by first | rfl | (rw [hops.out]; rfl)) (fun w' hS => by subst hS; go_simp; rfl) ?_; simp only [Act.put, List.setIfInBounds_toArray, List.set_cons_succ, List.set_cons_zero]) | (refine wpPi_skip (by rw [hops.out]; simp only [List.getElem?_toArray, List.getElem?_cons_succ, List.getElem?_cons_zero]; rfl) (by first | rfl | (rw [hops.out]; rfl)) ?_; simp only [Act.put, List.setIfInBounds_toArray, List.set_cons_succ, List.set_cons_zero])
  simp only [wpPi]
  go_wp2_with fail
  go_ret3
  exact ⟨rfl, (Below.refl _ _).drew⟩
set_option maxHeartbeats 1000000 in
set_option maxRecDepth 100000 in
theorem rgs_e_eq (b : Value) (zs : List UInt8) (i : Nat) (w : World) (hb : HB w b zs) (hl : zs.length ≤ 20000) (x : UInt8) (hi : zs[i]? = some x) (b253 : ((x.toNat : Int) == 253) = false) (b254 : ((x.toNat : Int) == 254) = false) (b255 : ((x.toNat : Int) == 255) = true) (hk : i + 9 ≤ zs.length) (hq : csize (leNum ((zs.drop (i + 1)).take 8)) = (zs.drop i).take 9) :
    Calls Try.prog 86 #[b, .int .i64 (i : Int)] w fun e w' => e = .returned (.tuple #[.int .u64 (leNum ((zs.drop (i + 1)).take 8) : Nat), .int .i64 ((i + 9 : Nat) : Int), .int .i64 0]) ∧ Below w.heap.size w w' := by
  have Hb := Lib.hid hb
  obtain ⟨A, c, rfl, hlc⟩ := hb.shape
  clear hb
  obtain ⟨hil, hix⟩ := List.getElem?_eq_some_iff.1 hi
  obtain ⟨a, rfl, hca⟩ := Hb.out.at_ hil hil
  rw [hix] at hca
  clear hix hi
  have h64 := leNum_64 ((zs.drop (i + 1)).take 8) (by simp; omega)
  obtain ⟨q, hqq⟩ : ∃ q, leNum ((zs.drop (i + 1)).take 8) = q := ⟨_, rfl⟩
  rw [hqq] at h64 hq
  try rw [hqq]
  obtain ⟨kk, hkk⟩ : ∃ kk : Nat, 9 = kk := ⟨_, rfl⟩
  rw [hkk] at hk hq
  try rw [hkk]
  have hs := run_cut_lh 28 5 Try.underlying28 size5 (some a) zs.length c i (i + kk) (by omega) hk hlc
  rw [Nat.add_sub_cancel_left, Int.natCast_add] at hs
  have HQQ := Lib.hid hqq; have HQ := Lib.hid hq; have H64 := Lib.hid h64; have HK := Lib.hid hk
  have HKK := Lib.hid hkk
  clear hqq hq h64 hkk
  try rw [Int.natCast_add]
  go_enter Try.func86, Try.ntmps86
  go_wp2_with fail
  refine (rgetfix_ok _ zs (i + 1) 8 w Hb.out hl rfl (by have := HK.out; have := HKK.out; omega)).mono ?_
  rw [HQQ.out, show i + 1 + 8 = i + 9 from rfl, HKK.out]
  simp only [Int.natCast_add]
  rintro e w1 ⟨rfl, hb1⟩
  have HX := Lib.hid hb1; have Hb1 := Lib.hid (Hb.out.below hb1)
  have hto : IntKind.i64.wrap ((i : Int) + (kk : Int)) = ((i : Int) + (kk : Int)) := by rw [IntKind.wrap_i64]; have := HK.out; omega
  clear hb1
  go_wp2_with fail
  have hse := strq_eq HQ.out
  refine wp_region_pi [(0, true), (1, true), (2, true), (3, true), (6, true), (7, true), (8, true), (9, true), (10, true), (4, false), (5, false), (11, true), (12, true)] (by kernel_rfl) (by kernel_rfl) rfl (by kernel_rfl) (fun _ _ _ _ _ h => h) (fun w6 => HB w6 (.slice (some a) zs.length c) zs) Hb1.out.drew ?_
  intro OPS hops
  iterate 9
    first | (refine wpPi_yield _ (by rw [hops.out]; simp only [List.getElem?_toArray, List.getElem?_cons_succ, List.getElem?_cons_zero]; rfl) (by first | rfl | (rw [hops.out]; rfl)) (fun w' hS => by have hsw := HB.string (P := Try.prog) (cut_at hS i kk HK.out) 28 9 5 Try.underlying28 Try.underlying5 Try.underlying9; go_simp; rfl) ?_; simp only [Act.put, List.setIfInBounds_toArray, List.set_cons_succ, List.set_cons_zero]) | (refine wpPi_skip (by rw [hops.out]; simp only [List.getElem?_toArray, List.getElem?_cons_succ, List.getElem?_cons_zero]; rfl) (by first | rfl | (rw [hops.out]; rfl)) ?_; simp only [Act.put, List.setIfInBounds_toArray, List.set_cons_succ, List.set_cons_zero])
  refine wpPi_act (by rw [hops.out]; simp only [List.getElem?_toArray, List.getElem?_cons_succ, List.getElem?_cons_zero]; rfl) (by first | rfl | (rw [hops.out]; rfl)) ?_
  go_simp
  refine (rsize_any q _ H64.out).mono ?_
  rintro e w6 ⟨v6, rfl, hown, hb6⟩
  have HX6 := Lib.hid (thx9 (HX.out.drew) hb6)
  have HS6 := Lib.hid (Hb1.out.drew.below hb6)
  have hsz := HB.string (P := Try.prog) (show HB w6 v6 (csize q) from HB.of_own hown) 28 9 5 Try.underlying28 Try.underlying5 Try.underlying9
  obtain ⟨A6, c6, rfl⟩ := own_slice hown
  clear hown hb6
  try (refine ⟨(by first | exact Hb1.out.drew | exact HS6.out), ?_⟩)
  refine wpPi_act (by rw [hops.out]; simp only [List.getElem?_toArray, List.getElem?_cons_succ, List.getElem?_cons_zero]; rfl) (by first | rfl | (rw [hops.out]; rfl)) ?_
  go_simp
  clear hsz
  try (refine ⟨(by first | exact Hb1.out.drew | exact HS6.out), ?_⟩)
  iterate 2
    first | (refine wpPi_yield _ (by rw [hops.out]; simp only [List.getElem?_toArray, List.getElem?_cons_succ, List.getElem?_cons_zero]; rfl) (by first | rfl | (rw [hops.out]; rfl)) (fun w' hS => by have hsw := HB.string (P := Try.prog) (cut_at hS i kk HK.out) 28 9 5 Try.underlying28 Try.underlying5 Try.underlying9; go_simp; rfl) ?_; simp only [Act.put, List.setIfInBounds_toArray, List.set_cons_succ, List.set_cons_zero]) | (refine wpPi_skip (by rw [hops.out]; simp only [List.getElem?_toArray, List.getElem?_cons_succ, List.getElem?_cons_zero]; rfl) (by first | rfl | (rw [hops.out]; rfl)) ?_; simp only [Act.put, List.setIfInBounds_toArray, List.set_cons_succ, List.set_cons_zero])
  simp only [wpPi]
  go_wp2_with fail
  go_ret3
  exact ⟨rfl, HX6.out⟩
set_option maxHeartbeats 1000000 in
set_option maxRecDepth 100000 in
theorem rgs_e_ne (b : Value) (zs : List UInt8) (i : Nat) (w : World) (hb : HB w b zs) (hl : zs.length ≤ 20000) (x : UInt8) (hi : zs[i]? = some x) (b253 : ((x.toNat : Int) == 253) = false) (b254 : ((x.toNat : Int) == 254) = false) (b255 : ((x.toNat : Int) == 255) = true) (hk : i + 9 ≤ zs.length) (hq : csize (leNum ((zs.drop (i + 1)).take 8)) ≠ (zs.drop i).take 9) :
    Calls Try.prog 86 #[b, .int .i64 (i : Int)] w fun e w' => e = .returned (.tuple #[.int .u64 0, .int .i64 (i : Int), .int .i64 10]) ∧ Below w.heap.size w w' := by
  have Hb := Lib.hid hb
  obtain ⟨A, c, rfl, hlc⟩ := hb.shape
  clear hb
  obtain ⟨hil, hix⟩ := List.getElem?_eq_some_iff.1 hi
  obtain ⟨a, rfl, hca⟩ := Hb.out.at_ hil hil
  rw [hix] at hca
  clear hix hi
  have h64 := leNum_64 ((zs.drop (i + 1)).take 8) (by simp; omega)
  obtain ⟨q, hqq⟩ : ∃ q, leNum ((zs.drop (i + 1)).take 8) = q := ⟨_, rfl⟩
  rw [hqq] at h64 hq
  try rw [hqq]
  obtain ⟨kk, hkk⟩ : ∃ kk : Nat, 9 = kk := ⟨_, rfl⟩
  rw [hkk] at hk hq
  try rw [hkk]
  have hs := run_cut_lh 28 5 Try.underlying28 size5 (some a) zs.length c i (i + kk) (by omega) hk hlc
  rw [Nat.add_sub_cancel_left, Int.natCast_add] at hs
  have HQQ := Lib.hid hqq; have HQ := Lib.hid hq; have H64 := Lib.hid h64; have HK := Lib.hid hk
  have HKK := Lib.hid hkk
  clear hqq hq h64 hkk
  try rw [Int.natCast_add]
  go_enter Try.func86, Try.ntmps86
  go_wp2_with fail
  refine (rgetfix_ok _ zs (i + 1) 8 w Hb.out hl rfl (by have := HK.out; have := HKK.out; omega)).mono ?_
  rw [HQQ.out, show i + 1 + 8 = i + 9 from rfl, HKK.out]
  simp only [Int.natCast_add]
  rintro e w1 ⟨rfl, hb1⟩
  have HX := Lib.hid hb1; have Hb1 := Lib.hid (Hb.out.below hb1)
  have hto : IntKind.i64.wrap ((i : Int) + (kk : Int)) = ((i : Int) + (kk : Int)) := by rw [IntKind.wrap_i64]; have := HK.out; omega
  clear hb1
  go_wp2_with fail
  have hse := strq_ne HQ.out
  refine wp_region_pi [(0, true), (1, true), (2, true), (3, true), (6, true), (7, true), (8, true), (9, true), (10, true), (4, false), (5, false), (11, true), (12, true)] (by kernel_rfl) (by kernel_rfl) rfl (by kernel_rfl) (fun _ _ _ _ _ h => h) (fun w6 => HB w6 (.slice (some a) zs.length c) zs) Hb1.out.drew ?_
  intro OPS hops
  iterate 9
    first | (refine wpPi_yield _ (by rw [hops.out]; simp only [List.getElem?_toArray, List.getElem?_cons_succ, List.getElem?_cons_zero]; rfl) (by first | rfl | (rw [hops.out]; rfl)) (fun w' hS => by have hsw := HB.string (P := Try.prog) (cut_at hS i kk HK.out) 28 9 5 Try.underlying28 Try.underlying5 Try.underlying9; go_simp; rfl) ?_; simp only [Act.put, List.setIfInBounds_toArray, List.set_cons_succ, List.set_cons_zero]) | (refine wpPi_skip (by rw [hops.out]; simp only [List.getElem?_toArray, List.getElem?_cons_succ, List.getElem?_cons_zero]; rfl) (by first | rfl | (rw [hops.out]; rfl)) ?_; simp only [Act.put, List.setIfInBounds_toArray, List.set_cons_succ, List.set_cons_zero])
  refine wpPi_act (by rw [hops.out]; simp only [List.getElem?_toArray, List.getElem?_cons_succ, List.getElem?_cons_zero]; rfl) (by first | rfl | (rw [hops.out]; rfl)) ?_
  go_simp
  refine (rsize_any q _ H64.out).mono ?_
  rintro e w6 ⟨v6, rfl, hown, hb6⟩
  have HX6 := Lib.hid (thx9 (HX.out.drew) hb6)
  have HS6 := Lib.hid (Hb1.out.drew.below hb6)
  have hsz := HB.string (P := Try.prog) (show HB w6 v6 (csize q) from HB.of_own hown) 28 9 5 Try.underlying28 Try.underlying5 Try.underlying9
  obtain ⟨A6, c6, rfl⟩ := own_slice hown
  clear hown hb6
  try (refine ⟨(by first | exact Hb1.out.drew | exact HS6.out), ?_⟩)
  refine wpPi_act (by rw [hops.out]; simp only [List.getElem?_toArray, List.getElem?_cons_succ, List.getElem?_cons_zero]; rfl) (by first | rfl | (rw [hops.out]; rfl)) ?_
  go_simp
  clear hsz
  try (refine ⟨(by first | exact Hb1.out.drew | exact HS6.out), ?_⟩)
  iterate 2
    first | (refine wpPi_yield _ (by rw [hops.out]; simp only [List.getElem?_toArray, List.getElem?_cons_succ, List.getElem?_cons_zero]; rfl) (by first | rfl | (rw [hops.out]; rfl)) (fun w' hS => by have hsw := HB.string (P := Try.prog) (cut_at hS i kk HK.out) 28 9 5 Try.underlying28 Try.underlying5 Try.underlying9; go_simp; rfl) ?_; simp only [Act.put, List.setIfInBounds_toArray, List.set_cons_succ, List.set_cons_zero]) | (refine wpPi_skip (by rw [hops.out]; simp only [List.getElem?_toArray, List.getElem?_cons_succ, List.getElem?_cons_zero]; rfl) (by first | rfl | (rw [hops.out]; rfl)) ?_; simp only [Act.put, List.setIfInBounds_toArray, List.set_cons_succ, List.set_cons_zero])
  simp only [wpPi]
  go_wp2_with fail
  go_ret3
  exact ⟨rfl, HX6.out⟩
set_option maxHeartbeats 1000000 in
set_option maxRecDepth 100000 in
theorem rgs_e_sh (b : Value) (zs : List UInt8) (i : Nat) (w : World) (hb : HB w b zs) (hl : zs.length ≤ 20000) (x : UInt8) (hi : zs[i]? = some x) (b253 : ((x.toNat : Int) == 253) = false) (b254 : ((x.toNat : Int) == 254) = false) (b255 : ((x.toNat : Int) == 255) = true) (hk : zs.length < i + 9) :
    Calls Try.prog 86 #[b, .int .i64 (i : Int)] w fun e w' => e = .returned (.tuple #[.int .u64 0, .int .i64 (i : Int), .int .i64 10]) ∧ Below w.heap.size w w' := by
  have Hb := Lib.hid hb
  obtain ⟨A, c, rfl, hlc⟩ := hb.shape
  clear hb
  obtain ⟨hil, hix⟩ := List.getElem?_eq_some_iff.1 hi
  obtain ⟨a, rfl, hca⟩ := Hb.out.at_ hil hil
  rw [hix] at hca
  clear hix hi
  go_enter Try.func86, Try.ntmps86
  go_wp2_with fail
  refine (rgetfix_bad _ zs (i + 1) 8 w Hb.out hl (by omega) (by rw [efixE, if_neg (by decide), if_pos (by omega)]; decide)).mono ?_
  rw [show efixE 8 (zs.length - (i + 1)) = 10 by rw [efixE, if_neg (by decide), if_pos (by omega)]]
  rintro e w1 ⟨rfl, rfl⟩
  go_wp2_with fail
  refine wp_region_pi [(0, true), (1, true), (2, true), (3, true), (6, true), (7, true), (8, true), (9, true), (10, true), (4, false), (5, false), (11, true), (12, true)] (by kernel_rfl) (by kernel_rfl) rfl (by kernel_rfl) (fun _ _ _ _ _ h => h) (fun w6 => w6 = w.drew) rfl ?_
  intro OPS hops
  iterate 9
    first | (refine wpPi_yield _ (by rw [hops.out]; simp only [List.getElem?_toArray, List.getElem?_cons_succ, List.getElem?_cons_zero]; rfl) (by first | rfl | (rw [hops.out]; rfl)) (fun w' hS => by subst hS; go_simp; rfl) ?_; simp only [Act.put, List.setIfInBounds_toArray, List.set_cons_succ, List.set_cons_zero]) | (refine wpPi_skip (by rw [hops.out]; simp only [List.getElem?_toArray, List.getElem?_cons_succ, List.getElem?_cons_zero]; rfl) (by first | rfl | (rw [hops.out]; rfl)) ?_; simp only [Act.put, List.setIfInBounds_toArray, List.set_cons_succ, List.set_cons_zero])
  refine wpPi_actSkip (by rw [hops.out]; simp only [List.getElem?_toArray, List.getElem?_cons_succ, List.getElem?_cons_zero]; rfl) (by first | rfl | (rw [hops.out]; rfl)) ?_ ?_
  · rfl
  simp only [Act.put, List.setIfInBounds_toArray, List.set_cons_succ, List.set_cons_zero]
  refine wpPi_actSkip (by rw [hops.out]; simp only [List.getElem?_toArray, List.getElem?_cons_succ, List.getElem?_cons_zero]; rfl) (by first | rfl | (rw [hops.out]; rfl)) ?_ ?_
  · rfl
  simp only [Act.put, List.setIfInBounds_toArray, List.set_cons_succ, List.set_cons_zero]
  iterate 2
    first | (refine wpPi_yield _ (by rw [hops.out]; simp only [List.getElem?_toArray, List.getElem?_cons_succ, List.getElem?_cons_zero]; rfl) (by first | rfl | (rw [hops.out]; rfl)) (fun w' hS => by subst hS; go_simp; rfl) ?_; simp only [Act.put, List.setIfInBounds_toArray, List.set_cons_succ, List.set_cons_zero]) | (refine wpPi_skip (by rw [hops.out]; simp only [List.getElem?_toArray, List.getElem?_cons_succ, List.getElem?_cons_zero]; rfl) (by first | rfl | (rw [hops.out]; rfl)) ?_; simp only [Act.put, List.setIfInBounds_toArray, List.set_cons_succ, List.set_cons_zero])
  simp only [wpPi]
  go_wp2_with fail
  go_ret3
  exact ⟨rfl, (Below.refl _ _).drew⟩

end
section
open Go.RowKit Go.Proofs
def gszV (i : Nat) (o : Option (Nat × Nat)) : Value := match o with
  | some (n, k) => .tuple #[.int .u64 (n : Int), .int .i64 ((i + k : Nat) : Int), .int .i64 0]
  | none => .tuple #[.int .u64 0, .int .i64 (i : Int), .int .i64 10]
theorem getSize_iff (f : UInt8) (r : List UInt8) (m : Nat) (hf : ¬ f.toNat < 253) (hm : msz f = m) :
    (r.length < m → getSize (f :: r) = none) ∧ (m ≤ r.length → csize (leNum (r.take m)) = (f :: r).take (m + 1) → getSize (f :: r) = some (leNum (r.take m), m + 1)) ∧
    (csize (leNum (r.take m)) ≠ (f :: r).take (m + 1) → getSize (f :: r) = none) := by
  have hdef : getSize (f :: r) = if r.length < m then none else if compact (leNum (r.take m)) = m + 1 then some (leNum (r.take m), m + 1) else none := by rw [getSize, if_neg hf, hm]
  refine ⟨fun h => by rw [hdef, if_pos h], fun h hc => ?_, fun hc => ?_⟩
  · rw [hdef, if_neg (by omega), if_pos]
    rw [← csize_length, hc]
    simp; omega
  · cases hg : getSize (f :: r) with
    | none => rfl
    | some o =>
      obtain ⟨n, k⟩ := o
      have h1 := (getSize_csize hg).1
      rw [hdef] at hg
      split at hg
      · cases hg
      · split at hg
        · simp only [Option.some.injEq, Prod.mk.injEq] at hg
          obtain ⟨rfl, rfl⟩ := hg
          exact absurd h1 hc
        · cases hg
theorem own_ge {w : World} {base n : Nat} {e : TypeId} {size : Nat} {v : Value} {xs : List Value} (h : w.ownsRow base e size v n xs) {i : Nat} (hi : v.ownBlock = some i) : base ≤ i := by
  rcases h.2 with ⟨rfl, _⟩ | ⟨g, cap, cur, rfl, hb, _⟩
  · cases hi
  · injection hi with hi; subst hi; exact hb

attribute [local irreducible] Calls
set_option maxHeartbeats 1000000 in
set_option maxRecDepth 100000 in
theorem rgs_end (b : Value) (zs : List UInt8) (w : World) (hb : HB w b zs) (hl : zs.length ≤ 20000) :
    Calls Try.prog 86 #[b, .int .i64 (zs.length : Int)] w fun e w' => e = .returned (.tuple #[.int .u64 0, .int .i64 (zs.length : Int), .int .i64 10]) ∧ Below w.heap.size w w' := by
  obtain ⟨A, c, rfl, hlc⟩ := hb.shape
  clear hb
  go_enter Try.func86, Try.ntmps86
  go_wp2_with fail
  go_ret3
  exact ⟨rfl, Below.refl _ _⟩
theorem rgetsize_any (b : Value) (zs : List UInt8) (i : Nat) (w : World) (hb : HB w b zs) (hl : zs.length ≤ 20000) (hi : i ≤ zs.length) :
    Calls Try.prog 86 #[b, .int .i64 (i : Int)] w fun e w' => e = .returned (gszV i (getSize (zs.drop i))) ∧ Below w.heap.size w w' := by
  by_cases hil : i < zs.length
  · obtain ⟨f, hf⟩ : ∃ f, zs[i]? = some f := ⟨_, List.getElem?_eq_getElem hil⟩
    have hd : zs.drop i = f :: zs.drop (i + 1) := by
      rw [List.drop_eq_getElem_cons hil]; congr 1
      rw [List.getElem?_eq_getElem hil] at hf; exact Option.some.inj hf
    have hrl : (zs.drop (i + 1)).length = zs.length - (i + 1) := by simp
    have bq : ∀ (u : Nat), (((f.toNat : Int) == (u : Int)) = decide (f.toNat = u)) := fun u => by
      by_cases h : f.toNat = u
      · simp [h]
      · simp [h]; omega
    have b3 := bq 253
    have b4 := bq 254
    have b5 := bq 255
    by_cases h1 : f.toNat < 253
    · have hg : getSize (zs.drop i) = some (f.toNat, 1) := by rw [hd, getSize, if_pos h1]
      rw [hg, gszV]
      have hq : leNum ((zs.drop i).take 1) = f.toNat := by rw [hd]; simp [leNum]
      have := rgs_s_eq b zs i w hb hl f hf (b3.trans (by simp; omega)) (b4.trans (by simp; omega)) (b5.trans (by simp; omega)) (by omega) (by rw [hq, hd, csize, if_pos h1]; simp)
      rwa [hq] at this
    · by_cases e1 : f.toNat = 253
      · have hm : msz f = 2 := by rw [msz, if_pos e1]
        obtain ⟨g1, g2, g3⟩ := getSize_iff f (zs.drop (i + 1)) 2 h1 hm
        rw [← hd] at g1 g2 g3
        by_cases hs : zs.length < i + 3
        · rw [g1 (by omega), gszV]
          exact rgs_t_sh b zs i w hb hl f hf (b3.trans (by simp; omega)) hs
        · by_cases hq : csize (leNum ((zs.drop (i + 1)).take 2)) = (zs.drop i).take 3
          · rw [g2 (by omega) hq, gszV]
            exact rgs_t_eq b zs i w hb hl f hf (b3.trans (by simp; omega)) (by omega) hq
          · rw [g3 hq, gszV]
            exact rgs_t_ne b zs i w hb hl f hf (b3.trans (by simp; omega)) (by omega) hq
      · by_cases e2 : f.toNat = 254
        · have hm : msz f = 4 := by rw [msz, if_neg e1, if_pos e2]
          obtain ⟨g1, g2, g3⟩ := getSize_iff f (zs.drop (i + 1)) 4 h1 hm
          rw [← hd] at g1 g2 g3
          by_cases hs : zs.length < i + 5
          · rw [g1 (by omega), gszV]
            exact rgs_f_sh b zs i w hb hl f hf (b3.trans (by simp; omega)) (b4.trans (by simp; omega)) hs
          · by_cases hq : csize (leNum ((zs.drop (i + 1)).take 4)) = (zs.drop i).take 5
            · rw [g2 (by omega) hq, gszV]
              exact rgs_f_eq b zs i w hb hl f hf (b3.trans (by simp; omega)) (b4.trans (by simp; omega)) (by omega) hq
            · rw [g3 hq, gszV]
              exact rgs_f_ne b zs i w hb hl f hf (b3.trans (by simp; omega)) (b4.trans (by simp; omega)) (by omega) hq
        · have hm : msz f = 8 := by rw [msz, if_neg e1, if_neg e2]
          have hlt := f.toNat_lt
          obtain ⟨g1, g2, g3⟩ := getSize_iff f (zs.drop (i + 1)) 8 h1 hm
          rw [← hd] at g1 g2 g3
          by_cases hs : zs.length < i + 9
          · rw [g1 (by omega), gszV]
            exact rgs_e_sh b zs i w hb hl f hf (b3.trans (by simp; omega)) (b4.trans (by simp; omega)) (b5.trans (by simp; omega)) hs
          · by_cases hq : csize (leNum ((zs.drop (i + 1)).take 8)) = (zs.drop i).take 9
            · rw [g2 (by omega) hq, gszV]
              exact rgs_e_eq b zs i w hb hl f hf (b3.trans (by simp; omega)) (b4.trans (by simp; omega)) (b5.trans (by simp; omega)) (by omega) hq
            · rw [g3 hq, gszV]
              exact rgs_e_ne b zs i w hb hl f hf (b3.trans (by simp; omega)) (b4.trans (by simp; omega)) (b5.trans (by simp; omega)) (by omega) hq
  · obtain rfl : i = zs.length := by omega
    rw [List.drop_length, getSize, gszV]
    exact rgs_end b zs w hb hl
set_option maxHeartbeats 1000000 in
set_option maxRecDepth 100000 in
theorem rgetbytes_ok (b : Value) (zs : List UInt8) (i n k : Nat) (most : Int) (w : World) (hb : HB w b zs) (hl : zs.length ≤ 20000) (hg : getSize (zs.drop i) = some (n, k)) (h0 : 0 ≤ most) (hm : (n : Int) ≤ most) (hmo : most ≤ 9223372036854775807) (hk : i + k + n ≤ zs.length) :
    Calls Try.prog 132 #[b, .int .i64 (i : Int), .int .i64 most] w fun e w' => ∃ v', e = .returned (.tuple #[v', .int .i64 ((i + k + n : Nat) : Int), .int .i64 0]) ∧ w'.ownsRow w.heap.size 5 1 v' n (bs ((zs.drop (i + k)).take n)) ∧ Below w.heap.size w w' := by
  have Hb := Lib.hid hb
  obtain ⟨A, c, rfl, hlc⟩ := hb.shape
  clear hb
  have hgv : gszV i (getSize (zs.drop i)) = .tuple #[.int .u64 (n : Int), .int .i64 ((i + k : Nat) : Int), .int .i64 0] := by rw [hg, gszV]
  have HGV := Lib.hid hgv
  obtain ⟨j, hj⟩ : ∃ j, i + k = j := ⟨_, rfl⟩
  rw [hj] at hgv hk ⊢
  have HJ := Lib.hid hj
  have hil : i ≤ zs.length := by omega
  have HIL := Lib.hid hil
  have hlk : ((zs.drop j).take n).length = n := by simp; omega
  have hs := run_cut_lh 28 5 Try.underlying28 size5 A zs.length c j (j + n) (by omega) hk hlc
  rw [Nat.add_sub_cancel_left, Int.natCast_add] at hs
  rw [Int.natCast_add]
  have HC := Lib.hid (cut_at Hb.out j n hk)
  generalize hl2 : (zs.drop j).take n = l2 at *
  have HLK := Lib.hid hlk
  have w1 : IntKind.u64.wrap most = most := by rw [IntKind.wrap_u64]; omega
  have w2 : IntKind.u64.wrap ((zs.length : Int) - (j : Int)) = (zs.length : Int) - (j : Int) := by rw [IntKind.wrap_u64]; omega
  have w3 : IntKind.i64.wrap (n : Int) = (n : Int) := by rw [IntKind.wrap_i64]; omega
  have w4 : wrap64 ((zs.length : Int) - (j : Int)) = (zs.length : Int) - (j : Int) := by unfold wrap64; omega
  have c1 : ¬ most < 0 := by omega
  have c2 : ¬ most < (n : Int) := by omega
  have c3 : ¬ (zs.length : Int) - (j : Int) < (n : Int) := by omega
  clear hgv hg hj hlk hl2
  go_enter Try.func132, Try.ntmps132
  go_wp2_with fail
  refine (rgetsize_any _ zs i w Hb.out hl HIL.out).mono ?_
  rw [HGV.out, HJ.out]
  rintro e w1 ⟨rfl, hb1⟩
  have HX := Lib.hid hb1
  have HC1 := Lib.hid (HC.out.below hb1)
  clear hb1
  go_wp2_with fail
  refine (twin_any _ l2 _ HC1.out (by have := HLK.out; omega)).mono ?_
  rintro e w2 ⟨v2, rfl, hown, hb2⟩
  rw [HLK.out] at hown
  have HO := Lib.hid (own_base hown (b := w.heap.size) (fun k hk => Nat.le_trans HX.out.size (own_ge hown hk)))
  have HX2 := Lib.hid (thx9 HX.out hb2)
  obtain ⟨A1, c1, rfl⟩ := own_slice hown
  clear hown hb2
  go_wp2_with fail
  go_ret3
  exact ⟨_, rfl, HO.out, HX2.out⟩
set_option maxHeartbeats 1000000 in
set_option maxRecDepth 100000 in
theorem rgetbytes_none (b : Value) (zs : List UInt8) (i : Nat) (most : Int) (w : World) (hb : HB w b zs) (hl : zs.length ≤ 20000) (hi : i ≤ zs.length) (hg : getSize (zs.drop i) = none) :
    Calls Try.prog 132 #[b, .int .i64 (i : Int), .int .i64 most] w fun e w' => e = .returned (.tuple #[.slice none 0 0, .int .i64 (i : Int), .int .i64 10]) ∧ Below w.heap.size w w' := by
  have Hb := Lib.hid hb
  obtain ⟨A, c, rfl, hlc⟩ := hb.shape
  clear hb
  have HGV := Lib.hid (show gszV i (getSize (zs.drop i)) = .tuple #[.int .u64 0, .int .i64 (i : Int), .int .i64 10] by rw [hg, gszV])
  have HI := Lib.hid hi
  clear hg
  go_enter Try.func132, Try.ntmps132
  go_wp2_with fail
  refine (rgetsize_any _ zs i w Hb.out hl HI.out).mono ?_
  rw [HGV.out]
  rintro e w1 ⟨rfl, hb1⟩
  have HX := Lib.hid hb1
  clear hb1
  go_wp2_with fail
  go_ret3
  exact ⟨rfl, HX.out⟩
set_option maxHeartbeats 1000000 in
set_option maxRecDepth 100000 in
theorem rgetbytes_bad (b : Value) (zs : List UInt8) (i n k : Nat) (most : Int) (w : World) (hb : HB w b zs) (hl : zs.length ≤ 20000) (hi : i + k ≤ zs.length) (hg : getSize (zs.drop i) = some (n, k)) (hn : n < 18446744073709551616) (hmo : most ≤ 9223372036854775807) (hc : most < 0 ∨ most < (n : Int) ∨ zs.length - (i + k) < n) :
    Calls Try.prog 132 #[b, .int .i64 (i : Int), .int .i64 most] w fun e w' => e = .returned (.tuple #[.slice none 0 0, .int .i64 (i : Int), .int .i64 10]) ∧ Below w.heap.size w w' := by
  have Hb := Lib.hid hb
  obtain ⟨A, c, rfl, hlc⟩ := hb.shape
  clear hb
  have hgv : gszV i (getSize (zs.drop i)) = .tuple #[.int .u64 (n : Int), .int .i64 ((i + k : Nat) : Int), .int .i64 0] := by rw [hg, gszV]
  obtain ⟨j, hj⟩ : ∃ j, i + k = j := ⟨_, rfl⟩
  rw [hj] at hgv hi hc
  have HGV := Lib.hid hgv
  have HI := Lib.hid (show i ≤ zs.length by omega)
  have w2 : IntKind.u64.wrap ((zs.length : Int) - (j : Int)) = (zs.length : Int) - (j : Int) := by rw [IntKind.wrap_u64]; omega
  have w4 : wrap64 ((zs.length : Int) - (j : Int)) = (zs.length : Int) - (j : Int) := by unfold wrap64; omega
  by_cases c0 : most < 0
  · clear hgv hg hj hc
    go_enter Try.func132, Try.ntmps132
    go_wp2_with fail
    refine (rgetsize_any _ zs i w Hb.out hl HI.out).mono ?_
    rw [HGV.out]
    rintro e w1 ⟨rfl, hb1⟩
    have HX := Lib.hid hb1
    clear hb1
    go_wp2_with fail
    go_ret3
    exact ⟨rfl, HX.out⟩
  · have w1 : IntKind.u64.wrap most = most := by rw [IntKind.wrap_u64]; omega
    by_cases c2 : most < (n : Int)
    · clear hgv hg hj hc
      go_enter Try.func132, Try.ntmps132
      go_wp2_with fail
      refine (rgetsize_any _ zs i w Hb.out hl HI.out).mono ?_
      rw [HGV.out]
      rintro e w1 ⟨rfl, hb1⟩
      have HX := Lib.hid hb1
      clear hb1
      go_wp2_with fail
      go_ret3
      exact ⟨rfl, HX.out⟩
    · have c3 : (zs.length : Int) - (j : Int) < (n : Int) := by omega
      clear hgv hg hj hc
      go_enter Try.func132, Try.ntmps132
      go_wp2_with fail
      refine (rgetsize_any _ zs i w Hb.out hl HI.out).mono ?_
      rw [HGV.out]
      rintro e w1 ⟨rfl, hb1⟩
      have HX := Lib.hid hb1
      clear hb1
      go_wp2_with fail
      go_ret3
      exact ⟨rfl, HX.out⟩

end
end Go.Proofs.Yteljmpoaggfliaa
