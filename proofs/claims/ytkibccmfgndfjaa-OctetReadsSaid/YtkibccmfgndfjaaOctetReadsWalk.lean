/- Contracts and words that the laws stand on (OctetReadsWalk). -/
import Derived.Deep.WholeRow
import Derived.Test.YtkibccmfgndfjaaOctetWritesWalk
import Derived.Test.YtkibccmfgndfjaaOctetCalls
import Derived.Test.YtkibccmfgndfjaaOctetNamesWalk
set_option linter.unusedVariables false
set_option linter.unusedSimpArgs false
namespace Go.Proofs.Ytkibccmfgndfjaa
section
open Go.RowKit Go.Proofs
theorem leNum_app (a b : List UInt8) : leNum (a ++ b) = leNum a + 256 ^ a.length * leNum b := by
  induction a with
  | nil => simp [leNum]
  | cons x r ih => rw [List.cons_append, leNum, leNum, ih, List.length_cons, Nat.pow_succ, Nat.mul_add, ← Nat.mul_assoc, Nat.mul_comm 256 (256 ^ r.length), Nat.add_assoc]
theorem leNum_take1 (l : List UInt8) (i : Nat) (h : i < l.length) : leNum (l.take (i + 1)) = leNum (l.take i) + l[i].toNat * 256 ^ i := by
  rw [List.take_succ_eq_append_getElem h, leNum_app, List.length_take, Nat.min_eq_left (by omega), Nat.mul_comm]; simp [leNum]
def NumRel (l : List UInt8) (w : World) (s4 s3 : Value) (w' : World) : Prop := ∃ i : Nat, i ≤ l.length ∧ s4 = .int .i64 i ∧ s3 = .int .u64 (leNum (l.take i) : Nat) ∧ Below w.heap.size w w'
attribute [local irreducible] Calls
set_option maxHeartbeats 1000000 in
set_option maxRecDepth 100000 in
theorem rnum_any (b : Value) (l : List UInt8) (w : World) (hb : HB w b l) (hl : l.length ≤ 8) :
    Calls Try.prog 67 #[b] w fun e w' => e = .returned (.int .u64 (leNum l : Nat)) ∧ Below w.heap.size w w' := by
  have Hb := Lib.hid hb
  obtain ⟨A, c, rfl, hlc⟩ := hb.shape
  clear hb
  go_enter Try.func67, Try.ntmps67
  go_wp2_with fail
  go_loopw [4, 3] (fun s4 s3 w' => NumRel l w s4 s3 w') (fun s4 _ _ => l.length - (intOf s4).toNat)
  case atStart => exact ⟨0, by omega, rfl, rfl, Below.refl _ _⟩
  case round =>
    obtain ⟨i, hi, rfl, rfl, hb⟩ := hrel
    have HX := Lib.hid hb
    by_cases hlt : i < l.length
    · obtain ⟨a, rfl, hca⟩ := Hb.out.at_ hlt hlt
      have hca1 := (World.cell?_of_block (hb.block _ (World.block_lt_of_cell? w _ hca))).trans hca
      have hs := leNum_take1 l i hlt
      have h1 := leNum_64 (l.take (i + 1)) (by simp; omega)
      have hx := (l[i]).toNat_lt
      have hq : 256 ^ i ≤ 256 ^ 7 := Nat.pow_le_pow_right (by omega) (by omega)
      rw [show (256 : Nat) ^ 7 = 72057594037927936 from by decide] at hq
      generalize l[i] = x at *
      generalize hqq : 256 ^ i = q at *
      generalize leNum (l.take i) = m at *
      generalize hm2 : leNum (l.take (i + 1)) = m2 at *
      have HM2 := Lib.hid hm2
      have hp : x.toNat * q ≤ 255 * q := Nat.mul_le_mul_right _ (by omega)
      have HQ := Lib.hid hqq
      have w1 : IntKind.u64.wrap (x.toNat : Int) = (x.toNat : Int) := by rw [IntKind.wrap_u64]; omega
      have w2 : IntKind.u64.wrap ((x.toNat : Int) * (q : Int)) = ((x.toNat * q : Nat) : Int) := by rw [← Int.natCast_mul, IntKind.wrap_u64]; generalize x.toNat * q = t at *; omega
      have w3 : IntKind.u64.wrap ((m : Int) + ((x.toNat * q : Nat) : Int)) = ((m2 : Nat) : Int) := by rw [IntKind.wrap_u64]; generalize x.toNat * q = t at *; omega
      have W3 := Lib.hid w3
      have HS := Lib.hid hs
      clear hs h1 hx hq hqq hp hb hca w3 hm2
      go_wp2_with fail
      refine wp_region_pi [(0, true), (1, true), (2, true), (3, true), (4, true), (5, true), (6, true), (7, false), (8, true), (9, true), (10, true)] (by kernel_rfl) (by kernel_rfl) rfl (by kernel_rfl) (fun _ _ _ _ _ h => h) (fun w6 => w6 = wr.drew) rfl ?_
      intro OPS hops
      iterate 7
        first | (refine wpPi_yield _ (by rw [hops.out]; simp only [List.getElem?_toArray, List.getElem?_cons_succ, List.getElem?_cons_zero]; rfl) (by first | rfl | (rw [hops.out]; rfl)) (fun w' hS => by subst hS; go_simp; rfl) ?_; simp only [Act.put, List.setIfInBounds_toArray, List.set_cons_succ, List.set_cons_zero]) | (refine wpPi_skip (by rw [hops.out]; simp only [List.getElem?_toArray, List.getElem?_cons_succ, List.getElem?_cons_zero]; rfl) (by first | rfl | (rw [hops.out]; rfl)) ?_; simp only [Act.put, List.setIfInBounds_toArray, List.set_cons_succ, List.set_cons_zero])
      refine wpPi_act (by rw [hops.out]; simp only [List.getElem?_toArray, List.getElem?_cons_succ, List.getElem?_cons_zero]; rfl) (by first | rfl | (rw [hops.out]; rfl)) ?_
      go_simp
      refine (power_any i (by omega) _).mono ?_
      rw [HQ.out]
      rintro e w6 ⟨rfl, rfl⟩
      try (refine ⟨rfl, ?_⟩)
      iterate 3
        first | (refine wpPi_yield _ (by rw [hops.out]; simp only [List.getElem?_toArray, List.getElem?_cons_succ, List.getElem?_cons_zero]; rfl) (by first | rfl | (rw [hops.out]; rfl)) (fun w' hS => by subst hS; go_simp; rfl) ?_; simp only [Act.put, List.setIfInBounds_toArray, List.set_cons_succ, List.set_cons_zero]) | (refine wpPi_skip (by rw [hops.out]; simp only [List.getElem?_toArray, List.getElem?_cons_succ, List.getElem?_cons_zero]; rfl) (by first | rfl | (rw [hops.out]; rfl)) ?_; simp only [Act.put, List.setIfInBounds_toArray, List.set_cons_succ, List.set_cons_zero])
      simp only [wpPi]
      go_wp2_with fail
      go_roundw
      case rel => rw [← Int.natCast_mul, W3.out]; exact ⟨i + 1, by omega, by go_num, by rw [HM2.out], HX.out.drew⟩
      case measure => simp [intOf]; omega
    · obtain rfl : i = l.length := by omega
      have ht : l.take l.length = l := List.take_length
      rw [ht]
      clear ht
      go_wp2_with fail
      go_ret
      exact ⟨rfl, HX.out⟩
end
section
open Go.RowKit Go.Proofs
attribute [local irreducible] Calls
theorem cut_at {w : World} {A : Option Addr} {c : Nat} {zs : List UInt8} (h : HB w (.slice A zs.length c) zs) (i k : Nat) (hk : i + k ≤ zs.length) : HB w (.slice (cutA A c i) k (c - i)) ((zs.drop i).take k) := by
  have := h.cut (a := i) (b := i + k) (by omega) hk
  rwa [Nat.add_sub_cancel_left] at this
set_option maxHeartbeats 1000000 in
set_option maxRecDepth 100000 in
theorem rgetfix_ok (b : Value) (zs : List UInt8) (i k : Nat) (w : World) (hb : HB w b zs) (hl : zs.length ≤ 20000) (hw : wideB (k : Int) = true) (hk : i + k ≤ zs.length) :
    Calls Try.prog 33 #[b, .int .i64 (i : Int), .int .i64 (k : Int)] w fun e w' => e = .returned (.tuple #[.int .u64 (leNum ((zs.drop i).take k) : Nat), .int .i64 ((i + k : Nat) : Int), .int .i64 0]) ∧ Below w.heap.size w w' := by
  have Hb := Lib.hid hb
  obtain ⟨A, c, rfl, hlc⟩ := hb.shape
  clear hb
  have hkk := wideB_cases hw
  have HC := Lib.hid (cut_at Hb.out i k hk)
  have hlk : ((zs.drop i).take k).length = k := by simp; omega
  have hs := run_cut_lh 29 5 Try.underlying29 size5 A zs.length c i (i + k) (by omega) hk hlc
  rw [Nat.add_sub_cancel_left, Int.natCast_add] at hs
  rw [Int.natCast_add]
  have hsub : (zs.length : Int) - (i : Int) = ((zs.length - i : Nat) : Int) := by omega
  generalize hl2 : (zs.drop i).take k = l2 at *
  have HLK := Lib.hid hlk
  clear hlk hl2
  have hk2 : k = 1 ∨ k = 2 ∨ k = 4 ∨ k = 8 := by omega
  clear hkk hw
  have hk8 : k ≤ 8 := by omega
  rcases hk2 with e | e | e | e
  · have b1 : ((k : Int) != 1) = false := by rw [e]; rfl
    clear e
    go_enter Try.func33, Try.ntmps33
    go_wp2_with fail
    refine (rnum_any _ l2 _ HC.out (by have := HLK.out; omega)).mono ?_
    rintro e w1 ⟨rfl, hb1⟩
    go_wp2_with fail
    go_ret3
    exact ⟨rfl, hb1⟩
  · have b1 : ((k : Int) != 1) = true := by rw [e]; rfl
    have b2 : ((k : Int) != 2) = false := by rw [e]; rfl
    clear e
    go_enter Try.func33, Try.ntmps33
    go_wp2_with fail
    refine (rnum_any _ l2 _ HC.out (by have := HLK.out; omega)).mono ?_
    rintro e w1 ⟨rfl, hb1⟩
    go_wp2_with fail
    go_ret3
    exact ⟨rfl, hb1⟩
  · have b1 : ((k : Int) != 1) = true := by rw [e]; rfl
    have b2 : ((k : Int) != 2) = true := by rw [e]; rfl
    have b4 : ((k : Int) != 4) = false := by rw [e]; rfl
    clear e
    go_enter Try.func33, Try.ntmps33
    go_wp2_with fail
    refine (rnum_any _ l2 _ HC.out (by have := HLK.out; omega)).mono ?_
    rintro e w1 ⟨rfl, hb1⟩
    go_wp2_with fail
    go_ret3
    exact ⟨rfl, hb1⟩
  · have b1 : ((k : Int) != 1) = true := by rw [e]; rfl
    have b2 : ((k : Int) != 2) = true := by rw [e]; rfl
    have b4 : ((k : Int) != 4) = true := by rw [e]; rfl
    have b8 : ((k : Int) != 8) = false := by rw [e]; rfl
    clear e
    go_enter Try.func33, Try.ntmps33
    go_wp2_with fail
    refine (rnum_any _ l2 _ HC.out (by have := HLK.out; omega)).mono ?_
    rintro e w1 ⟨rfl, hb1⟩
    go_wp2_with fail
    go_ret3
    exact ⟨rfl, hb1⟩
set_option maxHeartbeats 1000000 in
set_option maxRecDepth 100000 in
theorem rgetfix_bad (b : Value) (zs : List UInt8) (i : Nat) (k : Int) (w : World) (hb : HB w b zs) (hl : zs.length ≤ 20000) (hi : i ≤ zs.length) (hf : efixE k (zs.length - i) ≠ 0) :
    Calls Try.prog 33 #[b, .int .i64 (i : Int), .int .i64 k] w fun e w' => e = .returned (.tuple #[.int .u64 0, .int .i64 (i : Int), .int .i64 (efixE k (zs.length - i))]) ∧ w = w' := by
  obtain ⟨A, c, rfl, hlc⟩ := hb.shape
  clear hb
  by_cases hw : wideB k = true
  · have hkk := wideB_cases hw
    have hlt : ¬ i + k.toNat ≤ zs.length := fun h => hf (by rw [efixE, if_neg (by rw [hw]; decide), if_neg (by omega)])
    have hE : efixE k (zs.length - i) = 10 := by rw [efixE, if_neg (by rw [hw]; decide), if_pos (by omega)]
    rw [hE]
    clear hf hE hw
    rcases hkk with rfl | rfl | rfl | rfl
    all_goals
      go_enter Try.func33, Try.ntmps33
      go_wp2_with fail
      go_ret3
      exact ⟨rfl, rfl⟩
  · have hw2 : wideB k = false := by simpa using hw
    have hE : efixE k (zs.length - i) = 2 := by rw [efixE, if_pos hw2]
    rw [hE]
    have h1 : (k != 1) = true := by simp [wideB] at hw2 ⊢; omega
    have h2 : (k != 2) = true := by simp [wideB] at hw2 ⊢; omega
    have h4 : (k != 4) = true := by simp [wideB] at hw2 ⊢; omega
    have h8 : (k != 8) = true := by simp [wideB] at hw2 ⊢; omega
    clear hw hw2 hE hf
    go_enter Try.func33, Try.ntmps33
    go_wp2_with fail
    go_ret3
    exact ⟨rfl, rfl⟩
set_option maxHeartbeats 1000000 in
set_option maxRecDepth 100000 in
theorem rgetraw_ok (b : Value) (zs : List UInt8) (i k : Nat) (w : World) (hb : HB w b zs) (hl : zs.length ≤ 20000) (hk : i + k ≤ zs.length) :
    Calls Try.prog 39 #[b, .int .i64 (i : Int), .int .i64 (k : Int)] w fun e w' => ∃ v', e = .returned (.tuple #[v', .int .i64 ((i + k : Nat) : Int), .int .i64 0]) ∧ w'.ownsRow w.heap.size 5 1 v' k (bs ((zs.drop i).take k)) ∧ Below w.heap.size w w' := by
  have Hb := Lib.hid hb
  obtain ⟨A, c, rfl, hlc⟩ := hb.shape
  clear hb
  have HC := Lib.hid (cut_at Hb.out i k hk)
  have hlk : ((zs.drop i).take k).length = k := by simp; omega
  have hs := run_cut_lh 29 5 Try.underlying29 size5 A zs.length c i (i + k) (by omega) hk hlc
  rw [Nat.add_sub_cancel_left, Int.natCast_add] at hs
  rw [Int.natCast_add]
  have hsub : (zs.length : Int) - (i : Int) = ((zs.length - i : Nat) : Int) := by omega
  generalize hl2 : (zs.drop i).take k = l2 at *
  have HLK := Lib.hid hlk
  clear hlk hl2
  go_enter Try.func39, Try.ntmps39
  go_wp2_with fail
  refine (twin_any _ l2 _ HC.out (by have := HLK.out; omega)).mono ?_
  rintro e w1 ⟨v1, rfl, hown, hb1⟩
  rw [HLK.out] at hown
  have HO := Lib.hid hown; have HX := Lib.hid hb1
  obtain ⟨A1, c1, rfl⟩ := own_slice hown
  clear hown hb1
  go_wp2_with fail
  go_ret3
  exact ⟨_, rfl, HO.out, HX.out⟩
set_option maxHeartbeats 1000000 in
set_option maxRecDepth 100000 in
theorem rgetraw_bad (b : Value) (zs : List UInt8) (i : Nat) (k : Int) (w : World) (hb : HB w b zs) (hl : zs.length ≤ 20000) (hi : i ≤ zs.length) (hf : k < 0 ∨ ((zs.length - i : Nat) : Int) < k) :
    Calls Try.prog 39 #[b, .int .i64 (i : Int), .int .i64 k] w fun e w' => e = .returned (.tuple #[.slice none 0 0, .int .i64 (i : Int), .int .i64 (rawE k (zs.length - i))]) ∧ w = w' := by
  obtain ⟨A, c, rfl, hlc⟩ := hb.shape
  clear hb
  by_cases h0 : k < 0
  · have hE : rawE k (zs.length - i) = 2 := by rw [rawE, if_pos h0]
    rw [hE]
    clear hf hE
    go_enter Try.func39, Try.ntmps39
    go_wp2_with fail
    go_ret3
    exact ⟨rfl, rfl⟩
  · have hlt : ((zs.length - i : Nat) : Int) < k := by omega
    have hE : rawE k (zs.length - i) = 10 := by rw [rawE, if_neg h0, if_pos hlt]
    rw [hE]
    have hlt2 : (zs.length : Int) - (i : Int) < k := by omega
    clear hf hE hlt
    go_enter Try.func39, Try.ntmps39
    go_wp2_with fail
    go_ret3
    exact ⟨rfl, rfl⟩
end
section
open Go.RowKit Go.Proofs
theorem strq_ne {a b : List UInt8} (h : a ≠ b) : (a == b) = false := by simpa using h
theorem strq_eq {a b : List UInt8} (h : a = b) : (a == b) = true := by simpa using h
theorem thx9 {a w w1 : World} (h : Below a.heap.size a w) (k : Below w.heap.size w w1) : Below a.heap.size a w1 := h.trans (k.mono h.size)
attribute [local irreducible] Calls
set_option maxHeartbeats 1000000 in
set_option maxRecDepth 100000 in
theorem rgs_s_eq (b : Value) (zs : List UInt8) (i : Nat) (w : World) (hb : HB w b zs) (hl : zs.length ≤ 20000) (x : UInt8) (hi : zs[i]? = some x) (b253 : ((x.toNat : Int) == 253) = false) (b254 : ((x.toNat : Int) == 254) = false) (b255 : ((x.toNat : Int) == 255) = false) (hk : i + 1 ≤ zs.length) (hq : csize (leNum ((zs.drop (i)).take 1)) = (zs.drop i).take 1) :
    Calls Try.prog 35 #[b, .int .i64 (i : Int)] w fun e w' => e = .returned (.tuple #[.int .u64 (leNum ((zs.drop (i)).take 1) : Nat), .int .i64 ((i + 1 : Nat) : Int), .int .i64 0]) ∧ Below w.heap.size w w' := by
  have Hb := Lib.hid hb
  obtain ⟨A, c, rfl, hlc⟩ := hb.shape
  clear hb
  obtain ⟨hil, hix⟩ := List.getElem?_eq_some_iff.1 hi
  obtain ⟨a, rfl, hca⟩ := Hb.out.at_ hil hil
  rw [hix] at hca
  clear hix hi
  have h64 := leNum_64 ((zs.drop (i)).take 1) (by simp; omega)
  obtain ⟨q, hqq⟩ : ∃ q, leNum ((zs.drop (i)).take 1) = q := ⟨_, rfl⟩
  rw [hqq] at h64 hq
  try rw [hqq]
  obtain ⟨kk, hkk⟩ : ∃ kk : Nat, 1 = kk := ⟨_, rfl⟩
  rw [hkk] at hk hq
  try rw [hkk]
  have hs := run_cut_lh 29 5 Try.underlying29 size5 (some a) zs.length c i (i + kk) (by omega) hk hlc
  rw [Nat.add_sub_cancel_left, Int.natCast_add] at hs
  have HQQ := Lib.hid hqq; have HQ := Lib.hid hq; have H64 := Lib.hid h64; have HK := Lib.hid hk
  have HKK := Lib.hid hkk
  clear hqq hq h64 hkk
  try rw [Int.natCast_add]
  go_enter Try.func35, Try.ntmps35
  go_wp2_with fail
  refine (rgetfix_ok _ zs (i) 1 w Hb.out hl rfl (by have := HK.out; have := HKK.out; omega)).mono ?_
  rw [HQQ.out, show i + 1 = i + 1 from rfl, HKK.out]
  simp only [Int.natCast_add]
  rintro e w1 ⟨rfl, hb1⟩
  have HX := Lib.hid hb1; have Hb1 := Lib.hid (Hb.out.below hb1)
  have hto : IntKind.i64.wrap ((i : Int) + (kk : Int)) = ((i : Int) + (kk : Int)) := by rw [IntKind.wrap_i64]; have := HK.out; omega
  clear hb1
  go_wp2_with fail
  have hse := strq_eq HQ.out
  refine wp_region_pi [(0, true), (1, true), (2, true), (3, true), (6, true), (7, true), (8, true), (9, true), (10, true), (4, false), (5, false), (11, true), (12, true)] (by kernel_rfl) (by kernel_rfl) rfl (by kernel_rfl) (fun _ _ _ _ _ h => h) (fun w6 => HB w6 (.slice (some a) zs.length c) zs) Hb1.out.drew ?_
  intro OPS hops
  iterate 9
    first | (refine wpPi_yield _ (by rw [hops.out]; simp only [List.getElem?_toArray, List.getElem?_cons_succ, List.getElem?_cons_zero]; rfl) (by first | rfl | (rw [hops.out]; rfl)) (fun w' hS => by have hsw := HB.string (P := Try.prog) (cut_at hS i kk HK.out) 29 9 5 Try.underlying29 Try.underlying5 Try.underlying9; go_simp; rfl) ?_; simp only [Act.put, List.setIfInBounds_toArray, List.set_cons_succ, List.set_cons_zero]) | (refine wpPi_skip (by rw [hops.out]; simp only [List.getElem?_toArray, List.getElem?_cons_succ, List.getElem?_cons_zero]; rfl) (by first | rfl | (rw [hops.out]; rfl)) ?_; simp only [Act.put, List.setIfInBounds_toArray, List.set_cons_succ, List.set_cons_zero])
  refine wpPi_act (by rw [hops.out]; simp only [List.getElem?_toArray, List.getElem?_cons_succ, List.getElem?_cons_zero]; rfl) (by first | rfl | (rw [hops.out]; rfl)) ?_
  go_simp
  refine (rsize_any q _ H64.out).mono ?_
  rintro e w6 ⟨v6, rfl, hown, hb6⟩
  have HX6 := Lib.hid (thx9 (HX.out.drew) hb6)
  have HS6 := Lib.hid (Hb1.out.drew.below hb6)
  have hsz := HB.string (P := Try.prog) (show HB w6 v6 (csize q) from HB.of_own hown) 29 9 5 Try.underlying29 Try.underlying5 Try.underlying9
  obtain ⟨A6, c6, rfl⟩ := own_slice hown
  clear hown hb6
  try (refine ⟨(by first | exact Hb1.out.drew | exact HS6.out), ?_⟩)
  refine wpPi_act (by rw [hops.out]; simp only [List.getElem?_toArray, List.getElem?_cons_succ, List.getElem?_cons_zero]; rfl) (by first | rfl | (rw [hops.out]; rfl)) ?_
  go_simp
  clear hsz
  try (refine ⟨(by first | exact Hb1.out.drew | exact HS6.out), ?_⟩)
  iterate 2
    first | (refine wpPi_yield _ (by rw [hops.out]; simp only [List.getElem?_toArray, List.getElem?_cons_succ, List.getElem?_cons_zero]; rfl) (by first | rfl | (rw [hops.out]; rfl)) (fun w' hS => by have hsw := HB.string (P := Try.prog) (cut_at hS i kk HK.out) 29 9 5 Try.underlying29 Try.underlying5 Try.underlying9; go_simp; rfl) ?_; simp only [Act.put, List.setIfInBounds_toArray, List.set_cons_succ, List.set_cons_zero]) | (refine wpPi_skip (by rw [hops.out]; simp only [List.getElem?_toArray, List.getElem?_cons_succ, List.getElem?_cons_zero]; rfl) (by first | rfl | (rw [hops.out]; rfl)) ?_; simp only [Act.put, List.setIfInBounds_toArray, List.set_cons_succ, List.set_cons_zero])
  simp only [wpPi]
  go_wp2_with fail
  go_ret3
  exact ⟨rfl, HX6.out⟩
set_option maxHeartbeats 1000000 in
set_option maxRecDepth 100000 in
theorem rgs_t_eq (b : Value) (zs : List UInt8) (i : Nat) (w : World) (hb : HB w b zs) (hl : zs.length ≤ 20000) (x : UInt8) (hi : zs[i]? = some x) (b253 : ((x.toNat : Int) == 253) = true) (hk : i + 3 ≤ zs.length) (hq : csize (leNum ((zs.drop (i + 1)).take 2)) = (zs.drop i).take 3) :
    Calls Try.prog 35 #[b, .int .i64 (i : Int)] w fun e w' => e = .returned (.tuple #[.int .u64 (leNum ((zs.drop (i + 1)).take 2) : Nat), .int .i64 ((i + 3 : Nat) : Int), .int .i64 0]) ∧ Below w.heap.size w w' := by
  have Hb := Lib.hid hb
  obtain ⟨A, c, rfl, hlc⟩ := hb.shape
  clear hb
  obtain ⟨hil, hix⟩ := List.getElem?_eq_some_iff.1 hi
  obtain ⟨a, rfl, hca⟩ := Hb.out.at_ hil hil
  rw [hix] at hca
  clear hix hi
  have h64 := leNum_64 ((zs.drop (i + 1)).take 2) (by simp; omega)
  obtain ⟨q, hqq⟩ : ∃ q, leNum ((zs.drop (i + 1)).take 2) = q := ⟨_, rfl⟩
  rw [hqq] at h64 hq
  try rw [hqq]
  obtain ⟨kk, hkk⟩ : ∃ kk : Nat, 3 = kk := ⟨_, rfl⟩
  rw [hkk] at hk hq
  try rw [hkk]
  have hs := run_cut_lh 29 5 Try.underlying29 size5 (some a) zs.length c i (i + kk) (by omega) hk hlc
  rw [Nat.add_sub_cancel_left, Int.natCast_add] at hs
  have HQQ := Lib.hid hqq; have HQ := Lib.hid hq; have H64 := Lib.hid h64; have HK := Lib.hid hk
  have HKK := Lib.hid hkk
  clear hqq hq h64 hkk
  try rw [Int.natCast_add]
  go_enter Try.func35, Try.ntmps35
  go_wp2_with fail
  refine (rgetfix_ok _ zs (i + 1) 2 w Hb.out hl rfl (by have := HK.out; have := HKK.out; omega)).mono ?_
  rw [HQQ.out, show i + 1 + 2 = i + 3 from rfl, HKK.out]
  simp only [Int.natCast_add]
  rintro e w1 ⟨rfl, hb1⟩
  have HX := Lib.hid hb1; have Hb1 := Lib.hid (Hb.out.below hb1)
  have hto : IntKind.i64.wrap ((i : Int) + (kk : Int)) = ((i : Int) + (kk : Int)) := by rw [IntKind.wrap_i64]; have := HK.out; omega
  clear hb1
  go_wp2_with fail
  have hse := strq_eq HQ.out
  refine wp_region_pi [(0, true), (1, true), (2, true), (3, true), (6, true), (7, true), (8, true), (9, true), (10, true), (4, false), (5, false), (11, true), (12, true)] (by kernel_rfl) (by kernel_rfl) rfl (by kernel_rfl) (fun _ _ _ _ _ h => h) (fun w6 => HB w6 (.slice (some a) zs.length c) zs) Hb1.out.drew ?_
  intro OPS hops
  iterate 9
    first | (refine wpPi_yield _ (by rw [hops.out]; simp only [List.getElem?_toArray, List.getElem?_cons_succ, List.getElem?_cons_zero]; rfl) (by first | rfl | (rw [hops.out]; rfl)) (fun w' hS => by have hsw := HB.string (P := Try.prog) (cut_at hS i kk HK.out) 29 9 5 Try.underlying29 Try.underlying5 Try.underlying9; go_simp; rfl) ?_; simp only [Act.put, List.setIfInBounds_toArray, List.set_cons_succ, List.set_cons_zero]) | (refine wpPi_skip (by rw [hops.out]; simp only [List.getElem?_toArray, List.getElem?_cons_succ, List.getElem?_cons_zero]; rfl) (by first | rfl | (rw [hops.out]; rfl)) ?_; simp only [Act.put, List.setIfInBounds_toArray, List.set_cons_succ, List.set_cons_zero])
  refine wpPi_act (by rw [hops.out]; simp only [List.getElem?_toArray, List.getElem?_cons_succ, List.getElem?_cons_zero]; rfl) (by first | rfl | (rw [hops.out]; rfl)) ?_
  go_simp
  refine (rsize_any q _ H64.out).mono ?_
  rintro e w6 ⟨v6, rfl, hown, hb6⟩
  have HX6 := Lib.hid (thx9 (HX.out.drew) hb6)
  have HS6 := Lib.hid (Hb1.out.drew.below hb6)
  have hsz := HB.string (P := Try.prog) (show HB w6 v6 (csize q) from HB.of_own hown) 29 9 5 Try.underlying29 Try.underlying5 Try.underlying9
  obtain ⟨A6, c6, rfl⟩ := own_slice hown
  clear hown hb6
  try (refine ⟨(by first | exact Hb1.out.drew | exact HS6.out), ?_⟩)
  refine wpPi_act (by rw [hops.out]; simp only [List.getElem?_toArray, List.getElem?_cons_succ, List.getElem?_cons_zero]; rfl) (by first | rfl | (rw [hops.out]; rfl)) ?_
  go_simp
  clear hsz
  try (refine ⟨(by first | exact Hb1.out.drew | exact HS6.out), ?_⟩)
  iterate 2
    first | (refine wpPi_yield _ (by rw [hops.out]; simp only [List.getElem?_toArray, List.getElem?_cons_succ, List.getElem?_cons_zero]; rfl) (by first | rfl | (rw [hops.out]; rfl)) (fun w' hS => by have hsw := HB.string (P := Try.prog) (cut_at hS i kk HK.out) 29 9 5 Try.underlying29 Try.underlying5 Try.underlying9; go_simp; rfl) ?_; simp only [Act.put, List.setIfInBounds_toArray, List.set_cons_succ, List.set_cons_zero]) | (refine wpPi_skip (by rw [hops.out]; simp only [List.getElem?_toArray, List.getElem?_cons_succ, List.getElem?_cons_zero]; rfl) (by first | rfl | (rw [hops.out]; rfl)) ?_; simp only [Act.put, List.setIfInBounds_toArray, List.set_cons_succ, List.set_cons_zero])
  simp only [wpPi]
  go_wp2_with fail
  go_ret3
  exact ⟨rfl, HX6.out⟩
set_option maxHeartbeats 1000000 in
set_option maxRecDepth 100000 in
theorem rgs_t_ne (b : Value) (zs : List UInt8) (i : Nat) (w : World) (hb : HB w b zs) (hl : zs.length ≤ 20000) (x : UInt8) (hi : zs[i]? = some x) (b253 : ((x.toNat : Int) == 253) = true) (hk : i + 3 ≤ zs.length) (hq : csize (leNum ((zs.drop (i + 1)).take 2)) ≠ (zs.drop i).take 3) :
    Calls Try.prog 35 #[b, .int .i64 (i : Int)] w fun e w' => e = .returned (.tuple #[.int .u64 0, .int .i64 (i : Int), .int .i64 10]) ∧ Below w.heap.size w w' := by
  have Hb := Lib.hid hb
  obtain ⟨A, c, rfl, hlc⟩ := hb.shape
  clear hb
  obtain ⟨hil, hix⟩ := List.getElem?_eq_some_iff.1 hi
  obtain ⟨a, rfl, hca⟩ := Hb.out.at_ hil hil
  rw [hix] at hca
  clear hix hi
  have h64 := leNum_64 ((zs.drop (i + 1)).take 2) (by simp; omega)
  obtain ⟨q, hqq⟩ : ∃ q, leNum ((zs.drop (i + 1)).take 2) = q := ⟨_, rfl⟩
  rw [hqq] at h64 hq
  try rw [hqq]
  obtain ⟨kk, hkk⟩ : ∃ kk : Nat, 3 = kk := ⟨_, rfl⟩
  rw [hkk] at hk hq
  try rw [hkk]
  have hs := run_cut_lh 29 5 Try.underlying29 size5 (some a) zs.length c i (i + kk) (by omega) hk hlc
  rw [Nat.add_sub_cancel_left, Int.natCast_add] at hs
  have HQQ := Lib.hid hqq; have HQ := Lib.hid hq; have H64 := Lib.hid h64; have HK := Lib.hid hk
  have HKK := Lib.hid hkk
  clear hqq hq h64 hkk
  try rw [Int.natCast_add]
  go_enter Try.func35, Try.ntmps35
  go_wp2_with fail
  refine (rgetfix_ok _ zs (i + 1) 2 w Hb.out hl rfl (by have := HK.out; have := HKK.out; omega)).mono ?_
  rw [HQQ.out, show i + 1 + 2 = i + 3 from rfl, HKK.out]
  simp only [Int.natCast_add]
  rintro e w1 ⟨rfl, hb1⟩
  have HX := Lib.hid hb1; have Hb1 := Lib.hid (Hb.out.below hb1)
  have hto : IntKind.i64.wrap ((i : Int) + (kk : Int)) = ((i : Int) + (kk : Int)) := by rw [IntKind.wrap_i64]; have := HK.out; omega
  clear hb1
  go_wp2_with fail
  have hse := strq_ne HQ.out
  refine wp_region_pi [(0, true), (1, true), (2, true), (3, true), (6, true), (7, true), (8, true), (9, true), (10, true), (4, false), (5, false), (11, true), (12, true)] (by kernel_rfl) (by kernel_rfl) rfl (by kernel_rfl) (fun _ _ _ _ _ h => h) (fun w6 => HB w6 (.slice (some a) zs.length c) zs) Hb1.out.drew ?_
  intro OPS hops
  iterate 9
    first | (refine wpPi_yield _ (by rw [hops.out]; simp only [List.getElem?_toArray, List.getElem?_cons_succ, List.getElem?_cons_zero]; rfl) (by first | rfl | (rw [hops.out]; rfl)) (fun w' hS => by have hsw := HB.string (P := Try.prog) (cut_at hS i kk HK.out) 29 9 5 Try.underlying29 Try.underlying5 Try.underlying9; go_simp; rfl) ?_; simp only [Act.put, List.setIfInBounds_toArray, List.set_cons_succ, List.set_cons_zero]) | (refine wpPi_skip (by rw [hops.out]; simp only [List.getElem?_toArray, List.getElem?_cons_succ, List.getElem?_cons_zero]; rfl) (by first | rfl | (rw [hops.out]; rfl)) ?_; simp only [Act.put, List.setIfInBounds_toArray, List.set_cons_succ, List.set_cons_zero])
  refine wpPi_act (by rw [hops.out]; simp only [List.getElem?_toArray, List.getElem?_cons_succ, List.getElem?_cons_zero]; rfl) (by first | rfl | (rw [hops.out]; rfl)) ?_
  go_simp
  refine (rsize_any q _ H64.out).mono ?_
  rintro e w6 ⟨v6, rfl, hown, hb6⟩
  have HX6 := Lib.hid (thx9 (HX.out.drew) hb6)
  have HS6 := Lib.hid (Hb1.out.drew.below hb6)
  have hsz := HB.string (P := Try.prog) (show HB w6 v6 (csize q) from HB.of_own hown) 29 9 5 Try.underlying29 Try.underlying5 Try.underlying9
  obtain ⟨A6, c6, rfl⟩ := own_slice hown
  clear hown hb6
  try (refine ⟨(by first | exact Hb1.out.drew | exact HS6.out), ?_⟩)
  refine wpPi_act (by rw [hops.out]; simp only [List.getElem?_toArray, List.getElem?_cons_succ, List.getElem?_cons_zero]; rfl) (by first | rfl | (rw [hops.out]; rfl)) ?_
  go_simp
  clear hsz
  try (refine ⟨(by first | exact Hb1.out.drew | exact HS6.out), ?_⟩)
  iterate 2
    first | (refine wpPi_yield _ (by rw [hops.out]; simp only [List.getElem?_toArray, List.getElem?_cons_succ, List.getElem?_cons_zero]; rfl) (by first | rfl | (rw [hops.out]; rfl)) (fun w' hS => by have hsw := HB.string (P := Try.prog) (cut_at hS i kk HK.out) 29 9 5 Try.underlying29 Try.underlying5 Try.underlying9; go_simp; rfl) ?_; simp only [Act.put, List.setIfInBounds_toArray, List.set_cons_succ, List.set_cons_zero]) | (refine wpPi_skip (by rw [hops.out]; simp only [List.getElem?_toArray, List.getElem?_cons_succ, List.getElem?_cons_zero]; rfl) (by first | rfl | (rw [hops.out]; rfl)) ?_; simp only [Act.put, List.setIfInBounds_toArray, List.set_cons_succ, List.set_cons_zero])
  simp only [wpPi]
  go_wp2_with fail
  go_ret3
  exact ⟨rfl, HX6.out⟩
set_option maxHeartbeats 1000000 in
set_option maxRecDepth 100000 in
theorem rgs_t_sh (b : Value) (zs : List UInt8) (i : Nat) (w : World) (hb : HB w b zs) (hl : zs.length ≤ 20000) (x : UInt8) (hi : zs[i]? = some x) (b253 : ((x.toNat : Int) == 253) = true) (hk : zs.length < i + 3) :
    Calls Try.prog 35 #[b, .int .i64 (i : Int)] w fun e w' => e = .returned (.tuple #[.int .u64 0, .int .i64 (i : Int), .int .i64 10]) ∧ Below w.heap.size w w' := by
  have Hb := Lib.hid hb
  obtain ⟨A, c, rfl, hlc⟩ := hb.shape
  clear hb
  obtain ⟨hil, hix⟩ := List.getElem?_eq_some_iff.1 hi
  obtain ⟨a, rfl, hca⟩ := Hb.out.at_ hil hil
  rw [hix] at hca
  clear hix hi
  go_enter Try.func35, Try.ntmps35
  go_wp2_with fail
  refine (rgetfix_bad _ zs (i + 1) 2 w Hb.out hl (by omega) (by rw [efixE, if_neg (by decide), if_pos (by omega)]; decide)).mono ?_
  rw [show efixE 2 (zs.length - (i + 1)) = 10 by rw [efixE, if_neg (by decide), if_pos (by omega)]]
  rintro e w1 ⟨rfl, rfl⟩
  go_wp2_with fail
  refine wp_region_pi [(0, true), (1, true), (2, true), (3, true), (6, true), (7, true), (8, true), (9, true), (10, true), (4, false), (5, false), (11, true), (12, true)] (by kernel_rfl) (by kernel_rfl) rfl (by kernel_rfl) (fun _ _ _ _ _ h => h) (fun w6 => w6 = w.drew) rfl ?_
  intro OPS hops
  iterate 9
    first | (refine wpPi_yield _ (by rw [hops.out]; simp only [List.getElem?_toArray, List.getElem?_cons_succ, List.getElem?_cons_zero]; rfl) (by first | rfl | (rw [hops.out]; rfl)) (fun w' hS => by subst hS; go_simp; rfl) ?_; simp only [Act.put, List.setIfInBounds_toArray, List.set_cons_succ, List.set_cons_zero]) | (refine wpPi_skip (by rw [hops.out]; simp only [List.getElem?_toArray, List.getElem?_cons_succ, List.getElem?_cons_zero]; rfl) (by first | rfl | (rw [hops.out]; rfl)) ?_; simp only [Act.put, List.setIfInBounds_toArray, List.set_cons_succ, List.set_cons_zero])
  refine wpPi_actSkip (by rw [hops.out]; simp only [List.getElem?_toArray, List.getElem?_cons_succ, List.getElem?_cons_zero]; rfl) (by first | rfl | (rw [hops.out]; rfl)) ?_ ?_
  · rfl
  simp only [Act.put, List.setIfInBounds_toArray, List.set_cons_succ, List.set_cons_zero]
  refine wpPi_actSkip (by rw [hops.out]; simp only [List.getElem?_toArray, List.getElem?_cons_succ, List.getElem?_cons_zero]; rfl) (by first | rfl | (rw [hops.out]; rfl)) ?_ ?_
  · rfl
  simp only [Act.put, List.setIfInBounds_toArray, List.set_cons_succ, List.set_cons_zero]
  iterate 2
    first | (refine wpPi_yield _ (by rw [hops.out]; simp only [List.getElem?_toArray, List.getElem?_cons_succ, List.getElem?_cons_zero]; rfl) (by first | rfl | (rw [hops.out]; rfl)) (fun w' hS => by subst hS; go_simp; rfl) ?_; simp only [Act.put, List.setIfInBounds_toArray, List.set_cons_succ, List.set_cons_zero]) | (refine wpPi_skip (by rw [hops.out]; simp only [List.getElem?_toArray, List.getElem?_cons_succ, List.getElem?_cons_zero]; rfl) (by first | rfl | (rw [hops.out]; rfl)) ?_; simp only [Act.put, List.setIfInBounds_toArray, List.set_cons_succ, List.set_cons_zero])
  simp only [wpPi]
  go_wp2_with fail
  go_ret3
  exact ⟨rfl, (Below.refl _ _).drew⟩
set_option maxHeartbeats 1000000 in
set_option maxRecDepth 100000 in
theorem rgs_f_eq (b : Value) (zs : List UInt8) (i : Nat) (w : World) (hb : HB w b zs) (hl : zs.length ≤ 20000) (x : UInt8) (hi : zs[i]? = some x) (b253 : ((x.toNat : Int) == 253) = false) (b254 : ((x.toNat : Int) == 254) = true) (hk : i + 5 ≤ zs.length) (hq : csize (leNum ((zs.drop (i + 1)).take 4)) = (zs.drop i).take 5) :
    Calls Try.prog 35 #[b, .int .i64 (i : Int)] w fun e w' => e = .returned (.tuple #[.int .u64 (leNum ((zs.drop (i + 1)).take 4) : Nat), .int .i64 ((i + 5 : Nat) : Int), .int .i64 0]) ∧ Below w.heap.size w w' := by
  have Hb := Lib.hid hb
  obtain ⟨A, c, rfl, hlc⟩ := hb.shape
  clear hb
  obtain ⟨hil, hix⟩ := List.getElem?_eq_some_iff.1 hi
  obtain ⟨a, rfl, hca⟩ := Hb.out.at_ hil hil
  rw [hix] at hca
  clear hix hi
  have h64 := leNum_64 ((zs.drop (i + 1)).take 4) (by simp; omega)
  obtain ⟨q, hqq⟩ : ∃ q, leNum ((zs.drop (i + 1)).take 4) = q := ⟨_, rfl⟩
  rw [hqq] at h64 hq
  try rw [hqq]
  obtain ⟨kk, hkk⟩ : ∃ kk : Nat, 5 = kk := ⟨_, rfl⟩
  rw [hkk] at hk hq
  try rw [hkk]
  have hs := run_cut_lh 29 5 Try.underlying29 size5 (some a) zs.length c i (i + kk) (by omega) hk hlc
  rw [Nat.add_sub_cancel_left, Int.natCast_add] at hs
  have HQQ := Lib.hid hqq; have HQ := Lib.hid hq; have H64 := Lib.hid h64; have HK := Lib.hid hk
  have HKK := Lib.hid hkk
  clear hqq hq h64 hkk
  try rw [Int.natCast_add]
  go_enter Try.func35, Try.ntmps35
  go_wp2_with fail
  refine (rgetfix_ok _ zs (i + 1) 4 w Hb.out hl rfl (by have := HK.out; have := HKK.out; omega)).mono ?_
  rw [HQQ.out, show i + 1 + 4 = i + 5 from rfl, HKK.out]
  simp only [Int.natCast_add]
  rintro e w1 ⟨rfl, hb1⟩
  have HX := Lib.hid hb1; have Hb1 := Lib.hid (Hb.out.below hb1)
  have hto : IntKind.i64.wrap ((i : Int) + (kk : Int)) = ((i : Int) + (kk : Int)) := by rw [IntKind.wrap_i64]; have := HK.out; omega
  clear hb1
  go_wp2_with fail
  have hse := strq_eq HQ.out
  refine wp_region_pi [(0, true), (1, true), (2, true), (3, true), (6, true), (7, true), (8, true), (9, true), (10, true), (4, false), (5, false), (11, true), (12, true)] (by kernel_rfl) (by kernel_rfl) rfl (by kernel_rfl) (fun _ _ _ _ _ h => h) (fun w6 => HB w6 (.slice (some a) zs.length c) zs) Hb1.out.drew ?_
  intro OPS hops
  iterate 9
    first | (refine wpPi_yield _ (by rw [hops.out]; simp only [List.getElem?_toArray, List.getElem?_cons_succ, List.getElem?_cons_zero]; rfl) (by first | rfl | (rw [hops.out]; rfl)) (fun w' hS => by have hsw := HB.string (P := Try.prog) (cut_at hS i kk HK.out) 29 9 5 Try.underlying29 Try.underlying5 Try.underlying9; go_simp; rfl) ?_; simp only [Act.put, List.setIfInBounds_toArray, List.set_cons_succ, List.set_cons_zero]) | (refine wpPi_skip (by rw [hops.out]; simp only [List.getElem?_toArray, List.getElem?_cons_succ, List.getElem?_cons_zero]; rfl) (by first | rfl | (rw [hops.out]; rfl)) ?_; simp only [Act.put, List.setIfInBounds_toArray, List.set_cons_succ, List.set_cons_zero])
  refine wpPi_act (by rw [hops.out]; simp only [List.getElem?_toArray, List.getElem?_cons_succ, List.getElem?_cons_zero]; rfl) (by first | rfl | (rw [hops.out]; rfl)) ?_
  go_simp
  refine (rsize_any q _ H64.out).mono ?_
  rintro e w6 ⟨v6, rfl, hown, hb6⟩
  have HX6 := Lib.hid (thx9 (HX.out.drew) hb6)
  have HS6 := Lib.hid (Hb1.out.drew.below hb6)
  have hsz := HB.string (P := Try.prog) (show HB w6 v6 (csize q) from HB.of_own hown) 29 9 5 Try.underlying29 Try.underlying5 Try.underlying9
  obtain ⟨A6, c6, rfl⟩ := own_slice hown
  clear hown hb6
  try (refine ⟨(by first | exact Hb1.out.drew | exact HS6.out), ?_⟩)
  refine wpPi_act (by rw [hops.out]; simp only [List.getElem?_toArray, List.getElem?_cons_succ, List.getElem?_cons_zero]; rfl) (by first | rfl | (rw [hops.out]; rfl)) ?_
  go_simp
  clear hsz
  try (refine ⟨(by first | exact Hb1.out.drew | exact HS6.out), ?_⟩)
  iterate 2
    first | (refine wpPi_yield _ (by rw [hops.out]; simp only [List.getElem?_toArray, List.getElem?_cons_succ, List.getElem?_cons_zero]; rfl) (by first | rfl | (rw [hops.out]; rfl)) (fun w' hS => by have hsw := HB.string (P := Try.prog) (cut_at hS i kk HK.out) 29 9 5 Try.underlying29 Try.underlying5 Try.underlying9; go_simp; rfl) ?_; simp only [Act.put, List.setIfInBounds_toArray, List.set_cons_succ, List.set_cons_zero]) | (refine wpPi_skip (by rw [hops.out]; simp only [List.getElem?_toArray, List.getElem?_cons_succ, List.getElem?_cons_zero]; rfl) (by first | rfl | (rw [hops.out]; rfl)) ?_; simp only [Act.put, List.setIfInBounds_toArray, List.set_cons_succ, List.set_cons_zero])
  simp only [wpPi]
  go_wp2_with fail
  go_ret3
  exact ⟨rfl, HX6.out⟩
set_option maxHeartbeats 1000000 in
set_option maxRecDepth 100000 in
theorem rgs_f_ne (b : Value) (zs : List UInt8) (i : Nat) (w : World) (hb : HB w b zs) (hl : zs.length ≤ 20000) (x : UInt8) (hi : zs[i]? = some x) (b253 : ((x.toNat : Int) == 253) = false) (b254 : ((x.toNat : Int) == 254) = true) (hk : i + 5 ≤ zs.length) (hq : csize (leNum ((zs.drop (i + 1)).take 4)) ≠ (zs.drop i).take 5) :
    Calls Try.prog 35 #[b, .int .i64 (i : Int)] w fun e w' => e = .returned (.tuple #[.int .u64 0, .int .i64 (i : Int), .int .i64 10]) ∧ Below w.heap.size w w' := by
  have Hb := Lib.hid hb
  obtain ⟨A, c, rfl, hlc⟩ := hb.shape
  clear hb
  obtain ⟨hil, hix⟩ := List.getElem?_eq_some_iff.1 hi
  obtain ⟨a, rfl, hca⟩ := Hb.out.at_ hil hil
  rw [hix] at hca
  clear hix hi
  have h64 := leNum_64 ((zs.drop (i + 1)).take 4) (by simp; omega)
  obtain ⟨q, hqq⟩ : ∃ q, leNum ((zs.drop (i + 1)).take 4) = q := ⟨_, rfl⟩
  rw [hqq] at h64 hq
  try rw [hqq]
  obtain ⟨kk, hkk⟩ : ∃ kk : Nat, 5 = kk := ⟨_, rfl⟩
  rw [hkk] at hk hq
  try rw [hkk]
  have hs := run_cut_lh 29 5 Try.underlying29 size5 (some a) zs.length c i (i + kk) (by omega) hk hlc
  rw [Nat.add_sub_cancel_left, Int.natCast_add] at hs
  have HQQ := Lib.hid hqq; have HQ := Lib.hid hq; have H64 := Lib.hid h64; have HK := Lib.hid hk
  have HKK := Lib.hid hkk
  clear hqq hq h64 hkk
  try rw [Int.natCast_add]
  go_enter Try.func35, Try.ntmps35
  go_wp2_with fail
  refine (rgetfix_ok _ zs (i + 1) 4 w Hb.out hl rfl (by have := HK.out; have := HKK.out; omega)).mono ?_
  rw [HQQ.out, show i + 1 + 4 = i + 5 from rfl, HKK.out]
  simp only [Int.natCast_add]
  rintro e w1 ⟨rfl, hb1⟩
  have HX := Lib.hid hb1; have Hb1 := Lib.hid (Hb.out.below hb1)
  have hto : IntKind.i64.wrap ((i : Int) + (kk : Int)) = ((i : Int) + (kk : Int)) := by rw [IntKind.wrap_i64]; have := HK.out; omega
  clear hb1
  go_wp2_with fail
  have hse := strq_ne HQ.out
  refine wp_region_pi [(0, true), (1, true), (2, true), (3, true), (6, true), (7, true), (8, true), (9, true), (10, true), (4, false), (5, false), (11, true), (12, true)] (by kernel_rfl) (by kernel_rfl) rfl (by kernel_rfl) (fun _ _ _ _ _ h => h) (fun w6 => HB w6 (.slice (some a) zs.length c) zs) Hb1.out.drew ?_
  intro OPS hops
  iterate 9
    first | (refine wpPi_yield _ (by rw [hops.out]; simp only [List.getElem?_toArray, List.getElem?_cons_succ, List.getElem?_cons_zero]; rfl) (by first | rfl | (rw [hops.out]; rfl)) (fun w' hS => by have hsw := HB.string (P := Try.prog) (cut_at hS i kk HK.out) 29 9 5 Try.underlying29 Try.underlying5 Try.underlying9; go_simp; rfl) ?_; simp only [Act.put, List.setIfInBounds_toArray, List.set_cons_succ, List.set_cons_zero]) | (refine wpPi_skip (by rw [hops.out]; simp only [List.getElem?_toArray, List.getElem?_cons_succ, List.getElem?_cons_zero]; rfl) (by first | rfl | (rw [hops.out]; rfl)) ?_; simp only [Act.put, List.setIfInBounds_toArray, List.set_cons_succ, List.set_cons_zero])
  refine wpPi_act (by rw [hops.out]; simp only [List.getElem?_toArray, List.getElem?_cons_succ, List.getElem?_cons_zero]; rfl) (by first | rfl | (rw [hops.out]; rfl)) ?_
  go_simp
  refine (rsize_any q _ H64.out).mono ?_
  rintro e w6 ⟨v6, rfl, hown, hb6⟩
  have HX6 := Lib.hid (thx9 (HX.out.drew) hb6)
  have HS6 := Lib.hid (Hb1.out.drew.below hb6)
  have hsz := HB.string (P := Try.prog) (show HB w6 v6 (csize q) from HB.of_own hown) 29 9 5 Try.underlying29 Try.underlying5 Try.underlying9
  obtain ⟨A6, c6, rfl⟩ := own_slice hown
  clear hown hb6
  try (refine ⟨(by first | exact Hb1.out.drew | exact HS6.out), ?_⟩)
  refine wpPi_act (by rw [hops.out]; simp only [List.getElem?_toArray, List.getElem?_cons_succ, List.getElem?_cons_zero]; rfl) (by first | rfl | (rw [hops.out]; rfl)) ?_
  go_simp
  clear hsz
  try (refine ⟨(by first | exact Hb1.out.drew | exact HS6.out), ?_⟩)
  iterate 2
    first | (refine wpPi_yield _ (by rw [hops.out]; simp only [List.getElem?_toArray, List.getElem?_cons_succ, List.getElem?_cons_zero]; rfl) (by first | rfl | (rw [hops.out]; rfl)) (fun w' hS => by have hsw := HB.string (P := Try.prog) (cut_at hS i kk HK.out) 29 9 5 Try.underlying29 Try.underlying5 Try.underlying9; go_simp; rfl) ?_; simp only [Act.put, List.setIfInBounds_toArray, List.set_cons_succ, List.set_cons_zero]) | (refine wpPi_skip (by rw [hops.out]; simp only [List.getElem?_toArray, List.getElem?_cons_succ, List.getElem?_cons_zero]; rfl) (by first | rfl | (rw [hops.out]; rfl)) ?_; simp only [Act.put, List.setIfInBounds_toArray, List.set_cons_succ, List.set_cons_zero])
  simp only [wpPi]
  go_wp2_with fail
  go_ret3
  exact ⟨rfl, HX6.out⟩
set_option maxHeartbeats 1000000 in
set_option maxRecDepth 100000 in
theorem rgs_f_sh (b : Value) (zs : List UInt8) (i : Nat) (w : World) (hb : HB w b zs) (hl : zs.length ≤ 20000) (x : UInt8) (hi : zs[i]? = some x) (b253 : ((x.toNat : Int) == 253) = false) (b254 : ((x.toNat : Int) == 254) = true) (hk : zs.length < i + 5) :
    Calls Try.prog 35 #[b, .int .i64 (i : Int)] w fun e w' => e = .returned (.tuple #[.int .u64 0, .int .i64 (i : Int), .int .i64 10]) ∧ Below w.heap.size w w' := by
  have Hb := Lib.hid hb
  obtain ⟨A, c, rfl, hlc⟩ := hb.shape
  clear hb
  obtain ⟨hil, hix⟩ := List.getElem?_eq_some_iff.1 hi
  obtain ⟨a, rfl, hca⟩ := Hb.out.at_ hil hil
  rw [hix] at hca
  clear hix hi
  go_enter Try.func35, Try.ntmps35
  go_wp2_with fail
  refine (rgetfix_bad _ zs (i + 1) 4 w Hb.out hl (by omega) (by rw [efixE, if_neg (by decide), if_pos (by omega)]; decide)).mono ?_
  rw [show efixE 4 (zs.length - (i + 1)) = 10 by rw [efixE, if_neg (by decide), if_pos (by omega)]]
  rintro e w1 ⟨rfl, rfl⟩
  go_wp2_with fail
  refine wp_region_pi [(0, true), (1, true), (2, true), (3, true), (6, true), (7, true), (8, true), (9, true), (10, true), (4, false), (5, false), (11, true), (12, true)] (by kernel_rfl) (by kernel_rfl) rfl (by kernel_rfl) (fun _ _ _ _ _ h => h) (fun w6 => w6 = w.drew) rfl ?_
  intro OPS hops
  iterate 9
    first | (refine wpPi_yield _ (by rw [hops.out]; simp only [List.getElem?_toArray, List.getElem?_cons_succ, List.getElem?_cons_zero]; rfl) (by first | rfl | (rw [hops.out]; rfl)) (fun w' hS => by subst hS; go_simp; rfl) ?_; simp only [Act.put, List.setIfInBounds_toArray, List.set_cons_succ, List.set_cons_zero]) | (refine wpPi_skip (by rw [hops.out]; simp only [List.getElem?_toArray, List.getElem?_cons_succ, List.getElem?_cons_zero]; rfl) (by first | rfl | (rw [hops.out]; rfl)) ?_; simp only [Act.put, List.setIfInBounds_toArray, List.set_cons_succ, List.set_cons_zero])
  refine wpPi_actSkip (by rw [hops.out]; simp only [List.getElem?_toArray, List.getElem?_cons_succ, List.getElem?_cons_zero]; rfl) (by first | rfl | (rw [hops.out]; rfl)) ?_ ?_
  · rfl
  simp only [Act.put, List.setIfInBounds_toArray, List.set_cons_succ, List.set_cons_zero]
  refine wpPi_actSkip (by rw [hops.out]; simp only [List.getElem?_toArray, List.getElem?_cons_succ, List.getElem?_cons_zero]; rfl) (by first | rfl | (rw [hops.out]; rfl)) ?_ ?_
  · rfl
  simp only [Act.put, List.setIfInBounds_toArray, List.set_cons_succ, List.set_cons_zero]
  iterate 2
    first | (refine wpPi_yield _ (by rw [hops.out]; simp only [List.getElem?_toArray, List.getElem?_cons_succ, List.getElem?_cons_zero]; rfl) (by first | rfl | (rw [hops.out]; rfl)) (fun w' hS => by subst hS; go_simp; rfl) ?_; simp only [Act.put, List.setIfInBounds_toArray, List.set_cons_succ, List.set_cons_zero]) | (refine wpPi_skip (by rw [hops.out]; simp only [List.getElem?_toArray, List.getElem?_cons_succ, List.getElem?_cons_zero]; rfl) (by first | rfl | (rw [hops.out]; rfl)) ?_; simp only [Act.put, List.setIfInBounds_toArray, List.set_cons_succ, List.set_cons_zero])
  simp only [wpPi]
  go_wp2_with fail
  go_ret3
  exact ⟨rfl, (Below.refl _ _).drew⟩
set_option maxHeartbeats 1000000 in
set_option maxRecDepth 100000 in
theorem rgs_e_eq (b : Value) (zs : List UInt8) (i : Nat) (w : World) (hb : HB w b zs) (hl : zs.length ≤ 20000) (x : UInt8) (hi : zs[i]? = some x) (b253 : ((x.toNat : Int) == 253) = false) (b254 : ((x.toNat : Int) == 254) = false) (b255 : ((x.toNat : Int) == 255) = true) (hk : i + 9 ≤ zs.length) (hq : csize (leNum ((zs.drop (i + 1)).take 8)) = (zs.drop i).take 9) :
    Calls Try.prog 35 #[b, .int .i64 (i : Int)] w fun e w' => e = .returned (.tuple #[.int .u64 (leNum ((zs.drop (i + 1)).take 8) : Nat), .int .i64 ((i + 9 : Nat) : Int), .int .i64 0]) ∧ Below w.heap.size w w' := by
  have Hb := Lib.hid hb
  obtain ⟨A, c, rfl, hlc⟩ := hb.shape
  clear hb
  obtain ⟨hil, hix⟩ := List.getElem?_eq_some_iff.1 hi
  obtain ⟨a, rfl, hca⟩ := Hb.out.at_ hil hil
  rw [hix] at hca
  clear hix hi
  have h64 := leNum_64 ((zs.drop (i + 1)).take 8) (by simp; omega)
  obtain ⟨q, hqq⟩ : ∃ q, leNum ((zs.drop (i + 1)).take 8) = q := ⟨_, rfl⟩
  rw [hqq] at h64 hq
  try rw [hqq]
  obtain ⟨kk, hkk⟩ : ∃ kk : Nat, 9 = kk := ⟨_, rfl⟩
  rw [hkk] at hk hq
  try rw [hkk]
  have hs := run_cut_lh 29 5 Try.underlying29 size5 (some a) zs.length c i (i + kk) (by omega) hk hlc
  rw [Nat.add_sub_cancel_left, Int.natCast_add] at hs
  have HQQ := Lib.hid hqq; have HQ := Lib.hid hq; have H64 := Lib.hid h64; have HK := Lib.hid hk
  have HKK := Lib.hid hkk
  clear hqq hq h64 hkk
  try rw [Int.natCast_add]
  go_enter Try.func35, Try.ntmps35
  go_wp2_with fail
  refine (rgetfix_ok _ zs (i + 1) 8 w Hb.out hl rfl (by have := HK.out; have := HKK.out; omega)).mono ?_
  rw [HQQ.out, show i + 1 + 8 = i + 9 from rfl, HKK.out]
  simp only [Int.natCast_add]
  rintro e w1 ⟨rfl, hb1⟩
  have HX := Lib.hid hb1; have Hb1 := Lib.hid (Hb.out.below hb1)
  have hto : IntKind.i64.wrap ((i : Int) + (kk : Int)) = ((i : Int) + (kk : Int)) := by rw [IntKind.wrap_i64]; have := HK.out; omega
  clear hb1
  go_wp2_with fail
  have hse := strq_eq HQ.out
  refine wp_region_pi [(0, true), (1, true), (2, true), (3, true), (6, true), (7, true), (8, true), (9, true), (10, true), (4, false), (5, false), (11, true), (12, true)] (by kernel_rfl) (by kernel_rfl) rfl (by kernel_rfl) (fun _ _ _ _ _ h => h) (fun w6 => HB w6 (.slice (some a) zs.length c) zs) Hb1.out.drew ?_
  intro OPS hops
  iterate 9
    first | (refine wpPi_yield _ (by rw [hops.out]; simp only [List.getElem?_toArray, List.getElem?_cons_succ, List.getElem?_cons_zero]; rfl) (by first | rfl | (rw [hops.out]; rfl)) (fun w' hS => by have hsw := HB.string (P := Try.prog) (cut_at hS i kk HK.out) 29 9 5 Try.underlying29 Try.underlying5 Try.underlying9; go_simp; rfl) ?_; simp only [Act.put, List.setIfInBounds_toArray, List.set_cons_succ, List.set_cons_zero]) | (refine wpPi_skip (by rw [hops.out]; simp only [List.getElem?_toArray, List.getElem?_cons_succ, List.getElem?_cons_zero]; rfl) (by first | rfl | (rw [hops.out]; rfl)) ?_; simp only [Act.put, List.setIfInBounds_toArray, List.set_cons_succ, List.set_cons_zero])
  refine wpPi_act (by rw [hops.out]; simp only [List.getElem?_toArray, List.getElem?_cons_succ, List.getElem?_cons_zero]; rfl) (by first | rfl | (rw [hops.out]; rfl)) ?_
  go_simp
  refine (rsize_any q _ H64.out).mono ?_
  rintro e w6 ⟨v6, rfl, hown, hb6⟩
  have HX6 := Lib.hid (thx9 (HX.out.drew) hb6)
  have HS6 := Lib.hid (Hb1.out.drew.below hb6)
  have hsz := HB.string (P := Try.prog) (show HB w6 v6 (csize q) from HB.of_own hown) 29 9 5 Try.underlying29 Try.underlying5 Try.underlying9
  obtain ⟨A6, c6, rfl⟩ := own_slice hown
  clear hown hb6
  try (refine ⟨(by first | exact Hb1.out.drew | exact HS6.out), ?_⟩)
  refine wpPi_act (by rw [hops.out]; simp only [List.getElem?_toArray, List.getElem?_cons_succ, List.getElem?_cons_zero]; rfl) (by first | rfl | (rw [hops.out]; rfl)) ?_
  go_simp
  clear hsz
  try (refine ⟨(by first | exact Hb1.out.drew | exact HS6.out), ?_⟩)
  iterate 2
    first | (refine wpPi_yield _ (by rw [hops.out]; simp only [List.getElem?_toArray, List.getElem?_cons_succ, List.getElem?_cons_zero]; rfl) (by first | rfl | (rw [hops.out]; rfl)) (fun w' hS => by have hsw := HB.string (P := Try.prog) (cut_at hS i kk HK.out) 29 9 5 Try.underlying29 Try.underlying5 Try.underlying9; go_simp; rfl) ?_; simp only [Act.put, List.setIfInBounds_toArray, List.set_cons_succ, List.set_cons_zero]) | (refine wpPi_skip (by rw [hops.out]; simp only [List.getElem?_toArray, List.getElem?_cons_succ, List.getElem?_cons_zero]; rfl) (by first | rfl | (rw [hops.out]; rfl)) ?_; simp only [Act.put, List.setIfInBounds_toArray, List.set_cons_succ, List.set_cons_zero])
  simp only [wpPi]
  go_wp2_with fail
  go_ret3
  exact ⟨rfl, HX6.out⟩
set_option maxHeartbeats 1000000 in
set_option maxRecDepth 100000 in
theorem rgs_e_ne (b : Value) (zs : List UInt8) (i : Nat) (w : World) (hb : HB w b zs) (hl : zs.length ≤ 20000) (x : UInt8) (hi : zs[i]? = some x) (b253 : ((x.toNat : Int) == 253) = false) (b254 : ((x.toNat : Int) == 254) = false) (b255 : ((x.toNat : Int) == 255) = true) (hk : i + 9 ≤ zs.length) (hq : csize (leNum ((zs.drop (i + 1)).take 8)) ≠ (zs.drop i).take 9) :
    Calls Try.prog 35 #[b, .int .i64 (i : Int)] w fun e w' => e = .returned (.tuple #[.int .u64 0, .int .i64 (i : Int), .int .i64 10]) ∧ Below w.heap.size w w' := by
  have Hb := Lib.hid hb
  obtain ⟨A, c, rfl, hlc⟩ := hb.shape
  clear hb
  obtain ⟨hil, hix⟩ := List.getElem?_eq_some_iff.1 hi
  obtain ⟨a, rfl, hca⟩ := Hb.out.at_ hil hil
  rw [hix] at hca
  clear hix hi
  have h64 := leNum_64 ((zs.drop (i + 1)).take 8) (by simp; omega)
  obtain ⟨q, hqq⟩ : ∃ q, leNum ((zs.drop (i + 1)).take 8) = q := ⟨_, rfl⟩
  rw [hqq] at h64 hq
  try rw [hqq]
  obtain ⟨kk, hkk⟩ : ∃ kk : Nat, 9 = kk := ⟨_, rfl⟩
  rw [hkk] at hk hq
  try rw [hkk]
  have hs := run_cut_lh 29 5 Try.underlying29 size5 (some a) zs.length c i (i + kk) (by omega) hk hlc
  rw [Nat.add_sub_cancel_left, Int.natCast_add] at hs
  have HQQ := Lib.hid hqq; have HQ := Lib.hid hq; have H64 := Lib.hid h64; have HK := Lib.hid hk
  have HKK := Lib.hid hkk
  clear hqq hq h64 hkk
  try rw [Int.natCast_add]
  go_enter Try.func35, Try.ntmps35
  go_wp2_with fail
  refine (rgetfix_ok _ zs (i + 1) 8 w Hb.out hl rfl (by have := HK.out; have := HKK.out; omega)).mono ?_
  rw [HQQ.out, show i + 1 + 8 = i + 9 from rfl, HKK.out]
  simp only [Int.natCast_add]
  rintro e w1 ⟨rfl, hb1⟩
  have HX := Lib.hid hb1; have Hb1 := Lib.hid (Hb.out.below hb1)
  have hto : IntKind.i64.wrap ((i : Int) + (kk : Int)) = ((i : Int) + (kk : Int)) := by rw [IntKind.wrap_i64]; have := HK.out; omega
  clear hb1
  go_wp2_with fail
  have hse := strq_ne HQ.out
  refine wp_region_pi [(0, true), (1, true), (2, true), (3, true), (6, true), (7, true), (8, true), (9, true), (10, true), (4, false), (5, false), (11, true), (12, true)] (by kernel_rfl) (by kernel_rfl) rfl (by kernel_rfl) (fun _ _ _ _ _ h => h) (fun w6 => HB w6 (.slice (some a) zs.length c) zs) Hb1.out.drew ?_
  intro OPS hops
  iterate 9
    first | (refine wpPi_yield _ (by rw [hops.out]; simp only [List.getElem?_toArray, List.getElem?_cons_succ, List.getElem?_cons_zero]; rfl) (by first | rfl | (rw [hops.out]; rfl)) (fun w' hS => by have hsw := HB.string (P := Try.prog) (cut_at hS i kk HK.out) 29 9 5 Try.underlying29 Try.underlying5 Try.underlying9; go_simp; rfl) ?_; simp only [Act.put, List.setIfInBounds_toArray, List.set_cons_succ, List.set_cons_zero]) | (refine wpPi_skip (by rw [hops.out]; simp only [List.getElem?_toArray, List.getElem?_cons_succ, List.getElem?_cons_zero]; rfl) (by first | rfl | (rw [hops.out]; rfl)) ?_; simp only [Act.put, List.setIfInBounds_toArray, List.set_cons_succ, List.set_cons_zero])
  refine wpPi_act (by rw [hops.out]; simp only [List.getElem?_toArray, List.getElem?_cons_succ, List.getElem?_cons_zero]; rfl) (by first | rfl | (rw [hops.out]; rfl)) ?_
  go_simp
  refine (rsize_any q _ H64.out).mono ?_
  rintro e w6 ⟨v6, rfl, hown, hb6⟩
  have HX6 := Lib.hid (thx9 (HX.out.drew) hb6)
  have HS6 := Lib.hid (Hb1.out.drew.below hb6)
  have hsz := HB.string (P := Try.prog) (show HB w6 v6 (csize q) from HB.of_own hown) 29 9 5 Try.underlying29 Try.underlying5 Try.underlying9
  obtain ⟨A6, c6, rfl⟩ := own_slice hown
  clear hown hb6
  try (refine ⟨(by first | exact Hb1.out.drew | exact HS6.out), ?_⟩)
  refine wpPi_act (by rw [hops.out]; simp only [List.getElem?_toArray, List.getElem?_cons_succ, List.getElem?_cons_zero]; rfl) (by first | rfl | (rw [hops.out]; rfl)) ?_
  go_simp
  clear hsz
  try (refine ⟨(by first | exact Hb1.out.drew | exact HS6.out), ?_⟩)
  iterate 2
    first | (refine wpPi_yield _ (by rw [hops.out]; simp only [List.getElem?_toArray, List.getElem?_cons_succ, List.getElem?_cons_zero]; rfl) (by first | rfl | (rw [hops.out]; rfl)) (fun w' hS => by have hsw := HB.string (P := Try.prog) (cut_at hS i kk HK.out) 29 9 5 Try.underlying29 Try.underlying5 Try.underlying9; go_simp; rfl) ?_; simp only [Act.put, List.setIfInBounds_toArray, List.set_cons_succ, List.set_cons_zero]) | (refine wpPi_skip (by rw [hops.out]; simp only [List.getElem?_toArray, List.getElem?_cons_succ, List.getElem?_cons_zero]; rfl) (by first | rfl | (rw [hops.out]; rfl)) ?_; simp only [Act.put, List.setIfInBounds_toArray, List.set_cons_succ, List.set_cons_zero])
  simp only [wpPi]
  go_wp2_with fail
  go_ret3
  exact ⟨rfl, HX6.out⟩
set_option maxHeartbeats 1000000 in
set_option maxRecDepth 100000 in
theorem rgs_e_sh (b : Value) (zs : List UInt8) (i : Nat) (w : World) (hb : HB w b zs) (hl : zs.length ≤ 20000) (x : UInt8) (hi : zs[i]? = some x) (b253 : ((x.toNat : Int) == 253) = false) (b254 : ((x.toNat : Int) == 254) = false) (b255 : ((x.toNat : Int) == 255) = true) (hk : zs.length < i + 9) :
    Calls Try.prog 35 #[b, .int .i64 (i : Int)] w fun e w' => e = .returned (.tuple #[.int .u64 0, .int .i64 (i : Int), .int .i64 10]) ∧ Below w.heap.size w w' := by
  have Hb := Lib.hid hb
  obtain ⟨A, c, rfl, hlc⟩ := hb.shape
  clear hb
  obtain ⟨hil, hix⟩ := List.getElem?_eq_some_iff.1 hi
  obtain ⟨a, rfl, hca⟩ := Hb.out.at_ hil hil
  rw [hix] at hca
  clear hix hi
  go_enter Try.func35, Try.ntmps35
  go_wp2_with fail
  refine (rgetfix_bad _ zs (i + 1) 8 w Hb.out hl (by omega) (by rw [efixE, if_neg (by decide), if_pos (by omega)]; decide)).mono ?_
  rw [show efixE 8 (zs.length - (i + 1)) = 10 by rw [efixE, if_neg (by decide), if_pos (by omega)]]
  rintro e w1 ⟨rfl, rfl⟩
  go_wp2_with fail
  refine wp_region_pi [(0, true), (1, true), (2, true), (3, true), (6, true), (7, true), (8, true), (9, true), (10, true), (4, false), (5, false), (11, true), (12, true)] (by kernel_rfl) (by kernel_rfl) rfl (by kernel_rfl) (fun _ _ _ _ _ h => h) (fun w6 => w6 = w.drew) rfl ?_
  intro OPS hops
  iterate 9
    first | (refine wpPi_yield _ (by rw [hops.out]; simp only [List.getElem?_toArray, List.getElem?_cons_succ, List.getElem?_cons_zero]; rfl) (by first | rfl | (rw [hops.out]; rfl)) (fun w' hS => by subst hS; go_simp; rfl) ?_; simp only [Act.put, List.setIfInBounds_toArray, List.set_cons_succ, List.set_cons_zero]) | (refine wpPi_skip (by rw [hops.out]; simp only [List.getElem?_toArray, List.getElem?_cons_succ, List.getElem?_cons_zero]; rfl) (by first | rfl | (rw [hops.out]; rfl)) ?_; simp only [Act.put, List.setIfInBounds_toArray, List.set_cons_succ, List.set_cons_zero])
  refine wpPi_actSkip (by rw [hops.out]; simp only [List.getElem?_toArray, List.getElem?_cons_succ, List.getElem?_cons_zero]; rfl) (by first | rfl | (rw [hops.out]; rfl)) ?_ ?_
  · rfl
  simp only [Act.put, List.setIfInBounds_toArray, List.set_cons_succ, List.set_cons_zero]
  refine wpPi_actSkip (by rw [hops.out]; simp only [List.getElem?_toArray, List.getElem?_cons_succ, List.getElem?_cons_zero]; rfl) (by first | rfl | (rw [hops.out]; rfl)) ?_ ?_
  · rfl
  simp only [Act.put, List.setIfInBounds_toArray, List.set_cons_succ, List.set_cons_zero]
  iterate 2
    first | (refine wpPi_yield _ (by rw [hops.out]; simp only [List.getElem?_toArray, List.getElem?_cons_succ, List.getElem?_cons_zero]; rfl) (by first | rfl | (rw [hops.out]; rfl)) (fun w' hS => by subst hS; go_simp; rfl) ?_; simp only [Act.put, List.setIfInBounds_toArray, List.set_cons_succ, List.set_cons_zero]) | (refine wpPi_skip (by rw [hops.out]; simp only [List.getElem?_toArray, List.getElem?_cons_succ, List.getElem?_cons_zero]; rfl) (by first | rfl | (rw [hops.out]; rfl)) ?_; simp only [Act.put, List.setIfInBounds_toArray, List.set_cons_succ, List.set_cons_zero])
  simp only [wpPi]
  go_wp2_with fail
  go_ret3
  exact ⟨rfl, (Below.refl _ _).drew⟩
end
section
open Go.RowKit Go.Proofs
def gszV (i : Nat) (o : Option (Nat × Nat)) : Value := match o with
  | some (n, k) => .tuple #[.int .u64 (n : Int), .int .i64 ((i + k : Nat) : Int), .int .i64 0]
  | none => .tuple #[.int .u64 0, .int .i64 (i : Int), .int .i64 10]
theorem getSize_iff (f : UInt8) (r : List UInt8) (m : Nat) (hf : ¬ f.toNat < 253) (hm : msz f = m) :
    (r.length < m → getSize (f :: r) = none) ∧ (m ≤ r.length → csize (leNum (r.take m)) = (f :: r).take (m + 1) → getSize (f :: r) = some (leNum (r.take m), m + 1)) ∧
    (csize (leNum (r.take m)) ≠ (f :: r).take (m + 1) → getSize (f :: r) = none) := by
  have hdef : getSize (f :: r) = if r.length < m then none else if compact (leNum (r.take m)) = m + 1 then some (leNum (r.take m), m + 1) else none := by rw [getSize, if_neg hf, hm]
  refine ⟨fun h => by rw [hdef, if_pos h], fun h hc => ?_, fun hc => ?_⟩
  · rw [hdef, if_neg (by omega), if_pos]
    rw [← csize_length, hc]
    simp; omega
  · cases hg : getSize (f :: r) with
    | none => rfl
    | some o =>
      obtain ⟨n, k⟩ := o
      have h1 := (getSize_csize hg).1
      rw [hdef] at hg
      split at hg
      · cases hg
      · split at hg
        · simp only [Option.some.injEq, Prod.mk.injEq] at hg
          obtain ⟨rfl, rfl⟩ := hg
          exact absurd h1 hc
        · cases hg
attribute [local irreducible] Calls
set_option maxHeartbeats 1000000 in
set_option maxRecDepth 100000 in
theorem rgs_end (b : Value) (zs : List UInt8) (w : World) (hb : HB w b zs) (hl : zs.length ≤ 20000) :
    Calls Try.prog 35 #[b, .int .i64 (zs.length : Int)] w fun e w' => e = .returned (.tuple #[.int .u64 0, .int .i64 (zs.length : Int), .int .i64 10]) ∧ Below w.heap.size w w' := by
  obtain ⟨A, c, rfl, hlc⟩ := hb.shape
  clear hb
  go_enter Try.func35, Try.ntmps35
  go_wp2_with fail
  go_ret3
  exact ⟨rfl, Below.refl _ _⟩
theorem rgetsize_any (b : Value) (zs : List UInt8) (i : Nat) (w : World) (hb : HB w b zs) (hl : zs.length ≤ 20000) (hi : i ≤ zs.length) :
    Calls Try.prog 35 #[b, .int .i64 (i : Int)] w fun e w' => e = .returned (gszV i (getSize (zs.drop i))) ∧ Below w.heap.size w w' := by
  by_cases hil : i < zs.length
  · obtain ⟨f, hf⟩ : ∃ f, zs[i]? = some f := ⟨_, List.getElem?_eq_getElem hil⟩
    have hd : zs.drop i = f :: zs.drop (i + 1) := by
      rw [List.drop_eq_getElem_cons hil]; congr 1
      rw [List.getElem?_eq_getElem hil] at hf; exact Option.some.inj hf
    have hrl : (zs.drop (i + 1)).length = zs.length - (i + 1) := by simp
    have bq : ∀ (u : Nat), (((f.toNat : Int) == (u : Int)) = decide (f.toNat = u)) := fun u => by
      by_cases h : f.toNat = u
      · simp [h]
      · simp [h]; omega
    have b3 := bq 253
    have b4 := bq 254
    have b5 := bq 255
    by_cases h1 : f.toNat < 253
    · have hg : getSize (zs.drop i) = some (f.toNat, 1) := by rw [hd, getSize, if_pos h1]
      rw [hg, gszV]
      have hq : leNum ((zs.drop i).take 1) = f.toNat := by rw [hd]; simp [leNum]
      have := rgs_s_eq b zs i w hb hl f hf (b3.trans (by simp; omega)) (b4.trans (by simp; omega)) (b5.trans (by simp; omega)) (by omega) (by rw [hq, hd, csize, if_pos h1]; simp)
      rwa [hq] at this
    · by_cases e1 : f.toNat = 253
      · have hm : msz f = 2 := by rw [msz, if_pos e1]
        obtain ⟨g1, g2, g3⟩ := getSize_iff f (zs.drop (i + 1)) 2 h1 hm
        rw [← hd] at g1 g2 g3
        by_cases hs : zs.length < i + 3
        · rw [g1 (by omega), gszV]
          exact rgs_t_sh b zs i w hb hl f hf (b3.trans (by simp; omega)) hs
        · by_cases hq : csize (leNum ((zs.drop (i + 1)).take 2)) = (zs.drop i).take 3
          · rw [g2 (by omega) hq, gszV]
            exact rgs_t_eq b zs i w hb hl f hf (b3.trans (by simp; omega)) (by omega) hq
          · rw [g3 hq, gszV]
            exact rgs_t_ne b zs i w hb hl f hf (b3.trans (by simp; omega)) (by omega) hq
      · by_cases e2 : f.toNat = 254
        · have hm : msz f = 4 := by rw [msz, if_neg e1, if_pos e2]
          obtain ⟨g1, g2, g3⟩ := getSize_iff f (zs.drop (i + 1)) 4 h1 hm
          rw [← hd] at g1 g2 g3
          by_cases hs : zs.length < i + 5
          · rw [g1 (by omega), gszV]
            exact rgs_f_sh b zs i w hb hl f hf (b3.trans (by simp; omega)) (b4.trans (by simp; omega)) hs
          · by_cases hq : csize (leNum ((zs.drop (i + 1)).take 4)) = (zs.drop i).take 5
            · rw [g2 (by omega) hq, gszV]
              exact rgs_f_eq b zs i w hb hl f hf (b3.trans (by simp; omega)) (b4.trans (by simp; omega)) (by omega) hq
            · rw [g3 hq, gszV]
              exact rgs_f_ne b zs i w hb hl f hf (b3.trans (by simp; omega)) (b4.trans (by simp; omega)) (by omega) hq
        · have hm : msz f = 8 := by rw [msz, if_neg e1, if_neg e2]
          have hlt := f.toNat_lt
          obtain ⟨g1, g2, g3⟩ := getSize_iff f (zs.drop (i + 1)) 8 h1 hm
          rw [← hd] at g1 g2 g3
          by_cases hs : zs.length < i + 9
          · rw [g1 (by omega), gszV]
            exact rgs_e_sh b zs i w hb hl f hf (b3.trans (by simp; omega)) (b4.trans (by simp; omega)) (b5.trans (by simp; omega)) hs
          · by_cases hq : csize (leNum ((zs.drop (i + 1)).take 8)) = (zs.drop i).take 9
            · rw [g2 (by omega) hq, gszV]
              exact rgs_e_eq b zs i w hb hl f hf (b3.trans (by simp; omega)) (b4.trans (by simp; omega)) (b5.trans (by simp; omega)) (by omega) hq
            · rw [g3 hq, gszV]
              exact rgs_e_ne b zs i w hb hl f hf (b3.trans (by simp; omega)) (b4.trans (by simp; omega)) (b5.trans (by simp; omega)) (by omega) hq
  · obtain rfl : i = zs.length := by omega
    rw [List.drop_length, getSize, gszV]
    exact rgs_end b zs w hb hl
set_option maxHeartbeats 1000000 in
set_option maxRecDepth 100000 in
theorem rgetbytes_ok (b : Value) (zs : List UInt8) (i n k : Nat) (most : Int) (w : World) (hb : HB w b zs) (hl : zs.length ≤ 20000) (hg : getSize (zs.drop i) = some (n, k)) (h0 : 0 ≤ most) (hm : (n : Int) ≤ most) (hmo : most ≤ 9223372036854775807) (hk : i + k + n ≤ zs.length) :
    Calls Try.prog 38 #[b, .int .i64 (i : Int), .int .i64 most] w fun e w' => ∃ v', e = .returned (.tuple #[v', .int .i64 ((i + k + n : Nat) : Int), .int .i64 0]) ∧ w'.ownsRow w.heap.size 5 1 v' n (bs ((zs.drop (i + k)).take n)) ∧ Below w.heap.size w w' := by
  have Hb := Lib.hid hb
  obtain ⟨A, c, rfl, hlc⟩ := hb.shape
  clear hb
  have hgv : gszV i (getSize (zs.drop i)) = .tuple #[.int .u64 (n : Int), .int .i64 ((i + k : Nat) : Int), .int .i64 0] := by rw [hg, gszV]
  have HGV := Lib.hid hgv
  obtain ⟨j, hj⟩ : ∃ j, i + k = j := ⟨_, rfl⟩
  rw [hj] at hgv hk ⊢
  have HJ := Lib.hid hj
  have hil : i ≤ zs.length := by omega
  have HIL := Lib.hid hil
  have hlk : ((zs.drop j).take n).length = n := by simp; omega
  have hs := run_cut_lh 29 5 Try.underlying29 size5 A zs.length c j (j + n) (by omega) hk hlc
  rw [Nat.add_sub_cancel_left, Int.natCast_add] at hs
  rw [Int.natCast_add]
  have HC := Lib.hid (cut_at Hb.out j n hk)
  generalize hl2 : (zs.drop j).take n = l2 at *
  have HLK := Lib.hid hlk
  have w1 : IntKind.u64.wrap most = most := by rw [IntKind.wrap_u64]; omega
  have w2 : IntKind.u64.wrap ((zs.length : Int) - (j : Int)) = (zs.length : Int) - (j : Int) := by rw [IntKind.wrap_u64]; omega
  have w3 : IntKind.i64.wrap (n : Int) = (n : Int) := by rw [IntKind.wrap_i64]; omega
  have w4 : wrap64 ((zs.length : Int) - (j : Int)) = (zs.length : Int) - (j : Int) := by unfold wrap64; omega
  have c1 : ¬ most < 0 := by omega
  have c2 : ¬ most < (n : Int) := by omega
  have c3 : ¬ (zs.length : Int) - (j : Int) < (n : Int) := by omega
  clear hgv hg hj hlk hl2
  go_enter Try.func38, Try.ntmps38
  go_wp2_with fail
  refine (rgetsize_any _ zs i w Hb.out hl HIL.out).mono ?_
  rw [HGV.out, HJ.out]
  rintro e w1 ⟨rfl, hb1⟩
  have HX := Lib.hid hb1
  have HC1 := Lib.hid (HC.out.below hb1)
  clear hb1
  go_wp2_with fail
  refine (twin_any _ l2 _ HC1.out (by have := HLK.out; omega)).mono ?_
  rintro e w2 ⟨v2, rfl, hown, hb2⟩
  rw [HLK.out] at hown
  have HO := Lib.hid (own_base hown (b := w.heap.size) (fun k hk => Nat.le_trans HX.out.size (own_ge hown hk)))
  have HX2 := Lib.hid (thx9 HX.out hb2)
  obtain ⟨A1, c1, rfl⟩ := own_slice hown
  clear hown hb2
  go_wp2_with fail
  go_ret3
  exact ⟨_, rfl, HO.out, HX2.out⟩
set_option maxHeartbeats 1000000 in
set_option maxRecDepth 100000 in
theorem rgetbytes_none (b : Value) (zs : List UInt8) (i : Nat) (most : Int) (w : World) (hb : HB w b zs) (hl : zs.length ≤ 20000) (hi : i ≤ zs.length) (hg : getSize (zs.drop i) = none) :
    Calls Try.prog 38 #[b, .int .i64 (i : Int), .int .i64 most] w fun e w' => e = .returned (.tuple #[.slice none 0 0, .int .i64 (i : Int), .int .i64 10]) ∧ Below w.heap.size w w' := by
  have Hb := Lib.hid hb
  obtain ⟨A, c, rfl, hlc⟩ := hb.shape
  clear hb
  have HGV := Lib.hid (show gszV i (getSize (zs.drop i)) = .tuple #[.int .u64 0, .int .i64 (i : Int), .int .i64 10] by rw [hg, gszV])
  have HI := Lib.hid hi
  clear hg
  go_enter Try.func38, Try.ntmps38
  go_wp2_with fail
  refine (rgetsize_any _ zs i w Hb.out hl HI.out).mono ?_
  rw [HGV.out]
  rintro e w1 ⟨rfl, hb1⟩
  have HX := Lib.hid hb1
  clear hb1
  go_wp2_with fail
  go_ret3
  exact ⟨rfl, HX.out⟩
set_option maxHeartbeats 1000000 in
set_option maxRecDepth 100000 in
theorem rgetbytes_bad (b : Value) (zs : List UInt8) (i n k : Nat) (most : Int) (w : World) (hb : HB w b zs) (hl : zs.length ≤ 20000) (hi : i + k ≤ zs.length) (hg : getSize (zs.drop i) = some (n, k)) (hn : n < 18446744073709551616) (hmo : most ≤ 9223372036854775807) (hc : most < 0 ∨ most < (n : Int) ∨ zs.length - (i + k) < n) :
    Calls Try.prog 38 #[b, .int .i64 (i : Int), .int .i64 most] w fun e w' => e = .returned (.tuple #[.slice none 0 0, .int .i64 (i : Int), .int .i64 10]) ∧ Below w.heap.size w w' := by
  have Hb := Lib.hid hb
  obtain ⟨A, c, rfl, hlc⟩ := hb.shape
  clear hb
  have hgv : gszV i (getSize (zs.drop i)) = .tuple #[.int .u64 (n : Int), .int .i64 ((i + k : Nat) : Int), .int .i64 0] := by rw [hg, gszV]
  obtain ⟨j, hj⟩ : ∃ j, i + k = j := ⟨_, rfl⟩
  rw [hj] at hgv hi hc
  have HGV := Lib.hid hgv
  have HI := Lib.hid (show i ≤ zs.length by omega)
  have w2 : IntKind.u64.wrap ((zs.length : Int) - (j : Int)) = (zs.length : Int) - (j : Int) := by rw [IntKind.wrap_u64]; omega
  have w4 : wrap64 ((zs.length : Int) - (j : Int)) = (zs.length : Int) - (j : Int) := by unfold wrap64; omega
  by_cases c0 : most < 0
  · clear hgv hg hj hc
    go_enter Try.func38, Try.ntmps38
    go_wp2_with fail
    refine (rgetsize_any _ zs i w Hb.out hl HI.out).mono ?_
    rw [HGV.out]
    rintro e w1 ⟨rfl, hb1⟩
    have HX := Lib.hid hb1
    clear hb1
    go_wp2_with fail
    go_ret3
    exact ⟨rfl, HX.out⟩
  · have w1 : IntKind.u64.wrap most = most := by rw [IntKind.wrap_u64]; omega
    by_cases c2 : most < (n : Int)
    · clear hgv hg hj hc
      go_enter Try.func38, Try.ntmps38
      go_wp2_with fail
      refine (rgetsize_any _ zs i w Hb.out hl HI.out).mono ?_
      rw [HGV.out]
      rintro e w1 ⟨rfl, hb1⟩
      have HX := Lib.hid hb1
      clear hb1
      go_wp2_with fail
      go_ret3
      exact ⟨rfl, HX.out⟩
    · have c3 : (zs.length : Int) - (j : Int) < (n : Int) := by omega
      clear hgv hg hj hc
      go_enter Try.func38, Try.ntmps38
      go_wp2_with fail
      refine (rgetsize_any _ zs i w Hb.out hl HI.out).mono ?_
      rw [HGV.out]
      rintro e w1 ⟨rfl, hb1⟩
      have HX := Lib.hid hb1
      clear hb1
      go_wp2_with fail
      go_ret3
      exact ⟨rfl, HX.out⟩
end
section
open Go.RowKit Go.Proofs
attribute [local irreducible] Calls
def FixOut (g : Nat) (zs : List UInt8) (a0 : Nat) (s : Int) (u : Value) (w : World) (e : Ending) (w' : World) : Prop :=
  ∃ (q : Int) (a1 : Nat) (E : Int) (u' : Value), e = .returned (.tuple #[.int .u64 q, .int .i64 E]) ∧ EyeGo w w' g u u' (zs.drop a1) ∧ a1 ≤ zs.length ∧
    ∀ b W, HB W b zs → Calls Try.prog 33 #[b, .int .i64 (a0 : Int), .int .i64 s] W fun e W' => e = .returned (.tuple #[.int .u64 q, .int .i64 (a1 : Int), .int .i64 E]) ∧ Below W.heap.size W W'
theorem efix_pair (g : Nat) (s : Int) (u : Value) (zs : List UInt8) (a0 : Nat) (w : World) (h : IsEye w g u (zs.drop a0)) (ha : a0 ≤ zs.length) (hl : zs.length ≤ 20000) :
    Calls Try.prog 32 #[.pointer (some ⟨g, 0, none⟩), .int .i64 s] w (FixOut g zs a0 s u w) := by
  have hdl : (zs.drop a0).length = zs.length - a0 := by simp
  by_cases hE : efixE s (zs.drop a0).length = 0
  · have hw : wideB s = true := by
      cases hw : wideB s with
      | true => rfl
      | false => rw [efixE, if_pos hw] at hE; simp at hE
    have hk : s ≤ (zs.drop a0).length := by
      rw [efixE, if_neg (by rw [hw]; decide)] at hE
      by_cases h : ((zs.drop a0).length : Int) < s
      · rw [if_pos h] at hE; simp at hE
      · omega
    have hkk := wideB_cases hw
    obtain ⟨k, rfl⟩ := Int.eq_ofNat_of_zero_le (show 0 ≤ s by omega)
    refine (efixed_ok g k u _ w h hw hk).mono ?_
    rintro e w' ⟨u', rfl, hgo⟩
    rw [List.drop_drop, Int.toNat_natCast] at hgo
    refine ⟨_, a0 + k, 0, u', rfl, hgo, by omega, fun b W hb => ?_⟩
    rw [Int.toNat_natCast]
    exact rgetfix_ok b zs a0 k W hb hl hw (by omega)
  · refine (efixed_bad g s u _ w h hE).mono ?_
    rintro e w' ⟨rfl, rfl⟩
    rw [hdl] at hE ⊢
    refine ⟨0, a0, _, u, rfl, EyeGo.refl h, ha, fun b W hb => ?_⟩
    refine (rgetfix_bad b zs a0 s W hb hl ha hE).mono ?_
    rintro e w' ⟨rfl, rfl⟩
    exact ⟨rfl, Below.refl _ _⟩
def SzOut (g : Nat) (zs : List UInt8) (a0 : Nat) (u : Value) (w : World) (e : Ending) (w' : World) : Prop :=
  ∃ (q : Int) (a1 : Nat) (E : Int) (u' : Value), e = .returned (.tuple #[.int .u64 q, .int .i64 E]) ∧ EyeGo w w' g u u' (zs.drop a1) ∧ a1 ≤ zs.length ∧
    ∀ b W, HB W b zs → Calls Try.prog 35 #[b, .int .i64 (a0 : Int)] W fun e W' => e = .returned (.tuple #[.int .u64 q, .int .i64 (a1 : Int), .int .i64 E]) ∧ Below W.heap.size W W'
theorem esz_pair (g : Nat) (u : Value) (zs : List UInt8) (a0 : Nat) (w : World) (h : IsEye w g u (zs.drop a0)) (ha : a0 ≤ zs.length) (hl : zs.length ≤ 20000) :
    Calls Try.prog 34 #[.pointer (some ⟨g, 0, none⟩)] w (SzOut g zs a0 u w) := by
  have hdl : (zs.drop a0).length = zs.length - a0 := by simp
  cases hg : getSize (zs.drop a0) with
  | none =>
    refine (esz_bad g u _ w h hg).mono ?_
    rintro e w' ⟨rfl, hb⟩
    refine ⟨0, a0, 10, u, rfl, Below.eye hb h, ha, fun b W hb => ?_⟩
    have := rgetsize_any b zs a0 W hb hl ha
    rwa [hg] at this
  | some o =>
    obtain ⟨n, k⟩ := o
    obtain ⟨k1, k9, kx, hn⟩ := getSize_some hg
    refine (esz_ok g u _ n k w h hg).mono ?_
    rintro e w' ⟨u', rfl, hgo⟩
    rw [List.drop_drop] at hgo
    refine ⟨n, a0 + k, 0, u', rfl, hgo, by omega, fun b W hb => ?_⟩
    have := rgetsize_any b zs a0 W hb hl ha
    rwa [hg] at this
def ROut (f : FuncId) (g : Nat) (zs : List UInt8) (a0 : Nat) (s : Int) (u : Value) (w : World) (e : Ending) (w' : World) : Prop :=
  ∃ (l : List UInt8) (v' : Value) (a1 : Nat) (E : Int) (u' : Value), e = .returned (.tuple #[v', .int .i64 E]) ∧ w'.ownsRow w.heap.size 5 1 v' l.length (bs l) ∧ l.length ≤ zs.length ∧ EyeGo w w' g u u' (zs.drop a1) ∧ a1 ≤ zs.length ∧
    ∀ b W, HB W b zs → Calls Try.prog f #[b, .int .i64 (a0 : Int), .int .i64 s] W fun e W' => ∃ vy, e = .returned (.tuple #[vy, .int .i64 (a1 : Int), .int .i64 E]) ∧ W'.ownsRow W.heap.size 5 1 vy l.length (bs l) ∧ Below W.heap.size W W'
theorem eraw_pair (g : Nat) (s : Int) (u : Value) (zs : List UInt8) (a0 : Nat) (w : World) (h : IsEye w g u (zs.drop a0)) (ha : a0 ≤ zs.length) (hl : zs.length ≤ 20000) :
    Calls Try.prog 36 #[.pointer (some ⟨g, 0, none⟩), .int .i64 s] w (ROut 39 g zs a0 s u w) := by
  have hdl : (zs.drop a0).length = zs.length - a0 := by simp
  by_cases hE : s < 0 ∨ ((zs.drop a0).length : Int) < s
  · refine (eraw_bad g s u _ w h hE (by omega)).mono ?_
    rintro e w' ⟨rfl, rfl⟩
    rw [hdl] at hE ⊢
    refine ⟨[], _, a0, _, u, rfl, World.ownsRow_nil _ _ _ _, by simp, EyeGo.refl h, ha, fun b W hb => ?_⟩
    refine (rgetraw_bad b zs a0 s W hb hl ha hE).mono ?_
    rintro e w' ⟨rfl, rfl⟩
    exact ⟨_, rfl, World.ownsRow_nil _ _ _ _, Below.refl _ _⟩
  · obtain ⟨k, rfl⟩ := Int.eq_ofNat_of_zero_le (show 0 ≤ s by omega)
    have hk : k ≤ (zs.drop a0).length := by omega
    have hlen : ((zs.drop a0).take k).length = k := by simp; omega
    refine (eraw_ok g k u _ w h hk (by omega)).mono ?_
    rintro e w' ⟨v', u', rfl, hown, hgo⟩
    rw [List.drop_drop] at hgo
    refine ⟨(zs.drop a0).take k, v', a0 + k, 0, u', rfl, by rw [hlen]; exact hown, by omega, hgo, by omega, fun b W hb => ?_⟩
    have := rgetraw_ok b zs a0 k W hb hl (by omega)
    rwa [hlen]
theorem ebytes_pair (g : Nat) (s : Int) (u : Value) (zs : List UInt8) (a0 : Nat) (w : World) (h : IsEye w g u (zs.drop a0)) (ha : a0 ≤ zs.length) (hl : zs.length ≤ 20000) (hs : s ≤ 9223372036854775807) :
    Calls Try.prog 37 #[.pointer (some ⟨g, 0, none⟩), .int .i64 s] w (ROut 38 g zs a0 s u w) := by
  have hdl : (zs.drop a0).length = zs.length - a0 := by simp
  cases hg : getBytes s (zs.drop a0) with
  | none =>
    refine (ebytes_bad g u _ s w h hg hs (by omega)).mono ?_
    rintro e w' ⟨rfl, hb⟩
    refine ⟨[], _, a0, 10, u, rfl, World.ownsRow_nil _ _ _ _, by simp, Below.eye hb h, ha, fun b W hb => ?_⟩
    have key : Calls Try.prog 38 #[b, .int .i64 (a0 : Int), .int .i64 s] W fun e W' => e = .returned (.tuple #[.slice none 0 0, .int .i64 (a0 : Int), .int .i64 10]) ∧ Below W.heap.size W W' := by
      cases hz : getSize (zs.drop a0) with
      | none => exact rgetbytes_none b zs a0 s W hb hl ha hz
      | some o =>
        obtain ⟨n, k⟩ := o
        obtain ⟨k1, k9, kx, hn⟩ := getSize_some hz
        rw [getBytes, hz] at hg
        simp only at hg
        split at hg
        · rename_i hc
          exact rgetbytes_bad b zs a0 n k s W hb hl (by omega) hz hn hs (by rw [hdl] at hc; omega)
        · cases hg
    refine key.mono ?_
    rintro e w' ⟨rfl, hb⟩
    exact ⟨_, rfl, World.ownsRow_nil _ _ _ _, hb⟩
  | some o =>
    obtain ⟨l, m⟩ := o
    refine (ebytes_ok g u _ l m s w h hg hs (by omega)).mono ?_
    rintro e w' ⟨v', u', rfl, hown, hgo⟩
    obtain ⟨n, k, hz, rfl, rfl, h0, hm, hx⟩ := getBytes_some hg
    rw [List.drop_drop] at hgo hown
    have hlen : ((zs.drop (a0 + k)).take n).length = n := by simp; omega
    refine ⟨(zs.drop (a0 + k)).take n, v', a0 + (k + n), 0, u', rfl, by rw [hlen] at hown ⊢; exact hown, by omega, hgo, by omega, fun b W hb => ?_⟩
    have := rgetbytes_ok b zs a0 n k s W hb hl hz h0 hm hs (by omega)
    rw [hlen, ← Nat.add_assoc]
    exact this
theorem ops_of2 {w : World} {a : Option Addr} {len cap : Nat} (g : Rs Try.prog w 45 [.slice a len cap]) : ∃ ds, OpsIn w (.slice a len cap) ds ∧ ∀ d ∈ ds, d.s ≤ 9223372036854775807 := by
  obtain ⟨a', len', cap', e, h⟩ := g.slice Try.underlying45
  injection e with e _
  injection e with e1 e2 e3
  subst e1 e2 e3
  rcases h with ⟨rfl, rfl, rfl⟩ | ⟨x, rfl, hl, hml, _, hc⟩
  · exact ⟨[], ⟨none, 0, rfl, by simp, fun _ => rfl, fun a ha => by cases ha⟩, by simp⟩
  · obtain ⟨ds, hdl, hd⟩ := list_of (n := len) (p := fun i (d : OpD) => ∃ u, (∀ (j : Nat) y, (opC4 d u)[j]? = some y → w.cell? ((x.add (i * 4)).add j) = some y) ∧ HB w u d.xs ∧ d.n < 18446744073709551616 ∧ d.xs.length ≤ reachBytes ∧ d.s ≤ 9223372036854775807) (fun i hi => by
      obtain ⟨cs, hcs, hr⟩ := hc i (by omega)
      rw [cells45] at hcs
      obtain ⟨hlen, hcell⟩ := cells_spec hcs
      obtain ⟨_, hf⟩ := hr.struct Try.underlying52
      have f0 := hf _ (List.mem_cons_self ..)
      have f1 := hf _ (List.mem_cons_of_mem _ (List.mem_cons_self ..))
      have f2 := hf _ (List.mem_cons_of_mem _ (List.mem_cons_of_mem _ (List.mem_cons_self ..)))
      have f3 := hf _ (List.mem_cons_of_mem _ (List.mem_cons_of_mem _ (List.mem_cons_of_mem _ (List.mem_cons_self ..))))
      clear hf
      simp only [cells3, cells46, cells29, List.drop_zero] at f0 f1 f2 f3
      match cs, hlen with
      | [v0, v1, v2, v3], _ =>
        obtain ⟨k, hk, _⟩ := f0.rd.int Try.underlying3
        obtain ⟨s, hs, hws⟩ := f1.rd.int Try.underlying3
        obtain ⟨n, hn, hw⟩ := f2.rd.int Try.underlying46
        obtain ⟨u, xs, hu, hb, hmx⟩ := hb_of f3
        simp at hk hs hn hu
        subst hk hs hn hu
        obtain ⟨h0, h1⟩ := u64_wf hw
        obtain ⟨m, rfl⟩ := Int.eq_ofNat_of_zero_le h0
        refine ⟨⟨k, s, m, xs⟩, v3, fun j y hy => ?_, hb, by show m < _; omega, hmx, (i64_wf hws).2⟩
        have hj : j < 4 := (List.getElem?_eq_some_iff.1 (by simpa [opC4] using hy)).1
        rw [hcell j hj]
        simpa [opC4] using hy)
    refine ⟨ds, ⟨some x, cap, by rw [hdl], by rw [hdl]; simp only [maxLen] at hml; omega, (fun e => by cases e), fun a ha i d hi => ?_⟩, fun d hd2 => ?_⟩
    · injection ha with ha
      subst ha
      obtain ⟨u, h1, h2, h3, h4, _⟩ := hd i d hi
      exact ⟨u, h1, h2, h3, h4⟩
    · obtain ⟨i, hi⟩ := List.mem_iff_getElem?.1 hd2
      obtain ⟨u, h1, h2, h3, h4, h5⟩ := hd i d hi
      exact h5
theorem opC4_one (d : OpD) (u : Value) (h : u.oneCell' = true) : (opC4 d u).all (·.oneCell') = true := by
  simp [opC4, h]
  exact ⟨rfl, rfl, rfl⟩
end
section
open Go.RowKit Go.Proofs
def RdRel (w : World) (ds : List OpD) (zs : List UInt8) (g M : Nat) (u0 : Value) (s8 s51 : Value) (w' : World) : Prop :=
  ∃ (i a : Nat) (u : Value), i ≤ ds.length ∧ a ≤ zs.length ∧ s51 = .int .i64 i ∧ s8 = .int .i64 a ∧ EyeIn w w' g u (zs.drop a) ∧ u.ownBlock = u0.ownBlock ∧ M ≤ w'.heap.size
theorem info52b : (Try.prog.info? 52).map (·.size) = some 4 := by kernel_rfl
attribute [local irreducible] Calls
set_option maxHeartbeats 8000000 in
set_option maxRecDepth 100000 in
theorem octetReads_walk (v0 v : Value) (zs : List UInt8) (ds : List OpD) (w : World) (h0 : HB w v0 zs) (h : OpsIn w v ds) (hds : ∀ d ∈ ds, d.s ≤ 9223372036854775807) :
    Calls Try.prog 8 #[v0, v] w fun e w' => e = .returned (.bool true) ∧ Below w.heap.size w w' := by
  have H0 := Lib.hid h0
  obtain ⟨A0, c0, rfl, hlc0⟩ := h0.shape
  have HOP := Lib.hid h
  obtain ⟨A, c, rfl, hdl, hA, hops⟩ := h
  have HOPS := Lib.hid hops
  have HDS := Lib.hid hds
  clear hops h0 hds
  go_enter Try.func8, Try.ntmps8
  go_wp2_with fail
  refine (great26 _ ds w HOP.out).mono ?_
  rintro e w1' ⟨r, rfl, hw, hr⟩
  rw [hw]; clear hw
  cases r with
  | true =>
    go_wp2_with fail
    go_ret
    exact ⟨rfl, Below.refl _ _⟩
  | false =>
    obtain ⟨hn, hbn⟩ := hr rfl
    clear hr
    by_cases hz0 : 20000 < zs.length
    · have hz1 : (20000 : Int) < (zs.length : Int) := by omega
      go_wp2_with fail
      go_ret
      exact ⟨rfl, Below.refl _ _⟩
    have hz1 : ¬ (20000 : Int) < (zs.length : Int) := by omega
    have hz : zs.length ≤ 20000 := by omega
    have HZ := Lib.hid hz
    clear hz0
    go_wp2_with fail
    refine (twin_any _ zs w H0.out (by omega)).mono ?_
    rintro e w1 ⟨v1, rfl, hown1, hb1⟩
    have HO1 := Lib.hid hown1; have HX1 := Lib.hid hb1
    obtain ⟨A1, c1, rfl⟩ := own_slice hown1
    clear hown1 hb1
    go_wp2_with fail
    refine (look_any _ zs w1 (HB.of_own HO1.out) (by omega)).mono ?_
    rintro e w2 ⟨g, u0, rfl, hg, he, hu, hb2⟩
    have hown2 := own_chg HO1.out (Chg.of_below hb2) (by simp)
    have HO2 := Lib.hid hown2; have HX2 := Lib.hid (thx9 HX1.out hb2); have HE2 := Lib.hid he
    have HLT := Lib.hid (show ∀ k, (Value.slice A1 zs.length c1).ownBlock = some k → k ≠ g ∧ u0.ownBlock ≠ some k from fun k hk => by
      have h1 := own_lt HO1.out k hk
      exact ⟨by omega, fun e => by have := (hu k e).1; omega⟩)
    have HG := Lib.hid (Nat.le_trans HX1.out.size hg)
    obtain ⟨M, hM⟩ : ∃ M, M = w2.heap.size := ⟨_, rfl⟩
    have HM := Lib.hid hM
    have HUB := Lib.hid (show zs ≠ [] → ∀ k, u0.ownBlock = some k → k < M from fun hx k hk => by obtain ⟨j, hj, hl⟩ := he.left.lt hx; rw [hk] at hj; injection hj with hj; omega)
    clear hM
    clear hg he hu hb2 hown2
    go_wp2_with fail
    go_loopw [37] (fun s37 w' => BumpRel w.heap.size zs.length A1 c1 w2 s37 w') (fun s37 _ => zs.length - (intOf s37).toNat)
    case atStart => exact ⟨0, zs, by omega, rfl, rfl, HO2.out, Chg.refl _ _⟩
    case round =>
      obtain ⟨i, l, hi, rfl, hll, hown, hch⟩ := hrel
      by_cases hlt : i < zs.length
      · obtain ⟨g', rfl, hcell, hfz, hrel2⟩ := bump_step hlt hll hown hch
        have HR2 := Lib.hid hrel2
        clear hown hch hrel2 hll
        go_wp2_with fail
        go_roundw
        case rel => exact HR2.out _ rfl
        case measure => simp [intOf]; omega
      · obtain rfl : i = zs.length := by omega
        have he3 : IsEye wr g u0 zs := HE2.out.chg hch (fun hk => by simp at hk; exact (HLT.out g hk).1 rfl) (fun k hk hm => by simp at hm; exact (HLT.out k hm).2 hk)
        have hb3 : Below w.heap.size w wr := HX2.out.trans (hch.below (fun k hk => by simp at hk; exact own_ge HO2.out hk) HX2.out.size)
        have HE3 := Lib.hid (show EyeIn w wr g u0 (zs.drop 0) from ⟨by rw [List.drop_zero]; exact he3, HG.out, hb3⟩)
        have HM3 := Lib.hid (show M ≤ wr.heap.size by rw [HM.out]; exact hch.size)
        clear he3 hb3 hown hch hll
        go_wp2_with fail
        go_loopw [8, 51] (fun s8 s51 w' => RdRel w ds zs g M u0 s8 s51 w') (fun _ s51 _ => ds.length - (intOf s51).toNat)
        case atStart => exact ⟨0, 0, u0, by omega, by omega, rfl, rfl, HE3.out, rfl, HM3.out⟩
        case round =>
          obtain ⟨i, a0, u, hi, ha0, rfl, rfl, he, hus, hms⟩ := hrel
          have HE := Lib.hid he; have HUS := Lib.hid hus; have HMS := Lib.hid hms
          clear he hus hms HM3 HE3
          by_cases hge2 : ds.length ≤ i
          · obtain rfl : i = ds.length := by omega
            go_wp2_with fail
            go_ret
            exact ⟨rfl, HE.out.below⟩
          have hlt2 : i < ds.length := by omega
          clear hge2
          obtain ⟨d, hd⟩ : ∃ d, ds[i]? = some d := ⟨_, List.getElem?_eq_getElem hlt2⟩
          cases A with
          | none => rw [hA rfl] at hlt2; simp at hlt2
          | some a =>
            obtain ⟨ub, hcell, hbu, hn64, _⟩ := HOPS.out a rfl i d hd
            have hcw : ∀ w', Below w.heap.size w w' → w'.cell? (a.add (i * 4)) = some (.int .i64 d.k) ∧ w'.cell? ⟨(a.add (i * 4)).block, (a.add (i * 4)).off + 1, none⟩ = some (.int .i64 d.s) ∧ w'.cell? ⟨(a.add (i * 4)).block, (a.add (i * 4)).off + 2, none⟩ = some (.int .u64 (d.n : Int)) ∧ w'.cell? ⟨(a.add (i * 4)).block, (a.add (i * 4)).off + 3, none⟩ = some ub := fun w' hb => by
              have k := fun j x (hx : (opC4 d ub)[j]? = some x) => (World.cell?_of_block (hb.block _ (World.block_lt_of_cell? w _ (hcell j x hx)))).trans (hcell j x hx)
              exact ⟨by have := k 0 _ rfl; rwa [addr0] at this, k 1 _ rfl, k 2 _ rfl, k 3 _ rfl⟩
            obtain ⟨f0, f1, f2, f3⟩ := hcw wr HE.out.below
            have ki0 : (0 : Int) ≤ (i : Int) := by omega
            have ki1 : (i : Int) < (ds.length : Int) := by omega
            have hub : ub.oneCell' = true := by obtain ⟨A9, c9, e, _⟩ := hbu.shape; rw [e]; rfl
            have hsz := HDS.out d (List.mem_of_getElem? hd)
            obtain ⟨dk, dsz, dn, dx⟩ := d
            simp only at hsz
            have HSZ := Lib.hid hsz
            clear hsz
            simp only at f0 f1 f2 f3 hn64
            clear hcw hcell hbu hd
            by_cases h0 : dk = 0
            · subst h0
              obtain ⟨W4, hW4⟩ : ∃ W4, W4 = wr.alloc (.cells (opC4 ⟨0, dsz, dn, dx⟩ ub) 52) := ⟨_, rfl⟩
              obtain ⟨bx, hbx⟩ : ∃ bx, bx = wr.heap.size := ⟨_, rfl⟩
              have hbox : W4.heap[bx]? = some (.cells (opC4 ⟨0, dsz, dn, dx⟩ ub) 52 (0, 0)) := by rw [hW4, hbx]; exact heap_alloc_new _ _
              have hgb : g < bx := by rw [hbx]; exact blk_lt HE.out.eye.blk
              have hEY : EyeIn w W4 g u (zs.drop a0) := by rw [hW4]; exact HE.out.blw ((Below.refl _ _).alloc (Nat.le_refl _) _)
              have hm4 : M ≤ W4.heap.size := by rw [hW4]; have := HMS.out; simp; omega
              have HM4 := Lib.hid hm4; have HEY := Lib.hid hEY; have HBOX := Lib.hid hbox; have HGB := Lib.hid hgb; have HA0 := Lib.hid ha0
              have HW4 := Lib.hid ((World.setRow_alloc_new wr #[.int .i64 0, .int .i64 0, .int .u64 0, .slice none 0 0] (opC4 ⟨0, dsz, dn, dx⟩ ub) 52).trans hW4.symm)
              have HBX := Lib.hid hbx.symm
              clear hEY hbox hW4 hbx hgb ha0 hm4 HMS
              have e0 : W4.cell? ⟨bx, 0, none⟩ = some (.int .i64 0) := (blk_cell HBOX.out 0).trans rfl
              have e1 : W4.cell? ⟨bx, 1, none⟩ = some (.int .i64 dsz) := (blk_cell HBOX.out 1).trans rfl
              go_wp2_with (refine wpList_store_row (by rfl) 52 _ _ (by rfl) _ (opC4 ⟨0, dsz, dn, dx⟩ ub) (by rfl) (by rfl) 52 _ (heap_alloc_new _ _) info52b rfl (opC4_one ⟨0, dsz, dn, dx⟩ ub hub) ?_; rw [HW4.out, HBX.out])
              refine (efix_pair g dsz u zs a0 W4 HEY.out.eye HA0.out HZ.out).mono ?_
              rintro e w5 ⟨q, a1, E, u1, rfl, hgo, ha1, href⟩
              have HE5 := Lib.hid (HEY.out.go hgo)
              have hbx5 := hgo.chg.blk HBOX.out (by simp; have := HGB.out; omega)
              have HR5 := Lib.hid (href _ w5 (H0.out.below HE5.out.below))
              have HA1 := Lib.hid ha1; have HU5 := Lib.hid (hgo.same.trans HUS.out); have HM5 := Lib.hid (Nat.le_trans HM4.out hgo.chg.size)
              clear e0 e1 hgo href ha1
              have e0 : w5.cell? ⟨bx, 0, none⟩ = some (.int .i64 0) := (blk_cell hbx5 0).trans rfl
              have e1 : w5.cell? ⟨bx, 1, none⟩ = some (.int .i64 dsz) := (blk_cell hbx5 1).trans rfl
              go_wp2_with fail
              refine HR5.out.mono ?_
              rintro e w6 ⟨rfl, hb6⟩
              have HT := Lib.hid (HE5.out.blw hb6)
              have hbx6 := (hb6.block _ (blk_lt hbx5)).trans hbx5
              have HM6 := Lib.hid (Nat.le_trans HM5.out hb6.size)
              clear e0 e1
              have e0 : w6.cell? ⟨bx, 0, none⟩ = some (.int .i64 0) := (blk_cell hbx6 0).trans rfl
              have HTL := Lib.hid HA1.out; have HTU := Lib.hid HU5.out; have HMT := Lib.hid HM6.out
              clear hb6 HR5 HE5 hbx5 hbx6
              have htl := HTL.out
              have hll : ((zs.drop a1).length : Int) = (zs.length : Int) - (a1 : Int) := by rw [List.length_drop]; omega
              have w5 : wrap64 ((zs.length : Int) - (a1 : Int)) = (zs.length : Int) - (a1 : Int) := by unfold wrap64; omega
              have HLL := Lib.hid hll
              clear hll
              by_cases hend : a1 = zs.length
              · have hnil : (if zs.drop a1 = [] then (0 : Int) else 10) = 0 := by rw [hend, List.drop_length, if_pos rfl]
                have hen2 : ((a1 : Int) == (zs.length : Int)) = true := by rw [hend]; simp
                have HNIL := Lib.hid hnil
                clear hnil hend
                go_wp2_with (first | (go_at_call 40; refine (left_any g u1 _ w6 HT.out.eye).mono ?_; rw [HLL.out]; rintro e w9 ⟨rfl, rfl⟩) | (go_at_call 41; refine (end_any g u1 _ w6 HT.out.eye).mono ?_; rw [HNIL.out]; rintro e w9 ⟨rfl, rfl⟩))
                go_roundw
                case rel => exact ⟨i + 1, a1, u1, by omega, HTL.out, by go_num, rfl, HT.out, HTU.out, HMT.out⟩
                case measure => simp [intOf]; omega
              · have hnil : (if zs.drop a1 = [] then (0 : Int) else 10) = 10 := by rw [if_neg]; intro h; rw [List.drop_eq_nil_iff] at h; omega
                have hen2 : ((a1 : Int) == (zs.length : Int)) = false := by simp; omega
                have HNIL := Lib.hid hnil
                clear hnil hend
                go_wp2_with (first | (go_at_call 40; refine (left_any g u1 _ w6 HT.out.eye).mono ?_; rw [HLL.out]; rintro e w9 ⟨rfl, rfl⟩) | (go_at_call 41; refine (end_any g u1 _ w6 HT.out.eye).mono ?_; rw [HNIL.out]; rintro e w9 ⟨rfl, rfl⟩))
                go_roundw
                case rel => exact ⟨i + 1, a1, u1, by omega, HTL.out, by go_num, rfl, HT.out, HTU.out, HMT.out⟩
                case measure => simp [intOf]; omega
            · by_cases h1 : dk = 1
              · subst h1
                obtain ⟨W4, hW4⟩ : ∃ W4, W4 = wr.alloc (.cells (opC4 ⟨1, dsz, dn, dx⟩ ub) 52) := ⟨_, rfl⟩
                obtain ⟨bx, hbx⟩ : ∃ bx, bx = wr.heap.size := ⟨_, rfl⟩
                have hbox : W4.heap[bx]? = some (.cells (opC4 ⟨1, dsz, dn, dx⟩ ub) 52 (0, 0)) := by rw [hW4, hbx]; exact heap_alloc_new _ _
                have hgb : g < bx := by rw [hbx]; exact blk_lt HE.out.eye.blk
                have hEY : EyeIn w W4 g u (zs.drop a0) := by rw [hW4]; exact HE.out.blw ((Below.refl _ _).alloc (Nat.le_refl _) _)
                have hm4 : M ≤ W4.heap.size := by rw [hW4]; have := HMS.out; simp; omega
                have HM4 := Lib.hid hm4; have HEY := Lib.hid hEY; have HBOX := Lib.hid hbox; have HGB := Lib.hid hgb; have HA0 := Lib.hid ha0
                have HW4 := Lib.hid ((World.setRow_alloc_new wr #[.int .i64 0, .int .i64 0, .int .u64 0, .slice none 0 0] (opC4 ⟨1, dsz, dn, dx⟩ ub) 52).trans hW4.symm)
                have HBX := Lib.hid hbx.symm
                clear hEY hbox hW4 hbx hgb ha0 hm4 HMS
                have e0 : W4.cell? ⟨bx, 0, none⟩ = some (.int .i64 1) := (blk_cell HBOX.out 0).trans rfl
                have e1 : W4.cell? ⟨bx, 1, none⟩ = some (.int .i64 dsz) := (blk_cell HBOX.out 1).trans rfl
                go_wp2_with (refine wpList_store_row (by rfl) 52 _ _ (by rfl) _ (opC4 ⟨1, dsz, dn, dx⟩ ub) (by rfl) (by rfl) 52 _ (heap_alloc_new _ _) info52b rfl (opC4_one ⟨1, dsz, dn, dx⟩ ub hub) ?_; rw [HW4.out, HBX.out])
                refine (efix_pair g dsz u zs a0 W4 HEY.out.eye HA0.out HZ.out).mono ?_
                rintro e w5 ⟨q, a1, E, u1, rfl, hgo, ha1, href⟩
                have HE5 := Lib.hid (HEY.out.go hgo)
                have hbx5 := hgo.chg.blk HBOX.out (by simp; have := HGB.out; omega)
                have HR5 := Lib.hid (href _ w5 (H0.out.below HE5.out.below))
                have HA1 := Lib.hid ha1; have HU5 := Lib.hid (hgo.same.trans HUS.out); have HM5 := Lib.hid (Nat.le_trans HM4.out hgo.chg.size)
                clear e0 e1 hgo href ha1
                have e0 : w5.cell? ⟨bx, 0, none⟩ = some (.int .i64 1) := (blk_cell hbx5 0).trans rfl
                have e1 : w5.cell? ⟨bx, 1, none⟩ = some (.int .i64 dsz) := (blk_cell hbx5 1).trans rfl
                go_wp2_with fail
                refine HR5.out.mono ?_
                rintro e w6 ⟨rfl, hb6⟩
                have HT := Lib.hid (HE5.out.blw hb6)
                have hbx6 := (hb6.block _ (blk_lt hbx5)).trans hbx5
                have HM6 := Lib.hid (Nat.le_trans HM5.out hb6.size)
                clear e0 e1
                have e0 : w6.cell? ⟨bx, 0, none⟩ = some (.int .i64 1) := (blk_cell hbx6 0).trans rfl
                clear hbx5 HR5 HE5
                go_wp2_with fail
                refine (esz_pair g u1 zs a1 w6 HT.out.eye HA1.out HZ.out).mono ?_
                rintro e w7 ⟨q2, a2, E2, u2, rfl, hgo, ha2, href⟩
                have HE7 := Lib.hid (HT.out.go hgo)
                have HR7 := Lib.hid (href _ w7 (H0.out.below HE7.out.below))
                have HTL := Lib.hid ha2; have HTU := Lib.hid (hgo.same.trans HU5.out); have HM7 := Lib.hid (Nat.le_trans HM6.out hgo.chg.size)
                clear hgo href ha2 HT hb6 e0
                go_wp2_with fail
                refine HR7.out.mono ?_
                rintro e w8 ⟨rfl, hb8⟩
                have HT := Lib.hid (HE7.out.blw hb8); have HMT := Lib.hid (Nat.le_trans HM7.out hb8.size)
                clear hb8 HR7 HE7 hbx6
                have htl := HTL.out
                have hll : ((zs.drop a2).length : Int) = (zs.length : Int) - (a2 : Int) := by rw [List.length_drop]; omega
                have w5 : wrap64 ((zs.length : Int) - (a2 : Int)) = (zs.length : Int) - (a2 : Int) := by unfold wrap64; omega
                have HLL := Lib.hid hll
                clear hll
                by_cases hend : a2 = zs.length
                · have hnil : (if zs.drop a2 = [] then (0 : Int) else 10) = 0 := by rw [hend, List.drop_length, if_pos rfl]
                  have hen2 : ((a2 : Int) == (zs.length : Int)) = true := by rw [hend]; simp
                  have HNIL := Lib.hid hnil
                  clear hnil hend
                  go_wp2_with (first | (go_at_call 40; refine (left_any g u2 _ w8 HT.out.eye).mono ?_; rw [HLL.out]; rintro e w9 ⟨rfl, rfl⟩) | (go_at_call 41; refine (end_any g u2 _ w8 HT.out.eye).mono ?_; rw [HNIL.out]; rintro e w9 ⟨rfl, rfl⟩))
                  go_roundw
                  case rel => exact ⟨i + 1, a2, u2, by omega, HTL.out, by go_num, rfl, HT.out, HTU.out, HMT.out⟩
                  case measure => simp [intOf]; omega
                · have hnil : (if zs.drop a2 = [] then (0 : Int) else 10) = 10 := by rw [if_neg]; intro h; rw [List.drop_eq_nil_iff] at h; omega
                  have hen2 : ((a2 : Int) == (zs.length : Int)) = false := by simp; omega
                  have HNIL := Lib.hid hnil
                  clear hnil hend
                  go_wp2_with (first | (go_at_call 40; refine (left_any g u2 _ w8 HT.out.eye).mono ?_; rw [HLL.out]; rintro e w9 ⟨rfl, rfl⟩) | (go_at_call 41; refine (end_any g u2 _ w8 HT.out.eye).mono ?_; rw [HNIL.out]; rintro e w9 ⟨rfl, rfl⟩))
                  go_roundw
                  case rel => exact ⟨i + 1, a2, u2, by omega, HTL.out, by go_num, rfl, HT.out, HTU.out, HMT.out⟩
                  case measure => simp [intOf]; omega
              · by_cases h2 : dk = 2
                · subst h2
                  obtain ⟨W4, hW4⟩ : ∃ W4, W4 = wr.alloc (.cells (opC4 ⟨2, dsz, dn, dx⟩ ub) 52) := ⟨_, rfl⟩
                  obtain ⟨bx, hbx⟩ : ∃ bx, bx = wr.heap.size := ⟨_, rfl⟩
                  have hbox : W4.heap[bx]? = some (.cells (opC4 ⟨2, dsz, dn, dx⟩ ub) 52 (0, 0)) := by rw [hW4, hbx]; exact heap_alloc_new _ _
                  have hgb : g < bx := by rw [hbx]; exact blk_lt HE.out.eye.blk
                  have hEY : EyeIn w W4 g u (zs.drop a0) := by rw [hW4]; exact HE.out.blw ((Below.refl _ _).alloc (Nat.le_refl _) _)
                  have hm4 : M ≤ W4.heap.size := by rw [hW4]; have := HMS.out; simp; omega
                  have HM4 := Lib.hid hm4; have HEY := Lib.hid hEY; have HBOX := Lib.hid hbox; have HGB := Lib.hid hgb; have HA0 := Lib.hid ha0
                  have HW4 := Lib.hid ((World.setRow_alloc_new wr #[.int .i64 0, .int .i64 0, .int .u64 0, .slice none 0 0] (opC4 ⟨2, dsz, dn, dx⟩ ub) 52).trans hW4.symm)
                  have HBX := Lib.hid hbx.symm
                  clear hEY hbox hW4 hbx hgb ha0 hm4 HMS
                  have e0 : W4.cell? ⟨bx, 0, none⟩ = some (.int .i64 2) := (blk_cell HBOX.out 0).trans rfl
                  have e1 : W4.cell? ⟨bx, 1, none⟩ = some (.int .i64 dsz) := (blk_cell HBOX.out 1).trans rfl
                  have hdl0 : (zs.drop a0).length = zs.length - a0 := by simp
                  have HDL0 := Lib.hid hdl0
                  clear hdl0
                  go_wp2_with (refine wpList_store_row (by rfl) 52 _ _ (by rfl) _ (opC4 ⟨2, dsz, dn, dx⟩ ub) (by rfl) (by rfl) 52 _ (heap_alloc_new _ _) info52b rfl (opC4_one ⟨2, dsz, dn, dx⟩ ub hub) ?_; rw [HW4.out, HBX.out])
                  refine (eraw_ok g 0 u _ W4 HEY.out.eye (by omega) (by have := HZ.out; have := HDL0.out; omega)).mono ?_
                  rintro e w5 ⟨x0, u1, rfl, hown0, hgo⟩
                  rw [List.drop_zero] at hgo
                  have HE5 := Lib.hid (HEY.out.go hgo)
                  have hbx5 := hgo.chg.blk HBOX.out (by simp; have := HGB.out; omega)
                  have HU5 := Lib.hid (hgo.same.trans HUS.out); have HM5 := Lib.hid (Nat.le_trans HM4.out hgo.chg.size)
                  obtain ⟨Ax, cx, rfl⟩ := own_slice hown0
                  clear e0 e1 hgo hown0
                  have e0 : w5.cell? ⟨bx, 0, none⟩ = some (.int .i64 2) := (blk_cell hbx5 0).trans rfl
                  have e1 : w5.cell? ⟨bx, 1, none⟩ = some (.int .i64 dsz) := (blk_cell hbx5 1).trans rfl
                  go_wp2_with fail
                  refine (ebytes_pair g dsz u1 zs a0 w5 HE5.out.eye HA0.out HZ.out HSZ.out).mono ?_
                  rintro e w6 ⟨l, x, a2, E, u2, rfl, hown, hll, hgo, ha2, href⟩
                  have HE6 := Lib.hid (HE5.out.go hgo)
                  have hbx6 := hgo.chg.blk hbx5 (by simp; have := HGB.out; omega)
                  have HR6 := Lib.hid (href _ w6 (H0.out.below HE6.out.below))
                  have HTL := Lib.hid ha2; have HLZ := Lib.hid hll
                  have hge6 : ∀ k, x.ownBlock = some k → k ≠ g ∧ M ≤ k := fun k hk => by
                    have h1 := (hown.lt k hk).1
                    have h3 := blk_lt HE5.out.eye.blk
                    have h4 := HM5.out
                    exact ⟨by omega, by omega⟩
                  have HTU := Lib.hid (hgo.same.trans HU5.out); have HM6 := Lib.hid (Nat.le_trans HM5.out hgo.chg.size)
                  have HO6 := Lib.hid (own_base hown (b := w.heap.size) (fun k hk => Nat.le_trans HE5.out.below.size (own_ge hown hk)))
                  have HGE6 := Lib.hid hge6
                  obtain ⟨Ax, cx, rfl⟩ := own_slice hown
                  clear e0 e1 hgo hown href ha2 hll hbx5 hge6 HE5
                  have e0 : w6.cell? ⟨bx, 0, none⟩ = some (.int .i64 2) := (blk_cell hbx6 0).trans rfl
                  have e1 : w6.cell? ⟨bx, 1, none⟩ = some (.int .i64 dsz) := (blk_cell hbx6 1).trans rfl
                  go_wp2_with fail
                  refine HR6.out.mono ?_
                  rintro e w7 ⟨y, rfl, howny, hb7⟩
                  have HE7 := Lib.hid (HE6.out.blw hb7)
                  have HO7 := Lib.hid (own_chg HO6.out (Chg.of_below hb7) (by simp))
                  have hsx := HB.string (P := Try.prog) (show HB w7 (.slice Ax l.length cx) l from HB.of_own HO7.out) 29 9 5 Try.underlying29 Try.underlying5 Try.underlying9
                  have hsy := HB.string (P := Try.prog) (show HB w7 y l from HB.of_own howny) 29 9 5 Try.underlying29 Try.underlying5 Try.underlying9
                  obtain ⟨Ay, cy, rfl⟩ := own_slice howny
                  have HM7 := Lib.hid (Nat.le_trans HM6.out hb7.size)
                  clear e0 e1 hb7 HR6 HE6 hbx6 HO6 howny
                  go_wp2_with fail
                  have hlz2 : l.length ≤ 20000 := Nat.le_trans HLZ.out HZ.out
                  have HLZ2 := Lib.hid hlz2
                  clear hsx hsy
                  go_loopw [159] (fun s159 w' => BumpRel w.heap.size l.length Ax cx w7 s159 w') (fun s159 _ => l.length - (intOf s159).toNat)
                  case atStart => exact ⟨0, l, by omega, rfl, rfl, HO7.out, Chg.refl _ _⟩
                  case round =>
                    obtain ⟨i2, l2, hi2, rfl, hll2, hown2, hch2⟩ := hrel
                    by_cases hlt3 : i2 < l.length
                    · obtain ⟨g', rfl, hcell, hfz, hrel2⟩ := bump_step hlt3 hll2 hown2 hch2
                      have HR2 := Lib.hid hrel2
                      clear hown2 hch2 hrel2 hll2
                      go_wp2_with fail
                      go_roundw
                      case rel => exact HR2.out _ rfl
                      case measure => simp [intOf]; omega
                    · obtain rfl : i2 = l.length := by omega
                      obtain ⟨w8, hw8⟩ : ∃ w8, w8 = wr := ⟨_, rfl⟩
                      rw [← hw8] at hown2 hch2
                      rw [← hw8]
                      clear hw8
                      have HMT := Lib.hid (Nat.le_trans HM7.out hch2.size)
                      have HT := Lib.hid (show EyeIn w w8 g u2 (zs.drop a2) from ⟨⟨hch2.blk HE7.out.eye.blk (fun hk => by simp at hk; exact (HGE6.out g hk).1 rfl), HE7.out.eye.left.chgE hch2 (fun hx k hk hm => by simp at hm; have h1 := (HGE6.out k hm).2; rw [HTU.out] at hk; have h2 := HUB.out (fun e => hx (by rw [e]; simp)) k hk; omega)⟩, HE7.out.lo, HE7.out.below.trans (hch2.below (fun k hk => by simp at hk; exact own_ge HO7.out hk) HE7.out.below.size)⟩)
                      clear hown2 hch2 hll2
                      have htl := HTL.out
                      have hll : ((zs.drop a2).length : Int) = (zs.length : Int) - (a2 : Int) := by rw [List.length_drop]; omega
                      have w5 : wrap64 ((zs.length : Int) - (a2 : Int)) = (zs.length : Int) - (a2 : Int) := by unfold wrap64; omega
                      have HLL := Lib.hid hll
                      clear hll
                      by_cases hend : a2 = zs.length
                      · have hnil : (if zs.drop a2 = [] then (0 : Int) else 10) = 0 := by rw [hend, List.drop_length, if_pos rfl]
                        have hen2 : ((a2 : Int) == (zs.length : Int)) = true := by rw [hend]; simp
                        have HNIL := Lib.hid hnil
                        clear hnil hend
                        go_wp2_with (first | (go_at_call 40; refine (left_any g u2 _ w8 HT.out.eye).mono ?_; rw [HLL.out]; rintro e w9 ⟨rfl, rfl⟩) | (go_at_call 41; refine (end_any g u2 _ w8 HT.out.eye).mono ?_; rw [HNIL.out]; rintro e w9 ⟨rfl, rfl⟩))
                        go_roundw
                        case rel => exact ⟨i + 1, a2, u2, by omega, HTL.out, by go_num, rfl, HT.out, HTU.out, HMT.out⟩
                        case measure => simp [intOf]; omega
                      · have hnil : (if zs.drop a2 = [] then (0 : Int) else 10) = 10 := by rw [if_neg]; intro h; rw [List.drop_eq_nil_iff] at h; omega
                        have hen2 : ((a2 : Int) == (zs.length : Int)) = false := by simp; omega
                        have HNIL := Lib.hid hnil
                        clear hnil hend
                        go_wp2_with (first | (go_at_call 40; refine (left_any g u2 _ w8 HT.out.eye).mono ?_; rw [HLL.out]; rintro e w9 ⟨rfl, rfl⟩) | (go_at_call 41; refine (end_any g u2 _ w8 HT.out.eye).mono ?_; rw [HNIL.out]; rintro e w9 ⟨rfl, rfl⟩))
                        go_roundw
                        case rel => exact ⟨i + 1, a2, u2, by omega, HTL.out, by go_num, rfl, HT.out, HTU.out, HMT.out⟩
                        case measure => simp [intOf]; omega
                · by_cases h3 : dk = 3
                  · subst h3
                    obtain ⟨W4, hW4⟩ : ∃ W4, W4 = wr.alloc (.cells (opC4 ⟨3, dsz, dn, dx⟩ ub) 52) := ⟨_, rfl⟩
                    obtain ⟨bx, hbx⟩ : ∃ bx, bx = wr.heap.size := ⟨_, rfl⟩
                    have hbox : W4.heap[bx]? = some (.cells (opC4 ⟨3, dsz, dn, dx⟩ ub) 52 (0, 0)) := by rw [hW4, hbx]; exact heap_alloc_new _ _
                    have hgb : g < bx := by rw [hbx]; exact blk_lt HE.out.eye.blk
                    have hEY : EyeIn w W4 g u (zs.drop a0) := by rw [hW4]; exact HE.out.blw ((Below.refl _ _).alloc (Nat.le_refl _) _)
                    have hm4 : M ≤ W4.heap.size := by rw [hW4]; have := HMS.out; simp; omega
                    have HM4 := Lib.hid hm4; have HEY := Lib.hid hEY; have HBOX := Lib.hid hbox; have HGB := Lib.hid hgb; have HA0 := Lib.hid ha0
                    have HW4 := Lib.hid ((World.setRow_alloc_new wr #[.int .i64 0, .int .i64 0, .int .u64 0, .slice none 0 0] (opC4 ⟨3, dsz, dn, dx⟩ ub) 52).trans hW4.symm)
                    have HBX := Lib.hid hbx.symm
                    clear hEY hbox hW4 hbx hgb ha0 hm4 HMS
                    have e0 : W4.cell? ⟨bx, 0, none⟩ = some (.int .i64 3) := (blk_cell HBOX.out 0).trans rfl
                    have e1 : W4.cell? ⟨bx, 1, none⟩ = some (.int .i64 dsz) := (blk_cell HBOX.out 1).trans rfl
                    have hdl0 : (zs.drop a0).length = zs.length - a0 := by simp
                    have HDL0 := Lib.hid hdl0
                    clear hdl0
                    go_wp2_with (refine wpList_store_row (by rfl) 52 _ _ (by rfl) _ (opC4 ⟨3, dsz, dn, dx⟩ ub) (by rfl) (by rfl) 52 _ (heap_alloc_new _ _) info52b rfl (opC4_one ⟨3, dsz, dn, dx⟩ ub hub) ?_; rw [HW4.out, HBX.out])
                    refine (eraw_ok g 0 u _ W4 HEY.out.eye (by omega) (by have := HZ.out; have := HDL0.out; omega)).mono ?_
                    rintro e w5 ⟨x0, u1, rfl, hown0, hgo⟩
                    rw [List.drop_zero] at hgo
                    have HE5 := Lib.hid (HEY.out.go hgo)
                    have hbx5 := hgo.chg.blk HBOX.out (by simp; have := HGB.out; omega)
                    have HU5 := Lib.hid (hgo.same.trans HUS.out); have HM5 := Lib.hid (Nat.le_trans HM4.out hgo.chg.size)
                    obtain ⟨Ax, cx, rfl⟩ := own_slice hown0
                    clear e0 e1 hgo hown0
                    have e0 : w5.cell? ⟨bx, 0, none⟩ = some (.int .i64 3) := (blk_cell hbx5 0).trans rfl
                    have e1 : w5.cell? ⟨bx, 1, none⟩ = some (.int .i64 dsz) := (blk_cell hbx5 1).trans rfl
                    go_wp2_with fail
                    refine (eraw_pair g dsz u1 zs a0 w5 HE5.out.eye HA0.out HZ.out).mono ?_
                    rintro e w6 ⟨l, x, a2, E, u2, rfl, hown, hll, hgo, ha2, href⟩
                    have HE6 := Lib.hid (HE5.out.go hgo)
                    have hbx6 := hgo.chg.blk hbx5 (by simp; have := HGB.out; omega)
                    have HR6 := Lib.hid (href _ w6 (H0.out.below HE6.out.below))
                    have HTL := Lib.hid ha2; have HLZ := Lib.hid hll
                    have hge6 : ∀ k, x.ownBlock = some k → k ≠ g ∧ M ≤ k := fun k hk => by
                      have h1 := (hown.lt k hk).1
                      have h3 := blk_lt HE5.out.eye.blk
                      have h4 := HM5.out
                      exact ⟨by omega, by omega⟩
                    have HTU := Lib.hid (hgo.same.trans HU5.out); have HM6 := Lib.hid (Nat.le_trans HM5.out hgo.chg.size)
                    have HO6 := Lib.hid (own_base hown (b := w.heap.size) (fun k hk => Nat.le_trans HE5.out.below.size (own_ge hown hk)))
                    have HGE6 := Lib.hid hge6
                    obtain ⟨Ax, cx, rfl⟩ := own_slice hown
                    clear e0 e1 hgo hown href ha2 hll hbx5 hge6 HE5
                    have e0 : w6.cell? ⟨bx, 0, none⟩ = some (.int .i64 3) := (blk_cell hbx6 0).trans rfl
                    have e1 : w6.cell? ⟨bx, 1, none⟩ = some (.int .i64 dsz) := (blk_cell hbx6 1).trans rfl
                    go_wp2_with fail
                    refine HR6.out.mono ?_
                    rintro e w7 ⟨y, rfl, howny, hb7⟩
                    have HE7 := Lib.hid (HE6.out.blw hb7)
                    have HO7 := Lib.hid (own_chg HO6.out (Chg.of_below hb7) (by simp))
                    have hsx := HB.string (P := Try.prog) (show HB w7 (.slice Ax l.length cx) l from HB.of_own HO7.out) 29 9 5 Try.underlying29 Try.underlying5 Try.underlying9
                    have hsy := HB.string (P := Try.prog) (show HB w7 y l from HB.of_own howny) 29 9 5 Try.underlying29 Try.underlying5 Try.underlying9
                    obtain ⟨Ay, cy, rfl⟩ := own_slice howny
                    have HM7 := Lib.hid (Nat.le_trans HM6.out hb7.size)
                    clear e0 e1 hb7 HR6 HE6 hbx6 HO6 howny
                    go_wp2_with fail
                    have hlz2 : l.length ≤ 20000 := Nat.le_trans HLZ.out HZ.out
                    have HLZ2 := Lib.hid hlz2
                    clear hsx hsy
                    go_loopw [159] (fun s159 w' => BumpRel w.heap.size l.length Ax cx w7 s159 w') (fun s159 _ => l.length - (intOf s159).toNat)
                    case atStart => exact ⟨0, l, by omega, rfl, rfl, HO7.out, Chg.refl _ _⟩
                    case round =>
                      obtain ⟨i2, l2, hi2, rfl, hll2, hown2, hch2⟩ := hrel
                      by_cases hlt3 : i2 < l.length
                      · obtain ⟨g', rfl, hcell, hfz, hrel2⟩ := bump_step hlt3 hll2 hown2 hch2
                        have HR2 := Lib.hid hrel2
                        clear hown2 hch2 hrel2 hll2
                        go_wp2_with fail
                        go_roundw
                        case rel => exact HR2.out _ rfl
                        case measure => simp [intOf]; omega
                      · obtain rfl : i2 = l.length := by omega
                        obtain ⟨w8, hw8⟩ : ∃ w8, w8 = wr := ⟨_, rfl⟩
                        rw [← hw8] at hown2 hch2
                        rw [← hw8]
                        clear hw8
                        have HMT := Lib.hid (Nat.le_trans HM7.out hch2.size)
                        have HT := Lib.hid (show EyeIn w w8 g u2 (zs.drop a2) from ⟨⟨hch2.blk HE7.out.eye.blk (fun hk => by simp at hk; exact (HGE6.out g hk).1 rfl), HE7.out.eye.left.chgE hch2 (fun hx k hk hm => by simp at hm; have h1 := (HGE6.out k hm).2; rw [HTU.out] at hk; have h2 := HUB.out (fun e => hx (by rw [e]; simp)) k hk; omega)⟩, HE7.out.lo, HE7.out.below.trans (hch2.below (fun k hk => by simp at hk; exact own_ge HO7.out hk) HE7.out.below.size)⟩)
                        clear hown2 hch2 hll2
                        have htl := HTL.out
                        have hll : ((zs.drop a2).length : Int) = (zs.length : Int) - (a2 : Int) := by rw [List.length_drop]; omega
                        have w5 : wrap64 ((zs.length : Int) - (a2 : Int)) = (zs.length : Int) - (a2 : Int) := by unfold wrap64; omega
                        have HLL := Lib.hid hll
                        clear hll
                        by_cases hend : a2 = zs.length
                        · have hnil : (if zs.drop a2 = [] then (0 : Int) else 10) = 0 := by rw [hend, List.drop_length, if_pos rfl]
                          have hen2 : ((a2 : Int) == (zs.length : Int)) = true := by rw [hend]; simp
                          have HNIL := Lib.hid hnil
                          clear hnil hend
                          go_wp2_with (first | (go_at_call 40; refine (left_any g u2 _ w8 HT.out.eye).mono ?_; rw [HLL.out]; rintro e w9 ⟨rfl, rfl⟩) | (go_at_call 41; refine (end_any g u2 _ w8 HT.out.eye).mono ?_; rw [HNIL.out]; rintro e w9 ⟨rfl, rfl⟩))
                          go_roundw
                          case rel => exact ⟨i + 1, a2, u2, by omega, HTL.out, by go_num, rfl, HT.out, HTU.out, HMT.out⟩
                          case measure => simp [intOf]; omega
                        · have hnil : (if zs.drop a2 = [] then (0 : Int) else 10) = 10 := by rw [if_neg]; intro h; rw [List.drop_eq_nil_iff] at h; omega
                          have hen2 : ((a2 : Int) == (zs.length : Int)) = false := by simp; omega
                          have HNIL := Lib.hid hnil
                          clear hnil hend
                          go_wp2_with (first | (go_at_call 40; refine (left_any g u2 _ w8 HT.out.eye).mono ?_; rw [HLL.out]; rintro e w9 ⟨rfl, rfl⟩) | (go_at_call 41; refine (end_any g u2 _ w8 HT.out.eye).mono ?_; rw [HNIL.out]; rintro e w9 ⟨rfl, rfl⟩))
                          go_roundw
                          case rel => exact ⟨i + 1, a2, u2, by omega, HTL.out, by go_num, rfl, HT.out, HTU.out, HMT.out⟩
                          case measure => simp [intOf]; omega
                  · obtain ⟨W4, hW4⟩ : ∃ W4, W4 = wr.alloc (.cells (opC4 ⟨dk, dsz, dn, dx⟩ ub) 52) := ⟨_, rfl⟩
                    obtain ⟨bx, hbx⟩ : ∃ bx, bx = wr.heap.size := ⟨_, rfl⟩
                    have hbox : W4.heap[bx]? = some (.cells (opC4 ⟨dk, dsz, dn, dx⟩ ub) 52 (0, 0)) := by rw [hW4, hbx]; exact heap_alloc_new _ _
                    have hgb : g < bx := by rw [hbx]; exact blk_lt HE.out.eye.blk
                    have hEY : EyeIn w W4 g u (zs.drop a0) := by rw [hW4]; exact HE.out.blw ((Below.refl _ _).alloc (Nat.le_refl _) _)
                    have hm4 : M ≤ W4.heap.size := by rw [hW4]; have := HMS.out; simp; omega
                    have HM4 := Lib.hid hm4; have HEY := Lib.hid hEY; have HBOX := Lib.hid hbox; have HGB := Lib.hid hgb; have HA0 := Lib.hid ha0
                    have HW4 := Lib.hid ((World.setRow_alloc_new wr #[.int .i64 0, .int .i64 0, .int .u64 0, .slice none 0 0] (opC4 ⟨dk, dsz, dn, dx⟩ ub) 52).trans hW4.symm)
                    have HBX := Lib.hid hbx.symm
                    clear hEY hbox hW4 hbx hgb ha0 hm4 HMS
                    have e0 : W4.cell? ⟨bx, 0, none⟩ = some (.int .i64 dk) := (blk_cell HBOX.out 0).trans rfl
                    have e1 : W4.cell? ⟨bx, 1, none⟩ = some (.int .i64 dsz) := (blk_cell HBOX.out 1).trans rfl
                    have HT := Lib.hid HEY.out; have HTU := Lib.hid HUS.out; have HMT := Lib.hid HM4.out
                    have HTL := Lib.hid HA0.out
                    have htl := HTL.out
                    have hll : ((zs.drop a0).length : Int) = (zs.length : Int) - (a0 : Int) := by rw [List.length_drop]; omega
                    have w5 : wrap64 ((zs.length : Int) - (a0 : Int)) = (zs.length : Int) - (a0 : Int) := by unfold wrap64; omega
                    have HLL := Lib.hid hll
                    clear hll
                    by_cases hend : a0 = zs.length
                    · have hnil : (if zs.drop a0 = [] then (0 : Int) else 10) = 0 := by rw [hend, List.drop_length, if_pos rfl]
                      have hen2 : ((a0 : Int) == (zs.length : Int)) = true := by rw [hend]; simp
                      have HNIL := Lib.hid hnil
                      clear hnil hend
                      go_wp2_with (first | (refine wpList_store_row (by rfl) 52 _ _ (by rfl) _ (opC4 ⟨dk, dsz, dn, dx⟩ ub) (by rfl) (by rfl) 52 _ (heap_alloc_new _ _) info52b rfl (opC4_one ⟨dk, dsz, dn, dx⟩ ub hub) ?_; rw [HW4.out, HBX.out]) | (go_at_call 40; refine (left_any g u _ W4 HT.out.eye).mono ?_; rw [HLL.out]; rintro e w9 ⟨rfl, rfl⟩) | (go_at_call 41; refine (end_any g u _ W4 HT.out.eye).mono ?_; rw [HNIL.out]; rintro e w9 ⟨rfl, rfl⟩))
                      go_roundw
                      case rel => exact ⟨i + 1, a0, u, by omega, HTL.out, by go_num, rfl, HT.out, HTU.out, HMT.out⟩
                      case measure => simp [intOf]; omega
                    · have hnil : (if zs.drop a0 = [] then (0 : Int) else 10) = 10 := by rw [if_neg]; intro h; rw [List.drop_eq_nil_iff] at h; omega
                      have hen2 : ((a0 : Int) == (zs.length : Int)) = false := by simp; omega
                      have HNIL := Lib.hid hnil
                      clear hnil hend
                      go_wp2_with (first | (refine wpList_store_row (by rfl) 52 _ _ (by rfl) _ (opC4 ⟨dk, dsz, dn, dx⟩ ub) (by rfl) (by rfl) 52 _ (heap_alloc_new _ _) info52b rfl (opC4_one ⟨dk, dsz, dn, dx⟩ ub hub) ?_; rw [HW4.out, HBX.out]) | (go_at_call 40; refine (left_any g u _ W4 HT.out.eye).mono ?_; rw [HLL.out]; rintro e w9 ⟨rfl, rfl⟩) | (go_at_call 41; refine (end_any g u _ W4 HT.out.eye).mono ?_; rw [HNIL.out]; rintro e w9 ⟨rfl, rfl⟩))
                      go_roundw
                      case rel => exact ⟨i + 1, a0, u, by omega, HTL.out, by go_num, rfl, HT.out, HTU.out, HMT.out⟩
                      case measure => simp [intOf]; omega
end
end Go.Proofs.Ytkibccmfgndfjaa
