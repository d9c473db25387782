/- Contracts and words that the laws stand on (ExI). -/
import Derived.Test.YtlpklbpaknemaaaExE
import Derived.Test.YtlpklbpaknemaaaExH
import Derived.Test.YtlpklbpaknemaaaLawA
import Derived.Test.YtlpklbpaknemaaaRecC
set_option linter.unusedVariables false
set_option linter.unusedSimpArgs false
namespace Go.Proofs.Ytlpklbpaknemaaa
section
open Go.RowKit Go.Proofs
attribute [local irreducible] Calls
theorem cut_at {w : World} {A : Option Addr} {c : Nat} {zs : List UInt8} (h : HB w (.slice A zs.length c) zs) (i k : Nat) (hk : i + k ≤ zs.length) : HB w (.slice (cutA A c i) k (c - i)) ((zs.drop i).take k) := by
  have := h.cut (a := i) (b := i + k) (by omega) hk
  rwa [Nat.add_sub_cancel_left] at this
set_option maxHeartbeats 1000000 in
set_option maxRecDepth 100000 in
theorem rgetfix_ok (b : Value) (zs : List UInt8) (i k : Nat) (w : World) (hb : HB w b zs) (hl : zs.length ≤ 20000) (hw : wideB (k : Int) = true) (hk : i + k ≤ zs.length) :
    Calls Try.prog 84 #[b, .int .i64 (i : Int), .int .i64 (k : Int)] w fun e w' => e = .returned (.tuple #[.int .u64 (leNum ((zs.drop i).take k) : Nat), .int .i64 ((i + k : Nat) : Int), .int .i64 0]) ∧ Below w.heap.size w w' := by
  have Hb := Lib.hid hb
  obtain ⟨A, c, rfl, hlc⟩ := hb.shape
  clear hb
  have hkk := wideB_cases hw
  have HC := Lib.hid (cut_at Hb.out i k hk)
  have hlk : ((zs.drop i).take k).length = k := by simp; omega
  have hs := run_cut_lh 22 5 Try.underlying22 size5 A zs.length c i (i + k) (by omega) hk hlc
  rw [Nat.add_sub_cancel_left, Int.natCast_add] at hs
  rw [Int.natCast_add]
  have hsub : (zs.length : Int) - (i : Int) = ((zs.length - i : Nat) : Int) := by omega
  generalize hl2 : (zs.drop i).take k = l2 at *
  have HLK := Lib.hid hlk
  clear hlk hl2
  have hk2 : k = 1 ∨ k = 2 ∨ k = 4 ∨ k = 8 := by omega
  clear hkk hw
  have hk8 : k ≤ 8 := by omega
  rcases hk2 with e | e | e | e
  · have b1 : ((k : Int) != 1) = false := by rw [e]; rfl
    clear e
    go_enter Try.func84, Try.ntmps84
    go_wp2_with fail
    refine (rnum_any _ l2 _ HC.out (by have := HLK.out; omega)).mono ?_
    rintro e w1 ⟨rfl, hb1⟩
    go_wp2_with fail
    go_ret3
    exact ⟨rfl, hb1⟩
  · have b1 : ((k : Int) != 1) = true := by rw [e]; rfl
    have b2 : ((k : Int) != 2) = false := by rw [e]; rfl
    clear e
    go_enter Try.func84, Try.ntmps84
    go_wp2_with fail
    refine (rnum_any _ l2 _ HC.out (by have := HLK.out; omega)).mono ?_
    rintro e w1 ⟨rfl, hb1⟩
    go_wp2_with fail
    go_ret3
    exact ⟨rfl, hb1⟩
  · have b1 : ((k : Int) != 1) = true := by rw [e]; rfl
    have b2 : ((k : Int) != 2) = true := by rw [e]; rfl
    have b4 : ((k : Int) != 4) = false := by rw [e]; rfl
    clear e
    go_enter Try.func84, Try.ntmps84
    go_wp2_with fail
    refine (rnum_any _ l2 _ HC.out (by have := HLK.out; omega)).mono ?_
    rintro e w1 ⟨rfl, hb1⟩
    go_wp2_with fail
    go_ret3
    exact ⟨rfl, hb1⟩
  · have b1 : ((k : Int) != 1) = true := by rw [e]; rfl
    have b2 : ((k : Int) != 2) = true := by rw [e]; rfl
    have b4 : ((k : Int) != 4) = true := by rw [e]; rfl
    have b8 : ((k : Int) != 8) = false := by rw [e]; rfl
    clear e
    go_enter Try.func84, Try.ntmps84
    go_wp2_with fail
    refine (rnum_any _ l2 _ HC.out (by have := HLK.out; omega)).mono ?_
    rintro e w1 ⟨rfl, hb1⟩
    go_wp2_with fail
    go_ret3
    exact ⟨rfl, hb1⟩
set_option maxHeartbeats 1000000 in
set_option maxRecDepth 100000 in
theorem rgetfix_bad (b : Value) (zs : List UInt8) (i : Nat) (k : Int) (w : World) (hb : HB w b zs) (hl : zs.length ≤ 20000) (hi : i ≤ zs.length) (hf : efixE k (zs.length - i) ≠ 0) :
    Calls Try.prog 84 #[b, .int .i64 (i : Int), .int .i64 k] w fun e w' => e = .returned (.tuple #[.int .u64 0, .int .i64 (i : Int), .int .i64 (efixE k (zs.length - i))]) ∧ w = w' := by
  obtain ⟨A, c, rfl, hlc⟩ := hb.shape
  clear hb
  by_cases hw : wideB k = true
  · have hkk := wideB_cases hw
    have hlt : ¬ i + k.toNat ≤ zs.length := fun h => hf (by rw [efixE, if_neg (by rw [hw]; decide), if_neg (by omega)])
    have hE : efixE k (zs.length - i) = 10 := by rw [efixE, if_neg (by rw [hw]; decide), if_pos (by omega)]
    rw [hE]
    clear hf hE hw
    rcases hkk with rfl | rfl | rfl | rfl
    all_goals
      go_enter Try.func84, Try.ntmps84
      go_wp2_with fail
      go_ret3
      exact ⟨rfl, rfl⟩
  · have hw2 : wideB k = false := by simpa using hw
    have hE : efixE k (zs.length - i) = 2 := by rw [efixE, if_pos hw2]
    rw [hE]
    have h1 : (k != 1) = true := by simp [wideB] at hw2 ⊢; omega
    have h2 : (k != 2) = true := by simp [wideB] at hw2 ⊢; omega
    have h4 : (k != 4) = true := by simp [wideB] at hw2 ⊢; omega
    have h8 : (k != 8) = true := by simp [wideB] at hw2 ⊢; omega
    clear hw hw2 hE hf
    go_enter Try.func84, Try.ntmps84
    go_wp2_with fail
    go_ret3
    exact ⟨rfl, rfl⟩
end
section
open Go.RowKit Go.Proofs
theorem strq_ne {a b : List UInt8} (h : a ≠ b) : (a == b) = false := by simpa using h
theorem strq_eq {a b : List UInt8} (h : a = b) : (a == b) = true := by simpa using h
theorem thx9 {a w w1 : World} (h : Below a.heap.size a w) (k : Below w.heap.size w w1) : Below a.heap.size a w1 := h.trans (k.mono h.size)
attribute [local irreducible] Calls
set_option maxHeartbeats 1000000 in
set_option maxRecDepth 100000 in
theorem rgs_s_eq (b : Value) (zs : List UInt8) (i : Nat) (w : World) (hb : HB w b zs) (hl : zs.length ≤ 20000) (x : UInt8) (hi : zs[i]? = some x) (b253 : ((x.toNat : Int) == 253) = false) (b254 : ((x.toNat : Int) == 254) = false) (b255 : ((x.toNat : Int) == 255) = false) (hk : i + 1 ≤ zs.length) (hq : csize (leNum ((zs.drop (i)).take 1)) = (zs.drop i).take 1) :
    Calls Try.prog 75 #[b, .int .i64 (i : Int)] w fun e w' => e = .returned (.tuple #[.int .u64 (leNum ((zs.drop (i)).take 1) : Nat), .int .i64 ((i + 1 : Nat) : Int), .int .i64 0]) ∧ Below w.heap.size w w' := by
  have Hb := Lib.hid hb
  obtain ⟨A, c, rfl, hlc⟩ := hb.shape
  clear hb
  obtain ⟨hil, hix⟩ := List.getElem?_eq_some_iff.1 hi
  obtain ⟨a, rfl, hca⟩ := Hb.out.at_ hil hil
  rw [hix] at hca
  clear hix hi
  have h64 := leNum_64 ((zs.drop (i)).take 1) (by simp; omega)
  obtain ⟨q, hqq⟩ : ∃ q, leNum ((zs.drop (i)).take 1) = q := ⟨_, rfl⟩
  rw [hqq] at h64 hq
  try rw [hqq]
  obtain ⟨kk, hkk⟩ : ∃ kk : Nat, 1 = kk := ⟨_, rfl⟩
  rw [hkk] at hk hq
  try rw [hkk]
  have hs := run_cut_lh 22 5 Try.underlying22 size5 (some a) zs.length c i (i + kk) (by omega) hk hlc
  rw [Nat.add_sub_cancel_left, Int.natCast_add] at hs
  have HQQ := Lib.hid hqq; have HQ := Lib.hid hq; have H64 := Lib.hid h64; have HK := Lib.hid hk
  have HKK := Lib.hid hkk
  clear hqq hq h64 hkk
  try rw [Int.natCast_add]
  go_enter Try.func75, Try.ntmps75
  go_wp2_with fail
  refine (rgetfix_ok _ zs (i) 1 w Hb.out hl rfl (by have := HK.out; have := HKK.out; omega)).mono ?_
  rw [HQQ.out, show i + 1 = i + 1 from rfl, HKK.out]
  simp only [Int.natCast_add]
  rintro e w1 ⟨rfl, hb1⟩
  have HX := Lib.hid hb1; have Hb1 := Lib.hid (Hb.out.below hb1)
  have hto : IntKind.i64.wrap ((i : Int) + (kk : Int)) = ((i : Int) + (kk : Int)) := by rw [IntKind.wrap_i64]; have := HK.out; omega
  clear hb1
  go_wp2_with fail
  have hse := strq_eq HQ.out
  refine wp_region_pi [(0, true), (1, true), (2, true), (3, true), (6, true), (7, true), (8, true), (9, true), (10, true), (4, false), (5, false), (11, true), (12, true)] (by kernel_rfl) (by kernel_rfl) rfl (by kernel_rfl) (fun _ _ _ _ _ h => h) (fun w6 => HB w6 (.slice (some a) zs.length c) zs) Hb1.out.drew ?_
  intro OPS hops
  iterate 9
    first | (refine wpPi_yield _ (by rw [hops.out]; simp only [List.getElem?_toArray, List.getElem?_cons_succ, List.getElem?_cons_zero]; rfl) (by first | rfl | (rw [hops.out]; rfl)) (fun w' hS => by have hsw := HB.string (P := Try.prog) (cut_at hS i kk HK.out) 22 9 5 Try.underlying22 Try.underlying5 Try.underlying9; go_simp; rfl) ?_; simp only [Act.put, List.setIfInBounds_toArray, List.set_cons_succ, List.set_cons_zero]) | (refine wpPi_skip (by rw [hops.out]; simp only [List.getElem?_toArray, List.getElem?_cons_succ, List.getElem?_cons_zero]; rfl) (by first | rfl | (rw [hops.out]; rfl)) ?_; simp only [Act.put, List.setIfInBounds_toArray, List.set_cons_succ, List.set_cons_zero])
  refine wpPi_act (by rw [hops.out]; simp only [List.getElem?_toArray, List.getElem?_cons_succ, List.getElem?_cons_zero]; rfl) (by first | rfl | (rw [hops.out]; rfl)) ?_
  go_simp
  refine (rsize_any q _ H64.out).mono ?_
  rintro e w6 ⟨v6, rfl, hown, hb6⟩
  have HX6 := Lib.hid (thx9 (HX.out.drew) hb6)
  have HS6 := Lib.hid (Hb1.out.drew.below hb6)
  have hsz := HB.string (P := Try.prog) (show HB w6 v6 (csize q) from HB.of_own hown) 22 9 5 Try.underlying22 Try.underlying5 Try.underlying9
  obtain ⟨A6, c6, rfl⟩ := own_slice hown
  clear hown hb6
  try (refine ⟨(by first | exact Hb1.out.drew | exact HS6.out), ?_⟩)
  refine wpPi_act (by rw [hops.out]; simp only [List.getElem?_toArray, List.getElem?_cons_succ, List.getElem?_cons_zero]; rfl) (by first | rfl | (rw [hops.out]; rfl)) ?_
  go_simp
  clear hsz
  try (refine ⟨(by first | exact Hb1.out.drew | exact HS6.out), ?_⟩)
  iterate 2
    first | (refine wpPi_yield _ (by rw [hops.out]; simp only [List.getElem?_toArray, List.getElem?_cons_succ, List.getElem?_cons_zero]; rfl) (by first | rfl | (rw [hops.out]; rfl)) (fun w' hS => by have hsw := HB.string (P := Try.prog) (cut_at hS i kk HK.out) 22 9 5 Try.underlying22 Try.underlying5 Try.underlying9; go_simp; rfl) ?_; simp only [Act.put, List.setIfInBounds_toArray, List.set_cons_succ, List.set_cons_zero]) | (refine wpPi_skip (by rw [hops.out]; simp only [List.getElem?_toArray, List.getElem?_cons_succ, List.getElem?_cons_zero]; rfl) (by first | rfl | (rw [hops.out]; rfl)) ?_; simp only [Act.put, List.setIfInBounds_toArray, List.set_cons_succ, List.set_cons_zero])
  simp only [wpPi]
  go_wp2_with fail
  go_ret3
  exact ⟨rfl, HX6.out⟩
set_option maxHeartbeats 1000000 in
set_option maxRecDepth 100000 in
theorem rgs_t_eq (b : Value) (zs : List UInt8) (i : Nat) (w : World) (hb : HB w b zs) (hl : zs.length ≤ 20000) (x : UInt8) (hi : zs[i]? = some x) (b253 : ((x.toNat : Int) == 253) = true) (hk : i + 3 ≤ zs.length) (hq : csize (leNum ((zs.drop (i + 1)).take 2)) = (zs.drop i).take 3) :
    Calls Try.prog 75 #[b, .int .i64 (i : Int)] w fun e w' => e = .returned (.tuple #[.int .u64 (leNum ((zs.drop (i + 1)).take 2) : Nat), .int .i64 ((i + 3 : Nat) : Int), .int .i64 0]) ∧ Below w.heap.size w w' := by
  have Hb := Lib.hid hb
  obtain ⟨A, c, rfl, hlc⟩ := hb.shape
  clear hb
  obtain ⟨hil, hix⟩ := List.getElem?_eq_some_iff.1 hi
  obtain ⟨a, rfl, hca⟩ := Hb.out.at_ hil hil
  rw [hix] at hca
  clear hix hi
  have h64 := leNum_64 ((zs.drop (i + 1)).take 2) (by simp; omega)
  obtain ⟨q, hqq⟩ : ∃ q, leNum ((zs.drop (i + 1)).take 2) = q := ⟨_, rfl⟩
  rw [hqq] at h64 hq
  try rw [hqq]
  obtain ⟨kk, hkk⟩ : ∃ kk : Nat, 3 = kk := ⟨_, rfl⟩
  rw [hkk] at hk hq
  try rw [hkk]
  have hs := run_cut_lh 22 5 Try.underlying22 size5 (some a) zs.length c i (i + kk) (by omega) hk hlc
  rw [Nat.add_sub_cancel_left, Int.natCast_add] at hs
  have HQQ := Lib.hid hqq; have HQ := Lib.hid hq; have H64 := Lib.hid h64; have HK := Lib.hid hk
  have HKK := Lib.hid hkk
  clear hqq hq h64 hkk
  try rw [Int.natCast_add]
  go_enter Try.func75, Try.ntmps75
  go_wp2_with fail
  refine (rgetfix_ok _ zs (i + 1) 2 w Hb.out hl rfl (by have := HK.out; have := HKK.out; omega)).mono ?_
  rw [HQQ.out, show i + 1 + 2 = i + 3 from rfl, HKK.out]
  simp only [Int.natCast_add]
  rintro e w1 ⟨rfl, hb1⟩
  have HX := Lib.hid hb1; have Hb1 := Lib.hid (Hb.out.below hb1)
  have hto : IntKind.i64.wrap ((i : Int) + (kk : Int)) = ((i : Int) + (kk : Int)) := by rw [IntKind.wrap_i64]; have := HK.out; omega
  clear hb1
  go_wp2_with fail
  have hse := strq_eq HQ.out
  refine wp_region_pi [(0, true), (1, true), (2, true), (3, true), (6, true), (7, true), (8, true), (9, true), (10, true), (4, false), (5, false), (11, true), (12, true)] (by kernel_rfl) (by kernel_rfl) rfl (by kernel_rfl) (fun _ _ _ _ _ h => h) (fun w6 => HB w6 (.slice (some a) zs.length c) zs) Hb1.out.drew ?_
  intro OPS hops
  iterate 9
    first | (refine wpPi_yield _ (by rw [hops.out]; simp only [List.getElem?_toArray, List.getElem?_cons_succ, List.getElem?_cons_zero]; rfl) (by first | rfl | (rw [hops.out]; rfl)) (fun w' hS => by have hsw := HB.string (P := Try.prog) (cut_at hS i kk HK.out) 22 9 5 Try.underlying22 Try.underlying5 Try.underlying9; go_simp; rfl) ?_; simp only [Act.put, List.setIfInBounds_toArray, List.set_cons_succ, List.set_cons_zero]) | (refine wpPi_skip (by rw [hops.out]; simp only [List.getElem?_toArray, List.getElem?_cons_succ, List.getElem?_cons_zero]; rfl) (by first | rfl | (rw [hops.out]; rfl)) ?_; simp only [Act.put, List.setIfInBounds_toArray, List.set_cons_succ, List.set_cons_zero])
  refine wpPi_act (by rw [hops.out]; simp only [List.getElem?_toArray, List.getElem?_cons_succ, List.getElem?_cons_zero]; rfl) (by first | rfl | (rw [hops.out]; rfl)) ?_
  go_simp
  refine (rsize_any q _ H64.out).mono ?_
  rintro e w6 ⟨v6, rfl, hown, hb6⟩
  have HX6 := Lib.hid (thx9 (HX.out.drew) hb6)
  have HS6 := Lib.hid (Hb1.out.drew.below hb6)
  have hsz := HB.string (P := Try.prog) (show HB w6 v6 (csize q) from HB.of_own hown) 22 9 5 Try.underlying22 Try.underlying5 Try.underlying9
  obtain ⟨A6, c6, rfl⟩ := own_slice hown
  clear hown hb6
  try (refine ⟨(by first | exact Hb1.out.drew | exact HS6.out), ?_⟩)
  refine wpPi_act (by rw [hops.out]; simp only [List.getElem?_toArray, List.getElem?_cons_succ, List.getElem?_cons_zero]; rfl) (by first | rfl | (rw [hops.out]; rfl)) ?_
  go_simp
  clear hsz
  try (refine ⟨(by first | exact Hb1.out.drew | exact HS6.out), ?_⟩)
  iterate 2
    first | (refine wpPi_yield _ (by rw [hops.out]; simp only [List.getElem?_toArray, List.getElem?_cons_succ, List.getElem?_cons_zero]; rfl) (by first | rfl | (rw [hops.out]; rfl)) (fun w' hS => by have hsw := HB.string (P := Try.prog) (cut_at hS i kk HK.out) 22 9 5 Try.underlying22 Try.underlying5 Try.underlying9; go_simp; rfl) ?_; simp only [Act.put, List.setIfInBounds_toArray, List.set_cons_succ, List.set_cons_zero]) | (refine wpPi_skip (by rw [hops.out]; simp only [List.getElem?_toArray, List.getElem?_cons_succ, List.getElem?_cons_zero]; rfl) (by first | rfl | (rw [hops.out]; rfl)) ?_; simp only [Act.put, List.setIfInBounds_toArray, List.set_cons_succ, List.set_cons_zero])
  simp only [wpPi]
  go_wp2_with fail
  go_ret3
  exact ⟨rfl, HX6.out⟩
set_option maxHeartbeats 1000000 in
set_option maxRecDepth 100000 in
theorem rgs_t_ne (b : Value) (zs : List UInt8) (i : Nat) (w : World) (hb : HB w b zs) (hl : zs.length ≤ 20000) (x : UInt8) (hi : zs[i]? = some x) (b253 : ((x.toNat : Int) == 253) = true) (hk : i + 3 ≤ zs.length) (hq : csize (leNum ((zs.drop (i + 1)).take 2)) ≠ (zs.drop i).take 3) :
    Calls Try.prog 75 #[b, .int .i64 (i : Int)] w fun e w' => e = .returned (.tuple #[.int .u64 0, .int .i64 (i : Int), .int .i64 10]) ∧ Below w.heap.size w w' := by
  have Hb := Lib.hid hb
  obtain ⟨A, c, rfl, hlc⟩ := hb.shape
  clear hb
  obtain ⟨hil, hix⟩ := List.getElem?_eq_some_iff.1 hi
  obtain ⟨a, rfl, hca⟩ := Hb.out.at_ hil hil
  rw [hix] at hca
  clear hix hi
  have h64 := leNum_64 ((zs.drop (i + 1)).take 2) (by simp; omega)
  obtain ⟨q, hqq⟩ : ∃ q, leNum ((zs.drop (i + 1)).take 2) = q := ⟨_, rfl⟩
  rw [hqq] at h64 hq
  try rw [hqq]
  obtain ⟨kk, hkk⟩ : ∃ kk : Nat, 3 = kk := ⟨_, rfl⟩
  rw [hkk] at hk hq
  try rw [hkk]
  have hs := run_cut_lh 22 5 Try.underlying22 size5 (some a) zs.length c i (i + kk) (by omega) hk hlc
  rw [Nat.add_sub_cancel_left, Int.natCast_add] at hs
  have HQQ := Lib.hid hqq; have HQ := Lib.hid hq; have H64 := Lib.hid h64; have HK := Lib.hid hk
  have HKK := Lib.hid hkk
  clear hqq hq h64 hkk
  try rw [Int.natCast_add]
  go_enter Try.func75, Try.ntmps75
  go_wp2_with fail
  refine (rgetfix_ok _ zs (i + 1) 2 w Hb.out hl rfl (by have := HK.out; have := HKK.out; omega)).mono ?_
  rw [HQQ.out, show i + 1 + 2 = i + 3 from rfl, HKK.out]
  simp only [Int.natCast_add]
  rintro e w1 ⟨rfl, hb1⟩
  have HX := Lib.hid hb1; have Hb1 := Lib.hid (Hb.out.below hb1)
  have hto : IntKind.i64.wrap ((i : Int) + (kk : Int)) = ((i : Int) + (kk : Int)) := by rw [IntKind.wrap_i64]; have := HK.out; omega
  clear hb1
  go_wp2_with fail
  have hse := strq_ne HQ.out
  refine wp_region_pi [(0, true), (1, true), (2, true), (3, true), (6, true), (7, true), (8, true), (9, true), (10, true), (4, false), (5, false), (11, true), (12, true)] (by kernel_rfl) (by kernel_rfl) rfl (by kernel_rfl) (fun _ _ _ _ _ h => h) (fun w6 => HB w6 (.slice (some a) zs.length c) zs) Hb1.out.drew ?_
  intro OPS hops
  iterate 9
    first | (refine wpPi_yield _ (by rw [hops.out]; simp only [List.getElem?_toArray, List.getElem?_cons_succ, List.getElem?_cons_zero]; rfl) (by first | rfl | (rw [hops.out]; rfl)) (fun w' hS => by have hsw := HB.string (P := Try.prog) (cut_at hS i kk HK.out) 22 9 5 Try.underlying22 Try.underlying5 Try.underlying9; go_simp; rfl) ?_; simp only [Act.put, List.setIfInBounds_toArray, List.set_cons_succ, List.set_cons_zero]) | (refine wpPi_skip (by rw [hops.out]; simp only [List.getElem?_toArray, List.getElem?_cons_succ, List.getElem?_cons_zero]; rfl) (by first | rfl | (rw [hops.out]; rfl)) ?_; simp only [Act.put, List.setIfInBounds_toArray, List.set_cons_succ, List.set_cons_zero])
  refine wpPi_act (by rw [hops.out]; simp only [List.getElem?_toArray, List.getElem?_cons_succ, List.getElem?_cons_zero]; rfl) (by first | rfl | (rw [hops.out]; rfl)) ?_
  go_simp
  refine (rsize_any q _ H64.out).mono ?_
  rintro e w6 ⟨v6, rfl, hown, hb6⟩
  have HX6 := Lib.hid (thx9 (HX.out.drew) hb6)
  have HS6 := Lib.hid (Hb1.out.drew.below hb6)
  have hsz := HB.string (P := Try.prog) (show HB w6 v6 (csize q) from HB.of_own hown) 22 9 5 Try.underlying22 Try.underlying5 Try.underlying9
  obtain ⟨A6, c6, rfl⟩ := own_slice hown
  clear hown hb6
  try (refine ⟨(by first | exact Hb1.out.drew | exact HS6.out), ?_⟩)
  refine wpPi_act (by rw [hops.out]; simp only [List.getElem?_toArray, List.getElem?_cons_succ, List.getElem?_cons_zero]; rfl) (by first | rfl | (rw [hops.out]; rfl)) ?_
  go_simp
  clear hsz
  try (refine ⟨(by first | exact Hb1.out.drew | exact HS6.out), ?_⟩)
  iterate 2
    first | (refine wpPi_yield _ (by rw [hops.out]; simp only [List.getElem?_toArray, List.getElem?_cons_succ, List.getElem?_cons_zero]; rfl) (by first | rfl | (rw [hops.out]; rfl)) (fun w' hS => by have hsw := HB.string (P := Try.prog) (cut_at hS i kk HK.out) 22 9 5 Try.underlying22 Try.underlying5 Try.underlying9; go_simp; rfl) ?_; simp only [Act.put, List.setIfInBounds_toArray, List.set_cons_succ, List.set_cons_zero]) | (refine wpPi_skip (by rw [hops.out]; simp only [List.getElem?_toArray, List.getElem?_cons_succ, List.getElem?_cons_zero]; rfl) (by first | rfl | (rw [hops.out]; rfl)) ?_; simp only [Act.put, List.setIfInBounds_toArray, List.set_cons_succ, List.set_cons_zero])
  simp only [wpPi]
  go_wp2_with fail
  go_ret3
  exact ⟨rfl, HX6.out⟩
set_option maxHeartbeats 1000000 in
set_option maxRecDepth 100000 in
theorem rgs_t_sh (b : Value) (zs : List UInt8) (i : Nat) (w : World) (hb : HB w b zs) (hl : zs.length ≤ 20000) (x : UInt8) (hi : zs[i]? = some x) (b253 : ((x.toNat : Int) == 253) = true) (hk : zs.length < i + 3) :
    Calls Try.prog 75 #[b, .int .i64 (i : Int)] w fun e w' => e = .returned (.tuple #[.int .u64 0, .int .i64 (i : Int), .int .i64 10]) ∧ Below w.heap.size w w' := by
  have Hb := Lib.hid hb
  obtain ⟨A, c, rfl, hlc⟩ := hb.shape
  clear hb
  obtain ⟨hil, hix⟩ := List.getElem?_eq_some_iff.1 hi
  obtain ⟨a, rfl, hca⟩ := Hb.out.at_ hil hil
  rw [hix] at hca
  clear hix hi
  go_enter Try.func75, Try.ntmps75
  go_wp2_with fail
  refine (rgetfix_bad _ zs (i + 1) 2 w Hb.out hl (by omega) (by rw [efixE, if_neg (by decide), if_pos (by omega)]; decide)).mono ?_
  rw [show efixE 2 (zs.length - (i + 1)) = 10 by rw [efixE, if_neg (by decide), if_pos (by omega)]]
  rintro e w1 ⟨rfl, rfl⟩
  go_wp2_with fail
  refine wp_region_pi [(0, true), (1, true), (2, true), (3, true), (6, true), (7, true), (8, true), (9, true), (10, true), (4, false), (5, false), (11, true), (12, true)] (by kernel_rfl) (by kernel_rfl) rfl (by kernel_rfl) (fun _ _ _ _ _ h => h) (fun w6 => w6 = w.drew) rfl ?_
  intro OPS hops
  iterate 9
    first | (refine wpPi_yield _ (by rw [hops.out]; simp only [List.getElem?_toArray, List.getElem?_cons_succ, List.getElem?_cons_zero]; rfl) (by first | rfl | (rw [hops.out]; rfl)) (fun w' hS => by subst hS; go_simp; rfl) ?_; simp only [Act.put, List.setIfInBounds_toArray, List.set_cons_succ, List.set_cons_zero]) | (refine wpPi_skip (by rw [hops.out]; simp only [List.getElem?_toArray, List.getElem?_cons_succ, List.getElem?_cons_zero]; rfl) (by first | rfl | (rw [hops.out]; rfl)) ?_; simp only [Act.put, List.setIfInBounds_toArray, List.set_cons_succ, List.set_cons_zero])
  refine wpPi_actSkip (by rw [hops.out]; simp only [List.getElem?_toArray, List.getElem?_cons_succ, List.getElem?_cons_zero]; rfl) (by first | rfl | (rw [hops.out]; rfl)) ?_ ?_
  · rfl
  simp only [Act.put, List.setIfInBounds_toArray, List.set_cons_succ, List.set_cons_zero]
  refine wpPi_actSkip (by rw [hops.out]; simp only [List.getElem?_toArray, List.getElem?_cons_succ, List.getElem?_cons_zero]; rfl) (by first | rfl | (rw [hops.out]; rfl)) ?_ ?_
  · rfl
  simp only [Act.put, List.setIfInBounds_toArray, List.set_cons_succ, List.set_cons_zero]
  iterate 2
    first | (refine wpPi_yield _ (by rw [hops.out]; simp only [List.getElem?_toArray, List.getElem?_cons_succ, List.getElem?_cons_zero]; rfl) (by first | rfl | (rw [hops.out]; rfl)) (fun w' hS => by subst hS; go_simp; rfl) ?_; simp only [Act.put, List.setIfInBounds_toArray, List.set_cons_succ, List.set_cons_zero]) | (refine wpPi_skip (by rw [hops.out]; simp only [List.getElem?_toArray, List.getElem?_cons_succ, List.getElem?_cons_zero]; rfl) (by first | rfl | (rw [hops.out]; rfl)) ?_; simp only [Act.put, List.setIfInBounds_toArray, List.set_cons_succ, List.set_cons_zero])
  simp only [wpPi]
  go_wp2_with fail
  go_ret3
  exact ⟨rfl, (Below.refl _ _).drew⟩
set_option maxHeartbeats 1000000 in
set_option maxRecDepth 100000 in
theorem rgs_f_eq (b : Value) (zs : List UInt8) (i : Nat) (w : World) (hb : HB w b zs) (hl : zs.length ≤ 20000) (x : UInt8) (hi : zs[i]? = some x) (b253 : ((x.toNat : Int) == 253) = false) (b254 : ((x.toNat : Int) == 254) = true) (hk : i + 5 ≤ zs.length) (hq : csize (leNum ((zs.drop (i + 1)).take 4)) = (zs.drop i).take 5) :
    Calls Try.prog 75 #[b, .int .i64 (i : Int)] w fun e w' => e = .returned (.tuple #[.int .u64 (leNum ((zs.drop (i + 1)).take 4) : Nat), .int .i64 ((i + 5 : Nat) : Int), .int .i64 0]) ∧ Below w.heap.size w w' := by
  have Hb := Lib.hid hb
  obtain ⟨A, c, rfl, hlc⟩ := hb.shape
  clear hb
  obtain ⟨hil, hix⟩ := List.getElem?_eq_some_iff.1 hi
  obtain ⟨a, rfl, hca⟩ := Hb.out.at_ hil hil
  rw [hix] at hca
  clear hix hi
  have h64 := leNum_64 ((zs.drop (i + 1)).take 4) (by simp; omega)
  obtain ⟨q, hqq⟩ : ∃ q, leNum ((zs.drop (i + 1)).take 4) = q := ⟨_, rfl⟩
  rw [hqq] at h64 hq
  try rw [hqq]
  obtain ⟨kk, hkk⟩ : ∃ kk : Nat, 5 = kk := ⟨_, rfl⟩
  rw [hkk] at hk hq
  try rw [hkk]
  have hs := run_cut_lh 22 5 Try.underlying22 size5 (some a) zs.length c i (i + kk) (by omega) hk hlc
  rw [Nat.add_sub_cancel_left, Int.natCast_add] at hs
  have HQQ := Lib.hid hqq; have HQ := Lib.hid hq; have H64 := Lib.hid h64; have HK := Lib.hid hk
  have HKK := Lib.hid hkk
  clear hqq hq h64 hkk
  try rw [Int.natCast_add]
  go_enter Try.func75, Try.ntmps75
  go_wp2_with fail
  refine (rgetfix_ok _ zs (i + 1) 4 w Hb.out hl rfl (by have := HK.out; have := HKK.out; omega)).mono ?_
  rw [HQQ.out, show i + 1 + 4 = i + 5 from rfl, HKK.out]
  simp only [Int.natCast_add]
  rintro e w1 ⟨rfl, hb1⟩
  have HX := Lib.hid hb1; have Hb1 := Lib.hid (Hb.out.below hb1)
  have hto : IntKind.i64.wrap ((i : Int) + (kk : Int)) = ((i : Int) + (kk : Int)) := by rw [IntKind.wrap_i64]; have := HK.out; omega
  clear hb1
  go_wp2_with fail
  have hse := strq_eq HQ.out
  refine wp_region_pi [(0, true), (1, true), (2, true), (3, true), (6, true), (7, true), (8, true), (9, true), (10, true), (4, false), (5, false), (11, true), (12, true)] (by kernel_rfl) (by kernel_rfl) rfl (by kernel_rfl) (fun _ _ _ _ _ h => h) (fun w6 => HB w6 (.slice (some a) zs.length c) zs) Hb1.out.drew ?_
  intro OPS hops
  iterate 9
    first | (refine wpPi_yield _ (by rw [hops.out]; simp only [List.getElem?_toArray, List.getElem?_cons_succ, List.getElem?_cons_zero]; rfl) (by first | rfl | (rw [hops.out]; rfl)) (fun w' hS => by have hsw := HB.string (P := Try.prog) (cut_at hS i kk HK.out) 22 9 5 Try.underlying22 Try.underlying5 Try.underlying9; go_simp; rfl) ?_; simp only [Act.put, List.setIfInBounds_toArray, List.set_cons_succ, List.set_cons_zero]) | (refine wpPi_skip (by rw [hops.out]; simp only [List.getElem?_toArray, List.getElem?_cons_succ, List.getElem?_cons_zero]; rfl) (by first | rfl | (rw [hops.out]; rfl)) ?_; simp only [Act.put, List.setIfInBounds_toArray, List.set_cons_succ, List.set_cons_zero])
  refine wpPi_act (by rw [hops.out]; simp only [List.getElem?_toArray, List.getElem?_cons_succ, List.getElem?_cons_zero]; rfl) (by first | rfl | (rw [hops.out]; rfl)) ?_
  go_simp
  refine (rsize_any q _ H64.out).mono ?_
  rintro e w6 ⟨v6, rfl, hown, hb6⟩
  have HX6 := Lib.hid (thx9 (HX.out.drew) hb6)
  have HS6 := Lib.hid (Hb1.out.drew.below hb6)
  have hsz := HB.string (P := Try.prog) (show HB w6 v6 (csize q) from HB.of_own hown) 22 9 5 Try.underlying22 Try.underlying5 Try.underlying9
  obtain ⟨A6, c6, rfl⟩ := own_slice hown
  clear hown hb6
  try (refine ⟨(by first | exact Hb1.out.drew | exact HS6.out), ?_⟩)
  refine wpPi_act (by rw [hops.out]; simp only [List.getElem?_toArray, List.getElem?_cons_succ, List.getElem?_cons_zero]; rfl) (by first | rfl | (rw [hops.out]; rfl)) ?_
  go_simp
  clear hsz
  try (refine ⟨(by first | exact Hb1.out.drew | exact HS6.out), ?_⟩)
  iterate 2
    first | (refine wpPi_yield _ (by rw [hops.out]; simp only [List.getElem?_toArray, List.getElem?_cons_succ, List.getElem?_cons_zero]; rfl) (by first | rfl | (rw [hops.out]; rfl)) (fun w' hS => by have hsw := HB.string (P := Try.prog) (cut_at hS i kk HK.out) 22 9 5 Try.underlying22 Try.underlying5 Try.underlying9; go_simp; rfl) ?_; simp only [Act.put, List.setIfInBounds_toArray, List.set_cons_succ, List.set_cons_zero]) | (refine wpPi_skip (by rw [hops.out]; simp only [List.getElem?_toArray, List.getElem?_cons_succ, List.getElem?_cons_zero]; rfl) (by first | rfl | (rw [hops.out]; rfl)) ?_; simp only [Act.put, List.setIfInBounds_toArray, List.set_cons_succ, List.set_cons_zero])
  simp only [wpPi]
  go_wp2_with fail
  go_ret3
  exact ⟨rfl, HX6.out⟩
set_option maxHeartbeats 1000000 in
set_option maxRecDepth 100000 in
theorem rgs_f_ne (b : Value) (zs : List UInt8) (i : Nat) (w : World) (hb : HB w b zs) (hl : zs.length ≤ 20000) (x : UInt8) (hi : zs[i]? = some x) (b253 : ((x.toNat : Int) == 253) = false) (b254 : ((x.toNat : Int) == 254) = true) (hk : i + 5 ≤ zs.length) (hq : csize (leNum ((zs.drop (i + 1)).take 4)) ≠ (zs.drop i).take 5) :
    Calls Try.prog 75 #[b, .int .i64 (i : Int)] w fun e w' => e = .returned (.tuple #[.int .u64 0, .int .i64 (i : Int), .int .i64 10]) ∧ Below w.heap.size w w' := by
  have Hb := Lib.hid hb
  obtain ⟨A, c, rfl, hlc⟩ := hb.shape
  clear hb
  obtain ⟨hil, hix⟩ := List.getElem?_eq_some_iff.1 hi
  obtain ⟨a, rfl, hca⟩ := Hb.out.at_ hil hil
  rw [hix] at hca
  clear hix hi
  have h64 := leNum_64 ((zs.drop (i + 1)).take 4) (by simp; omega)
  obtain ⟨q, hqq⟩ : ∃ q, leNum ((zs.drop (i + 1)).take 4) = q := ⟨_, rfl⟩
  rw [hqq] at h64 hq
  try rw [hqq]
  obtain ⟨kk, hkk⟩ : ∃ kk : Nat, 5 = kk := ⟨_, rfl⟩
  rw [hkk] at hk hq
  try rw [hkk]
  have hs := run_cut_lh 22 5 Try.underlying22 size5 (some a) zs.length c i (i + kk) (by omega) hk hlc
  rw [Nat.add_sub_cancel_left, Int.natCast_add] at hs
  have HQQ := Lib.hid hqq; have HQ := Lib.hid hq; have H64 := Lib.hid h64; have HK := Lib.hid hk
  have HKK := Lib.hid hkk
  clear hqq hq h64 hkk
  try rw [Int.natCast_add]
  go_enter Try.func75, Try.ntmps75
  go_wp2_with fail
  refine (rgetfix_ok _ zs (i + 1) 4 w Hb.out hl rfl (by have := HK.out; have := HKK.out; omega)).mono ?_
  rw [HQQ.out, show i + 1 + 4 = i + 5 from rfl, HKK.out]
  simp only [Int.natCast_add]
  rintro e w1 ⟨rfl, hb1⟩
  have HX := Lib.hid hb1; have Hb1 := Lib.hid (Hb.out.below hb1)
  have hto : IntKind.i64.wrap ((i : Int) + (kk : Int)) = ((i : Int) + (kk : Int)) := by rw [IntKind.wrap_i64]; have := HK.out; omega
  clear hb1
  go_wp2_with fail
  have hse := strq_ne HQ.out
  refine wp_region_pi [(0, true), (1, true), (2, true), (3, true), (6, true), (7, true), (8, true), (9, true), (10, true), (4, false), (5, false), (11, true), (12, true)] (by kernel_rfl) (by kernel_rfl) rfl (by kernel_rfl) (fun _ _ _ _ _ h => h) (fun w6 => HB w6 (.slice (some a) zs.length c) zs) Hb1.out.drew ?_
  intro OPS hops
  iterate 9
    first | (refine wpPi_yield _ (by rw [hops.out]; simp only [List.getElem?_toArray, List.getElem?_cons_succ, List.getElem?_cons_zero]; rfl) (by first | rfl | (rw [hops.out]; rfl)) (fun w' hS => by have hsw := HB.string (P := Try.prog) (cut_at hS i kk HK.out) 22 9 5 Try.underlying22 Try.underlying5 Try.underlying9; go_simp; rfl) ?_; simp only [Act.put, List.setIfInBounds_toArray, List.set_cons_succ, List.set_cons_zero]) | (refine wpPi_skip (by rw [hops.out]; simp only [List.getElem?_toArray, List.getElem?_cons_succ, List.getElem?_cons_zero]; rfl) (by first | rfl | (rw [hops.out]; rfl)) ?_; simp only [Act.put, List.setIfInBounds_toArray, List.set_cons_succ, List.set_cons_zero])
  refine wpPi_act (by rw [hops.out]; simp only [List.getElem?_toArray, List.getElem?_cons_succ, List.getElem?_cons_zero]; rfl) (by first | rfl | (rw [hops.out]; rfl)) ?_
  go_simp
  refine (rsize_any q _ H64.out).mono ?_
  rintro e w6 ⟨v6, rfl, hown, hb6⟩
  have HX6 := Lib.hid (thx9 (HX.out.drew) hb6)
  have HS6 := Lib.hid (Hb1.out.drew.below hb6)
  have hsz := HB.string (P := Try.prog) (show HB w6 v6 (csize q) from HB.of_own hown) 22 9 5 Try.underlying22 Try.underlying5 Try.underlying9
  obtain ⟨A6, c6, rfl⟩ := own_slice hown
  clear hown hb6
  try (refine ⟨(by first | exact Hb1.out.drew | exact HS6.out), ?_⟩)
  refine wpPi_act (by rw [hops.out]; simp only [List.getElem?_toArray, List.getElem?_cons_succ, List.getElem?_cons_zero]; rfl) (by first | rfl | (rw [hops.out]; rfl)) ?_
  go_simp
  clear hsz
  try (refine ⟨(by first | exact Hb1.out.drew | exact HS6.out), ?_⟩)
  iterate 2
    first | (refine wpPi_yield _ (by rw [hops.out]; simp only [List.getElem?_toArray, List.getElem?_cons_succ, List.getElem?_cons_zero]; rfl) (by first | rfl | (rw [hops.out]; rfl)) (fun w' hS => by have hsw := HB.string (P := Try.prog) (cut_at hS i kk HK.out) 22 9 5 Try.underlying22 Try.underlying5 Try.underlying9; go_simp; rfl) ?_; simp only [Act.put, List.setIfInBounds_toArray, List.set_cons_succ, List.set_cons_zero]) | (refine wpPi_skip (by rw [hops.out]; simp only [List.getElem?_toArray, List.getElem?_cons_succ, List.getElem?_cons_zero]; rfl) (by first | rfl | (rw [hops.out]; rfl)) ?_; simp only [Act.put, List.setIfInBounds_toArray, List.set_cons_succ, List.set_cons_zero])
  simp only [wpPi]
  go_wp2_with fail
  go_ret3
  exact ⟨rfl, HX6.out⟩
set_option maxHeartbeats 1000000 in
set_option maxRecDepth 100000 in
theorem rgs_f_sh (b : Value) (zs : List UInt8) (i : Nat) (w : World) (hb : HB w b zs) (hl : zs.length ≤ 20000) (x : UInt8) (hi : zs[i]? = some x) (b253 : ((x.toNat : Int) == 253) = false) (b254 : ((x.toNat : Int) == 254) = true) (hk : zs.length < i + 5) :
    Calls Try.prog 75 #[b, .int .i64 (i : Int)] w fun e w' => e = .returned (.tuple #[.int .u64 0, .int .i64 (i : Int), .int .i64 10]) ∧ Below w.heap.size w w' := by
  have Hb := Lib.hid hb
  obtain ⟨A, c, rfl, hlc⟩ := hb.shape
  clear hb
  obtain ⟨hil, hix⟩ := List.getElem?_eq_some_iff.1 hi
  obtain ⟨a, rfl, hca⟩ := Hb.out.at_ hil hil
  rw [hix] at hca
  clear hix hi
  go_enter Try.func75, Try.ntmps75
  go_wp2_with fail
  refine (rgetfix_bad _ zs (i + 1) 4 w Hb.out hl (by omega) (by rw [efixE, if_neg (by decide), if_pos (by omega)]; decide)).mono ?_
  rw [show efixE 4 (zs.length - (i + 1)) = 10 by rw [efixE, if_neg (by decide), if_pos (by omega)]]
  rintro e w1 ⟨rfl, rfl⟩
  go_wp2_with fail
  refine wp_region_pi [(0, true), (1, true), (2, true), (3, true), (6, true), (7, true), (8, true), (9, true), (10, true), (4, false), (5, false), (11, true), (12, true)] (by kernel_rfl) (by kernel_rfl) rfl (by kernel_rfl) (fun _ _ _ _ _ h => h) (fun w6 => w6 = w.drew) rfl ?_
  intro OPS hops
  iterate 9
    first | (refine wpPi_yield _ (by rw [hops.out]; simp only [List.getElem?_toArray, List.getElem?_cons_succ, List.getElem?_cons_zero]; rfl) (by first | rfl | (rw [hops.out]; rfl)) (fun w' hS => by subst hS; go_simp; rfl) ?_; simp only [Act.put, List.setIfInBounds_toArray, List.set_cons_succ, List.set_cons_zero]) | (refine wpPi_skip (by rw [hops.out]; simp only [List.getElem?_toArray, List.getElem?_cons_succ, List.getElem?_cons_zero]; rfl) (by first | rfl | (rw [hops.out]; rfl)) ?_; simp only [Act.put, List.setIfInBounds_toArray, List.set_cons_succ, List.set_cons_zero])
  refine wpPi_actSkip (by rw [hops.out]; simp only [List.getElem?_toArray, List.getElem?_cons_succ, List.getElem?_cons_zero]; rfl) (by first | rfl | (rw [hops.out]; rfl)) ?_ ?_
  · rfl
  simp only [Act.put, List.setIfInBounds_toArray, List.set_cons_succ, List.set_cons_zero]
  refine wpPi_actSkip (by rw [hops.out]; simp only [List.getElem?_toArray, List.getElem?_cons_succ, List.getElem?_cons_zero]; rfl) (by first | rfl | (rw [hops.out]; rfl)) ?_ ?_
  · rfl
  simp only [Act.put, List.setIfInBounds_toArray, List.set_cons_succ, List.set_cons_zero]
  iterate 2
    first | (refine wpPi_yield _ (by rw [hops.out]; simp only [List.getElem?_toArray, List.getElem?_cons_succ, List.getElem?_cons_zero]; rfl) (by first | rfl | (rw [hops.out]; rfl)) (fun w' hS => by subst hS; go_simp; rfl) ?_; simp only [Act.put, List.setIfInBounds_toArray, List.set_cons_succ, List.set_cons_zero]) | (refine wpPi_skip (by rw [hops.out]; simp only [List.getElem?_toArray, List.getElem?_cons_succ, List.getElem?_cons_zero]; rfl) (by first | rfl | (rw [hops.out]; rfl)) ?_; simp only [Act.put, List.setIfInBounds_toArray, List.set_cons_succ, List.set_cons_zero])
  simp only [wpPi]
  go_wp2_with fail
  go_ret3
  exact ⟨rfl, (Below.refl _ _).drew⟩
set_option maxHeartbeats 1000000 in
set_option maxRecDepth 100000 in
theorem rgs_e_eq (b : Value) (zs : List UInt8) (i : Nat) (w : World) (hb : HB w b zs) (hl : zs.length ≤ 20000) (x : UInt8) (hi : zs[i]? = some x) (b253 : ((x.toNat : Int) == 253) = false) (b254 : ((x.toNat : Int) == 254) = false) (b255 : ((x.toNat : Int) == 255) = true) (hk : i + 9 ≤ zs.length) (hq : csize (leNum ((zs.drop (i + 1)).take 8)) = (zs.drop i).take 9) :
    Calls Try.prog 75 #[b, .int .i64 (i : Int)] w fun e w' => e = .returned (.tuple #[.int .u64 (leNum ((zs.drop (i + 1)).take 8) : Nat), .int .i64 ((i + 9 : Nat) : Int), .int .i64 0]) ∧ Below w.heap.size w w' := by
  have Hb := Lib.hid hb
  obtain ⟨A, c, rfl, hlc⟩ := hb.shape
  clear hb
  obtain ⟨hil, hix⟩ := List.getElem?_eq_some_iff.1 hi
  obtain ⟨a, rfl, hca⟩ := Hb.out.at_ hil hil
  rw [hix] at hca
  clear hix hi
  have h64 := leNum_64 ((zs.drop (i + 1)).take 8) (by simp; omega)
  obtain ⟨q, hqq⟩ : ∃ q, leNum ((zs.drop (i + 1)).take 8) = q := ⟨_, rfl⟩
  rw [hqq] at h64 hq
  try rw [hqq]
  obtain ⟨kk, hkk⟩ : ∃ kk : Nat, 9 = kk := ⟨_, rfl⟩
  rw [hkk] at hk hq
  try rw [hkk]
  have hs := run_cut_lh 22 5 Try.underlying22 size5 (some a) zs.length c i (i + kk) (by omega) hk hlc
  rw [Nat.add_sub_cancel_left, Int.natCast_add] at hs
  have HQQ := Lib.hid hqq; have HQ := Lib.hid hq; have H64 := Lib.hid h64; have HK := Lib.hid hk
  have HKK := Lib.hid hkk
  clear hqq hq h64 hkk
  try rw [Int.natCast_add]
  go_enter Try.func75, Try.ntmps75
  go_wp2_with fail
  refine (rgetfix_ok _ zs (i + 1) 8 w Hb.out hl rfl (by have := HK.out; have := HKK.out; omega)).mono ?_
  rw [HQQ.out, show i + 1 + 8 = i + 9 from rfl, HKK.out]
  simp only [Int.natCast_add]
  rintro e w1 ⟨rfl, hb1⟩
  have HX := Lib.hid hb1; have Hb1 := Lib.hid (Hb.out.below hb1)
  have hto : IntKind.i64.wrap ((i : Int) + (kk : Int)) = ((i : Int) + (kk : Int)) := by rw [IntKind.wrap_i64]; have := HK.out; omega
  clear hb1
  go_wp2_with fail
  have hse := strq_eq HQ.out
  refine wp_region_pi [(0, true), (1, true), (2, true), (3, true), (6, true), (7, true), (8, true), (9, true), (10, true), (4, false), (5, false), (11, true), (12, true)] (by kernel_rfl) (by kernel_rfl) rfl (by kernel_rfl) (fun _ _ _ _ _ h => h) (fun w6 => HB w6 (.slice (some a) zs.length c) zs) Hb1.out.drew ?_
  intro OPS hops
  iterate 9
    first | (refine wpPi_yield _ (by rw [hops.out]; simp only [List.getElem?_toArray, List.getElem?_cons_succ, List.getElem?_cons_zero]; rfl) (by first | rfl | (rw [hops.out]; rfl)) (fun w' hS => by have hsw := HB.string (P := Try.prog) (cut_at hS i kk HK.out) 22 9 5 Try.underlying22 Try.underlying5 Try.underlying9; go_simp; rfl) ?_; simp only [Act.put, List.setIfInBounds_toArray, List.set_cons_succ, List.set_cons_zero]) | (refine wpPi_skip (by rw [hops.out]; simp only [List.getElem?_toArray, List.getElem?_cons_succ, List.getElem?_cons_zero]; rfl) (by first | rfl | (rw [hops.out]; rfl)) ?_; simp only [Act.put, List.setIfInBounds_toArray, List.set_cons_succ, List.set_cons_zero])
  refine wpPi_act (by rw [hops.out]; simp only [List.getElem?_toArray, List.getElem?_cons_succ, List.getElem?_cons_zero]; rfl) (by first | rfl | (rw [hops.out]; rfl)) ?_
  go_simp
  refine (rsize_any q _ H64.out).mono ?_
  rintro e w6 ⟨v6, rfl, hown, hb6⟩
  have HX6 := Lib.hid (thx9 (HX.out.drew) hb6)
  have HS6 := Lib.hid (Hb1.out.drew.below hb6)
  have hsz := HB.string (P := Try.prog) (show HB w6 v6 (csize q) from HB.of_own hown) 22 9 5 Try.underlying22 Try.underlying5 Try.underlying9
  obtain ⟨A6, c6, rfl⟩ := own_slice hown
  clear hown hb6
  try (refine ⟨(by first | exact Hb1.out.drew | exact HS6.out), ?_⟩)
  refine wpPi_act (by rw [hops.out]; simp only [List.getElem?_toArray, List.getElem?_cons_succ, List.getElem?_cons_zero]; rfl) (by first | rfl | (rw [hops.out]; rfl)) ?_
  go_simp
  clear hsz
  try (refine ⟨(by first | exact Hb1.out.drew | exact HS6.out), ?_⟩)
  iterate 2
    first | (refine wpPi_yield _ (by rw [hops.out]; simp only [List.getElem?_toArray, List.getElem?_cons_succ, List.getElem?_cons_zero]; rfl) (by first | rfl | (rw [hops.out]; rfl)) (fun w' hS => by have hsw := HB.string (P := Try.prog) (cut_at hS i kk HK.out) 22 9 5 Try.underlying22 Try.underlying5 Try.underlying9; go_simp; rfl) ?_; simp only [Act.put, List.setIfInBounds_toArray, List.set_cons_succ, List.set_cons_zero]) | (refine wpPi_skip (by rw [hops.out]; simp only [List.getElem?_toArray, List.getElem?_cons_succ, List.getElem?_cons_zero]; rfl) (by first | rfl | (rw [hops.out]; rfl)) ?_; simp only [Act.put, List.setIfInBounds_toArray, List.set_cons_succ, List.set_cons_zero])
  simp only [wpPi]
  go_wp2_with fail
  go_ret3
  exact ⟨rfl, HX6.out⟩
set_option maxHeartbeats 1000000 in
set_option maxRecDepth 100000 in
theorem rgs_e_ne (b : Value) (zs : List UInt8) (i : Nat) (w : World) (hb : HB w b zs) (hl : zs.length ≤ 20000) (x : UInt8) (hi : zs[i]? = some x) (b253 : ((x.toNat : Int) == 253) = false) (b254 : ((x.toNat : Int) == 254) = false) (b255 : ((x.toNat : Int) == 255) = true) (hk : i + 9 ≤ zs.length) (hq : csize (leNum ((zs.drop (i + 1)).take 8)) ≠ (zs.drop i).take 9) :
    Calls Try.prog 75 #[b, .int .i64 (i : Int)] w fun e w' => e = .returned (.tuple #[.int .u64 0, .int .i64 (i : Int), .int .i64 10]) ∧ Below w.heap.size w w' := by
  have Hb := Lib.hid hb
  obtain ⟨A, c, rfl, hlc⟩ := hb.shape
  clear hb
  obtain ⟨hil, hix⟩ := List.getElem?_eq_some_iff.1 hi
  obtain ⟨a, rfl, hca⟩ := Hb.out.at_ hil hil
  rw [hix] at hca
  clear hix hi
  have h64 := leNum_64 ((zs.drop (i + 1)).take 8) (by simp; omega)
  obtain ⟨q, hqq⟩ : ∃ q, leNum ((zs.drop (i + 1)).take 8) = q := ⟨_, rfl⟩
  rw [hqq] at h64 hq
  try rw [hqq]
  obtain ⟨kk, hkk⟩ : ∃ kk : Nat, 9 = kk := ⟨_, rfl⟩
  rw [hkk] at hk hq
  try rw [hkk]
  have hs := run_cut_lh 22 5 Try.underlying22 size5 (some a) zs.length c i (i + kk) (by omega) hk hlc
  rw [Nat.add_sub_cancel_left, Int.natCast_add] at hs
  have HQQ := Lib.hid hqq; have HQ := Lib.hid hq; have H64 := Lib.hid h64; have HK := Lib.hid hk
  have HKK := Lib.hid hkk
  clear hqq hq h64 hkk
  try rw [Int.natCast_add]
  go_enter Try.func75, Try.ntmps75
  go_wp2_with fail
  refine (rgetfix_ok _ zs (i + 1) 8 w Hb.out hl rfl (by have := HK.out; have := HKK.out; omega)).mono ?_
  rw [HQQ.out, show i + 1 + 8 = i + 9 from rfl, HKK.out]
  simp only [Int.natCast_add]
  rintro e w1 ⟨rfl, hb1⟩
  have HX := Lib.hid hb1; have Hb1 := Lib.hid (Hb.out.below hb1)
  have hto : IntKind.i64.wrap ((i : Int) + (kk : Int)) = ((i : Int) + (kk : Int)) := by rw [IntKind.wrap_i64]; have := HK.out; omega
  clear hb1
  go_wp2_with fail
  have hse := strq_ne HQ.out
  refine wp_region_pi [(0, true), (1, true), (2, true), (3, true), (6, true), (7, true), (8, true), (9, true), (10, true), (4, false), (5, false), (11, true), (12, true)] (by kernel_rfl) (by kernel_rfl) rfl (by kernel_rfl) (fun _ _ _ _ _ h => h) (fun w6 => HB w6 (.slice (some a) zs.length c) zs) Hb1.out.drew ?_
  intro OPS hops
  iterate 9
    first | (refine wpPi_yield _ (by rw [hops.out]; simp only [List.getElem?_toArray, List.getElem?_cons_succ, List.getElem?_cons_zero]; rfl) (by first | rfl | (rw [hops.out]; rfl)) (fun w' hS => by have hsw := HB.string (P := Try.prog) (cut_at hS i kk HK.out) 22 9 5 Try.underlying22 Try.underlying5 Try.underlying9; go_simp; rfl) ?_; simp only [Act.put, List.setIfInBounds_toArray, List.set_cons_succ, List.set_cons_zero]) | (refine wpPi_skip (by rw [hops.out]; simp only [List.getElem?_toArray, List.getElem?_cons_succ, List.getElem?_cons_zero]; rfl) (by first | rfl | (rw [hops.out]; rfl)) ?_; simp only [Act.put, List.setIfInBounds_toArray, List.set_cons_succ, List.set_cons_zero])
  refine wpPi_act (by rw [hops.out]; simp only [List.getElem?_toArray, List.getElem?_cons_succ, List.getElem?_cons_zero]; rfl) (by first | rfl | (rw [hops.out]; rfl)) ?_
  go_simp
  refine (rsize_any q _ H64.out).mono ?_
  rintro e w6 ⟨v6, rfl, hown, hb6⟩
  have HX6 := Lib.hid (thx9 (HX.out.drew) hb6)
  have HS6 := Lib.hid (Hb1.out.drew.below hb6)
  have hsz := HB.string (P := Try.prog) (show HB w6 v6 (csize q) from HB.of_own hown) 22 9 5 Try.underlying22 Try.underlying5 Try.underlying9
  obtain ⟨A6, c6, rfl⟩ := own_slice hown
  clear hown hb6
  try (refine ⟨(by first | exact Hb1.out.drew | exact HS6.out), ?_⟩)
  refine wpPi_act (by rw [hops.out]; simp only [List.getElem?_toArray, List.getElem?_cons_succ, List.getElem?_cons_zero]; rfl) (by first | rfl | (rw [hops.out]; rfl)) ?_
  go_simp
  clear hsz
  try (refine ⟨(by first | exact Hb1.out.drew | exact HS6.out), ?_⟩)
  iterate 2
    first | (refine wpPi_yield _ (by rw [hops.out]; simp only [List.getElem?_toArray, List.getElem?_cons_succ, List.getElem?_cons_zero]; rfl) (by first | rfl | (rw [hops.out]; rfl)) (fun w' hS => by have hsw := HB.string (P := Try.prog) (cut_at hS i kk HK.out) 22 9 5 Try.underlying22 Try.underlying5 Try.underlying9; go_simp; rfl) ?_; simp only [Act.put, List.setIfInBounds_toArray, List.set_cons_succ, List.set_cons_zero]) | (refine wpPi_skip (by rw [hops.out]; simp only [List.getElem?_toArray, List.getElem?_cons_succ, List.getElem?_cons_zero]; rfl) (by first | rfl | (rw [hops.out]; rfl)) ?_; simp only [Act.put, List.setIfInBounds_toArray, List.set_cons_succ, List.set_cons_zero])
  simp only [wpPi]
  go_wp2_with fail
  go_ret3
  exact ⟨rfl, HX6.out⟩
set_option maxHeartbeats 1000000 in
set_option maxRecDepth 100000 in
theorem rgs_e_sh (b : Value) (zs : List UInt8) (i : Nat) (w : World) (hb : HB w b zs) (hl : zs.length ≤ 20000) (x : UInt8) (hi : zs[i]? = some x) (b253 : ((x.toNat : Int) == 253) = false) (b254 : ((x.toNat : Int) == 254) = false) (b255 : ((x.toNat : Int) == 255) = true) (hk : zs.length < i + 9) :
    Calls Try.prog 75 #[b, .int .i64 (i : Int)] w fun e w' => e = .returned (.tuple #[.int .u64 0, .int .i64 (i : Int), .int .i64 10]) ∧ Below w.heap.size w w' := by
  have Hb := Lib.hid hb
  obtain ⟨A, c, rfl, hlc⟩ := hb.shape
  clear hb
  obtain ⟨hil, hix⟩ := List.getElem?_eq_some_iff.1 hi
  obtain ⟨a, rfl, hca⟩ := Hb.out.at_ hil hil
  rw [hix] at hca
  clear hix hi
  go_enter Try.func75, Try.ntmps75
  go_wp2_with fail
  refine (rgetfix_bad _ zs (i + 1) 8 w Hb.out hl (by omega) (by rw [efixE, if_neg (by decide), if_pos (by omega)]; decide)).mono ?_
  rw [show efixE 8 (zs.length - (i + 1)) = 10 by rw [efixE, if_neg (by decide), if_pos (by omega)]]
  rintro e w1 ⟨rfl, rfl⟩
  go_wp2_with fail
  refine wp_region_pi [(0, true), (1, true), (2, true), (3, true), (6, true), (7, true), (8, true), (9, true), (10, true), (4, false), (5, false), (11, true), (12, true)] (by kernel_rfl) (by kernel_rfl) rfl (by kernel_rfl) (fun _ _ _ _ _ h => h) (fun w6 => w6 = w.drew) rfl ?_
  intro OPS hops
  iterate 9
    first | (refine wpPi_yield _ (by rw [hops.out]; simp only [List.getElem?_toArray, List.getElem?_cons_succ, List.getElem?_cons_zero]; rfl) (by first | rfl | (rw [hops.out]; rfl)) (fun w' hS => by subst hS; go_simp; rfl) ?_; simp only [Act.put, List.setIfInBounds_toArray, List.set_cons_succ, List.set_cons_zero]) | (refine wpPi_skip (by rw [hops.out]; simp only [List.getElem?_toArray, List.getElem?_cons_succ, List.getElem?_cons_zero]; rfl) (by first | rfl | (rw [hops.out]; rfl)) ?_; simp only [Act.put, List.setIfInBounds_toArray, List.set_cons_succ, List.set_cons_zero])
  refine wpPi_actSkip (by rw [hops.out]; simp only [List.getElem?_toArray, List.getElem?_cons_succ, List.getElem?_cons_zero]; rfl) (by first | rfl | (rw [hops.out]; rfl)) ?_ ?_
  · rfl
  simp only [Act.put, List.setIfInBounds_toArray, List.set_cons_succ, List.set_cons_zero]
  refine wpPi_actSkip (by rw [hops.out]; simp only [List.getElem?_toArray, List.getElem?_cons_succ, List.getElem?_cons_zero]; rfl) (by first | rfl | (rw [hops.out]; rfl)) ?_ ?_
  · rfl
  simp only [Act.put, List.setIfInBounds_toArray, List.set_cons_succ, List.set_cons_zero]
  iterate 2
    first | (refine wpPi_yield _ (by rw [hops.out]; simp only [List.getElem?_toArray, List.getElem?_cons_succ, List.getElem?_cons_zero]; rfl) (by first | rfl | (rw [hops.out]; rfl)) (fun w' hS => by subst hS; go_simp; rfl) ?_; simp only [Act.put, List.setIfInBounds_toArray, List.set_cons_succ, List.set_cons_zero]) | (refine wpPi_skip (by rw [hops.out]; simp only [List.getElem?_toArray, List.getElem?_cons_succ, List.getElem?_cons_zero]; rfl) (by first | rfl | (rw [hops.out]; rfl)) ?_; simp only [Act.put, List.setIfInBounds_toArray, List.set_cons_succ, List.set_cons_zero])
  simp only [wpPi]
  go_wp2_with fail
  go_ret3
  exact ⟨rfl, (Below.refl _ _).drew⟩

end
section
open Go.RowKit Go.Proofs
def gszV (i : Nat) (o : Option (Nat × Nat)) : Value := match o with
  | some (n, k) => .tuple #[.int .u64 (n : Int), .int .i64 ((i + k : Nat) : Int), .int .i64 0]
  | none => .tuple #[.int .u64 0, .int .i64 (i : Int), .int .i64 10]
theorem getSize_iff (f : UInt8) (r : List UInt8) (m : Nat) (hf : ¬ f.toNat < 253) (hm : msz f = m) :
    (r.length < m → getSize (f :: r) = none) ∧ (m ≤ r.length → csize (leNum (r.take m)) = (f :: r).take (m + 1) → getSize (f :: r) = some (leNum (r.take m), m + 1)) ∧
    (csize (leNum (r.take m)) ≠ (f :: r).take (m + 1) → getSize (f :: r) = none) := by
  have hdef : getSize (f :: r) = if r.length < m then none else if compact (leNum (r.take m)) = m + 1 then some (leNum (r.take m), m + 1) else none := by rw [getSize, if_neg hf, hm]
  refine ⟨fun h => by rw [hdef, if_pos h], fun h hc => ?_, fun hc => ?_⟩
  · rw [hdef, if_neg (by omega), if_pos]
    rw [← csize_length, hc]
    simp; omega
  · cases hg : getSize (f :: r) with
    | none => rfl
    | some o =>
      obtain ⟨n, k⟩ := o
      have h1 := (getSize_csize hg).1
      rw [hdef] at hg
      split at hg
      · cases hg
      · split at hg
        · simp only [Option.some.injEq, Prod.mk.injEq] at hg
          obtain ⟨rfl, rfl⟩ := hg
          exact absurd h1 hc
        · cases hg
theorem own_ge {w : World} {base n : Nat} {e : TypeId} {size : Nat} {v : Value} {xs : List Value} (h : w.ownsRow base e size v n xs) {i : Nat} (hi : v.ownBlock = some i) : base ≤ i := by
  rcases h.2 with ⟨rfl, _⟩ | ⟨g, cap, cur, rfl, hb, _⟩
  · cases hi
  · injection hi with hi; subst hi; exact hb

attribute [local irreducible] Calls
set_option maxHeartbeats 1000000 in
set_option maxRecDepth 100000 in
theorem rgs_end (b : Value) (zs : List UInt8) (w : World) (hb : HB w b zs) (hl : zs.length ≤ 20000) :
    Calls Try.prog 75 #[b, .int .i64 (zs.length : Int)] w fun e w' => e = .returned (.tuple #[.int .u64 0, .int .i64 (zs.length : Int), .int .i64 10]) ∧ Below w.heap.size w w' := by
  obtain ⟨A, c, rfl, hlc⟩ := hb.shape
  clear hb
  go_enter Try.func75, Try.ntmps75
  go_wp2_with fail
  go_ret3
  exact ⟨rfl, Below.refl _ _⟩
theorem rgetsize_any (b : Value) (zs : List UInt8) (i : Nat) (w : World) (hb : HB w b zs) (hl : zs.length ≤ 20000) (hi : i ≤ zs.length) :
    Calls Try.prog 75 #[b, .int .i64 (i : Int)] w fun e w' => e = .returned (gszV i (getSize (zs.drop i))) ∧ Below w.heap.size w w' := by
  by_cases hil : i < zs.length
  · obtain ⟨f, hf⟩ : ∃ f, zs[i]? = some f := ⟨_, List.getElem?_eq_getElem hil⟩
    have hd : zs.drop i = f :: zs.drop (i + 1) := by
      rw [List.drop_eq_getElem_cons hil]; congr 1
      rw [List.getElem?_eq_getElem hil] at hf; exact Option.some.inj hf
    have hrl : (zs.drop (i + 1)).length = zs.length - (i + 1) := by simp
    have bq : ∀ (u : Nat), (((f.toNat : Int) == (u : Int)) = decide (f.toNat = u)) := fun u => by
      by_cases h : f.toNat = u
      · simp [h]
      · simp [h]; omega
    have b3 := bq 253
    have b4 := bq 254
    have b5 := bq 255
    by_cases h1 : f.toNat < 253
    · have hg : getSize (zs.drop i) = some (f.toNat, 1) := by rw [hd, getSize, if_pos h1]
      rw [hg, gszV]
      have hq : leNum ((zs.drop i).take 1) = f.toNat := by rw [hd]; simp [leNum]
      have := rgs_s_eq b zs i w hb hl f hf (b3.trans (by simp; omega)) (b4.trans (by simp; omega)) (b5.trans (by simp; omega)) (by omega) (by rw [hq, hd, csize, if_pos h1]; simp)
      rwa [hq] at this
    · by_cases e1 : f.toNat = 253
      · have hm : msz f = 2 := by rw [msz, if_pos e1]
        obtain ⟨g1, g2, g3⟩ := getSize_iff f (zs.drop (i + 1)) 2 h1 hm
        rw [← hd] at g1 g2 g3
        by_cases hs : zs.length < i + 3
        · rw [g1 (by omega), gszV]
          exact rgs_t_sh b zs i w hb hl f hf (b3.trans (by simp; omega)) hs
        · by_cases hq : csize (leNum ((zs.drop (i + 1)).take 2)) = (zs.drop i).take 3
          · rw [g2 (by omega) hq, gszV]
            exact rgs_t_eq b zs i w hb hl f hf (b3.trans (by simp; omega)) (by omega) hq
          · rw [g3 hq, gszV]
            exact rgs_t_ne b zs i w hb hl f hf (b3.trans (by simp; omega)) (by omega) hq
      · by_cases e2 : f.toNat = 254
        · have hm : msz f = 4 := by rw [msz, if_neg e1, if_pos e2]
          obtain ⟨g1, g2, g3⟩ := getSize_iff f (zs.drop (i + 1)) 4 h1 hm
          rw [← hd] at g1 g2 g3
          by_cases hs : zs.length < i + 5
          · rw [g1 (by omega), gszV]
            exact rgs_f_sh b zs i w hb hl f hf (b3.trans (by simp; omega)) (b4.trans (by simp; omega)) hs
          · by_cases hq : csize (leNum ((zs.drop (i + 1)).take 4)) = (zs.drop i).take 5
            · rw [g2 (by omega) hq, gszV]
              exact rgs_f_eq b zs i w hb hl f hf (b3.trans (by simp; omega)) (b4.trans (by simp; omega)) (by omega) hq
            · rw [g3 hq, gszV]
              exact rgs_f_ne b zs i w hb hl f hf (b3.trans (by simp; omega)) (b4.trans (by simp; omega)) (by omega) hq
        · have hm : msz f = 8 := by rw [msz, if_neg e1, if_neg e2]
          have hlt := f.toNat_lt
          obtain ⟨g1, g2, g3⟩ := getSize_iff f (zs.drop (i + 1)) 8 h1 hm
          rw [← hd] at g1 g2 g3
          by_cases hs : zs.length < i + 9
          · rw [g1 (by omega), gszV]
            exact rgs_e_sh b zs i w hb hl f hf (b3.trans (by simp; omega)) (b4.trans (by simp; omega)) (b5.trans (by simp; omega)) hs
          · by_cases hq : csize (leNum ((zs.drop (i + 1)).take 8)) = (zs.drop i).take 9
            · rw [g2 (by omega) hq, gszV]
              exact rgs_e_eq b zs i w hb hl f hf (b3.trans (by simp; omega)) (b4.trans (by simp; omega)) (b5.trans (by simp; omega)) (by omega) hq
            · rw [g3 hq, gszV]
              exact rgs_e_ne b zs i w hb hl f hf (b3.trans (by simp; omega)) (b4.trans (by simp; omega)) (b5.trans (by simp; omega)) (by omega) hq
  · obtain rfl : i = zs.length := by omega
    rw [List.drop_length, getSize, gszV]
    exact rgs_end b zs w hb hl
set_option maxHeartbeats 1000000 in
set_option maxRecDepth 100000 in
theorem rgetbytes_ok (b : Value) (zs : List UInt8) (i n k : Nat) (most : Int) (w : World) (hb : HB w b zs) (hl : zs.length ≤ 20000) (hg : getSize (zs.drop i) = some (n, k)) (h0 : 0 ≤ most) (hm : (n : Int) ≤ most) (hmo : most ≤ 9223372036854775807) (hk : i + k + n ≤ zs.length) :
    Calls Try.prog 56 #[b, .int .i64 (i : Int), .int .i64 most] w fun e w' => ∃ v', e = .returned (.tuple #[v', .int .i64 ((i + k + n : Nat) : Int), .int .i64 0]) ∧ w'.ownsRow w.heap.size 5 1 v' n (bs ((zs.drop (i + k)).take n)) ∧ Below w.heap.size w w' := by
  have Hb := Lib.hid hb
  obtain ⟨A, c, rfl, hlc⟩ := hb.shape
  clear hb
  have hgv : gszV i (getSize (zs.drop i)) = .tuple #[.int .u64 (n : Int), .int .i64 ((i + k : Nat) : Int), .int .i64 0] := by rw [hg, gszV]
  have HGV := Lib.hid hgv
  obtain ⟨j, hj⟩ : ∃ j, i + k = j := ⟨_, rfl⟩
  rw [hj] at hgv hk ⊢
  have HJ := Lib.hid hj
  have hil : i ≤ zs.length := by omega
  have HIL := Lib.hid hil
  have hlk : ((zs.drop j).take n).length = n := by simp; omega
  have hs := run_cut_lh 22 5 Try.underlying22 size5 A zs.length c j (j + n) (by omega) hk hlc
  rw [Nat.add_sub_cancel_left, Int.natCast_add] at hs
  rw [Int.natCast_add]
  have HC := Lib.hid (cut_at Hb.out j n hk)
  generalize hl2 : (zs.drop j).take n = l2 at *
  have HLK := Lib.hid hlk
  have w1 : IntKind.u64.wrap most = most := by rw [IntKind.wrap_u64]; omega
  have w2 : IntKind.u64.wrap ((zs.length : Int) - (j : Int)) = (zs.length : Int) - (j : Int) := by rw [IntKind.wrap_u64]; omega
  have w3 : IntKind.i64.wrap (n : Int) = (n : Int) := by rw [IntKind.wrap_i64]; omega
  have w4 : wrap64 ((zs.length : Int) - (j : Int)) = (zs.length : Int) - (j : Int) := by unfold wrap64; omega
  have c1 : ¬ most < 0 := by omega
  have c2 : ¬ most < (n : Int) := by omega
  have c3 : ¬ (zs.length : Int) - (j : Int) < (n : Int) := by omega
  clear hgv hg hj hlk hl2
  go_enter Try.func56, Try.ntmps56
  go_wp2_with fail
  refine (rgetsize_any _ zs i w Hb.out hl HIL.out).mono ?_
  rw [HGV.out, HJ.out]
  rintro e w1 ⟨rfl, hb1⟩
  have HX := Lib.hid hb1
  have HC1 := Lib.hid (HC.out.below hb1)
  clear hb1
  go_wp2_with fail
  refine (twin_any _ l2 _ HC1.out (by have := HLK.out; omega)).mono ?_
  rintro e w2 ⟨v2, rfl, hown, hb2⟩
  rw [HLK.out] at hown
  have HO := Lib.hid (own_base hown (b := w.heap.size) (fun k hk => Nat.le_trans HX.out.size (own_ge hown hk)))
  have HX2 := Lib.hid (thx9 HX.out hb2)
  obtain ⟨A1, c1, rfl⟩ := own_slice hown
  clear hown hb2
  go_wp2_with fail
  go_ret3
  exact ⟨_, rfl, HO.out, HX2.out⟩
set_option maxHeartbeats 1000000 in
set_option maxRecDepth 100000 in
theorem rgetbytes_none (b : Value) (zs : List UInt8) (i : Nat) (most : Int) (w : World) (hb : HB w b zs) (hl : zs.length ≤ 20000) (hi : i ≤ zs.length) (hg : getSize (zs.drop i) = none) :
    Calls Try.prog 56 #[b, .int .i64 (i : Int), .int .i64 most] w fun e w' => e = .returned (.tuple #[.slice none 0 0, .int .i64 (i : Int), .int .i64 10]) ∧ Below w.heap.size w w' := by
  have Hb := Lib.hid hb
  obtain ⟨A, c, rfl, hlc⟩ := hb.shape
  clear hb
  have HGV := Lib.hid (show gszV i (getSize (zs.drop i)) = .tuple #[.int .u64 0, .int .i64 (i : Int), .int .i64 10] by rw [hg, gszV])
  have HI := Lib.hid hi
  clear hg
  go_enter Try.func56, Try.ntmps56
  go_wp2_with fail
  refine (rgetsize_any _ zs i w Hb.out hl HI.out).mono ?_
  rw [HGV.out]
  rintro e w1 ⟨rfl, hb1⟩
  have HX := Lib.hid hb1
  clear hb1
  go_wp2_with fail
  go_ret3
  exact ⟨rfl, HX.out⟩
set_option maxHeartbeats 1000000 in
set_option maxRecDepth 100000 in
theorem rgetbytes_bad (b : Value) (zs : List UInt8) (i n k : Nat) (most : Int) (w : World) (hb : HB w b zs) (hl : zs.length ≤ 20000) (hi : i + k ≤ zs.length) (hg : getSize (zs.drop i) = some (n, k)) (hn : n < 18446744073709551616) (hmo : most ≤ 9223372036854775807) (hc : most < 0 ∨ most < (n : Int) ∨ zs.length - (i + k) < n) :
    Calls Try.prog 56 #[b, .int .i64 (i : Int), .int .i64 most] w fun e w' => e = .returned (.tuple #[.slice none 0 0, .int .i64 (i : Int), .int .i64 10]) ∧ Below w.heap.size w w' := by
  have Hb := Lib.hid hb
  obtain ⟨A, c, rfl, hlc⟩ := hb.shape
  clear hb
  have hgv : gszV i (getSize (zs.drop i)) = .tuple #[.int .u64 (n : Int), .int .i64 ((i + k : Nat) : Int), .int .i64 0] := by rw [hg, gszV]
  obtain ⟨j, hj⟩ : ∃ j, i + k = j := ⟨_, rfl⟩
  rw [hj] at hgv hi hc
  have HGV := Lib.hid hgv
  have HI := Lib.hid (show i ≤ zs.length by omega)
  have w2 : IntKind.u64.wrap ((zs.length : Int) - (j : Int)) = (zs.length : Int) - (j : Int) := by rw [IntKind.wrap_u64]; omega
  have w4 : wrap64 ((zs.length : Int) - (j : Int)) = (zs.length : Int) - (j : Int) := by unfold wrap64; omega
  by_cases c0 : most < 0
  · clear hgv hg hj hc
    go_enter Try.func56, Try.ntmps56
    go_wp2_with fail
    refine (rgetsize_any _ zs i w Hb.out hl HI.out).mono ?_
    rw [HGV.out]
    rintro e w1 ⟨rfl, hb1⟩
    have HX := Lib.hid hb1
    clear hb1
    go_wp2_with fail
    go_ret3
    exact ⟨rfl, HX.out⟩
  · have w1 : IntKind.u64.wrap most = most := by rw [IntKind.wrap_u64]; omega
    by_cases c2 : most < (n : Int)
    · clear hgv hg hj hc
      go_enter Try.func56, Try.ntmps56
      go_wp2_with fail
      refine (rgetsize_any _ zs i w Hb.out hl HI.out).mono ?_
      rw [HGV.out]
      rintro e w1 ⟨rfl, hb1⟩
      have HX := Lib.hid hb1
      clear hb1
      go_wp2_with fail
      go_ret3
      exact ⟨rfl, HX.out⟩
    · have c3 : (zs.length : Int) - (j : Int) < (n : Int) := by omega
      clear hgv hg hj hc
      go_enter Try.func56, Try.ntmps56
      go_wp2_with fail
      refine (rgetsize_any _ zs i w Hb.out hl HI.out).mono ?_
      rw [HGV.out]
      rintro e w1 ⟨rfl, hb1⟩
      have HX := Lib.hid hb1
      clear hb1
      go_wp2_with fail
      go_ret3
      exact ⟨rfl, HX.out⟩

end
section
open Go Go.RowKit Go.Proofs
attribute [local irreducible] Calls

theorem getb56 (b : Value) (zs : List UInt8) (w : World) (hb : HB w b zs) (hl : zs.length ≤ 20000) (h4 : 4 ≤ zs.length) :
    Calls Try.prog 56 #[b, .int .i64 4, .int .i64 2000] w fun e w' => ∃ v' p c, e = .returned (.tuple #[v', .int .i64 p, .int .i64 c]) ∧ New w w' (Row v' 5 1 (bytV (zs.drop 4)).length (bs (bytV (zs.drop 4)))) := by
  have bad : getBytes 2000 (zs.drop 4) = none → (Calls Try.prog 56 #[b, .int .i64 4, .int .i64 2000] w fun e w' => e = .returned (.tuple #[.slice none 0 0, .int .i64 4, .int .i64 10]) ∧ Below w.heap.size w w') → Calls Try.prog 56 #[b, .int .i64 4, .int .i64 2000] w fun e w' => ∃ v' p c, e = .returned (.tuple #[v', .int .i64 p, .int .i64 c]) ∧ New w w' (Row v' 5 1 (bytV (zs.drop 4)).length (bs (bytV (zs.drop 4)))) := fun hg hc => by
    refine hc.mono ?_
    rintro e w' ⟨rfl, hbl⟩
    unfold bytV
    rw [hg]
    exact ⟨_, _, _, rfl, ((St.start w).call hbl).nilRow.give 0 rfl⟩
  cases hg : getSize (zs.drop 4) with
  | none => exact bad (by unfold getBytes; rw [hg]) (rgetbytes_none b zs 4 2000 w hb hl h4 hg)
  | some q =>
    obtain ⟨n, k⟩ := q
    obtain ⟨k1, k9, kx, hn⟩ := getSize_some hg
    rw [List.length_drop] at kx
    by_cases hc : (2000 : Int) < (n : Int) ∨ zs.length - (4 + k) < n
    · refine bad ?_ (rgetbytes_bad b zs 4 n k 2000 w hb hl (by omega) hg hn (by omega) (.inr hc))
      unfold getBytes
      rw [hg]
      simp only
      rw [if_pos]
      rcases hc with hc | hc
      · exact .inr (.inl hc)
      · exact .inr (.inr (by rw [List.length_drop]; omega))
    · have e : getBytes 2000 (zs.drop 4) = some (((zs.drop 4).drop k).take n, k + n) := by
        unfold getBytes
        rw [hg]
        simp only
        rw [if_neg]
        rw [List.length_drop]
        omega
      refine (rgetbytes_ok b zs 4 n k 2000 w hb hl hg (by omega) (by omega) (by omega) (by omega)).mono ?_
      rintro e' w' ⟨v', rfl, ho, hbl⟩
      unfold bytV
      rw [e]
      have hl2 : (((zs.drop 4).drop k).take n).length = n := by
        rw [List.length_take, List.length_drop, List.length_drop]
        omega
      rw [List.drop_drop] at *
      exact ⟨v', _, _, rfl, New.row (by rw [hl2]; exact ho) hbl⟩
/-- The numbers at the beginning, so many. -/
def nums (R : List UInt8) (j : Nat) : List Value := (List.range j).map fun i => .int .u32 ((leNum ((R.drop (4 * i)).take 4) : Nat) : Int)
theorem nums_succ (R : List UInt8) (j : Nat) : nums R (j + 1) = nums R j ++ [.int .u32 ((leNum ((R.drop (4 * j)).take 4) : Nat) : Int)] := by
  unfold nums
  rw [List.range_succ, List.map_append]
  rfl
theorem hb_at {W : World} {a : Addr} {n c : Nat} {l : List UInt8} {i : Nat} {x : UInt8} (h : HB W (.slice (some a) n c) l) (hx : l[i]? = some x) : W.cell? (a.add i) = some (.int .u8 (x.toNat : Int)) := by
  obtain ⟨p, c', e, _, _, h2⟩ := h
  injection e with e1 _ _
  exact h2 a e1.symm i x hx
theorem hb_cap {W : World} {A : Option Addr} {n c : Nat} {l : List UInt8} (h : HB W (.slice A n c) l) : n ≤ c := by
  obtain ⟨p, c', e, h0, _⟩ := h
  injection e with _ e2 e3
  omega
theorem cut4 {W : World} {A : Option Addr} {n c j : Nat} {l : List UInt8} (h : HB W (.slice A n c) l) (hj : 4 * j + 4 ≤ n) : ∃ AQ cQ, (∀ W, (Instr.slice 22 (.slice A n c) (some (.int .i64 (4 * (j : Int)))) (some (.int .i64 (4 * (j : Int) + 4))) none).run Try.prog W = .ok (.slice AQ 4 cQ) W) ∧ ∀ W, HB W (.slice A n c) l → HB W (.slice AQ 4 cQ) ((l.drop (4 * j)).take 4) := by
  refine ⟨cutA A c (4 * j), c - 4 * j, fun W => ?_, fun W h => ?_⟩
  · have := run_cut_lh 22 5 Try.underlying22 size5 A n c (4 * j) (4 * j + 4) (by omega) hj (hb_cap h) W
    rw [show 4 * j + 4 - 4 * j = 4 by omega] at this
    rwa [show ((4 * j : Nat) : Int) = 4 * (j : Int) by push_cast; rfl, show ((4 * j + 4 : Nat) : Int) = 4 * (j : Int) + 4 by push_cast; rfl] at this
  · have := h.cut (a := 4 * j) (b := 4 * j + 4) (by omega) hj
    rwa [show 4 * j + 4 - 4 * j = 4 by omega] at this
theorem one_pt (tx : List UInt8) (n : Int) : ∀ v ∈ bs tx ++ [Value.int .u32 n], v.oneCell' = true := by
  intro v hv
  rcases List.mem_append.1 hv with hv | hv
  · exact all_bs _ v hv
  · simp at hv; subst hv; rfl
theorem bytV_len (l : List UInt8) : (bytV l).length ≤ 1000000 := by
  unfold bytV
  split
  · rename_i s m h
    obtain ⟨n, k, _, rfl, _, _, hm, _⟩ := getBytes_some h
    rw [List.length_take]
    omega
  · exact Nat.zero_le _
theorem nums_len (R : List UInt8) (j : Nat) : (nums R j).length = j := by simp [nums]
theorem nums_one (R : List UInt8) (j : Nat) : ∀ v ∈ nums R j, v.oneCell' = true := by
  intro v hv
  obtain ⟨x, _, rfl⟩ := List.mem_map.1 hv
  rfl
theorem nums_end {R : List UInt8} {j : Nat} (h2 : j ≤ 2) (h4 : 4 * j ≤ R.length) (he : j = 2 ∨ R.length < 4 * j + 4) : (nums R j ++ [.int .u32 0, .int .u32 0])[0]? = some (.int .u32 ((numV R : Nat) : Int)) ∧ (nums R j ++ [.int .u32 0, .int .u32 0])[1]? = some (.int .u32 ((numV (numL R) : Nat) : Int)) := by
  have hj : j = 0 ∨ j = 1 ∨ j = 2 := by omega
  rcases hj with rfl | rfl | rfl
  · have h : ¬ 4 ≤ R.length := by omega
    simp [nums, numV, numL, h]
  · have h : 4 ≤ R.length := by omega
    have h' : ¬ 4 ≤ R.length - 4 := by omega
    simp [nums, numV, numL, h, h', List.range_succ]
  · have h : 4 ≤ R.length := by omega
    have h' : 4 ≤ R.length - 4 := by omega
    simp [nums, numV, numL, h, h', List.range_succ]
theorem St.nilRowE {w0 W : World} {L : List Res} {Fs : List (World → Prop)} (hS : St w0 W L Fs) (E : TypeId) (s : Nat) : St w0 W (Row (.slice none 0 0) E s 0 [] :: L) Fs :=
  hS.new (Below.refl _ _) (World.ownsRow_nil _ _ _ _) (fun k hk => by simp [Row, Value.ownBlock] at hk)
theorem rowE_some {W : World} {v : Value} {E : TypeId} {n : Nat} {l : List Value} (h : (Row v E 1 n l).ok W) (h0 : 0 < n) : ∃ g c, v = .slice (some ⟨g, 0, none⟩) n c := by
  rcases h.2 with ⟨rfl, h1⟩ | ⟨g, cap, cur, rfl, _⟩
  · omega
  · exact ⟨g, cap, rfl⟩
theorem rowE_cell {W : World} {E : TypeId} {g n c : Nat} {l : List Value} (h : (Row (.slice (some ⟨g, 0, none⟩) n c) E 1 n l).ok W) {i : Nat} {x : Value} (hx : l[i]? = some x) : W.cell? ⟨g, i, none⟩ = some x := by
  have := h.cells (g := g) rfl i x hx
  unfold Addr.add at this
  split at this
  · rename_i h0; subst h0; exact this
  · simpa using this
theorem build54v (a0 a1 a2 a3 a4 a5 a6 a7 a8 a9 a10 a11 a12 a13 a14 a15 a16 a17 a18 a19 a20 a21 a22 a23 a24 a25 a26 a27 a28 a29 a30 a31 x : Value) (W : World) : (Instr.build 54 #[(0, .agg #[a0, a1, a2, a3, a4, a5, a6, a7, a8, a9, a10, a11, a12, a13, a14, a15, a16, a17, a18, a19, a20, a21, a22, a23, a24, a25, a26, a27, a28, a29, a30, a31]), (1, .int .u32 (intOf x))]).run Try.prog W = .ok (.agg #[a0, a1, a2, a3, a4, a5, a6, a7, a8, a9, a10, a11, a12, a13, a14, a15, a16, a17, a18, a19, a20, a21, a22, a23, a24, a25, a26, a27, a28, a29, a30, a31, .int .u32 (intOf x)]) W := by kernel_rfl
theorem build54 (tx : List UInt8) (n : Nat) (h : tx.length = 32) (W : World) : (Instr.build 54 #[(0, .agg (bs tx).toArray), (1, .int .u32 (n : Int))]).run Try.prog W = .ok (.agg (bs tx ++ [Value.int .u32 (n : Int)]).toArray) W := by
  match tx, h with
  | [a0, a1, a2, a3, a4, a5, a6, a7, a8, a9, a10, a11, a12, a13, a14, a15, a16, a17, a18, a19, a20, a21, a22, a23, a24, a25, a26, a27, a28, a29, a30, a31], _ => exact build54v _ _ _ _ _ _ _ _ _ _ _ _ _ _ _ _ _ _ _ _ _ _ _ _ _ _ _ _ _ _ _ _ (.int .u32 (n : Int)) W
theorem build52z (W : World) : (Instr.build 52 #[]).run Try.prog W = .ok (.agg (bs z32).toArray) W := by kernel_rfl
theorem run_b54 {W : World} {ev : Operand → Value} {o : Oper} {x y : Operand} {tx : List UInt8} {n : Nat} (ho : o.op = .build 54 #[(0, x), (1, y)]) (hx : ev x = .agg (bs tx).toArray) (hy : ev y = .int .u32 (n : Int)) (h : tx.length = 32) : (execOp ev o).run Try.prog W = .ok (.value (.agg (bs tx ++ [Value.int .u32 (n : Int)]).toArray)) W := by
  unfold execOp
  simp only [ho, List.map_toArray, List.map_cons, List.map_nil, hx, hy, Sem.run_bind, build54 tx n h W, Result.andThen_ok, Sem.run_pure]
theorem run_b52z {W : World} {ev : Operand → Value} {o : Oper} (ho : o.op = .build 52 #[]) : (execOp ev o).run Try.prog W = .ok (.value (.agg (bs z32).toArray)) W := by
  unfold execOp
  simp only [ho, List.map_toArray, List.map_nil, Sem.run_bind, build52z W, Result.andThen_ok, Sem.run_pure]
/-- A hash that is filled from the left. -/
def hfill (l : List UInt8) (i : Nat) : List UInt8 := l.take i ++ List.replicate (32 - i) 0
theorem hfill_len {l : List UInt8} {i : Nat} (h : 32 ≤ l.length) (hi : i ≤ 32) : (hfill l i).length = 32 := by
  unfold hfill
  rw [List.length_append, List.length_take, List.length_replicate]
  omega
theorem hfill_set {l : List UInt8} {i : Nat} (h : 32 ≤ l.length) (hi : i < 32) (x : UInt8) (hx : l[i]? = some x) : (bs (hfill l i)).set i (.int .u8 (x.toNat : Int)) = bs (hfill l (i + 1)) := by
  have hli : (l.take i).length = i := by rw [List.length_take]; omega
  unfold hfill
  rw [take_snoc l i x hx, show 32 - i = (32 - (i + 1)) + 1 by omega, List.replicate_succ]
  unfold bs
  rw [List.map_append, List.map_append, List.set_append_right _ _ (by rw [List.length_map, hli]; exact Nat.le_refl _), List.length_map, hli, Nat.sub_self]
  simp
theorem rcs_setHa (k : Int) (tx : List UInt8) (n h m : Nat) (sb ha bb : List UInt8) (s b v : Value) (i : Nat) (hi : i < 32) (hx : tx.length = 32) (hh : ha.length = 32) : (rcs ⟨k, tx, n, h, m, sb, ha, bb⟩ s b).set (37 + i) v = .int .i64 k :: (bs tx ++ (.int .u32 (n : Int) :: .int .u32 (h : Int) :: .int .u32 (m : Int) :: s :: ((bs ha).set i v ++ [b]))) := by
  rw [show 37 + i = 33 + (i + 1 + 1 + 1 + 1) by omega, rcs_tail k tx n h m sb ha bb s b _ v hx, List.set_cons_succ, List.set_cons_succ, List.set_cons_succ, List.set_cons_succ, List.set_append_left _ _ (by simp [hh]; exact hi)]
theorem rcs_fill {k : Int} {l : List UInt8} {i : Nat} (s b : Value) (h : 32 ≤ l.length) (hi : i < 32) (x : UInt8) (hx : l[i]? = some x) : (rcs ⟨k, z32, 0, 0, 0, [], hfill l i, []⟩ s b).set (37 + i) (.int .u8 (x.toNat : Int)) = rcs ⟨k, z32, 0, 0, 0, [], hfill l (i + 1), []⟩ s b := by
  rw [rcs_setHa k z32 0 0 0 [] (hfill l i) [] s b _ i hi rfl (hfill_len h (by omega)), hfill_set h hi x hx]
  rfl
theorem hfill_0 (l : List UInt8) : hfill l 0 = z32 := by simp [hfill, z32]
theorem hfill_32 {l : List UInt8} (h : 32 ≤ l.length) : hfill l 32 = hshV l := by
  unfold hfill hshV
  rw [if_pos h]
  simp
theorem numL_len (l : List UInt8) : (numL l).length ≤ l.length := by
  unfold numL
  split
  · rw [List.length_drop]; omega
  · exact Nat.le_refl _
theorem encQ_len3 {r : Req} {kb : UInt8} {l : List UInt8} (hr : r.ok) (he : encQ r = kb :: l) (hf : fldK (kb.toNat : Int) = 3 ∨ fldK (kb.toNat : Int) = 16) (hc : chkQ r = true) : 32 ≤ l.length := by
  have hq := congrArg Req.k (encQ_inj hr hc he)
  rw [rdF_k] at hq
  unfold encQ at he
  injection he with _ he
  rw [← hq] at hf
  have h1 := hr.tx; have h2 := hr.ha
  rw [← he]
  unfold encF
  rcases hf with hf | hf <;> rw [hf] <;> simp [h1, h2]
theorem encQ_len10 {r : Req} {kb : UInt8} {l : List UInt8} (hr : r.ok) (he : encQ r = kb :: l) (hf : fldK (kb.toNat : Int) = 10) (hc : chkQ r = true) : 4 ≤ l.length := by
  have hq := congrArg Req.k (encQ_inj hr hc he)
  rw [rdF_k] at hq
  unfold encQ at he
  injection he with _ he
  rw [← hq] at hf
  rw [← he]
  unfold encF
  rw [hf]
  simp [le_length]
end
section
open Go Go.RowKit Go.Proofs
attribute [local irreducible] Calls
set_option maxHeartbeats 2000000 in
set_option maxRecDepth 100000 in
theorem dec30a (ad : Addr) (N c M c1 : Nat) (A1 : Option Addr) (l : List UInt8) (w : World) (hv : HB w (.slice (some ad) N c) (1 :: l)) (hl : HB w (.slice A1 M c1) l) (hN : N = M + 1) (hM : l.length = M) (hM2 : M ≤ 5000) (hc0 : Away (Keys []) (fun W => W.cell? (ad.add 0) = some (.int .u8 1)) w) (hs1 : ∀ W, (Instr.slice 22 (.slice (some ad) N c) (some (.int .i64 1)) none none).run Try.prog W = .ok (.slice A1 M c1) W) :
    Calls Try.prog 30 #[.slice (some ad) N c] w fun e w' => ∃ r s b c, e = .returned (.tuple #[.agg (rcs r s b).toArray, .int .i64 c]) ∧ DecP (1 :: l) r c ∧ St w w' [Row s 5 1 r.sb.length (bs r.sb), Row b 5 1 r.bb.length (bs r.bb)] [] := by
  have z0 : ((N : Int) == 0) = false := beq_eq_false_iff_ne.2 (by omega)
  have z1 : (0 : Int) < (N : Int) := by omega
  have HS := Lib.hid (((((St.start w).addF hl.away0).addF hc0).addF hv.away0))
  have HM := Lib.hid hM
  have hrq : rdF (fldK (((1 : UInt8).toNat : Nat) : Int)) (((1 : UInt8).toNat : Nat) : Int) l = ⟨1, z32, 0, 0, 0, [], z32, l⟩ := rfl
  have HNO := Lib.hid (show (chkQ ⟨1, z32, 0, 0, 0, [], z32, l⟩ = true → encQ ⟨1, z32, 0, 0, 0, [], z32, l⟩ ≠ 1 :: l) → DecP (1 :: l) (zq 0) 290 from fun h => DecP.no fun r e hc => by rw [hrq] at e; subst e; exact h hc)
  clear hrq
  have HHV := Lib.hid (hshV_len l)
  have HRL := Lib.hid hM
  have hb1 := numV_lt l
  have hb8 := numV_lt (numL l)
  clear hv hl hM hN hc0
  go_enter Try.func30, Try.ntmps30
  go_wp2_with (first
    | (refine atd 2 (by rfl) ?_; refine wl (by rfl) (s_al (l := rcs (zq 0) (.slice none 0 0) (.slice none 0 0)) HS.out (by rfl) z56 (by rfl) ?_); intro b2 Wn hS; clear HS; have HS := Lib.hid hS; clear hS)
    | (refine atd 20 (by rfl) ?_; refine wl (by rfl) (wp_of_run (run_ld (v := .int .u8 1) (by kernel_rfl) (by rfl) (by rfl) (HS.out.fact (i := 1) rfl)) ?_))
    | (refine atd 22 (by rfl) ?_; refine wl (by rfl) (wp_of_run (run_b56 (k := 1) (by rfl) (by rfl)) ?_))
    | (refine atd 4 (by rfl) ?_; refine wl (by rfl) (s_al (l := rcs (zq 0) (.slice none 0 0) (.slice none 0 0)) HS.out (by rfl) z56 (by rfl) ?_); intro b4 Wn hS; clear HS; have HS := Lib.hid hS; clear hS)
    | (refine sto 4 (by rfl) ?_; refine wl (by rfl) (s_sta (cs := rcs (zq 1) (.slice none 0 0) (.slice none 0 0)) HS.out 0 70 (by rfl) (by rfl) (by rfl) ag56 (by rfl) (by exact rcs_length (zq_ok _) _ _) (by exact cells_rq _ rfl rfl) (by exact Nat.le_of_eq (rcs_length (zq_ok _) _ _).symm) ?_); intro Wn hS; rw [splice_all ((rcs_length (zq_ok _) _ _).trans (rcs_length (zq_ok _) _ _).symm)] at hS; have hS : St w Wn [Blk b4 (rcs ⟨1, z32, 0, 0, 0, [], z32, []⟩ (.slice none 0 0) (.slice none 0 0)) 56, Blk b2 (rcs (zq 0) (.slice none 0 0) (.slice none 0 0)) 56] _ := hS; clear HS; have HS := Lib.hid hS; clear hS)
    | (refine atd 26 (by rfl) ?_; refine wl (by rfl) (s_ld (v := .int .i64 1) HS.out 0 (by rfl) (by rfl) (by rfl) (by kernel_rfl) (by exact rcs_0 _ _) ?_))
    | (refine atd 30 (by rfl) ?_; refine wl (by rfl) (s_ld (v := .int .i64 1) HS.out 0 (by rfl) (by rfl) (by rfl) (by kernel_rfl) (by exact rcs_0 _ _) ?_))
    | (refine atd 35 (by rfl) ?_; refine wl (by rfl) (s_ld (v := .int .i64 1) HS.out 0 (by rfl) (by rfl) (by rfl) (by kernel_rfl) (by exact rcs_0 _ _) ?_))
    | (refine atd 40 (by rfl) ?_; refine wl (by rfl) (s_ld (v := .int .i64 1) HS.out 0 (by rfl) (by rfl) (by rfl) (by kernel_rfl) (by exact rcs_0 _ _) ?_)))
  go_loopw [7, 8] (fun s7 s8 wr => ∃ (j : Nat) (v7 : Value), j ≤ 2 ∧ 4 * j ≤ M ∧ s8 = .int .i64 ((4 * j : Nat) : Int) ∧ s7 = v7 ∧ St w wr [Row v7 48 1 j (nums l j), Blk b4 (rcs ⟨1, z32, 0, 0, 0, [], z32, []⟩ (.slice none 0 0) (.slice none 0 0)) 56, Blk b2 (rcs (zq 0) (.slice none 0 0) (.slice none 0 0)) 56] [fun W => HB W (.slice (some ad) N c) (1 :: l), fun W => W.cell? (ad.add 0) = some (.int .u8 1), fun W => HB W (.slice A1 M c1) l]) (fun _ s8 _ => 8 - (intOf s8).toNat)
  case atStart => exact ⟨0, _, by omega, by omega, rfl, rfl, HS.out.nilRowE 48 1⟩
  case round =>
    obtain ⟨j, v7, hj, hj4, rfl, rfl, hs⟩ := hrel
    clear HS
    have HS := Lib.hid hs
    clear hs
    by_cases hm : 4 * j + 4 ≤ M
    · have m1 : ((4 * j : Nat) : Int) + 4 ≤ (M : Int) := by omega
      have m1' : 4 * (j : Int) + 4 ≤ (M : Int) := by omega
      by_cases h2 : j < 2
      · have m2 : ((4 * j : Nat) : Int) < 8 := by omega
        have m2' : 4 * (j : Int) < 8 := by omega
        obtain ⟨AQ, cQ, hQs, hQ⟩ : ∃ AQ cQ, (∀ W, (Instr.slice 22 (.slice A1 M c1) (some (.int .i64 (4 * (j : Int)))) (some (.int .i64 (4 * (j : Int) + 4))) none).run Try.prog W = .ok (.slice AQ 4 cQ) W) ∧ ∀ W, HB W (.slice A1 M c1) l → HB W (.slice AQ 4 cQ) ((l.drop (4 * j)).take 4) := cut4 (HS.out.fact (i := 2) rfl) hm
        have HQ := Lib.hid hQ
        clear hQ
        have HQl := Lib.hid (show ((l.drop (4 * j)).take 4).length = 4 by rw [List.length_take, List.length_drop, HRL.out]; omega)
        have hn32 := leNum_32 _ HQl.out
        have HNS := Lib.hid (nums_succ l j)
        obtain ⟨n, hn⟩ : ∃ n, leNum ((l.drop (4 * j)).take 4) = n := ⟨_, rfl⟩
        rw [hn] at hn32 HNS
        have HNE := Lib.hid hn
        clear hn
        go_wp2_with (first
          | (go_at_call 38; refine (rnum_any _ _ _ (HQ.out _ (HS.out.fact (i := 2) rfl)) (by rw [HQl.out]; decide)).mono ?_; rw [HNE.out]; rintro e Wn ⟨rfl, hb⟩; have hS := HS.out.call hb; clear hb; clear HS; have HS := Lib.hid hS; clear hS)
          | (refine atd 79 (by rfl) ?_; refine wl (by rfl) (s_bs (E := 48) (z := (.int .u32 0)) HS.out 1 1 [.int .u32 (n : Int)] (by rfl) Try.underlying95 (by kernel_rfl) (by rfl) (by decide) (by decide) (by kernel_rfl) (by rfl) (by decide) ?_); intro b79 Wn hS; clear HS; have HS := Lib.hid hS; clear hS)
          | (refine atd 80 (by rfl) ?_; refine wl (by rfl) (s_rows (size := 1) (bytes := 4) (z := .int .u32 0) HS.out 1 0 (by rfl) Try.underlying95 (by kernel_rfl) (by rfl) (by decide) (by rfl) (by rfl) (by rfl) (by rfl) (by intro u hu; simp at hu; subst hu; rfl) (by omega) (by omega) ?_); intro v80 Wn hS; replace hS := hS.sub 0; clear HS; have HS := Lib.hid hS; clear hS))
        have hS := HS.out
        rw [show nums l j ++ [.int .u32 (n : Int)] = nums l (j + 1) from HNS.out.symm] at hS
        exact ⟨⟨j + 1, _, by omega, by omega, by push_cast; rfl, rfl, hS⟩, by simp [intOf]; omega⟩
      have m2 : ¬ ((4 * j : Nat) : Int) < 8 := by omega
      have m2' : ¬ 4 * (j : Int) < 8 := by omega
      have HNE := Lib.hid (nums_end (R := l) hj (by rw [HRL.out]; exact hj4) (by rw [HRL.out]; exact .inl (by omega)))
      have i07 : (0 : Int) < (j : Int) + 2 := by omega
      have i17 : (1 : Int) < (j : Int) + 2 := by omega
      go_wp2_with (first
        | (refine atd 82 (by rfl) ?_; refine wl (by rfl) (s_bs (E := 48) (z := (.int .u32 0)) HS.out 2 1 [.int .u32 0, .int .u32 0] (by rfl) Try.underlying95 (by kernel_rfl) (by rfl) (by decide) (by decide) (by kernel_rfl) (by rfl) (by decide) ?_); intro b82 Wn hS; clear HS; have HS := Lib.hid hS; clear hS)
        | (refine atd 83 (by rfl) ?_; refine wl (by rfl) (s_rows (size := 1) (bytes := 4) (z := .int .u32 0) HS.out 1 0 (by rfl) Try.underlying95 (by kernel_rfl) (by rfl) (by decide) (by rfl) (by rfl) (by rfl) (by rfl) (by intro u hu; simp at hu; rcases hu with rfl | rfl <;> rfl) (by omega) (by omega) ?_); intro v83 Wn hS; replace hS := hS.sub 0; clear HS; have HS := Lib.hid hS; clear hS; obtain ⟨g7, c7, rfl⟩ := rowE_some (HS.out.res (i := 0) rfl) (by omega))
        | (refine atd 85 (by rfl) ?_; refine wl (by rfl) (s_ld (v := .int .i64 1) HS.out 1 (by rfl) (by rfl) (by rfl) (by kernel_rfl) (by exact rcs_0 _ _) ?_))
        | (go_at_call 11; refine (twinN _ l _ (HS.out.fact (i := 2) rfl) (by rw [HM.out]; omega)).mono ?_; rintro e Wn ⟨v89, rfl, hb⟩; have hS := HS.out.take hb; clear hb; clear HS; have HS := Lib.hid hS; clear hS; obtain ⟨A89, c89, rfl⟩ := Row.sl (HS.out.res (i := 0) rfl))
        | (refine sto 90 (by rfl) ?_; refine wl (by rfl) (s_st (v := (.slice A89 l.length c89)) HS.out 2 (by rfl) (by rfl) (by rfl) (by kernel_rfl) (by rfl) (by rfl) (by rw [rcs_length (⟨rfl, rfl, Nat.zero_lt_succ _, Nat.zero_lt_succ _, Nat.zero_lt_succ _⟩ : Req.ok ⟨1, z32, 0, 0, 0, [], z32, []⟩)]; decide) ?_); intro Wn hS; rw [rcs_setB (hx := rfl) (hh := rfl) (bb' := l)] at hS; clear HS; have HS := Lib.hid hS; clear hS)
        | (refine atd 142 (by rfl) ?_; refine wl (by rfl) (s_lda (cs := rcs ⟨1, z32, 0, 0, 0, [], z32, l⟩ (.slice none 0 0) (.slice A89 l.length c89)) HS.out 2 70 (by rfl) (by rfl) (by rfl) ag56 (by exact rcs_all (⟨rfl, rfl, Nat.zero_lt_succ _, Nat.zero_lt_succ _, Nat.zero_lt_succ _⟩ : Req.ok ⟨1, z32, 0, 0, 0, [], z32, l⟩) _ _) (by exact rcs_length (⟨rfl, rfl, Nat.zero_lt_succ _, Nat.zero_lt_succ _, Nat.zero_lt_succ _⟩ : Req.ok ⟨1, z32, 0, 0, 0, [], z32, l⟩) _ _) ?_)))
      refine (enc28 ⟨1, z32, 0, 0, 0, [], z32, l⟩ (.slice none 0 0) (.slice A89 l.length c89) _ (⟨rfl, rfl, Nat.zero_lt_succ _, Nat.zero_lt_succ _, Nat.zero_lt_succ _⟩ : Req.ok ⟨1, z32, 0, 0, 0, [], z32, l⟩) (HB.nil _ _ _) (Row.hb (HS.out.res (i := 0) rfl)) (by exact Nat.zero_le _) (by rw [HM.out]; omega)).mono ?_
      rintro e Wn ⟨ve, rfl, hb⟩
      have hS := HS.out.take hb
      clear hb HS
      have HS := Lib.hid hS
      clear hS
      unfold chkI encOQ at *
      obtain ⟨Ae, ke, rfl⟩ := Row.sl (HS.out.res (i := 0) rfl)
      cases hc : chkQ ⟨1, z32, 0, 0, 0, [], z32, l⟩ with
      | false =>
        rw [hc] at HS
        have HD := Lib.hid (HNO.out (fun h => by rw [hc] at h; cases h))
        simp only [Bool.false_eq_true, ↓reduceIte] at HS ⊢
        go_wp2_with (first
          | (refine atd 155 (by rfl) ?_; refine wl (by rfl) (wp_of_run (run_b56z (by rfl)) ?_))
          | (refine sto 2 (by rfl) ?_; refine wl (by rfl) (s_sta (cs := rcs (zq 0) (.slice none 0 0) (.slice none 0 0)) HS.out 4 70 (by rfl) (by rfl) (by rfl) ag56 (by rfl) (by exact rcs_length (zq_ok 0) _ _) (by exact cells_rq _ rfl rfl) (by exact Nat.le_of_eq (rcs_length (zq_ok _) _ _).symm) ?_); intro Wn hS; rw [splice_all ((rcs_length (zq_ok 0) _ _).trans (rcs_length (zq_ok _) _ _).symm)] at hS; clear HS; have HS := Lib.hid hS; clear hS))
        exact bodyPost_ret (ret_ct56 (p := 2) (u := 3) rfl _ b2 _ 56 (0, 0) _ (by rfl) (by rfl) (HS.out.blk (i := 4) rfl) (by rw [List.size_toArray]; exact rcs_length (zq_ok 0) _ _)) rfl ⟨zq 0, (.slice none 0 0), (.slice none 0 0), 290, rfl, HD.out, ((((((HS.out.sub 0).sub 0).sub 0).sub 0).sub 0).dropF (Gs := []) (fun G hG => by cases hG)).nilRow.nilRow⟩
      | true =>
        rw [hc] at HS
        simp only [↓reduceIte] at HS ⊢
        by_cases hd : encQ ⟨1, z32, 0, 0, 0, [], z32, l⟩ = 1 :: l
        · have HP : DecP (1 :: l) ⟨1, z32, 0, 0, 0, [], z32, l⟩ 0 := ⟨(⟨rfl, rfl, Nat.zero_lt_succ _, Nat.zero_lt_succ _, Nat.zero_lt_succ _⟩ : Req.ok ⟨1, z32, 0, 0, 0, [], z32, l⟩), .inl ⟨rfl, hc, hd⟩⟩
          rw [hd] at HS ⊢
          clear hd
          go_wp2_with (first
            | (refine atd 150 (by rfl) ?_; refine wl (by rfl) (wp_of_run (run_str (xs := (1 :: l)) (by rfl) (by rfl) (Row.hb (l := (1 :: l)) (HS.out.res (i := 0) rfl))) ?_))
            | (refine atd 152 (by rfl) ?_; refine wl (by rfl) (wp_of_run (run_str (xs := 1 :: l) (by rfl) (by rfl) (HS.out.fact (i := 0) rfl)) ?_))
            | (refine atd 156 (by rfl) ?_; refine wl (by rfl) (s_lda (cs := rcs ⟨1, z32, 0, 0, 0, [], z32, l⟩ (.slice none 0 0) (.slice A89 l.length c89)) HS.out 3 70 (by rfl) (by rfl) (by rfl) ag56 (by exact rcs_all (⟨rfl, rfl, Nat.zero_lt_succ _, Nat.zero_lt_succ _, Nat.zero_lt_succ _⟩ : Req.ok ⟨1, z32, 0, 0, 0, [], z32, l⟩) _ _) (by exact rcs_length (⟨rfl, rfl, Nat.zero_lt_succ _, Nat.zero_lt_succ _, Nat.zero_lt_succ _⟩ : Req.ok ⟨1, z32, 0, 0, 0, [], z32, l⟩) _ _) ?_))
            | (refine sto 2 (by rfl) ?_; refine wl (by rfl) (s_sta (cs := rcs ⟨1, z32, 0, 0, 0, [], z32, l⟩ (.slice none 0 0) (.slice A89 l.length c89)) HS.out 4 70 (by rfl) (by rfl) (by rfl) ag56 (by rfl) (by exact rcs_length (⟨rfl, rfl, Nat.zero_lt_succ _, Nat.zero_lt_succ _, Nat.zero_lt_succ _⟩ : Req.ok ⟨1, z32, 0, 0, 0, [], z32, l⟩) _ _) (by exact cells_rq _ rfl rfl) (by exact Nat.le_of_eq (rcs_length (zq_ok _) _ _).symm) ?_); intro Wn hS; rw [splice_all ((rcs_length (⟨rfl, rfl, Nat.zero_lt_succ _, Nat.zero_lt_succ _, Nat.zero_lt_succ _⟩ : Req.ok ⟨1, z32, 0, 0, 0, [], z32, l⟩) _ _).trans (rcs_length (zq_ok _) _ _).symm)] at hS; clear HS; have HS := Lib.hid hS; clear hS))
          exact bodyPost_ret (ret_ct56 (p := 2) (u := 3) rfl _ b2 _ 56 (0, 0) _ (by rfl) (by rfl) (HS.out.blk (i := 4) rfl) (by rw [List.size_toArray]; exact rcs_length (⟨rfl, rfl, Nat.zero_lt_succ _, Nat.zero_lt_succ _, Nat.zero_lt_succ _⟩ : Req.ok ⟨1, z32, 0, 0, 0, [], z32, l⟩) _ _)) rfl ⟨⟨1, z32, 0, 0, 0, [], z32, l⟩, (.slice none 0 0), (.slice A89 l.length c89), 0, rfl, HP, (((((HS.out.sub 0).sub 1).sub 1).sub 1).dropF (Gs := []) (fun G hG => by cases hG)).nilRow⟩
        · have HP := HNO.out (fun _ => hd)
          have hne : (encQ ⟨1, z32, 0, 0, 0, [], z32, l⟩ == (1 :: l)) = false := beq_eq_false_iff_ne.2 hd
          clear hd
          go_wp2_with (first
            | (refine atd 150 (by rfl) ?_; refine wl (by rfl) (wp_of_run (run_str (xs := (encQ ⟨1, z32, 0, 0, 0, [], z32, l⟩)) (by rfl) (by rfl) (Row.hb (l := (encQ ⟨1, z32, 0, 0, 0, [], z32, l⟩)) (HS.out.res (i := 0) rfl))) ?_))
            | (refine atd 152 (by rfl) ?_; refine wl (by rfl) (wp_of_run (run_str (xs := 1 :: l) (by rfl) (by rfl) (HS.out.fact (i := 0) rfl)) ?_))
            | (refine atd 155 (by rfl) ?_; refine wl (by rfl) (wp_of_run (run_b56z (by rfl)) ?_))
            | (refine sto 2 (by rfl) ?_; refine wl (by rfl) (s_sta (cs := rcs (zq 0) (.slice none 0 0) (.slice none 0 0)) HS.out 4 70 (by rfl) (by rfl) (by rfl) ag56 (by rfl) (by exact rcs_length (zq_ok 0) _ _) (by exact cells_rq _ rfl rfl) (by exact Nat.le_of_eq (rcs_length (zq_ok _) _ _).symm) ?_); intro Wn hS; rw [splice_all ((rcs_length (zq_ok 0) _ _).trans (rcs_length (zq_ok _) _ _).symm)] at hS; clear HS; have HS := Lib.hid hS; clear hS))
          exact bodyPost_ret (ret_ct56 (p := 2) (u := 3) rfl _ b2 _ 56 (0, 0) _ (by rfl) (by rfl) (HS.out.blk (i := 4) rfl) (by rw [List.size_toArray]; exact rcs_length (zq_ok 0) _ _)) rfl ⟨zq 0, (.slice none 0 0), (.slice none 0 0), 290, rfl, HP, ((((((HS.out.sub 0).sub 0).sub 0).sub 0).sub 0).dropF (Gs := []) (fun G hG => by cases hG)).nilRow.nilRow⟩
    have m1 : ¬ ((4 * j : Nat) : Int) + 4 ≤ (M : Int) := by omega
    have m1' : ¬ 4 * (j : Int) + 4 ≤ (M : Int) := by omega
    have HNE := Lib.hid (nums_end (R := l) hj (by rw [HRL.out]; exact hj4) (by rw [HRL.out]; exact .inr (by omega)))
    have i07 : (0 : Int) < (j : Int) + 2 := by omega
    have i17 : (1 : Int) < (j : Int) + 2 := by omega
    go_wp2_with (first
      | (refine atd 82 (by rfl) ?_; refine wl (by rfl) (s_bs (E := 48) (z := (.int .u32 0)) HS.out 2 1 [.int .u32 0, .int .u32 0] (by rfl) Try.underlying95 (by kernel_rfl) (by rfl) (by decide) (by decide) (by kernel_rfl) (by rfl) (by decide) ?_); intro b82 Wn hS; clear HS; have HS := Lib.hid hS; clear hS)
      | (refine atd 83 (by rfl) ?_; refine wl (by rfl) (s_rows (size := 1) (bytes := 4) (z := .int .u32 0) HS.out 1 0 (by rfl) Try.underlying95 (by kernel_rfl) (by rfl) (by decide) (by rfl) (by rfl) (by rfl) (by rfl) (by intro u hu; simp at hu; rcases hu with rfl | rfl <;> rfl) (by omega) (by omega) ?_); intro v83 Wn hS; replace hS := hS.sub 0; clear HS; have HS := Lib.hid hS; clear hS; obtain ⟨g7, c7, rfl⟩ := rowE_some (HS.out.res (i := 0) rfl) (by omega))
      | (refine atd 85 (by rfl) ?_; refine wl (by rfl) (s_ld (v := .int .i64 1) HS.out 1 (by rfl) (by rfl) (by rfl) (by kernel_rfl) (by exact rcs_0 _ _) ?_))
      | (go_at_call 11; refine (twinN _ l _ (HS.out.fact (i := 2) rfl) (by rw [HM.out]; omega)).mono ?_; rintro e Wn ⟨v89, rfl, hb⟩; have hS := HS.out.take hb; clear hb; clear HS; have HS := Lib.hid hS; clear hS; obtain ⟨A89, c89, rfl⟩ := Row.sl (HS.out.res (i := 0) rfl))
      | (refine sto 90 (by rfl) ?_; refine wl (by rfl) (s_st (v := (.slice A89 l.length c89)) HS.out 2 (by rfl) (by rfl) (by rfl) (by kernel_rfl) (by rfl) (by rfl) (by rw [rcs_length (⟨rfl, rfl, Nat.zero_lt_succ _, Nat.zero_lt_succ _, Nat.zero_lt_succ _⟩ : Req.ok ⟨1, z32, 0, 0, 0, [], z32, []⟩)]; decide) ?_); intro Wn hS; rw [rcs_setB (hx := rfl) (hh := rfl) (bb' := l)] at hS; clear HS; have HS := Lib.hid hS; clear hS)
      | (refine atd 142 (by rfl) ?_; refine wl (by rfl) (s_lda (cs := rcs ⟨1, z32, 0, 0, 0, [], z32, l⟩ (.slice none 0 0) (.slice A89 l.length c89)) HS.out 2 70 (by rfl) (by rfl) (by rfl) ag56 (by exact rcs_all (⟨rfl, rfl, Nat.zero_lt_succ _, Nat.zero_lt_succ _, Nat.zero_lt_succ _⟩ : Req.ok ⟨1, z32, 0, 0, 0, [], z32, l⟩) _ _) (by exact rcs_length (⟨rfl, rfl, Nat.zero_lt_succ _, Nat.zero_lt_succ _, Nat.zero_lt_succ _⟩ : Req.ok ⟨1, z32, 0, 0, 0, [], z32, l⟩) _ _) ?_)))
    refine (enc28 ⟨1, z32, 0, 0, 0, [], z32, l⟩ (.slice none 0 0) (.slice A89 l.length c89) _ (⟨rfl, rfl, Nat.zero_lt_succ _, Nat.zero_lt_succ _, Nat.zero_lt_succ _⟩ : Req.ok ⟨1, z32, 0, 0, 0, [], z32, l⟩) (HB.nil _ _ _) (Row.hb (HS.out.res (i := 0) rfl)) (by exact Nat.zero_le _) (by rw [HM.out]; omega)).mono ?_
    rintro e Wn ⟨ve, rfl, hb⟩
    have hS := HS.out.take hb
    clear hb HS
    have HS := Lib.hid hS
    clear hS
    unfold chkI encOQ at *
    obtain ⟨Ae, ke, rfl⟩ := Row.sl (HS.out.res (i := 0) rfl)
    cases hc : chkQ ⟨1, z32, 0, 0, 0, [], z32, l⟩ with
    | false =>
      rw [hc] at HS
      have HD := Lib.hid (HNO.out (fun h => by rw [hc] at h; cases h))
      simp only [Bool.false_eq_true, ↓reduceIte] at HS ⊢
      go_wp2_with (first
        | (refine atd 155 (by rfl) ?_; refine wl (by rfl) (wp_of_run (run_b56z (by rfl)) ?_))
        | (refine sto 2 (by rfl) ?_; refine wl (by rfl) (s_sta (cs := rcs (zq 0) (.slice none 0 0) (.slice none 0 0)) HS.out 4 70 (by rfl) (by rfl) (by rfl) ag56 (by rfl) (by exact rcs_length (zq_ok 0) _ _) (by exact cells_rq _ rfl rfl) (by exact Nat.le_of_eq (rcs_length (zq_ok _) _ _).symm) ?_); intro Wn hS; rw [splice_all ((rcs_length (zq_ok 0) _ _).trans (rcs_length (zq_ok _) _ _).symm)] at hS; clear HS; have HS := Lib.hid hS; clear hS))
      exact bodyPost_ret (ret_ct56 (p := 2) (u := 3) rfl _ b2 _ 56 (0, 0) _ (by rfl) (by rfl) (HS.out.blk (i := 4) rfl) (by rw [List.size_toArray]; exact rcs_length (zq_ok 0) _ _)) rfl ⟨zq 0, (.slice none 0 0), (.slice none 0 0), 290, rfl, HD.out, ((((((HS.out.sub 0).sub 0).sub 0).sub 0).sub 0).dropF (Gs := []) (fun G hG => by cases hG)).nilRow.nilRow⟩
    | true =>
      rw [hc] at HS
      simp only [↓reduceIte] at HS ⊢
      by_cases hd : encQ ⟨1, z32, 0, 0, 0, [], z32, l⟩ = 1 :: l
      · have HP : DecP (1 :: l) ⟨1, z32, 0, 0, 0, [], z32, l⟩ 0 := ⟨(⟨rfl, rfl, Nat.zero_lt_succ _, Nat.zero_lt_succ _, Nat.zero_lt_succ _⟩ : Req.ok ⟨1, z32, 0, 0, 0, [], z32, l⟩), .inl ⟨rfl, hc, hd⟩⟩
        rw [hd] at HS ⊢
        clear hd
        go_wp2_with (first
          | (refine atd 150 (by rfl) ?_; refine wl (by rfl) (wp_of_run (run_str (xs := (1 :: l)) (by rfl) (by rfl) (Row.hb (l := (1 :: l)) (HS.out.res (i := 0) rfl))) ?_))
          | (refine atd 152 (by rfl) ?_; refine wl (by rfl) (wp_of_run (run_str (xs := 1 :: l) (by rfl) (by rfl) (HS.out.fact (i := 0) rfl)) ?_))
          | (refine atd 156 (by rfl) ?_; refine wl (by rfl) (s_lda (cs := rcs ⟨1, z32, 0, 0, 0, [], z32, l⟩ (.slice none 0 0) (.slice A89 l.length c89)) HS.out 3 70 (by rfl) (by rfl) (by rfl) ag56 (by exact rcs_all (⟨rfl, rfl, Nat.zero_lt_succ _, Nat.zero_lt_succ _, Nat.zero_lt_succ _⟩ : Req.ok ⟨1, z32, 0, 0, 0, [], z32, l⟩) _ _) (by exact rcs_length (⟨rfl, rfl, Nat.zero_lt_succ _, Nat.zero_lt_succ _, Nat.zero_lt_succ _⟩ : Req.ok ⟨1, z32, 0, 0, 0, [], z32, l⟩) _ _) ?_))
          | (refine sto 2 (by rfl) ?_; refine wl (by rfl) (s_sta (cs := rcs ⟨1, z32, 0, 0, 0, [], z32, l⟩ (.slice none 0 0) (.slice A89 l.length c89)) HS.out 4 70 (by rfl) (by rfl) (by rfl) ag56 (by rfl) (by exact rcs_length (⟨rfl, rfl, Nat.zero_lt_succ _, Nat.zero_lt_succ _, Nat.zero_lt_succ _⟩ : Req.ok ⟨1, z32, 0, 0, 0, [], z32, l⟩) _ _) (by exact cells_rq _ rfl rfl) (by exact Nat.le_of_eq (rcs_length (zq_ok _) _ _).symm) ?_); intro Wn hS; rw [splice_all ((rcs_length (⟨rfl, rfl, Nat.zero_lt_succ _, Nat.zero_lt_succ _, Nat.zero_lt_succ _⟩ : Req.ok ⟨1, z32, 0, 0, 0, [], z32, l⟩) _ _).trans (rcs_length (zq_ok _) _ _).symm)] at hS; clear HS; have HS := Lib.hid hS; clear hS))
        exact bodyPost_ret (ret_ct56 (p := 2) (u := 3) rfl _ b2 _ 56 (0, 0) _ (by rfl) (by rfl) (HS.out.blk (i := 4) rfl) (by rw [List.size_toArray]; exact rcs_length (⟨rfl, rfl, Nat.zero_lt_succ _, Nat.zero_lt_succ _, Nat.zero_lt_succ _⟩ : Req.ok ⟨1, z32, 0, 0, 0, [], z32, l⟩) _ _)) rfl ⟨⟨1, z32, 0, 0, 0, [], z32, l⟩, (.slice none 0 0), (.slice A89 l.length c89), 0, rfl, HP, (((((HS.out.sub 0).sub 1).sub 1).sub 1).dropF (Gs := []) (fun G hG => by cases hG)).nilRow⟩
      · have HP := HNO.out (fun _ => hd)
        have hne : (encQ ⟨1, z32, 0, 0, 0, [], z32, l⟩ == (1 :: l)) = false := beq_eq_false_iff_ne.2 hd
        clear hd
        go_wp2_with (first
          | (refine atd 150 (by rfl) ?_; refine wl (by rfl) (wp_of_run (run_str (xs := (encQ ⟨1, z32, 0, 0, 0, [], z32, l⟩)) (by rfl) (by rfl) (Row.hb (l := (encQ ⟨1, z32, 0, 0, 0, [], z32, l⟩)) (HS.out.res (i := 0) rfl))) ?_))
          | (refine atd 152 (by rfl) ?_; refine wl (by rfl) (wp_of_run (run_str (xs := 1 :: l) (by rfl) (by rfl) (HS.out.fact (i := 0) rfl)) ?_))
          | (refine atd 155 (by rfl) ?_; refine wl (by rfl) (wp_of_run (run_b56z (by rfl)) ?_))
          | (refine sto 2 (by rfl) ?_; refine wl (by rfl) (s_sta (cs := rcs (zq 0) (.slice none 0 0) (.slice none 0 0)) HS.out 4 70 (by rfl) (by rfl) (by rfl) ag56 (by rfl) (by exact rcs_length (zq_ok 0) _ _) (by exact cells_rq _ rfl rfl) (by exact Nat.le_of_eq (rcs_length (zq_ok _) _ _).symm) ?_); intro Wn hS; rw [splice_all ((rcs_length (zq_ok 0) _ _).trans (rcs_length (zq_ok _) _ _).symm)] at hS; clear HS; have HS := Lib.hid hS; clear hS))
        exact bodyPost_ret (ret_ct56 (p := 2) (u := 3) rfl _ b2 _ 56 (0, 0) _ (by rfl) (by rfl) (HS.out.blk (i := 4) rfl) (by rw [List.size_toArray]; exact rcs_length (zq_ok 0) _ _)) rfl ⟨zq 0, (.slice none 0 0), (.slice none 0 0), 290, rfl, HP, ((((((HS.out.sub 0).sub 0).sub 0).sub 0).sub 0).dropF (Gs := []) (fun G hG => by cases hG)).nilRow.nilRow⟩
end
section
open Go Go.RowKit Go.Proofs
attribute [local irreducible] Calls
set_option maxHeartbeats 2000000 in
set_option maxRecDepth 100000 in
theorem dec30bs (ad : Addr) (N c M c1 : Nat) (A1 : Option Addr) (l : List UInt8) (w : World) (hv : HB w (.slice (some ad) N c) (2 :: l)) (hl : HB w (.slice A1 M c1) l) (hN : N = M + 1) (hM : l.length = M) (hM2 : M ≤ 5000) (hc0 : Away (Keys []) (fun W => W.cell? (ad.add 0) = some (.int .u8 2)) w) (hs1 : ∀ W, (Instr.slice 22 (.slice (some ad) N c) (some (.int .i64 1)) none none).run Try.prog W = .ok (.slice A1 M c1) W) (h32 : M < 32) :
    Calls Try.prog 30 #[.slice (some ad) N c] w fun e w' => ∃ r s b c, e = .returned (.tuple #[.agg (rcs r s b).toArray, .int .i64 c]) ∧ DecP (2 :: l) r c ∧ St w w' [Row s 5 1 r.sb.length (bs r.sb), Row b 5 1 r.bb.length (bs r.bb)] [] := by
  have z0 : ((N : Int) == 0) = false := beq_eq_false_iff_ne.2 (by omega)
  have z1 : (0 : Int) < (N : Int) := by omega
  have HS := Lib.hid (((((St.start w).addF hl.away0).addF hc0).addF hv.away0))
  have HM := Lib.hid hM
  have d32 : decide ((M : Int) < 32) = true := decide_eq_true (by omega)
  have HD := Lib.hid (show DecP (2 :: l) (zq 0) 290 from ⟨zq_ok 0, .inr ⟨rfl, rfl, fun r' hr hc he => by have := encQ_len3 hr he (by decide) hc; omega⟩⟩)
  clear hv hl hM hN hc0
  go_enter Try.func30, Try.ntmps30
  go_wp2_with (first
    | (refine atd 2 (by rfl) ?_; refine wl (by rfl) (s_al (l := rcs (zq 0) (.slice none 0 0) (.slice none 0 0)) HS.out (by rfl) z56 (by rfl) ?_); intro b2 Wn hS; clear HS; have HS := Lib.hid hS; clear hS)
    | (refine atd 20 (by rfl) ?_; refine wl (by rfl) (wp_of_run (run_ld (v := .int .u8 2) (by kernel_rfl) (by rfl) (by rfl) (HS.out.fact (i := 1) rfl)) ?_))
    | (refine atd 22 (by rfl) ?_; refine wl (by rfl) (wp_of_run (run_b56 (k := 2) (by rfl) (by rfl)) ?_))
    | (refine atd 4 (by rfl) ?_; refine wl (by rfl) (s_al (l := rcs (zq 0) (.slice none 0 0) (.slice none 0 0)) HS.out (by rfl) z56 (by rfl) ?_); intro b4 Wn hS; clear HS; have HS := Lib.hid hS; clear hS)
    | (refine sto 4 (by rfl) ?_; refine wl (by rfl) (s_sta (cs := rcs (zq 2) (.slice none 0 0) (.slice none 0 0)) HS.out 0 70 (by rfl) (by rfl) (by rfl) ag56 (by rfl) (by exact rcs_length (zq_ok _) _ _) (by exact cells_rq _ rfl rfl) (by exact Nat.le_of_eq (rcs_length (zq_ok _) _ _).symm) ?_); intro Wn hS; rw [splice_all ((rcs_length (zq_ok _) _ _).trans (rcs_length (zq_ok _) _ _).symm)] at hS; have hS : St w Wn [Blk b4 (rcs ⟨2, z32, 0, 0, 0, [], z32, []⟩ (.slice none 0 0) (.slice none 0 0)) 56, Blk b2 (rcs (zq 0) (.slice none 0 0) (.slice none 0 0)) 56] _ := hS; clear HS; have HS := Lib.hid hS; clear hS)
    | (refine atd 26 (by rfl) ?_; refine wl (by rfl) (s_ld (v := .int .i64 2) HS.out 0 (by rfl) (by rfl) (by rfl) (by kernel_rfl) (by exact rcs_0 _ _) ?_))
    | (refine atd 30 (by rfl) ?_; refine wl (by rfl) (s_ld (v := .int .i64 2) HS.out 0 (by rfl) (by rfl) (by rfl) (by kernel_rfl) (by exact rcs_0 _ _) ?_))
    | (refine atd 35 (by rfl) ?_; refine wl (by rfl) (s_ld (v := .int .i64 2) HS.out 0 (by rfl) (by rfl) (by rfl) (by kernel_rfl) (by exact rcs_0 _ _) ?_))
    | (refine atd 40 (by rfl) ?_; refine wl (by rfl) (s_ld (v := .int .i64 2) HS.out 0 (by rfl) (by rfl) (by rfl) (by kernel_rfl) (by exact rcs_0 _ _) ?_))
    | (refine atd 46 (by rfl) ?_; refine wl (by rfl) (wp_of_run (run_b56z (by rfl)) ?_))
    | (refine sto 2 (by rfl) ?_; refine wl (by rfl) (s_sta (cs := rcs (zq 0) (.slice none 0 0) (.slice none 0 0)) HS.out 1 70 (by rfl) (by rfl) (by rfl) ag56 (by rfl) (by exact rcs_length (zq_ok 0) _ _) (by exact cells_rq _ rfl rfl) (by exact Nat.le_of_eq (rcs_length (zq_ok _) _ _).symm) ?_); intro Wn hS; rw [splice_all ((rcs_length (zq_ok 0) _ _).trans (rcs_length (zq_ok _) _ _).symm)] at hS; clear HS; have HS := Lib.hid hS; clear hS))
  exact bodyPost_ret (ret_ct56 (p := 2) (u := 3) rfl _ b2 _ 56 (0, 0) _ (by rfl) (by rfl) (HS.out.blk (i := 1) rfl) (by rw [List.size_toArray]; exact rcs_length (zq_ok 0) _ _)) rfl ⟨zq 0, (.slice none 0 0), (.slice none 0 0), 290, rfl, HD.out, (((HS.out.sub 0).sub 0).dropF (Gs := []) (fun G hG => by cases hG)).nilRow.nilRow⟩
set_option maxHeartbeats 2000000 in
set_option maxRecDepth 100000 in
theorem dec30b (ad : Addr) (N c M c1 : Nat) (A1 : Option Addr) (l : List UInt8) (w : World) (hv : HB w (.slice (some ad) N c) (2 :: l)) (hl : HB w (.slice A1 M c1) l) (hN : N = M + 1) (hM : l.length = M) (hM2 : M ≤ 5000) (hc0 : Away (Keys []) (fun W => W.cell? (ad.add 0) = some (.int .u8 2)) w) (hs1 : ∀ W, (Instr.slice 22 (.slice (some ad) N c) (some (.int .i64 1)) none none).run Try.prog W = .ok (.slice A1 M c1) W) (A2 : Option Addr) (M2 c2 : Nat) (R : List UInt8) (h32 : 32 ≤ M) (hr : HB w (.slice A2 M2 c2) R) (hR : R.length = M2) (hRl : R = hshL l) (hM22 : M2 ≤ 5000) (hs32 : ∀ W, (Instr.slice 22 (.slice A1 M c1) (some (.int .i64 32)) none none).run Try.prog W = .ok (.slice A2 M2 c2) W) (a1 : Addr) (ha1 : A1 = some a1) :
    Calls Try.prog 30 #[.slice (some ad) N c] w fun e w' => ∃ r s b c, e = .returned (.tuple #[.agg (rcs r s b).toArray, .int .i64 c]) ∧ DecP (2 :: l) r c ∧ St w w' [Row s 5 1 r.sb.length (bs r.sb), Row b 5 1 r.bb.length (bs r.bb)] [] := by
  have z0 : ((N : Int) == 0) = false := beq_eq_false_iff_ne.2 (by omega)
  have z1 : (0 : Int) < (N : Int) := by omega
  have HS := Lib.hid ((((((St.start w).addF hr.away0).addF hl.away0).addF hc0).addF hv.away0))
  have HM := Lib.hid hM
  have hrq : rdF (fldK (((2 : UInt8).toNat : Nat) : Int)) (((2 : UInt8).toNat : Nat) : Int) l = ⟨2, (hshV l), (numV R), (numV (numL R)), 0, [], z32, []⟩ := by rw [hRl]; rfl
  have HNO := Lib.hid (show (chkQ ⟨2, (hshV l), (numV R), (numV (numL R)), 0, [], z32, []⟩ = true → encQ ⟨2, (hshV l), (numV R), (numV (numL R)), 0, [], z32, []⟩ ≠ 2 :: l) → DecP (2 :: l) (zq 0) 290 from fun h => DecP.no fun r e hc => by rw [hrq] at e; subst e; exact h hc)
  clear hrq
  have HHV := Lib.hid (hshV_len l)
  have d32 : decide ((M : Int) < 32) = false := decide_eq_false (by omega)
  have HFL := Lib.hid (show 32 ≤ l.length by omega)
  have HR' := Lib.hid hr
  have HRL := Lib.hid hR; have HRE := Lib.hid hRl
  clear hr hR hRl
  have hb1 := numV_lt R
  have hb8 := numV_lt (numL R)
  clear hv hl hM hN hc0
  go_enter Try.func30, Try.ntmps30
  go_wp2_with (first
    | (refine atd 2 (by rfl) ?_; refine wl (by rfl) (s_al (l := rcs (zq 0) (.slice none 0 0) (.slice none 0 0)) HS.out (by rfl) z56 (by rfl) ?_); intro b2 Wn hS; clear HS; have HS := Lib.hid hS; clear hS)
    | (refine atd 20 (by rfl) ?_; refine wl (by rfl) (wp_of_run (run_ld (v := .int .u8 2) (by kernel_rfl) (by rfl) (by rfl) (HS.out.fact (i := 1) rfl)) ?_))
    | (refine atd 22 (by rfl) ?_; refine wl (by rfl) (wp_of_run (run_b56 (k := 2) (by rfl) (by rfl)) ?_))
    | (refine atd 4 (by rfl) ?_; refine wl (by rfl) (s_al (l := rcs (zq 0) (.slice none 0 0) (.slice none 0 0)) HS.out (by rfl) z56 (by rfl) ?_); intro b4 Wn hS; clear HS; have HS := Lib.hid hS; clear hS)
    | (refine sto 4 (by rfl) ?_; refine wl (by rfl) (s_sta (cs := rcs (zq 2) (.slice none 0 0) (.slice none 0 0)) HS.out 0 70 (by rfl) (by rfl) (by rfl) ag56 (by rfl) (by exact rcs_length (zq_ok _) _ _) (by exact cells_rq _ rfl rfl) (by exact Nat.le_of_eq (rcs_length (zq_ok _) _ _).symm) ?_); intro Wn hS; rw [splice_all ((rcs_length (zq_ok _) _ _).trans (rcs_length (zq_ok _) _ _).symm)] at hS; have hS : St w Wn [Blk b4 (rcs ⟨2, z32, 0, 0, 0, [], z32, []⟩ (.slice none 0 0) (.slice none 0 0)) 56, Blk b2 (rcs (zq 0) (.slice none 0 0) (.slice none 0 0)) 56] _ := hS; clear HS; have HS := Lib.hid hS; clear hS)
    | (refine atd 26 (by rfl) ?_; refine wl (by rfl) (s_ld (v := .int .i64 2) HS.out 0 (by rfl) (by rfl) (by rfl) (by kernel_rfl) (by exact rcs_0 _ _) ?_))
    | (refine atd 30 (by rfl) ?_; refine wl (by rfl) (s_ld (v := .int .i64 2) HS.out 0 (by rfl) (by rfl) (by rfl) (by kernel_rfl) (by exact rcs_0 _ _) ?_))
    | (refine atd 35 (by rfl) ?_; refine wl (by rfl) (s_ld (v := .int .i64 2) HS.out 0 (by rfl) (by rfl) (by rfl) (by kernel_rfl) (by exact rcs_0 _ _) ?_))
    | (refine atd 40 (by rfl) ?_; refine wl (by rfl) (s_ld (v := .int .i64 2) HS.out 0 (by rfl) (by rfl) (by rfl) (by kernel_rfl) (by exact rcs_0 _ _) ?_)))
  subst ha1
  go_loopw [6] (fun s6 wr => ∃ i : Nat, i ≤ 32 ∧ s6 = .int .i64 (i : Int) ∧ St w wr [Blk b4 (rcs ⟨2, z32, 0, 0, 0, [], (hfill l i), []⟩ (.slice none 0 0) (.slice none 0 0)) 56, Blk b2 (rcs (zq 0) (.slice none 0 0) (.slice none 0 0)) 56] [fun W => HB W (.slice (some ad) N c) (2 :: l), fun W => W.cell? (ad.add 0) = some (.int .u8 2), fun W => HB W (.slice (some a1) M c1) l, fun W => HB W (.slice A2 M2 c2) R]) (fun s6 _ => 32 - (intOf s6).toNat)
  case atStart => exact ⟨0, by omega, rfl, by rw [hfill_0]; exact HS.out⟩
  case round =>
    obtain ⟨i, hi, rfl, hs⟩ := hrel
    clear HS
    have HS := Lib.hid hs
    clear hs
    by_cases hlt : i < 32
    · have j1 : (i : Int) < 32 := by omega
      have j2 : (i : Int) < (M : Int) := by omega
      have hil : i < l.length := by have := HM.out; omega
      have hx : l[i]? = some l[i] := List.getElem?_eq_getElem hil
      generalize l[i] = x at hx
      have HX := Lib.hid hx
      clear hx
      go_wp2_with (first
        | (refine atd 55 (by rfl) ?_; refine wl (by rfl) (wp_of_run (run_ld (v := .int .u8 (x.toNat : Int)) (by kernel_rfl) (by rfl) (by rfl) (hb_at (HS.out.fact (i := 2) rfl) HX.out)) ?_))
        | (refine sto 57 (by rfl) ?_; refine wl (by rfl) (s_st (k := 37 + i) (v := .int .u8 (x.toNat : Int)) HS.out 0 (by rfl) (by rfl) (by rfl) (by kernel_rfl) (by rfl) (by rfl) (by rw [rcs_length (⟨rfl, hfill_len HFL.out hi, Nat.zero_lt_succ _, Nat.zero_lt_succ _, Nat.zero_lt_succ _⟩ : Req.ok ⟨2, z32, 0, 0, 0, [], (hfill l i), []⟩)]; omega) ?_); intro Wn hS; rw [rcs_fill _ _ HFL.out hlt x HX.out] at hS; clear HS; have HS := Lib.hid hS; clear hS))
      exact ⟨⟨i + 1, by omega, by push_cast; rfl, HS.out⟩, by simp [intOf]; omega⟩
    have hi32 : i = 32 := by omega
    subst hi32
    have j1 : ¬ (((32 : Nat) : Int) < 32) := by decide
    have hS := HS.out
    rw [hfill_32 HFL.out] at hS
    clear HS
    have HS := Lib.hid hS
    clear hS hlt
    go_wp2_with fail
    go_loopw [7, 8] (fun s7 s8 wr => ∃ (j : Nat) (v7 : Value), j ≤ 2 ∧ 4 * j ≤ M2 ∧ s8 = .int .i64 ((4 * j : Nat) : Int) ∧ s7 = v7 ∧ St w wr [Row v7 48 1 j (nums R j), Blk b4 (rcs ⟨2, z32, 0, 0, 0, [], (hshV l), []⟩ (.slice none 0 0) (.slice none 0 0)) 56, Blk b2 (rcs (zq 0) (.slice none 0 0) (.slice none 0 0)) 56] [fun W => HB W (.slice (some ad) N c) (2 :: l), fun W => W.cell? (ad.add 0) = some (.int .u8 2), fun W => HB W (.slice (some a1) M c1) l, fun W => HB W (.slice A2 M2 c2) R]) (fun _ s8 _ => 8 - (intOf s8).toNat)
    case atStart => exact ⟨0, _, by omega, by omega, rfl, rfl, HS.out.nilRowE 48 1⟩
    case round =>
      obtain ⟨j, v7, hj, hj4, rfl, rfl, hs⟩ := hrel
      clear HS
      have HS := Lib.hid hs
      clear hs
      by_cases hm : 4 * j + 4 ≤ M2
      · have m1 : ((4 * j : Nat) : Int) + 4 ≤ (M2 : Int) := by omega
        have m1' : 4 * (j : Int) + 4 ≤ (M2 : Int) := by omega
        by_cases h2 : j < 2
        · have m2 : ((4 * j : Nat) : Int) < 8 := by omega
          have m2' : 4 * (j : Int) < 8 := by omega
          obtain ⟨AQ, cQ, hQs, hQ⟩ : ∃ AQ cQ, (∀ W, (Instr.slice 22 (.slice A2 M2 c2) (some (.int .i64 (4 * (j : Int)))) (some (.int .i64 (4 * (j : Int) + 4))) none).run Try.prog W = .ok (.slice AQ 4 cQ) W) ∧ ∀ W, HB W (.slice A2 M2 c2) R → HB W (.slice AQ 4 cQ) ((R.drop (4 * j)).take 4) := cut4 (HS.out.fact (i := 3) rfl) hm
          have HQ := Lib.hid hQ
          clear hQ
          have HQl := Lib.hid (show ((R.drop (4 * j)).take 4).length = 4 by rw [List.length_take, List.length_drop, HRL.out]; omega)
          have hn32 := leNum_32 _ HQl.out
          have HNS := Lib.hid (nums_succ R j)
          obtain ⟨n, hn⟩ : ∃ n, leNum ((R.drop (4 * j)).take 4) = n := ⟨_, rfl⟩
          rw [hn] at hn32 HNS
          have HNE := Lib.hid hn
          clear hn
          go_wp2_with (first
            | (go_at_call 38; refine (rnum_any _ _ _ (HQ.out _ (HS.out.fact (i := 3) rfl)) (by rw [HQl.out]; decide)).mono ?_; rw [HNE.out]; rintro e Wn ⟨rfl, hb⟩; have hS := HS.out.call hb; clear hb; clear HS; have HS := Lib.hid hS; clear hS)
            | (refine atd 79 (by rfl) ?_; refine wl (by rfl) (s_bs (E := 48) (z := (.int .u32 0)) HS.out 1 1 [.int .u32 (n : Int)] (by rfl) Try.underlying95 (by kernel_rfl) (by rfl) (by decide) (by decide) (by kernel_rfl) (by rfl) (by decide) ?_); intro b79 Wn hS; clear HS; have HS := Lib.hid hS; clear hS)
            | (refine atd 80 (by rfl) ?_; refine wl (by rfl) (s_rows (size := 1) (bytes := 4) (z := .int .u32 0) HS.out 1 0 (by rfl) Try.underlying95 (by kernel_rfl) (by rfl) (by decide) (by rfl) (by rfl) (by rfl) (by rfl) (by intro u hu; simp at hu; subst hu; rfl) (by omega) (by omega) ?_); intro v80 Wn hS; replace hS := hS.sub 0; clear HS; have HS := Lib.hid hS; clear hS))
          have hS := HS.out
          rw [show nums R j ++ [.int .u32 (n : Int)] = nums R (j + 1) from HNS.out.symm] at hS
          exact ⟨⟨j + 1, _, by omega, by omega, by push_cast; rfl, rfl, hS⟩, by simp [intOf]; omega⟩
        have m2 : ¬ ((4 * j : Nat) : Int) < 8 := by omega
        have m2' : ¬ 4 * (j : Int) < 8 := by omega
        have HNE := Lib.hid (nums_end (R := R) hj (by rw [HRL.out]; exact hj4) (by rw [HRL.out]; exact .inl (by omega)))
        have i07 : (0 : Int) < (j : Int) + 2 := by omega
        have i17 : (1 : Int) < (j : Int) + 2 := by omega
        go_wp2_with (first
          | (refine atd 82 (by rfl) ?_; refine wl (by rfl) (s_bs (E := 48) (z := (.int .u32 0)) HS.out 2 1 [.int .u32 0, .int .u32 0] (by rfl) Try.underlying95 (by kernel_rfl) (by rfl) (by decide) (by decide) (by kernel_rfl) (by rfl) (by decide) ?_); intro b82 Wn hS; clear HS; have HS := Lib.hid hS; clear hS)
          | (refine atd 83 (by rfl) ?_; refine wl (by rfl) (s_rows (size := 1) (bytes := 4) (z := .int .u32 0) HS.out 1 0 (by rfl) Try.underlying95 (by kernel_rfl) (by rfl) (by decide) (by rfl) (by rfl) (by rfl) (by rfl) (by intro u hu; simp at hu; rcases hu with rfl | rfl <;> rfl) (by omega) (by omega) ?_); intro v83 Wn hS; replace hS := hS.sub 0; clear HS; have HS := Lib.hid hS; clear hS; obtain ⟨g7, c7, rfl⟩ := rowE_some (HS.out.res (i := 0) rfl) (by omega))
          | (refine atd 85 (by rfl) ?_; refine wl (by rfl) (s_ld (v := .int .i64 2) HS.out 1 (by rfl) (by rfl) (by rfl) (by kernel_rfl) (by exact rcs_0 _ _) ?_)))
        refine wp_region_pi [(0, true), (2, true), (3, true), (4, true), (1, false), (5, true), (6, true), (7, false)] (by kernel_rfl) (by kernel_rfl) rfl (by kernel_rfl) (fun _ _ _ _ _ h => h) (fun w' => St w w' [Row (.slice (some ⟨g7, 0, none⟩) (j + 2) c7) 48 1 (j + 2) (nums R j ++ [Value.int .u32 0, Value.int .u32 0])] [fun W => HB W (.slice (some ad) N c) (2 :: l), fun W => W.cell? (ad.add 0) = some (.int .u8 2), fun W => HB W (.slice (some a1) M c1) l, fun W => HB W (.slice A2 M2 c2) R]) ((HS.out.drew.sub 1).sub 1) ?_
        intro OPS hops
        have hS := HS.out.drew
        clear HS; have HS := Lib.hid hS; clear hS
        iterate 4
          first | (refine wpPi_yield _ (by rw [hops.out]; simp only [List.getElem?_toArray, List.getElem?_cons_succ, List.getElem?_cons_zero]; rfl) (by first | rfl | (rw [hops.out]; rfl)) (fun w' hS => by first | exact run_ld (v := .int .u32 ((numV R : Nat) : Int)) (by kernel_rfl) (by rfl) (by rfl) (rowE_cell (hS.res (i := 0) rfl) HNE.out.1) | exact run_b54 (by rfl) (by rfl) (by rfl) HHV.out | (go_simp; rfl)) ?_; simp only [Act.put, List.setIfInBounds_toArray, List.set_cons_succ, List.set_cons_zero]) | (refine wpPi_skip (by rw [hops.out]; simp only [List.getElem?_toArray, List.getElem?_cons_succ, List.getElem?_cons_zero]; rfl) (by first | rfl | (rw [hops.out]; rfl)) ?_; simp only [Act.put, List.setIfInBounds_toArray, List.set_cons_succ, List.set_cons_zero])
        refine wpPi_act (by rw [hops.out]; simp only [List.getElem?_toArray, List.getElem?_cons_succ, List.getElem?_cons_zero]; rfl) (by first | rfl | (rw [hops.out]; rfl)) ?_
        refine s_lda (cs := bs (hshV l)) HS.out 1 32 (by rfl) (by rfl) (by rfl) ag52 (by exact rcs_ha (⟨rfl, HHV.out, Nat.zero_lt_succ _, Nat.zero_lt_succ _, Nat.zero_lt_succ _⟩ : Req.ok ⟨2, z32, 0, 0, 0, [], (hshV l), []⟩) _ _) (by rw [bs_length]; exact HHV.out) ?_
        refine ⟨((HS.out.sub 1).sub 1), ?_⟩
        try simp only [Act.put, List.setIfInBounds_toArray, List.set_cons_succ, List.set_cons_zero]
        iterate 2
          first | (refine wpPi_yield _ (by rw [hops.out]; simp only [List.getElem?_toArray, List.getElem?_cons_succ, List.getElem?_cons_zero]; rfl) (by first | rfl | (rw [hops.out]; rfl)) (fun w' hS => by first | exact run_ld (v := .int .u32 ((numV R : Nat) : Int)) (by kernel_rfl) (by rfl) (by rfl) (rowE_cell (hS.res (i := 0) rfl) HNE.out.1) | exact run_b54 (by rfl) (by rfl) (by rfl) HHV.out | (go_simp; rfl)) ?_; simp only [Act.put, List.setIfInBounds_toArray, List.set_cons_succ, List.set_cons_zero]) | (refine wpPi_skip (by rw [hops.out]; simp only [List.getElem?_toArray, List.getElem?_cons_succ, List.getElem?_cons_zero]; rfl) (by first | rfl | (rw [hops.out]; rfl)) ?_; simp only [Act.put, List.setIfInBounds_toArray, List.set_cons_succ, List.set_cons_zero])
        refine wpPi_act (by rw [hops.out]; simp only [List.getElem?_toArray, List.getElem?_cons_succ, List.getElem?_cons_zero]; rfl) (by first | rfl | (rw [hops.out]; rfl)) ?_
        refine s_sta (cs := bs (hshV l) ++ [.int .u32 ((numV R : Nat) : Int)]) HS.out 1 33 (by rfl) (by rfl) (by rfl) ag54 (by rfl) (by rw [List.length_append, bs_length, HHV.out]; rfl) (by exact one_pt _ _) (by rw [rcs_length (⟨rfl, HHV.out, Nat.zero_lt_succ _, Nat.zero_lt_succ _, Nat.zero_lt_succ _⟩ : Req.ok ⟨2, z32, 0, 0, 0, [], (hshV l), []⟩)]; decide) ?_
        intro Wn hS
        rw [rcs_splPt (hx := HHV.out) (ht := rfl)] at hS
        clear HS; have HS := Lib.hid hS; clear hS
        refine ⟨((HS.out.sub 1).sub 1), ?_⟩
        try simp only [Act.put, List.setIfInBounds_toArray, List.set_cons_succ, List.set_cons_zero]
        simp only [wpPi]
        clear OPS hops
        go_wp2_with (first
          | (refine atd 101 (by rfl) ?_; refine wl (by rfl) (wp_of_run (run_b52z (by rfl)) ?_))
          | (refine sto 102 (by rfl) ?_; refine wl (by rfl) (s_sta (cs := bs z32) HS.out 1 32 (by rfl) (by rfl) (by rfl) ag52 (by rfl) (by rfl) (by exact all_bs _) (by rw [rcs_length (⟨HHV.out, HHV.out, numV_lt _, Nat.zero_lt_succ _, Nat.zero_lt_succ _⟩ : Req.ok ⟨2, (hshV l), (numV R), 0, 0, [], (hshV l), []⟩)]; decide) ?_); intro Wn hS; rw [rcs_splHa (hx := rfl) (ht := HHV.out) (hh := HHV.out)] at hS; clear HS; have HS := Lib.hid hS; clear hS)
          | (refine atd 105 (by rfl) ?_; refine wl (by rfl) (wp_of_run (run_ld (v := .int .u32 ((numV (numL R) : Nat) : Int)) (by kernel_rfl) (by rfl) (by rfl) (rowE_cell (HS.out.res (i := 0) rfl) HNE.out.2)) ?_))
          | (refine sto 106 (by rfl) ?_; refine wl (by rfl) (s_st (v := .int .u32 (((numV (numL R)) : Nat) : Int)) HS.out 1 (by rfl) (by rfl) (by rfl) (by kernel_rfl) (by rfl) (by rfl) (by rw [rcs_length (⟨HHV.out, rfl, numV_lt _, Nat.zero_lt_succ _, Nat.zero_lt_succ _⟩ : Req.ok ⟨2, (hshV l), (numV R), 0, 0, [], z32, []⟩)]; decide) ?_); intro Wn hS; rw [rcs_setH (hx := HHV.out)] at hS; clear HS; have HS := Lib.hid hS; clear hS)
          | (refine atd 142 (by rfl) ?_; refine wl (by rfl) (s_lda (cs := rcs ⟨2, (hshV l), (numV R), (numV (numL R)), 0, [], z32, []⟩ (.slice none 0 0) (.slice none 0 0)) HS.out 1 70 (by rfl) (by rfl) (by rfl) ag56 (by exact rcs_all (⟨HHV.out, rfl, numV_lt _, numV_lt _, Nat.zero_lt_succ _⟩ : Req.ok ⟨2, (hshV l), (numV R), (numV (numL R)), 0, [], z32, []⟩) _ _) (by exact rcs_length (⟨HHV.out, rfl, numV_lt _, numV_lt _, Nat.zero_lt_succ _⟩ : Req.ok ⟨2, (hshV l), (numV R), (numV (numL R)), 0, [], z32, []⟩) _ _) ?_)))
        refine (enc28 ⟨2, (hshV l), (numV R), (numV (numL R)), 0, [], z32, []⟩ (.slice none 0 0) (.slice none 0 0) _ (⟨HHV.out, rfl, numV_lt _, numV_lt _, Nat.zero_lt_succ _⟩ : Req.ok ⟨2, (hshV l), (numV R), (numV (numL R)), 0, [], z32, []⟩) (HB.nil _ _ _) (HB.nil _ _ _) (by exact Nat.zero_le _) (by exact Nat.zero_le _)).mono ?_
        rintro e Wn ⟨ve, rfl, hb⟩
        have hS := HS.out.take hb
        clear hb HS
        have HS := Lib.hid hS
        clear hS
        unfold chkI encOQ at *
        obtain ⟨Ae, ke, rfl⟩ := Row.sl (HS.out.res (i := 0) rfl)
        cases hc : chkQ ⟨2, (hshV l), (numV R), (numV (numL R)), 0, [], z32, []⟩ with
        | false =>
          rw [hc] at HS
          have HD := Lib.hid (HNO.out (fun h => by rw [hc] at h; cases h))
          simp only [Bool.false_eq_true, ↓reduceIte] at HS ⊢
          go_wp2_with (first
            | (refine atd 155 (by rfl) ?_; refine wl (by rfl) (wp_of_run (run_b56z (by rfl)) ?_))
            | (refine sto 2 (by rfl) ?_; refine wl (by rfl) (s_sta (cs := rcs (zq 0) (.slice none 0 0) (.slice none 0 0)) HS.out 3 70 (by rfl) (by rfl) (by rfl) ag56 (by rfl) (by exact rcs_length (zq_ok 0) _ _) (by exact cells_rq _ rfl rfl) (by exact Nat.le_of_eq (rcs_length (zq_ok _) _ _).symm) ?_); intro Wn hS; rw [splice_all ((rcs_length (zq_ok 0) _ _).trans (rcs_length (zq_ok _) _ _).symm)] at hS; clear HS; have HS := Lib.hid hS; clear hS))
          exact bodyPost_ret (ret_ct56 (p := 2) (u := 3) rfl _ b2 _ 56 (0, 0) _ (by rfl) (by rfl) (HS.out.blk (i := 3) rfl) (by rw [List.size_toArray]; exact rcs_length (zq_ok 0) _ _)) rfl ⟨zq 0, (.slice none 0 0), (.slice none 0 0), 290, rfl, HD.out, (((((HS.out.sub 0).sub 0).sub 0).sub 0).dropF (Gs := []) (fun G hG => by cases hG)).nilRow.nilRow⟩
        | true =>
          rw [hc] at HS
          simp only [↓reduceIte] at HS ⊢
          by_cases hd : encQ ⟨2, (hshV l), (numV R), (numV (numL R)), 0, [], z32, []⟩ = 2 :: l
          · have HP : DecP (2 :: l) ⟨2, (hshV l), (numV R), (numV (numL R)), 0, [], z32, []⟩ 0 := ⟨(⟨HHV.out, rfl, numV_lt _, numV_lt _, Nat.zero_lt_succ _⟩ : Req.ok ⟨2, (hshV l), (numV R), (numV (numL R)), 0, [], z32, []⟩), .inl ⟨rfl, hc, hd⟩⟩
            rw [hd] at HS ⊢
            clear hd
            go_wp2_with (first
              | (refine atd 150 (by rfl) ?_; refine wl (by rfl) (wp_of_run (run_str (xs := (2 :: l)) (by rfl) (by rfl) (Row.hb (l := (2 :: l)) (HS.out.res (i := 0) rfl))) ?_))
              | (refine atd 152 (by rfl) ?_; refine wl (by rfl) (wp_of_run (run_str (xs := 2 :: l) (by rfl) (by rfl) (HS.out.fact (i := 0) rfl)) ?_))
              | (refine atd 156 (by rfl) ?_; refine wl (by rfl) (s_lda (cs := rcs ⟨2, (hshV l), (numV R), (numV (numL R)), 0, [], z32, []⟩ (.slice none 0 0) (.slice none 0 0)) HS.out 2 70 (by rfl) (by rfl) (by rfl) ag56 (by exact rcs_all (⟨HHV.out, rfl, numV_lt _, numV_lt _, Nat.zero_lt_succ _⟩ : Req.ok ⟨2, (hshV l), (numV R), (numV (numL R)), 0, [], z32, []⟩) _ _) (by exact rcs_length (⟨HHV.out, rfl, numV_lt _, numV_lt _, Nat.zero_lt_succ _⟩ : Req.ok ⟨2, (hshV l), (numV R), (numV (numL R)), 0, [], z32, []⟩) _ _) ?_))
              | (refine sto 2 (by rfl) ?_; refine wl (by rfl) (s_sta (cs := rcs ⟨2, (hshV l), (numV R), (numV (numL R)), 0, [], z32, []⟩ (.slice none 0 0) (.slice none 0 0)) HS.out 3 70 (by rfl) (by rfl) (by rfl) ag56 (by rfl) (by exact rcs_length (⟨HHV.out, rfl, numV_lt _, numV_lt _, Nat.zero_lt_succ _⟩ : Req.ok ⟨2, (hshV l), (numV R), (numV (numL R)), 0, [], z32, []⟩) _ _) (by exact cells_rq _ rfl rfl) (by exact Nat.le_of_eq (rcs_length (zq_ok _) _ _).symm) ?_); intro Wn hS; rw [splice_all ((rcs_length (⟨HHV.out, rfl, numV_lt _, numV_lt _, Nat.zero_lt_succ _⟩ : Req.ok ⟨2, (hshV l), (numV R), (numV (numL R)), 0, [], z32, []⟩) _ _).trans (rcs_length (zq_ok _) _ _).symm)] at hS; clear HS; have HS := Lib.hid hS; clear hS))
            exact bodyPost_ret (ret_ct56 (p := 2) (u := 3) rfl _ b2 _ 56 (0, 0) _ (by rfl) (by rfl) (HS.out.blk (i := 3) rfl) (by rw [List.size_toArray]; exact rcs_length (⟨HHV.out, rfl, numV_lt _, numV_lt _, Nat.zero_lt_succ _⟩ : Req.ok ⟨2, (hshV l), (numV R), (numV (numL R)), 0, [], z32, []⟩) _ _)) rfl ⟨⟨2, (hshV l), (numV R), (numV (numL R)), 0, [], z32, []⟩, (.slice none 0 0), (.slice none 0 0), 0, rfl, HP, (((((HS.out.sub 0).sub 0).sub 0).sub 0).dropF (Gs := []) (fun G hG => by cases hG)).nilRow.nilRow⟩
          · have HP := HNO.out (fun _ => hd)
            have hne : (encQ ⟨2, (hshV l), (numV R), (numV (numL R)), 0, [], z32, []⟩ == (2 :: l)) = false := beq_eq_false_iff_ne.2 hd
            clear hd
            go_wp2_with (first
              | (refine atd 150 (by rfl) ?_; refine wl (by rfl) (wp_of_run (run_str (xs := (encQ ⟨2, (hshV l), (numV R), (numV (numL R)), 0, [], z32, []⟩)) (by rfl) (by rfl) (Row.hb (l := (encQ ⟨2, (hshV l), (numV R), (numV (numL R)), 0, [], z32, []⟩)) (HS.out.res (i := 0) rfl))) ?_))
              | (refine atd 152 (by rfl) ?_; refine wl (by rfl) (wp_of_run (run_str (xs := 2 :: l) (by rfl) (by rfl) (HS.out.fact (i := 0) rfl)) ?_))
              | (refine atd 155 (by rfl) ?_; refine wl (by rfl) (wp_of_run (run_b56z (by rfl)) ?_))
              | (refine sto 2 (by rfl) ?_; refine wl (by rfl) (s_sta (cs := rcs (zq 0) (.slice none 0 0) (.slice none 0 0)) HS.out 3 70 (by rfl) (by rfl) (by rfl) ag56 (by rfl) (by exact rcs_length (zq_ok 0) _ _) (by exact cells_rq _ rfl rfl) (by exact Nat.le_of_eq (rcs_length (zq_ok _) _ _).symm) ?_); intro Wn hS; rw [splice_all ((rcs_length (zq_ok 0) _ _).trans (rcs_length (zq_ok _) _ _).symm)] at hS; clear HS; have HS := Lib.hid hS; clear hS))
            exact bodyPost_ret (ret_ct56 (p := 2) (u := 3) rfl _ b2 _ 56 (0, 0) _ (by rfl) (by rfl) (HS.out.blk (i := 3) rfl) (by rw [List.size_toArray]; exact rcs_length (zq_ok 0) _ _)) rfl ⟨zq 0, (.slice none 0 0), (.slice none 0 0), 290, rfl, HP, (((((HS.out.sub 0).sub 0).sub 0).sub 0).dropF (Gs := []) (fun G hG => by cases hG)).nilRow.nilRow⟩
      have m1 : ¬ ((4 * j : Nat) : Int) + 4 ≤ (M2 : Int) := by omega
      have m1' : ¬ 4 * (j : Int) + 4 ≤ (M2 : Int) := by omega
      have HNE := Lib.hid (nums_end (R := R) hj (by rw [HRL.out]; exact hj4) (by rw [HRL.out]; exact .inr (by omega)))
      have i07 : (0 : Int) < (j : Int) + 2 := by omega
      have i17 : (1 : Int) < (j : Int) + 2 := by omega
      go_wp2_with (first
        | (refine atd 82 (by rfl) ?_; refine wl (by rfl) (s_bs (E := 48) (z := (.int .u32 0)) HS.out 2 1 [.int .u32 0, .int .u32 0] (by rfl) Try.underlying95 (by kernel_rfl) (by rfl) (by decide) (by decide) (by kernel_rfl) (by rfl) (by decide) ?_); intro b82 Wn hS; clear HS; have HS := Lib.hid hS; clear hS)
        | (refine atd 83 (by rfl) ?_; refine wl (by rfl) (s_rows (size := 1) (bytes := 4) (z := .int .u32 0) HS.out 1 0 (by rfl) Try.underlying95 (by kernel_rfl) (by rfl) (by decide) (by rfl) (by rfl) (by rfl) (by rfl) (by intro u hu; simp at hu; rcases hu with rfl | rfl <;> rfl) (by omega) (by omega) ?_); intro v83 Wn hS; replace hS := hS.sub 0; clear HS; have HS := Lib.hid hS; clear hS; obtain ⟨g7, c7, rfl⟩ := rowE_some (HS.out.res (i := 0) rfl) (by omega))
        | (refine atd 85 (by rfl) ?_; refine wl (by rfl) (s_ld (v := .int .i64 2) HS.out 1 (by rfl) (by rfl) (by rfl) (by kernel_rfl) (by exact rcs_0 _ _) ?_)))
      refine wp_region_pi [(0, true), (2, true), (3, true), (4, true), (1, false), (5, true), (6, true), (7, false)] (by kernel_rfl) (by kernel_rfl) rfl (by kernel_rfl) (fun _ _ _ _ _ h => h) (fun w' => St w w' [Row (.slice (some ⟨g7, 0, none⟩) (j + 2) c7) 48 1 (j + 2) (nums R j ++ [Value.int .u32 0, Value.int .u32 0])] [fun W => HB W (.slice (some ad) N c) (2 :: l), fun W => W.cell? (ad.add 0) = some (.int .u8 2), fun W => HB W (.slice (some a1) M c1) l, fun W => HB W (.slice A2 M2 c2) R]) ((HS.out.drew.sub 1).sub 1) ?_
      intro OPS hops
      have hS := HS.out.drew
      clear HS; have HS := Lib.hid hS; clear hS
      iterate 4
        first | (refine wpPi_yield _ (by rw [hops.out]; simp only [List.getElem?_toArray, List.getElem?_cons_succ, List.getElem?_cons_zero]; rfl) (by first | rfl | (rw [hops.out]; rfl)) (fun w' hS => by first | exact run_ld (v := .int .u32 ((numV R : Nat) : Int)) (by kernel_rfl) (by rfl) (by rfl) (rowE_cell (hS.res (i := 0) rfl) HNE.out.1) | exact run_b54 (by rfl) (by rfl) (by rfl) HHV.out | (go_simp; rfl)) ?_; simp only [Act.put, List.setIfInBounds_toArray, List.set_cons_succ, List.set_cons_zero]) | (refine wpPi_skip (by rw [hops.out]; simp only [List.getElem?_toArray, List.getElem?_cons_succ, List.getElem?_cons_zero]; rfl) (by first | rfl | (rw [hops.out]; rfl)) ?_; simp only [Act.put, List.setIfInBounds_toArray, List.set_cons_succ, List.set_cons_zero])
      refine wpPi_act (by rw [hops.out]; simp only [List.getElem?_toArray, List.getElem?_cons_succ, List.getElem?_cons_zero]; rfl) (by first | rfl | (rw [hops.out]; rfl)) ?_
      refine s_lda (cs := bs (hshV l)) HS.out 1 32 (by rfl) (by rfl) (by rfl) ag52 (by exact rcs_ha (⟨rfl, HHV.out, Nat.zero_lt_succ _, Nat.zero_lt_succ _, Nat.zero_lt_succ _⟩ : Req.ok ⟨2, z32, 0, 0, 0, [], (hshV l), []⟩) _ _) (by rw [bs_length]; exact HHV.out) ?_
      refine ⟨((HS.out.sub 1).sub 1), ?_⟩
      try simp only [Act.put, List.setIfInBounds_toArray, List.set_cons_succ, List.set_cons_zero]
      iterate 2
        first | (refine wpPi_yield _ (by rw [hops.out]; simp only [List.getElem?_toArray, List.getElem?_cons_succ, List.getElem?_cons_zero]; rfl) (by first | rfl | (rw [hops.out]; rfl)) (fun w' hS => by first | exact run_ld (v := .int .u32 ((numV R : Nat) : Int)) (by kernel_rfl) (by rfl) (by rfl) (rowE_cell (hS.res (i := 0) rfl) HNE.out.1) | exact run_b54 (by rfl) (by rfl) (by rfl) HHV.out | (go_simp; rfl)) ?_; simp only [Act.put, List.setIfInBounds_toArray, List.set_cons_succ, List.set_cons_zero]) | (refine wpPi_skip (by rw [hops.out]; simp only [List.getElem?_toArray, List.getElem?_cons_succ, List.getElem?_cons_zero]; rfl) (by first | rfl | (rw [hops.out]; rfl)) ?_; simp only [Act.put, List.setIfInBounds_toArray, List.set_cons_succ, List.set_cons_zero])
      refine wpPi_act (by rw [hops.out]; simp only [List.getElem?_toArray, List.getElem?_cons_succ, List.getElem?_cons_zero]; rfl) (by first | rfl | (rw [hops.out]; rfl)) ?_
      refine s_sta (cs := bs (hshV l) ++ [.int .u32 ((numV R : Nat) : Int)]) HS.out 1 33 (by rfl) (by rfl) (by rfl) ag54 (by rfl) (by rw [List.length_append, bs_length, HHV.out]; rfl) (by exact one_pt _ _) (by rw [rcs_length (⟨rfl, HHV.out, Nat.zero_lt_succ _, Nat.zero_lt_succ _, Nat.zero_lt_succ _⟩ : Req.ok ⟨2, z32, 0, 0, 0, [], (hshV l), []⟩)]; decide) ?_
      intro Wn hS
      rw [rcs_splPt (hx := HHV.out) (ht := rfl)] at hS
      clear HS; have HS := Lib.hid hS; clear hS
      refine ⟨((HS.out.sub 1).sub 1), ?_⟩
      try simp only [Act.put, List.setIfInBounds_toArray, List.set_cons_succ, List.set_cons_zero]
      simp only [wpPi]
      clear OPS hops
      go_wp2_with (first
        | (refine atd 101 (by rfl) ?_; refine wl (by rfl) (wp_of_run (run_b52z (by rfl)) ?_))
        | (refine sto 102 (by rfl) ?_; refine wl (by rfl) (s_sta (cs := bs z32) HS.out 1 32 (by rfl) (by rfl) (by rfl) ag52 (by rfl) (by rfl) (by exact all_bs _) (by rw [rcs_length (⟨HHV.out, HHV.out, numV_lt _, Nat.zero_lt_succ _, Nat.zero_lt_succ _⟩ : Req.ok ⟨2, (hshV l), (numV R), 0, 0, [], (hshV l), []⟩)]; decide) ?_); intro Wn hS; rw [rcs_splHa (hx := rfl) (ht := HHV.out) (hh := HHV.out)] at hS; clear HS; have HS := Lib.hid hS; clear hS)
        | (refine atd 105 (by rfl) ?_; refine wl (by rfl) (wp_of_run (run_ld (v := .int .u32 ((numV (numL R) : Nat) : Int)) (by kernel_rfl) (by rfl) (by rfl) (rowE_cell (HS.out.res (i := 0) rfl) HNE.out.2)) ?_))
        | (refine sto 106 (by rfl) ?_; refine wl (by rfl) (s_st (v := .int .u32 (((numV (numL R)) : Nat) : Int)) HS.out 1 (by rfl) (by rfl) (by rfl) (by kernel_rfl) (by rfl) (by rfl) (by rw [rcs_length (⟨HHV.out, rfl, numV_lt _, Nat.zero_lt_succ _, Nat.zero_lt_succ _⟩ : Req.ok ⟨2, (hshV l), (numV R), 0, 0, [], z32, []⟩)]; decide) ?_); intro Wn hS; rw [rcs_setH (hx := HHV.out)] at hS; clear HS; have HS := Lib.hid hS; clear hS)
        | (refine atd 142 (by rfl) ?_; refine wl (by rfl) (s_lda (cs := rcs ⟨2, (hshV l), (numV R), (numV (numL R)), 0, [], z32, []⟩ (.slice none 0 0) (.slice none 0 0)) HS.out 1 70 (by rfl) (by rfl) (by rfl) ag56 (by exact rcs_all (⟨HHV.out, rfl, numV_lt _, numV_lt _, Nat.zero_lt_succ _⟩ : Req.ok ⟨2, (hshV l), (numV R), (numV (numL R)), 0, [], z32, []⟩) _ _) (by exact rcs_length (⟨HHV.out, rfl, numV_lt _, numV_lt _, Nat.zero_lt_succ _⟩ : Req.ok ⟨2, (hshV l), (numV R), (numV (numL R)), 0, [], z32, []⟩) _ _) ?_)))
      refine (enc28 ⟨2, (hshV l), (numV R), (numV (numL R)), 0, [], z32, []⟩ (.slice none 0 0) (.slice none 0 0) _ (⟨HHV.out, rfl, numV_lt _, numV_lt _, Nat.zero_lt_succ _⟩ : Req.ok ⟨2, (hshV l), (numV R), (numV (numL R)), 0, [], z32, []⟩) (HB.nil _ _ _) (HB.nil _ _ _) (by exact Nat.zero_le _) (by exact Nat.zero_le _)).mono ?_
      rintro e Wn ⟨ve, rfl, hb⟩
      have hS := HS.out.take hb
      clear hb HS
      have HS := Lib.hid hS
      clear hS
      unfold chkI encOQ at *
      obtain ⟨Ae, ke, rfl⟩ := Row.sl (HS.out.res (i := 0) rfl)
      cases hc : chkQ ⟨2, (hshV l), (numV R), (numV (numL R)), 0, [], z32, []⟩ with
      | false =>
        rw [hc] at HS
        have HD := Lib.hid (HNO.out (fun h => by rw [hc] at h; cases h))
        simp only [Bool.false_eq_true, ↓reduceIte] at HS ⊢
        go_wp2_with (first
          | (refine atd 155 (by rfl) ?_; refine wl (by rfl) (wp_of_run (run_b56z (by rfl)) ?_))
          | (refine sto 2 (by rfl) ?_; refine wl (by rfl) (s_sta (cs := rcs (zq 0) (.slice none 0 0) (.slice none 0 0)) HS.out 3 70 (by rfl) (by rfl) (by rfl) ag56 (by rfl) (by exact rcs_length (zq_ok 0) _ _) (by exact cells_rq _ rfl rfl) (by exact Nat.le_of_eq (rcs_length (zq_ok _) _ _).symm) ?_); intro Wn hS; rw [splice_all ((rcs_length (zq_ok 0) _ _).trans (rcs_length (zq_ok _) _ _).symm)] at hS; clear HS; have HS := Lib.hid hS; clear hS))
        exact bodyPost_ret (ret_ct56 (p := 2) (u := 3) rfl _ b2 _ 56 (0, 0) _ (by rfl) (by rfl) (HS.out.blk (i := 3) rfl) (by rw [List.size_toArray]; exact rcs_length (zq_ok 0) _ _)) rfl ⟨zq 0, (.slice none 0 0), (.slice none 0 0), 290, rfl, HD.out, (((((HS.out.sub 0).sub 0).sub 0).sub 0).dropF (Gs := []) (fun G hG => by cases hG)).nilRow.nilRow⟩
      | true =>
        rw [hc] at HS
        simp only [↓reduceIte] at HS ⊢
        by_cases hd : encQ ⟨2, (hshV l), (numV R), (numV (numL R)), 0, [], z32, []⟩ = 2 :: l
        · have HP : DecP (2 :: l) ⟨2, (hshV l), (numV R), (numV (numL R)), 0, [], z32, []⟩ 0 := ⟨(⟨HHV.out, rfl, numV_lt _, numV_lt _, Nat.zero_lt_succ _⟩ : Req.ok ⟨2, (hshV l), (numV R), (numV (numL R)), 0, [], z32, []⟩), .inl ⟨rfl, hc, hd⟩⟩
          rw [hd] at HS ⊢
          clear hd
          go_wp2_with (first
            | (refine atd 150 (by rfl) ?_; refine wl (by rfl) (wp_of_run (run_str (xs := (2 :: l)) (by rfl) (by rfl) (Row.hb (l := (2 :: l)) (HS.out.res (i := 0) rfl))) ?_))
            | (refine atd 152 (by rfl) ?_; refine wl (by rfl) (wp_of_run (run_str (xs := 2 :: l) (by rfl) (by rfl) (HS.out.fact (i := 0) rfl)) ?_))
            | (refine atd 156 (by rfl) ?_; refine wl (by rfl) (s_lda (cs := rcs ⟨2, (hshV l), (numV R), (numV (numL R)), 0, [], z32, []⟩ (.slice none 0 0) (.slice none 0 0)) HS.out 2 70 (by rfl) (by rfl) (by rfl) ag56 (by exact rcs_all (⟨HHV.out, rfl, numV_lt _, numV_lt _, Nat.zero_lt_succ _⟩ : Req.ok ⟨2, (hshV l), (numV R), (numV (numL R)), 0, [], z32, []⟩) _ _) (by exact rcs_length (⟨HHV.out, rfl, numV_lt _, numV_lt _, Nat.zero_lt_succ _⟩ : Req.ok ⟨2, (hshV l), (numV R), (numV (numL R)), 0, [], z32, []⟩) _ _) ?_))
            | (refine sto 2 (by rfl) ?_; refine wl (by rfl) (s_sta (cs := rcs ⟨2, (hshV l), (numV R), (numV (numL R)), 0, [], z32, []⟩ (.slice none 0 0) (.slice none 0 0)) HS.out 3 70 (by rfl) (by rfl) (by rfl) ag56 (by rfl) (by exact rcs_length (⟨HHV.out, rfl, numV_lt _, numV_lt _, Nat.zero_lt_succ _⟩ : Req.ok ⟨2, (hshV l), (numV R), (numV (numL R)), 0, [], z32, []⟩) _ _) (by exact cells_rq _ rfl rfl) (by exact Nat.le_of_eq (rcs_length (zq_ok _) _ _).symm) ?_); intro Wn hS; rw [splice_all ((rcs_length (⟨HHV.out, rfl, numV_lt _, numV_lt _, Nat.zero_lt_succ _⟩ : Req.ok ⟨2, (hshV l), (numV R), (numV (numL R)), 0, [], z32, []⟩) _ _).trans (rcs_length (zq_ok _) _ _).symm)] at hS; clear HS; have HS := Lib.hid hS; clear hS))
          exact bodyPost_ret (ret_ct56 (p := 2) (u := 3) rfl _ b2 _ 56 (0, 0) _ (by rfl) (by rfl) (HS.out.blk (i := 3) rfl) (by rw [List.size_toArray]; exact rcs_length (⟨HHV.out, rfl, numV_lt _, numV_lt _, Nat.zero_lt_succ _⟩ : Req.ok ⟨2, (hshV l), (numV R), (numV (numL R)), 0, [], z32, []⟩) _ _)) rfl ⟨⟨2, (hshV l), (numV R), (numV (numL R)), 0, [], z32, []⟩, (.slice none 0 0), (.slice none 0 0), 0, rfl, HP, (((((HS.out.sub 0).sub 0).sub 0).sub 0).dropF (Gs := []) (fun G hG => by cases hG)).nilRow.nilRow⟩
        · have HP := HNO.out (fun _ => hd)
          have hne : (encQ ⟨2, (hshV l), (numV R), (numV (numL R)), 0, [], z32, []⟩ == (2 :: l)) = false := beq_eq_false_iff_ne.2 hd
          clear hd
          go_wp2_with (first
            | (refine atd 150 (by rfl) ?_; refine wl (by rfl) (wp_of_run (run_str (xs := (encQ ⟨2, (hshV l), (numV R), (numV (numL R)), 0, [], z32, []⟩)) (by rfl) (by rfl) (Row.hb (l := (encQ ⟨2, (hshV l), (numV R), (numV (numL R)), 0, [], z32, []⟩)) (HS.out.res (i := 0) rfl))) ?_))
            | (refine atd 152 (by rfl) ?_; refine wl (by rfl) (wp_of_run (run_str (xs := 2 :: l) (by rfl) (by rfl) (HS.out.fact (i := 0) rfl)) ?_))
            | (refine atd 155 (by rfl) ?_; refine wl (by rfl) (wp_of_run (run_b56z (by rfl)) ?_))
            | (refine sto 2 (by rfl) ?_; refine wl (by rfl) (s_sta (cs := rcs (zq 0) (.slice none 0 0) (.slice none 0 0)) HS.out 3 70 (by rfl) (by rfl) (by rfl) ag56 (by rfl) (by exact rcs_length (zq_ok 0) _ _) (by exact cells_rq _ rfl rfl) (by exact Nat.le_of_eq (rcs_length (zq_ok _) _ _).symm) ?_); intro Wn hS; rw [splice_all ((rcs_length (zq_ok 0) _ _).trans (rcs_length (zq_ok _) _ _).symm)] at hS; clear HS; have HS := Lib.hid hS; clear hS))
          exact bodyPost_ret (ret_ct56 (p := 2) (u := 3) rfl _ b2 _ 56 (0, 0) _ (by rfl) (by rfl) (HS.out.blk (i := 3) rfl) (by rw [List.size_toArray]; exact rcs_length (zq_ok 0) _ _)) rfl ⟨zq 0, (.slice none 0 0), (.slice none 0 0), 290, rfl, HP, (((((HS.out.sub 0).sub 0).sub 0).sub 0).dropF (Gs := []) (fun G hG => by cases hG)).nilRow.nilRow⟩
end
end Go.Proofs.Ytlpklbpaknemaaa
