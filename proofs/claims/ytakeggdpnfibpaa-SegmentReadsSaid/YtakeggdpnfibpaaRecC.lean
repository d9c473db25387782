/- Contracts and words that the laws stand on (RecC). -/
import Derived.Test.YtakeggdpnfibpaaRecB
import Derived.Test.YtakeggdpnfibpaaLawA
set_option linter.unusedVariables false
set_option linter.unusedSimpArgs false
namespace Go.Proofs.Ytakeggdpnfibpaa
section
open Go Go.RowKit Go.Proofs
section
variable {w W : World} {L : List Res} {Fs : List (World → Prop)}
theorem St.swap {r s : Res} (h : St w W (r :: s :: L) Fs) : St w W (s :: r :: L) Fs := by
  have key : ∀ (i : Nat), (s :: r :: L)[i]? = (r :: s :: L)[if i = 0 then 1 else if i = 1 then 0 else i]? := by
    intro i
    match i with
    | 0 => rfl
    | 1 => rfl
    | i + 2 => rw [if_neg (by omega), if_neg (by omega)]; rfl
  refine ⟨h.below, fun x hx => h.own x (by simp only [List.mem_cons] at hx ⊢; rcases hx with h | h | h; exact .inr (.inl h); exact .inl h; exact .inr (.inr h)), ?_, fun F hF => (h.facts F hF).mono ?_⟩
  · intro i j x y hi hj hij
    rw [key] at hi hj
    refine h.apart _ _ x y hi hj ?_
    split <;> split <;> (try split) <;> (try split) <;> omega
  · rintro k ⟨x, hx, hk⟩
    refine ⟨x, ?_, hk⟩
    simp only [List.mem_cons] at hx ⊢
    rcases hx with h | h | h
    · exact .inr (.inl h)
    · exact .inl h
    · exact .inr (.inr h)
end
theorem region_join3 {α β γ : Type} {P : Program} {c : Code} {Q : Exit → Act → World → Prop} {a : Act} {w : World} {S : α → β → γ → World → Prop} {mk : α → β → γ → Act} (hreg : c.wp P (fun e a' w' => e = .normal ∧ ∃ b d x, a' = mk b d x ∧ S b d x w') a w) (hK : ∀ b d x V, S b d x V → Q .normal (mk b d x) V) : c.wp P Q a w :=
  Code.wp_mono (fun e a' w' h => by obtain ⟨rfl, b, d, x, rfl, hS⟩ := h; exact hK b d x _ hS) hreg
theorem run_str {W : World} {ev : Operand → Value} {o : Oper} {x : Operand} {v : Value} {xs : List UInt8} (ho : o.op = .convert 28 9 x) (hx : ev x = v) (h : HB W v xs) : (execOp ev o).run Try.prog W = .ok (.value (.string ⟨xs.toArray⟩)) W := by
  unfold execOp
  simp only [ho, hx, Sem.run_bind, Sem.run_pure, Result.andThen_ok, h.string (P := Try.prog) 28 9 5 Try.underlying28 Try.underlying5 Try.underlying9]
theorem ba_eq (a b : List UInt8) : ((⟨a.toArray⟩ : ByteArray) = ⟨b.toArray⟩) ↔ a = b := by
  constructor
  · intro h
    have := congrArg ByteArray.data h
    exact Array.toList_inj.2 this |> fun h => by simpa using h
  · rintro rfl; rfl
attribute [local irreducible] Calls
set_option maxHeartbeats 1000000 in
set_option maxRecDepth 100000 in
theorem dec13_far (v : Value) (xs : List UInt8) (i : Int) (w : World) (h : HB w v xs) (hb : i < 0 ∨ (xs.length : Int) < i ∨ (xs.length : Int) - i < 13) :
    Calls Try.prog 39 #[v, .int .i64 i] w fun e w' => e = .returned decBad ∧ Below w.heap.size w w' := by
  have HS := Lib.hid (St.start w)
  obtain ⟨A, c, rfl, hlc⟩ := h.shape
  clear h
  rcases (by omega : i < 0 ∨ (¬ i < 0 ∧ (xs.length : Int) < i) ∨ (¬ i < 0 ∧ ¬ (xs.length : Int) < i ∧ (xs.length : Int) - i < 13)) with h | ⟨h, h'⟩ | ⟨h, h', h''⟩
  · go_enter Try.func39, Try.ntmps39
    go_wp2_with (first
      | (refine wl (by rfl) (s_al HS.out (by rfl) z25 (by rfl) ?_); intro b1 Wn hS; clear HS; have HS := Lib.hid hS; clear hS)
      | (refine wl (by rfl) (s_sta (cs := [.int .i64 0, .slice none 0 0]) HS.out 0 2 (by rfl) (by rfl) (by rfl) ag25 (by rfl) (by rfl) (by intro v hv; simp at hv; rcases hv with rfl | rfl <;> rfl) (by decide) ?_); intro Wn hS; clear HS; have HS := Lib.hid hS; clear hS))
    exact bodyPost_ret (ret_rtt (p := 4) (u := 5) (q := 6) rfl _ b1 _ 48 (0, 0) (.int .i64 0) (.int .i64 160) (by rfl) (by rfl) (by rfl) (HS.out.blk (i := 0) rfl) (by rfl)) rfl ⟨rfl, HS.out.below⟩
  · go_enter Try.func39, Try.ntmps39
    go_wp2_with (first
      | (refine wl (by rfl) (s_al HS.out (by rfl) z25 (by rfl) ?_); intro b1 Wn hS; clear HS; have HS := Lib.hid hS; clear hS)
      | (refine wl (by rfl) (s_sta (cs := [.int .i64 0, .slice none 0 0]) HS.out 0 2 (by rfl) (by rfl) (by rfl) ag25 (by rfl) (by rfl) (by intro v hv; simp at hv; rcases hv with rfl | rfl <;> rfl) (by decide) ?_); intro Wn hS; clear HS; have HS := Lib.hid hS; clear hS))
    exact bodyPost_ret (ret_rtt (p := 4) (u := 5) (q := 6) rfl _ b1 _ 48 (0, 0) (.int .i64 0) (.int .i64 160) (by rfl) (by rfl) (by rfl) (HS.out.blk (i := 0) rfl) (by rfl)) rfl ⟨rfl, HS.out.below⟩
  · go_enter Try.func39, Try.ntmps39
    go_wp2_with (first
      | (refine wl (by rfl) (s_al HS.out (by rfl) z25 (by rfl) ?_); intro b1 Wn hS; clear HS; have HS := Lib.hid hS; clear hS)
      | (refine wl (by rfl) (s_sta (cs := [.int .i64 0, .slice none 0 0]) HS.out 0 2 (by rfl) (by rfl) (by rfl) ag25 (by rfl) (by rfl) (by intro v hv; simp at hv; rcases hv with rfl | rfl <;> rfl) (by decide) ?_); intro Wn hS; clear HS; have HS := Lib.hid hS; clear hS))
    exact bodyPost_ret (ret_rtt (p := 4) (u := 5) (q := 6) rfl _ b1 _ 48 (0, 0) (.int .i64 0) (.int .i64 160) (by rfl) (by rfl) (by rfl) (HS.out.blk (i := 0) rfl) (by rfl)) rfl ⟨rfl, HS.out.below⟩
set_option maxHeartbeats 1000000 in
set_option maxRecDepth 100000 in
theorem dec13_long (v : Value) (xs : List UInt8) (a n : Nat) (w : World) (h : HB w v xs) (ha : a + 13 ≤ xs.length) (hl : xs.length ≤ 1000000) (hn : leNum ((xs.drop (a + 1)).take 4) = n) (hN : 200000 < n ∨ xs.length < a + n + 13) :
    Calls Try.prog 39 #[v, .int .i64 (a : Int)] w fun e w' => e = .returned decBad ∧ Below w.heap.size w w' := by
  obtain ⟨A, c, rfl, hlc⟩ := h.shape
  have k1 : ¬ (a : Int) < 0 := by omega
  have k2 : ¬ (xs.length : Int) < (a : Int) := by omega
  have k3 : ¬ (xs.length : Int) - (a : Int) < 13 := by omega
  have hn32 : n < 4294967296 := by rw [← hn]; exact leNum_32 _ (by simp; omega)
  have w64 : IntKind.i64.wrap (n : Int) = (n : Int) := by rw [IntKind.wrap_i64]; omega
  have wu : IntKind.u64.wrap ((xs.length : Int) - (a : Int) - 13) = (xs.length : Int) - (a : Int) - 13 := by rw [IntKind.wrap_u64]; omega
  have HN := Lib.hid hn; clear hn
  have hs1 : ∀ W, (Instr.slice 28 (.slice A xs.length c) (some (.int .i64 ((a : Int) + 1))) (some (.int .i64 ((a : Int) + 5))) none).run Try.prog W = .ok (.slice (cutA A c (a + 1)) 4 (c - (a + 1))) W := fun W => by
    have := cut_run A xs.length c (a + 1) 4 (by omega) hlc W
    rwa [show ((a + 1 : Nat) : Int) = (a : Int) + 1 by push_cast; rfl, show (a : Int) + 1 + ((4 : Nat) : Int) = (a : Int) + 5 by omega] at this
  have HS := Lib.hid ((St.start w).addF (cut_hb h (a + 1) 4 (by omega)).away0)
  clear h
  rcases (by omega : (200000 : Int) < (n : Int) ∨ (¬ (200000 : Int) < (n : Int) ∧ (xs.length : Int) - (a : Int) - 13 < (n : Int))) with h | ⟨h, h'⟩
  · go_enter Try.func39, Try.ntmps39
    go_wp2_with (first
      | (refine wl (by rfl) (s_al HS.out (by rfl) z25 (by rfl) ?_); intro b1 Wn hS; clear HS; have HS := Lib.hid hS; clear hS)
      | (refine wl (by rfl) (s_sta (cs := [.int .i64 0, .slice none 0 0]) HS.out 0 2 (by rfl) (by rfl) (by rfl) ag25 (by rfl) (by rfl) (by intro v hv; simp at hv; rcases hv with rfl | rfl <;> rfl) (by decide) ?_); intro Wn hS; clear HS; have HS := Lib.hid hS; clear hS)
      | (go_at_call 52; refine (rnum_any _ _ _ (HS.out.fact (i := 0) rfl) (by simp; omega)).mono ?_; rw [HN.out]; rintro e Wn ⟨rfl, hb⟩; have hS := HS.out.call hb; clear hb; clear HS; have HS := Lib.hid hS; clear hS))
    exact bodyPost_ret (ret_rtt (p := 4) (u := 5) (q := 6) rfl _ b1 _ 48 (0, 0) (.int .i64 0) (.int .i64 160) (by rfl) (by rfl) (by rfl) (HS.out.blk (i := 0) rfl) (by rfl)) rfl ⟨rfl, HS.out.below⟩
  · go_enter Try.func39, Try.ntmps39
    go_wp2_with (first
      | (refine wl (by rfl) (s_al HS.out (by rfl) z25 (by rfl) ?_); intro b1 Wn hS; clear HS; have HS := Lib.hid hS; clear hS)
      | (refine wl (by rfl) (s_sta (cs := [.int .i64 0, .slice none 0 0]) HS.out 0 2 (by rfl) (by rfl) (by rfl) ag25 (by rfl) (by rfl) (by intro v hv; simp at hv; rcases hv with rfl | rfl <;> rfl) (by decide) ?_); intro Wn hS; clear HS; have HS := Lib.hid hS; clear hS)
      | (go_at_call 52; refine (rnum_any _ _ _ (HS.out.fact (i := 0) rfl) (by simp; omega)).mono ?_; rw [HN.out]; rintro e Wn ⟨rfl, hb⟩; have hS := HS.out.call hb; clear hb; clear HS; have HS := Lib.hid hS; clear hS))
    exact bodyPost_ret (ret_rtt (p := 4) (u := 5) (q := 6) rfl _ b1 _ 48 (0, 0) (.int .i64 0) (.int .i64 160) (by rfl) (by rfl) (by rfl) (HS.out.blk (i := 0) rfl) (by rfl)) rfl ⟨rfl, HS.out.below⟩
set_option maxHeartbeats 1000000 in
set_option maxRecDepth 100000 in
theorem dec13_no (v : Value) (xs : List UInt8) (a n : Nat) (w : World) (h : HB w v xs) (ha : a + 13 ≤ xs.length) (hl : xs.length ≤ 1000000) (hn : leNum ((xs.drop (a + 1)).take 4) = n) (hN : n ≤ 200000 ∧ a + n + 13 ≤ xs.length) (hQ : ∀ k, xs[a]? = some k → (recB k ((xs.drop (a + 9)).take n) = (xs.drop a).take (n + 13) ↔ False)) :
    Calls Try.prog 39 #[v, .int .i64 (a : Int)] w fun e w' => e = .returned decBad ∧ Below w.heap.size w w' := by
  obtain ⟨A, c, rfl, hlc⟩ := h.shape
  have k1 : ¬ (a : Int) < 0 := by omega
  have k2 : ¬ (xs.length : Int) < (a : Int) := by omega
  have k3 : ¬ (xs.length : Int) - (a : Int) < 13 := by omega
  have hn32 : n < 4294967296 := by rw [← hn]; exact leNum_32 _ (by simp; omega)
  have w64 : IntKind.i64.wrap (n : Int) = (n : Int) := by rw [IntKind.wrap_i64]; omega
  have wu : IntKind.u64.wrap ((xs.length : Int) - (a : Int) - 13) = (xs.length : Int) - (a : Int) - 13 := by rw [IntKind.wrap_u64]; omega
  have HN := Lib.hid hn; clear hn
  have hs1 : ∀ W, (Instr.slice 28 (.slice A xs.length c) (some (.int .i64 ((a : Int) + 1))) (some (.int .i64 ((a : Int) + 5))) none).run Try.prog W = .ok (.slice (cutA A c (a + 1)) 4 (c - (a + 1))) W := fun W => by
    have := cut_run A xs.length c (a + 1) 4 (by omega) hlc W
    rwa [show ((a + 1 : Nat) : Int) = (a : Int) + 1 by push_cast; rfl, show (a : Int) + 1 + ((4 : Nat) : Int) = (a : Int) + 5 by omega] at this
  obtain ⟨ad, rfl, hcell⟩ := h.at_ (i := a) (by omega) (by omega)
  obtain ⟨k, hk⟩ : ∃ k, k = xs[a]'(by omega) := ⟨_, rfl⟩
  rw [← hk] at hcell
  have hkx : xs[a]? = some k := by rw [hk]; exact List.getElem?_eq_getElem (by omega)
  have HCell : Away (Keys []) (fun W => W.cell? (ad.add a) = some (.int .u8 (k.toNat : Int))) w := fun W' hs => hs.cell (fun ⟨r, hr, _⟩ => by cases hr) hcell
  have HS := Lib.hid (((((St.start w).addF (cut_hb h a (n + 13) (by omega)).away0).addF (cut_hb h (a + 9) n (by omega)).away0).addF HCell).addF (cut_hb h (a + 1) 4 (by omega)).away0)
  have HQ : recB k ((xs.drop (a + 9)).take n) = (xs.drop a).take (n + 13) ↔ False := hQ k hkx
  generalize hpp : (xs.drop (a + 9)).take n = p at *
  have hpl : p.length = n := by rw [← hpp]; simp; omega
  have HPL := Lib.hid hpl
  have HPP := Lib.hid hpp
  have HCQ := Lib.hid HQ
  clear h HQ hk hkx hcell HCell hpp hQ hpl
  have j1 : ¬ (200000 : Int) < (n : Int) := by omega
  have j2 : ¬ (xs.length : Int) - (a : Int) - 13 < (n : Int) := by omega
  have j3 : (a : Int) < (xs.length : Int) := by omega
  have w8 : IntKind.i64.wrap (k.toNat : Int) = (k.toNat : Int) := by have := k.toNat_lt; rw [IntKind.wrap_i64]; omega
  have w9 : IntKind.i64.wrap ((a : Int) + 9) = (a : Int) + 9 := by rw [IntKind.wrap_i64]; omega
  have w13 : IntKind.i64.wrap ((a : Int) + 13 + (n : Int) - 4) = (a : Int) + 13 + (n : Int) - 4 := by rw [IntKind.wrap_i64]; omega
  have hs2 : ∀ W, (Instr.slice 28 (.slice (some ad) xs.length c) (some (.int .i64 ((a : Int) + 9))) (some (.int .i64 ((a : Int) + 13 + (n : Int) - 4))) none).run Try.prog W = .ok (.slice (cutA (some ad) c (a + 9)) n (c - (a + 9))) W := fun W => by
    have := cut_run (some ad) xs.length c (a + 9) n (by omega) hlc W
    rwa [show ((a + 9 : Nat) : Int) = (a : Int) + 9 by push_cast; rfl, show (a : Int) + 9 + (n : Int) = (a : Int) + 13 + (n : Int) - 4 by omega] at this
  have hs3 : ∀ W, (Instr.slice 28 (.slice (some ad) xs.length c) (some (.int .i64 (a : Int))) (some (.int .i64 ((a : Int) + 13 + (n : Int)))) none).run Try.prog W = .ok (.slice (cutA (some ad) c a) (n + 13) (c - a)) W := fun W => by
    have := cut_run (some ad) xs.length c a (n + 13) (by omega) hlc W
    rwa [show (a : Int) + ((n + 13 : Nat) : Int) = (a : Int) + 13 + (n : Int) by push_cast; omega] at this
  go_enter Try.func39, Try.ntmps39
  go_wp2_with (first
    | (refine wl (by rfl) (s_al HS.out (by rfl) z25 (by rfl) ?_); intro b1 Wn hS; clear HS; have HS := Lib.hid hS; clear hS)
    | (go_at_call 52; refine (rnum_any _ _ _ (HS.out.fact (i := 0) rfl) (by simp; omega)).mono ?_; rw [HN.out]; rintro e Wn ⟨rfl, hb⟩; have hS := HS.out.call hb; clear hb; clear HS; have HS := Lib.hid hS; clear hS))
  apply region_join3 (S := fun (b2 : Nat) (A1 : Option Addr) (c1 : Nat) V => St w V [Blk b2 [.int .i64 (k.toNat : Int), .slice A1 p.length c1] 48, Row (.slice A1 p.length c1) 5 1 p.length (bs p), Blk b1 [.int .i64 0, .slice none 0 0] 48] [(fun W => HB W (.slice (cutA (some ad) c (a + 1)) 4 (c - (a + 1))) ((xs.drop (a + 1)).take 4)), (fun W => W.cell? (ad.add a) = some (.int .u8 (k.toNat : Int))), (fun W => HB W (.slice (cutA (some ad) c (a + 9)) n (c - (a + 9))) p), (fun W => HB W (.slice (cutA (some ad) c a) (n + 13) (c - a)) ((xs.drop a).take (n + 13)))])
  case hreg =>
    refine wp_region_tr (.yield 0 (.yield 1 (.yield 2 (.yield 3 (.yield 4 (.yield 5 (.yield 6 (.yield 7 (.yield 8 (.yield 9 (.yield 10 (.act 11 (.yield 12 (.act 13 (.act 14 .done .none) .none)) (.act 13 (.act 11 (.yield 12 (.act 14 .done .none)) .none) .none))))))))))))) (by kernel_rfl) (by kernel_rfl) (by kernel_rfl) (fun _ _ _ _ _ h => absurd h.1 (by simp)) (fun w' => St w w' [Blk b1 [.int .i64 0, .slice none 0 0] 48] [(fun W => HB W (.slice (cutA (some ad) c (a + 1)) 4 (c - (a + 1))) ((xs.drop (a + 1)).take 4)), (fun W => W.cell? (ad.add a) = some (.int .u8 (k.toNat : Int))), (fun W => HB W (.slice (cutA (some ad) c (a + 9)) n (c - (a + 9))) p), (fun W => HB W (.slice (cutA (some ad) c a) (n + 13) (c - a)) ((xs.drop a).take (n + 13)))]) HS.out.drew ?_
    intro OPS hops
    have hS := HS.out.drew
    have HS := Lib.hid hS; clear hS
    refine wpT_yield _ (by rw [hops.out]; simp only [List.getElem?_toArray, List.getElem?_cons_succ, List.getElem?_cons_zero]; rfl) (by first | rfl | (rw [hops.out]; rfl)) (fun w' hS => by first | exact run_ld (by kernel_rfl) (by rfl) (by rfl) (hS.fact (i := 1) rfl) | (go_simp; rfl)) ?_
    simp only [Act.put, List.setIfInBounds_toArray, List.set_cons_succ, List.set_cons_zero]
    refine wpT_yield _ (by rw [hops.out]; simp only [List.getElem?_toArray, List.getElem?_cons_succ, List.getElem?_cons_zero]; rfl) (by first | rfl | (rw [hops.out]; rfl)) (fun w' hS => by first | exact run_ld (by kernel_rfl) (by rfl) (by rfl) (hS.fact (i := 1) rfl) | (go_simp; rfl)) ?_
    simp only [Act.put, List.setIfInBounds_toArray, List.set_cons_succ, List.set_cons_zero]
    refine wpT_yield _ (by rw [hops.out]; simp only [List.getElem?_toArray, List.getElem?_cons_succ, List.getElem?_cons_zero]; rfl) (by first | rfl | (rw [hops.out]; rfl)) (fun w' hS => by first | exact run_ld (by kernel_rfl) (by rfl) (by rfl) (hS.fact (i := 1) rfl) | (go_simp; rfl)) ?_
    simp only [Act.put, List.setIfInBounds_toArray, List.set_cons_succ, List.set_cons_zero]
    refine wpT_yield _ (by rw [hops.out]; simp only [List.getElem?_toArray, List.getElem?_cons_succ, List.getElem?_cons_zero]; rfl) (by first | rfl | (rw [hops.out]; rfl)) (fun w' hS => by first | exact run_ld (by kernel_rfl) (by rfl) (by rfl) (hS.fact (i := 1) rfl) | (go_simp; rfl)) ?_
    simp only [Act.put, List.setIfInBounds_toArray, List.set_cons_succ, List.set_cons_zero]
    refine wpT_yield _ (by rw [hops.out]; simp only [List.getElem?_toArray, List.getElem?_cons_succ, List.getElem?_cons_zero]; rfl) (by first | rfl | (rw [hops.out]; rfl)) (fun w' hS => by first | exact run_ld (by kernel_rfl) (by rfl) (by rfl) (hS.fact (i := 1) rfl) | (go_simp; rfl)) ?_
    simp only [Act.put, List.setIfInBounds_toArray, List.set_cons_succ, List.set_cons_zero]
    refine wpT_yield _ (by rw [hops.out]; simp only [List.getElem?_toArray, List.getElem?_cons_succ, List.getElem?_cons_zero]; rfl) (by first | rfl | (rw [hops.out]; rfl)) (fun w' hS => by first | exact run_ld (by kernel_rfl) (by rfl) (by rfl) (hS.fact (i := 1) rfl) | (go_simp; rfl)) ?_
    simp only [Act.put, List.setIfInBounds_toArray, List.set_cons_succ, List.set_cons_zero]
    refine wpT_yield _ (by rw [hops.out]; simp only [List.getElem?_toArray, List.getElem?_cons_succ, List.getElem?_cons_zero]; rfl) (by first | rfl | (rw [hops.out]; rfl)) (fun w' hS => by first | exact run_ld (by kernel_rfl) (by rfl) (by rfl) (hS.fact (i := 1) rfl) | (go_simp; rfl)) ?_
    simp only [Act.put, List.setIfInBounds_toArray, List.set_cons_succ, List.set_cons_zero]
    refine wpT_yield _ (by rw [hops.out]; simp only [List.getElem?_toArray, List.getElem?_cons_succ, List.getElem?_cons_zero]; rfl) (by first | rfl | (rw [hops.out]; rfl)) (fun w' hS => by first | exact run_ld (by kernel_rfl) (by rfl) (by rfl) (hS.fact (i := 1) rfl) | (go_simp; rfl)) ?_
    simp only [Act.put, List.setIfInBounds_toArray, List.set_cons_succ, List.set_cons_zero]
    refine wpT_yield _ (by rw [hops.out]; simp only [List.getElem?_toArray, List.getElem?_cons_succ, List.getElem?_cons_zero]; rfl) (by first | rfl | (rw [hops.out]; rfl)) (fun w' hS => by first | exact run_ld (by kernel_rfl) (by rfl) (by rfl) (hS.fact (i := 1) rfl) | (go_simp; rfl)) ?_
    simp only [Act.put, List.setIfInBounds_toArray, List.set_cons_succ, List.set_cons_zero]
    refine wpT_yield _ (by rw [hops.out]; simp only [List.getElem?_toArray, List.getElem?_cons_succ, List.getElem?_cons_zero]; rfl) (by first | rfl | (rw [hops.out]; rfl)) (fun w' hS => by first | exact run_ld (by kernel_rfl) (by rfl) (by rfl) (hS.fact (i := 1) rfl) | (go_simp; rfl)) ?_
    simp only [Act.put, List.setIfInBounds_toArray, List.set_cons_succ, List.set_cons_zero]
    refine wpT_yield _ (by rw [hops.out]; simp only [List.getElem?_toArray, List.getElem?_cons_succ, List.getElem?_cons_zero]; rfl) (by first | rfl | (rw [hops.out]; rfl)) (fun w' hS => by first | exact run_ld (by kernel_rfl) (by rfl) (by rfl) (hS.fact (i := 1) rfl) | (go_simp; rfl)) ?_
    simp only [Act.put, List.setIfInBounds_toArray, List.set_cons_succ, List.set_cons_zero]
    refine wpT_act (by rw [hops.out]; simp only [List.getElem?_toArray, List.getElem?_cons_succ, List.getElem?_cons_zero]; rfl) (by first | rfl | (rw [hops.out]; rfl)) ?_ ?_
    · go_simp
      refine (twinN _ p _ (HS.out.fact (i := 2) rfl) (by rw [HPL.out]; omega)).mono ?_
      rintro e Wn ⟨v1, rfl, hb⟩
      have hS := HS.out.take hb
      obtain ⟨A1, c1, rfl⟩ := Row.sl (hS.res (i := 0) rfl)
      clear HS
      have HS := Lib.hid hS
      clear hS hb
      refine ⟨(by first | exact HS.out | exact HS.out.sub 0 | exact (HS.out.sub 0).sub 0), ?_⟩
      try simp only [Act.put, List.setIfInBounds_toArray, List.set_cons_succ, List.set_cons_zero]
      refine wpT_yield _ (by rw [hops.out]; simp only [List.getElem?_toArray, List.getElem?_cons_succ, List.getElem?_cons_zero]; rfl) (by first | rfl | (rw [hops.out]; rfl)) (fun w' hS => by first | exact run_ld (by kernel_rfl) (by rfl) (by rfl) (hS.fact (i := 1) rfl) | (go_simp; rfl)) ?_
      simp only [Act.put, List.setIfInBounds_toArray, List.set_cons_succ, List.set_cons_zero]
      refine wpT_act (by rw [hops.out]; simp only [List.getElem?_toArray, List.getElem?_cons_succ, List.getElem?_cons_zero]; rfl) (by first | rfl | (rw [hops.out]; rfl)) ?_ trivial
      refine s_al HS.out (by rfl) z25 (by rfl) ?_
      intro b2 Wn hS
      have HS := Lib.hid hS; clear hS
      refine ⟨(by first | exact HS.out | exact HS.out.sub 0 | exact (HS.out.sub 0).sub 0), ?_⟩
      try simp only [Act.put, List.setIfInBounds_toArray, List.set_cons_succ, List.set_cons_zero]
      refine wpT_act (by rw [hops.out]; simp only [List.getElem?_toArray, List.getElem?_cons_succ, List.getElem?_cons_zero]; rfl) (by first | rfl | (rw [hops.out]; rfl)) ?_ trivial
      first | (refine s_sta (cs := [.int .i64 (k.toNat : Int), .slice A1 p.length c1]) HS.out 0 2 (by rfl) (by rfl) (by rfl) ag25 (by rfl) (by rfl) (by intro v hv; simp at hv; rcases hv with rfl | rfl <;> rfl) (by decide) ?_) | (refine s_sta (cs := [.int .i64 (k.toNat : Int), .slice A1 p.length c1]) HS.out 1 2 (by rfl) (by rfl) (by rfl) ag25 (by rfl) (by rfl) (by intro v hv; simp at hv; rcases hv with rfl | rfl <;> rfl) (by decide) ?_)
      intro Wn hS
      have HS := Lib.hid hS; clear hS
      refine ⟨(by first | exact HS.out | exact HS.out.sub 0 | exact (HS.out.sub 0).sub 0), ?_⟩
      try simp only [Act.put, List.setIfInBounds_toArray, List.set_cons_succ, List.set_cons_zero]
      first | exact ⟨rfl, b2, A1, c1, rfl, HS.out⟩ | exact ⟨rfl, b2, A1, c1, rfl, HS.out.swap⟩
    refine wpT_act (by rw [hops.out]; simp only [List.getElem?_toArray, List.getElem?_cons_succ, List.getElem?_cons_zero]; rfl) (by first | rfl | (rw [hops.out]; rfl)) ?_ ?_
    · refine s_al HS.out (by rfl) z25 (by rfl) ?_
      intro b2 Wn hS
      have HS := Lib.hid hS; clear hS
      refine ⟨(by first | exact HS.out | exact HS.out.sub 0 | exact (HS.out.sub 0).sub 0), ?_⟩
      try simp only [Act.put, List.setIfInBounds_toArray, List.set_cons_succ, List.set_cons_zero]
      refine wpT_act (by rw [hops.out]; simp only [List.getElem?_toArray, List.getElem?_cons_succ, List.getElem?_cons_zero]; rfl) (by first | rfl | (rw [hops.out]; rfl)) ?_ trivial
      go_simp
      refine (twinN _ p _ (HS.out.fact (i := 2) rfl) (by rw [HPL.out]; omega)).mono ?_
      rintro e Wn ⟨v1, rfl, hb⟩
      have hS := HS.out.take hb
      obtain ⟨A1, c1, rfl⟩ := Row.sl (hS.res (i := 0) rfl)
      clear HS
      have HS := Lib.hid hS
      clear hS hb
      refine ⟨(by first | exact HS.out | exact HS.out.sub 0 | exact (HS.out.sub 0).sub 0), ?_⟩
      try simp only [Act.put, List.setIfInBounds_toArray, List.set_cons_succ, List.set_cons_zero]
      refine wpT_yield _ (by rw [hops.out]; simp only [List.getElem?_toArray, List.getElem?_cons_succ, List.getElem?_cons_zero]; rfl) (by first | rfl | (rw [hops.out]; rfl)) (fun w' hS => by first | exact run_ld (by kernel_rfl) (by rfl) (by rfl) (hS.fact (i := 1) rfl) | (go_simp; rfl)) ?_
      simp only [Act.put, List.setIfInBounds_toArray, List.set_cons_succ, List.set_cons_zero]
      refine wpT_act (by rw [hops.out]; simp only [List.getElem?_toArray, List.getElem?_cons_succ, List.getElem?_cons_zero]; rfl) (by first | rfl | (rw [hops.out]; rfl)) ?_ trivial
      first | (refine s_sta (cs := [.int .i64 (k.toNat : Int), .slice A1 p.length c1]) HS.out 0 2 (by rfl) (by rfl) (by rfl) ag25 (by rfl) (by rfl) (by intro v hv; simp at hv; rcases hv with rfl | rfl <;> rfl) (by decide) ?_) | (refine s_sta (cs := [.int .i64 (k.toNat : Int), .slice A1 p.length c1]) HS.out 1 2 (by rfl) (by rfl) (by rfl) ag25 (by rfl) (by rfl) (by intro v hv; simp at hv; rcases hv with rfl | rfl <;> rfl) (by decide) ?_)
      intro Wn hS
      have HS := Lib.hid hS; clear hS
      refine ⟨(by first | exact HS.out | exact HS.out.sub 0 | exact (HS.out.sub 0).sub 0), ?_⟩
      try simp only [Act.put, List.setIfInBounds_toArray, List.set_cons_succ, List.set_cons_zero]
      first | exact ⟨rfl, b2, A1, c1, rfl, HS.out⟩ | exact ⟨rfl, b2, A1, c1, rfl, HS.out.swap⟩
    exact trivial
  case hK =>
    intro b2 A1 c1 Wn hS
    clear HS; have HS := Lib.hid hS; clear hS
    go_wp2_with fail
    refine wp_region_pi [(0, true), (3, true), (4, true), (5, true), (6, true), (7, true), (1, false), (2, false), (8, true)] (by kernel_rfl) (by kernel_rfl) rfl (by kernel_rfl) (fun _ _ _ _ _ h => h) (fun w' => St w w' [Blk b2 [.int .i64 (k.toNat : Int), .slice A1 p.length c1] 48, Row (.slice A1 p.length c1) 5 1 p.length (bs p), Blk b1 [.int .i64 0, .slice none 0 0] 48] [(fun W => HB W (.slice (cutA (some ad) c (a + 1)) 4 (c - (a + 1))) ((xs.drop (a + 1)).take 4)), (fun W => W.cell? (ad.add a) = some (.int .u8 (k.toNat : Int))), (fun W => HB W (.slice (cutA (some ad) c (a + 9)) n (c - (a + 9))) p), (fun W => HB W (.slice (cutA (some ad) c a) (n + 13) (c - a)) ((xs.drop a).take (n + 13)))]) HS.out.drew ?_
    intro OPS hops
    have hS := HS.out.drew
    clear HS; have HS := Lib.hid hS; clear hS
    iterate 6
      first | (refine wpPi_yield _ (by rw [hops.out]; simp only [List.getElem?_toArray, List.getElem?_cons_succ, List.getElem?_cons_zero]; rfl) (by first | rfl | (rw [hops.out]; rfl)) (fun w' hS => by first | exact run_lda (n := 2) (cs := [.int .i64 (k.toNat : Int), .slice A1 p.length c1]) ag25 (by rfl) (by rfl) (hS.range (i := 0) rfl (by rfl)) (by rfl) | exact run_str (by rfl) (by rfl) (hS.fact (i := 3) rfl) | (go_simp; rfl)) ?_; simp only [Act.put, List.setIfInBounds_toArray, List.set_cons_succ, List.set_cons_zero]) | (refine wpPi_skip (by rw [hops.out]; simp only [List.getElem?_toArray, List.getElem?_cons_succ, List.getElem?_cons_zero]; rfl) (by first | rfl | (rw [hops.out]; rfl)) ?_; simp only [Act.put, List.setIfInBounds_toArray, List.set_cons_succ, List.set_cons_zero])
    refine wpPi_act (by rw [hops.out]; simp only [List.getElem?_toArray, List.getElem?_cons_succ, List.getElem?_cons_zero]; rfl) (by first | rfl | (rw [hops.out]; rfl)) ?_
    go_simp
    refine (one39 k _ p _ (Row.hb (HS.out.res (i := 1) rfl)) (by rw [HPL.out]; omega)).mono ?_
    rintro e Wn ⟨v3, rfl, hb⟩
    have hS := HS.out.take hb
    clear HS; have HS := Lib.hid hS; clear hS
    clear hb
    refine ⟨HS.out.sub 0, ?_⟩
    try simp only [Act.put, List.setIfInBounds_toArray, List.set_cons_succ, List.set_cons_zero]
    refine wpPi_act (by rw [hops.out]; simp only [List.getElem?_toArray, List.getElem?_cons_succ, List.getElem?_cons_zero]; rfl) (by first | rfl | (rw [hops.out]; rfl)) ?_
    refine wp_of_run (run_str (by rfl) (by rfl) (Row.hb (HS.out.res (i := 0) rfl))) ?_
    refine ⟨HS.out.sub 0, ?_⟩
    try simp only [Act.put, List.setIfInBounds_toArray, List.set_cons_succ, List.set_cons_zero]
    iterate 1
      first | (refine wpPi_yield _ (by rw [hops.out]; simp only [List.getElem?_toArray, List.getElem?_cons_succ, List.getElem?_cons_zero]; rfl) (by first | rfl | (rw [hops.out]; rfl)) (fun w' hS => by first | exact run_lda (n := 2) (cs := [.int .i64 (k.toNat : Int), .slice A1 p.length c1]) ag25 (by rfl) (by rfl) (hS.range (i := 0) rfl (by rfl)) (by rfl) | exact run_str (by rfl) (by rfl) (hS.fact (i := 3) rfl) | (go_simp; rfl)) ?_; simp only [Act.put, List.setIfInBounds_toArray, List.set_cons_succ, List.set_cons_zero]) | (refine wpPi_skip (by rw [hops.out]; simp only [List.getElem?_toArray, List.getElem?_cons_succ, List.getElem?_cons_zero]; rfl) (by first | rfl | (rw [hops.out]; rfl)) ?_; simp only [Act.put, List.setIfInBounds_toArray, List.set_cons_succ, List.set_cons_zero])
    simp only [wpPi]
    clear OPS hops
    have hc : (recB k p == (xs.drop a).take (n + 13)) = false := beq_eq_false_iff_ne.2 (fun e => HCQ.out.1 e)
    rw [hc]
    go_wp2_with (first
      | (refine wl (by rfl) (s_sta (cs := [.int .i64 0, .slice none 0 0]) HS.out 3 2 (by rfl) (by rfl) (by rfl) ag25 (by rfl) (by rfl) (by intro v hv; simp at hv; rcases hv with rfl | rfl <;> rfl) (by decide) ?_); intro Wn hS; clear HS; have HS := Lib.hid hS; clear hS))
    exact bodyPost_ret (ret_rtt (p := 4) (u := 5) (q := 6) rfl _ b1 _ 48 (0, 0) (.int .i64 0) (.int .i64 160) (by rfl) (by rfl) (by rfl) (HS.out.blk (i := 3) rfl) (by rfl)) rfl ⟨rfl, HS.out.below⟩
set_option maxHeartbeats 1000000 in
set_option maxRecDepth 100000 in
theorem dec13_ok (v : Value) (xs : List UInt8) (a n : Nat) (w : World) (h : HB w v xs) (ha : a + 13 ≤ xs.length) (hl : xs.length ≤ 1000000) (hn : leNum ((xs.drop (a + 1)).take 4) = n) (k0 : UInt8) (hk0 : xs[a]? = some k0) (hN : n ≤ 200000 ∧ a + n + 13 ≤ xs.length) (hQ : ∀ k, xs[a]? = some k → (recB k ((xs.drop (a + 9)).take n) = (xs.drop a).take (n + 13) ↔ True)) :
    Calls Try.prog 39 #[v, .int .i64 (a : Int)] w fun e w' => ∃ v', e = .returned (.tuple #[.agg #[.int .i64 (k0.toNat : Int), v'], .int .i64 ((a : Int) + 13 + (n : Int)), .int .i64 0]) ∧ New w w' (Row v' 5 1 ((xs.drop (a + 9)).take n).length (bs ((xs.drop (a + 9)).take n))) := by
  obtain ⟨A, c, rfl, hlc⟩ := h.shape
  have k1 : ¬ (a : Int) < 0 := by omega
  have k2 : ¬ (xs.length : Int) < (a : Int) := by omega
  have k3 : ¬ (xs.length : Int) - (a : Int) < 13 := by omega
  have hn32 : n < 4294967296 := by rw [← hn]; exact leNum_32 _ (by simp; omega)
  have w64 : IntKind.i64.wrap (n : Int) = (n : Int) := by rw [IntKind.wrap_i64]; omega
  have wu : IntKind.u64.wrap ((xs.length : Int) - (a : Int) - 13) = (xs.length : Int) - (a : Int) - 13 := by rw [IntKind.wrap_u64]; omega
  have HN := Lib.hid hn; clear hn
  have hs1 : ∀ W, (Instr.slice 28 (.slice A xs.length c) (some (.int .i64 ((a : Int) + 1))) (some (.int .i64 ((a : Int) + 5))) none).run Try.prog W = .ok (.slice (cutA A c (a + 1)) 4 (c - (a + 1))) W := fun W => by
    have := cut_run A xs.length c (a + 1) 4 (by omega) hlc W
    rwa [show ((a + 1 : Nat) : Int) = (a : Int) + 1 by push_cast; rfl, show (a : Int) + 1 + ((4 : Nat) : Int) = (a : Int) + 5 by omega] at this
  obtain ⟨ad, rfl, hcell⟩ := h.at_ (i := a) (by omega) (by omega)
  obtain ⟨k, hk⟩ : ∃ k, k = xs[a]'(by omega) := ⟨_, rfl⟩
  rw [← hk] at hcell
  have hkx : xs[a]? = some k := by rw [hk]; exact List.getElem?_eq_getElem (by omega)
  have HCell : Away (Keys []) (fun W => W.cell? (ad.add a) = some (.int .u8 (k.toNat : Int))) w := fun W' hs => hs.cell (fun ⟨r, hr, _⟩ => by cases hr) hcell
  have HS := Lib.hid (((((St.start w).addF (cut_hb h a (n + 13) (by omega)).away0).addF (cut_hb h (a + 9) n (by omega)).away0).addF HCell).addF (cut_hb h (a + 1) 4 (by omega)).away0)
  have HQ : recB k ((xs.drop (a + 9)).take n) = (xs.drop a).take (n + 13) ↔ True := hQ k hkx
  obtain rfl : k = k0 := by rw [hkx] at hk0; exact Option.some.inj hk0
  generalize hpp : (xs.drop (a + 9)).take n = p at *
  have hpl : p.length = n := by rw [← hpp]; simp; omega
  have HPL := Lib.hid hpl
  have HPP := Lib.hid hpp
  have HCQ := Lib.hid HQ
  clear h HQ hk hkx hcell HCell hpp hQ hpl
  have j1 : ¬ (200000 : Int) < (n : Int) := by omega
  have j2 : ¬ (xs.length : Int) - (a : Int) - 13 < (n : Int) := by omega
  have j3 : (a : Int) < (xs.length : Int) := by omega
  have w8 : IntKind.i64.wrap (k.toNat : Int) = (k.toNat : Int) := by have := k.toNat_lt; rw [IntKind.wrap_i64]; omega
  have w9 : IntKind.i64.wrap ((a : Int) + 9) = (a : Int) + 9 := by rw [IntKind.wrap_i64]; omega
  have w13 : IntKind.i64.wrap ((a : Int) + 13 + (n : Int) - 4) = (a : Int) + 13 + (n : Int) - 4 := by rw [IntKind.wrap_i64]; omega
  have hs2 : ∀ W, (Instr.slice 28 (.slice (some ad) xs.length c) (some (.int .i64 ((a : Int) + 9))) (some (.int .i64 ((a : Int) + 13 + (n : Int) - 4))) none).run Try.prog W = .ok (.slice (cutA (some ad) c (a + 9)) n (c - (a + 9))) W := fun W => by
    have := cut_run (some ad) xs.length c (a + 9) n (by omega) hlc W
    rwa [show ((a + 9 : Nat) : Int) = (a : Int) + 9 by push_cast; rfl, show (a : Int) + 9 + (n : Int) = (a : Int) + 13 + (n : Int) - 4 by omega] at this
  have hs3 : ∀ W, (Instr.slice 28 (.slice (some ad) xs.length c) (some (.int .i64 (a : Int))) (some (.int .i64 ((a : Int) + 13 + (n : Int)))) none).run Try.prog W = .ok (.slice (cutA (some ad) c a) (n + 13) (c - a)) W := fun W => by
    have := cut_run (some ad) xs.length c a (n + 13) (by omega) hlc W
    rwa [show (a : Int) + ((n + 13 : Nat) : Int) = (a : Int) + 13 + (n : Int) by push_cast; omega] at this
  go_enter Try.func39, Try.ntmps39
  go_wp2_with (first
    | (refine wl (by rfl) (s_al HS.out (by rfl) z25 (by rfl) ?_); intro b1 Wn hS; clear HS; have HS := Lib.hid hS; clear hS)
    | (go_at_call 52; refine (rnum_any _ _ _ (HS.out.fact (i := 0) rfl) (by simp; omega)).mono ?_; rw [HN.out]; rintro e Wn ⟨rfl, hb⟩; have hS := HS.out.call hb; clear hb; clear HS; have HS := Lib.hid hS; clear hS))
  apply region_join3 (S := fun (b2 : Nat) (A1 : Option Addr) (c1 : Nat) V => St w V [Blk b2 [.int .i64 (k.toNat : Int), .slice A1 p.length c1] 48, Row (.slice A1 p.length c1) 5 1 p.length (bs p), Blk b1 [.int .i64 0, .slice none 0 0] 48] [(fun W => HB W (.slice (cutA (some ad) c (a + 1)) 4 (c - (a + 1))) ((xs.drop (a + 1)).take 4)), (fun W => W.cell? (ad.add a) = some (.int .u8 (k.toNat : Int))), (fun W => HB W (.slice (cutA (some ad) c (a + 9)) n (c - (a + 9))) p), (fun W => HB W (.slice (cutA (some ad) c a) (n + 13) (c - a)) ((xs.drop a).take (n + 13)))])
  case hreg =>
    refine wp_region_tr (.yield 0 (.yield 1 (.yield 2 (.yield 3 (.yield 4 (.yield 5 (.yield 6 (.yield 7 (.yield 8 (.yield 9 (.yield 10 (.act 11 (.yield 12 (.act 13 (.act 14 .done .none) .none)) (.act 13 (.act 11 (.yield 12 (.act 14 .done .none)) .none) .none))))))))))))) (by kernel_rfl) (by kernel_rfl) (by kernel_rfl) (fun _ _ _ _ _ h => absurd h.1 (by simp)) (fun w' => St w w' [Blk b1 [.int .i64 0, .slice none 0 0] 48] [(fun W => HB W (.slice (cutA (some ad) c (a + 1)) 4 (c - (a + 1))) ((xs.drop (a + 1)).take 4)), (fun W => W.cell? (ad.add a) = some (.int .u8 (k.toNat : Int))), (fun W => HB W (.slice (cutA (some ad) c (a + 9)) n (c - (a + 9))) p), (fun W => HB W (.slice (cutA (some ad) c a) (n + 13) (c - a)) ((xs.drop a).take (n + 13)))]) HS.out.drew ?_
    intro OPS hops
    have hS := HS.out.drew
    have HS := Lib.hid hS; clear hS
    refine wpT_yield _ (by rw [hops.out]; simp only [List.getElem?_toArray, List.getElem?_cons_succ, List.getElem?_cons_zero]; rfl) (by first | rfl | (rw [hops.out]; rfl)) (fun w' hS => by first | exact run_ld (by kernel_rfl) (by rfl) (by rfl) (hS.fact (i := 1) rfl) | (go_simp; rfl)) ?_
    simp only [Act.put, List.setIfInBounds_toArray, List.set_cons_succ, List.set_cons_zero]
    refine wpT_yield _ (by rw [hops.out]; simp only [List.getElem?_toArray, List.getElem?_cons_succ, List.getElem?_cons_zero]; rfl) (by first | rfl | (rw [hops.out]; rfl)) (fun w' hS => by first | exact run_ld (by kernel_rfl) (by rfl) (by rfl) (hS.fact (i := 1) rfl) | (go_simp; rfl)) ?_
    simp only [Act.put, List.setIfInBounds_toArray, List.set_cons_succ, List.set_cons_zero]
    refine wpT_yield _ (by rw [hops.out]; simp only [List.getElem?_toArray, List.getElem?_cons_succ, List.getElem?_cons_zero]; rfl) (by first | rfl | (rw [hops.out]; rfl)) (fun w' hS => by first | exact run_ld (by kernel_rfl) (by rfl) (by rfl) (hS.fact (i := 1) rfl) | (go_simp; rfl)) ?_
    simp only [Act.put, List.setIfInBounds_toArray, List.set_cons_succ, List.set_cons_zero]
    refine wpT_yield _ (by rw [hops.out]; simp only [List.getElem?_toArray, List.getElem?_cons_succ, List.getElem?_cons_zero]; rfl) (by first | rfl | (rw [hops.out]; rfl)) (fun w' hS => by first | exact run_ld (by kernel_rfl) (by rfl) (by rfl) (hS.fact (i := 1) rfl) | (go_simp; rfl)) ?_
    simp only [Act.put, List.setIfInBounds_toArray, List.set_cons_succ, List.set_cons_zero]
    refine wpT_yield _ (by rw [hops.out]; simp only [List.getElem?_toArray, List.getElem?_cons_succ, List.getElem?_cons_zero]; rfl) (by first | rfl | (rw [hops.out]; rfl)) (fun w' hS => by first | exact run_ld (by kernel_rfl) (by rfl) (by rfl) (hS.fact (i := 1) rfl) | (go_simp; rfl)) ?_
    simp only [Act.put, List.setIfInBounds_toArray, List.set_cons_succ, List.set_cons_zero]
    refine wpT_yield _ (by rw [hops.out]; simp only [List.getElem?_toArray, List.getElem?_cons_succ, List.getElem?_cons_zero]; rfl) (by first | rfl | (rw [hops.out]; rfl)) (fun w' hS => by first | exact run_ld (by kernel_rfl) (by rfl) (by rfl) (hS.fact (i := 1) rfl) | (go_simp; rfl)) ?_
    simp only [Act.put, List.setIfInBounds_toArray, List.set_cons_succ, List.set_cons_zero]
    refine wpT_yield _ (by rw [hops.out]; simp only [List.getElem?_toArray, List.getElem?_cons_succ, List.getElem?_cons_zero]; rfl) (by first | rfl | (rw [hops.out]; rfl)) (fun w' hS => by first | exact run_ld (by kernel_rfl) (by rfl) (by rfl) (hS.fact (i := 1) rfl) | (go_simp; rfl)) ?_
    simp only [Act.put, List.setIfInBounds_toArray, List.set_cons_succ, List.set_cons_zero]
    refine wpT_yield _ (by rw [hops.out]; simp only [List.getElem?_toArray, List.getElem?_cons_succ, List.getElem?_cons_zero]; rfl) (by first | rfl | (rw [hops.out]; rfl)) (fun w' hS => by first | exact run_ld (by kernel_rfl) (by rfl) (by rfl) (hS.fact (i := 1) rfl) | (go_simp; rfl)) ?_
    simp only [Act.put, List.setIfInBounds_toArray, List.set_cons_succ, List.set_cons_zero]
    refine wpT_yield _ (by rw [hops.out]; simp only [List.getElem?_toArray, List.getElem?_cons_succ, List.getElem?_cons_zero]; rfl) (by first | rfl | (rw [hops.out]; rfl)) (fun w' hS => by first | exact run_ld (by kernel_rfl) (by rfl) (by rfl) (hS.fact (i := 1) rfl) | (go_simp; rfl)) ?_
    simp only [Act.put, List.setIfInBounds_toArray, List.set_cons_succ, List.set_cons_zero]
    refine wpT_yield _ (by rw [hops.out]; simp only [List.getElem?_toArray, List.getElem?_cons_succ, List.getElem?_cons_zero]; rfl) (by first | rfl | (rw [hops.out]; rfl)) (fun w' hS => by first | exact run_ld (by kernel_rfl) (by rfl) (by rfl) (hS.fact (i := 1) rfl) | (go_simp; rfl)) ?_
    simp only [Act.put, List.setIfInBounds_toArray, List.set_cons_succ, List.set_cons_zero]
    refine wpT_yield _ (by rw [hops.out]; simp only [List.getElem?_toArray, List.getElem?_cons_succ, List.getElem?_cons_zero]; rfl) (by first | rfl | (rw [hops.out]; rfl)) (fun w' hS => by first | exact run_ld (by kernel_rfl) (by rfl) (by rfl) (hS.fact (i := 1) rfl) | (go_simp; rfl)) ?_
    simp only [Act.put, List.setIfInBounds_toArray, List.set_cons_succ, List.set_cons_zero]
    refine wpT_act (by rw [hops.out]; simp only [List.getElem?_toArray, List.getElem?_cons_succ, List.getElem?_cons_zero]; rfl) (by first | rfl | (rw [hops.out]; rfl)) ?_ ?_
    · go_simp
      refine (twinN _ p _ (HS.out.fact (i := 2) rfl) (by rw [HPL.out]; omega)).mono ?_
      rintro e Wn ⟨v1, rfl, hb⟩
      have hS := HS.out.take hb
      obtain ⟨A1, c1, rfl⟩ := Row.sl (hS.res (i := 0) rfl)
      clear HS
      have HS := Lib.hid hS
      clear hS hb
      refine ⟨(by first | exact HS.out | exact HS.out.sub 0 | exact (HS.out.sub 0).sub 0), ?_⟩
      try simp only [Act.put, List.setIfInBounds_toArray, List.set_cons_succ, List.set_cons_zero]
      refine wpT_yield _ (by rw [hops.out]; simp only [List.getElem?_toArray, List.getElem?_cons_succ, List.getElem?_cons_zero]; rfl) (by first | rfl | (rw [hops.out]; rfl)) (fun w' hS => by first | exact run_ld (by kernel_rfl) (by rfl) (by rfl) (hS.fact (i := 1) rfl) | (go_simp; rfl)) ?_
      simp only [Act.put, List.setIfInBounds_toArray, List.set_cons_succ, List.set_cons_zero]
      refine wpT_act (by rw [hops.out]; simp only [List.getElem?_toArray, List.getElem?_cons_succ, List.getElem?_cons_zero]; rfl) (by first | rfl | (rw [hops.out]; rfl)) ?_ trivial
      refine s_al HS.out (by rfl) z25 (by rfl) ?_
      intro b2 Wn hS
      have HS := Lib.hid hS; clear hS
      refine ⟨(by first | exact HS.out | exact HS.out.sub 0 | exact (HS.out.sub 0).sub 0), ?_⟩
      try simp only [Act.put, List.setIfInBounds_toArray, List.set_cons_succ, List.set_cons_zero]
      refine wpT_act (by rw [hops.out]; simp only [List.getElem?_toArray, List.getElem?_cons_succ, List.getElem?_cons_zero]; rfl) (by first | rfl | (rw [hops.out]; rfl)) ?_ trivial
      first | (refine s_sta (cs := [.int .i64 (k.toNat : Int), .slice A1 p.length c1]) HS.out 0 2 (by rfl) (by rfl) (by rfl) ag25 (by rfl) (by rfl) (by intro v hv; simp at hv; rcases hv with rfl | rfl <;> rfl) (by decide) ?_) | (refine s_sta (cs := [.int .i64 (k.toNat : Int), .slice A1 p.length c1]) HS.out 1 2 (by rfl) (by rfl) (by rfl) ag25 (by rfl) (by rfl) (by intro v hv; simp at hv; rcases hv with rfl | rfl <;> rfl) (by decide) ?_)
      intro Wn hS
      have HS := Lib.hid hS; clear hS
      refine ⟨(by first | exact HS.out | exact HS.out.sub 0 | exact (HS.out.sub 0).sub 0), ?_⟩
      try simp only [Act.put, List.setIfInBounds_toArray, List.set_cons_succ, List.set_cons_zero]
      first | exact ⟨rfl, b2, A1, c1, rfl, HS.out⟩ | exact ⟨rfl, b2, A1, c1, rfl, HS.out.swap⟩
    refine wpT_act (by rw [hops.out]; simp only [List.getElem?_toArray, List.getElem?_cons_succ, List.getElem?_cons_zero]; rfl) (by first | rfl | (rw [hops.out]; rfl)) ?_ ?_
    · refine s_al HS.out (by rfl) z25 (by rfl) ?_
      intro b2 Wn hS
      have HS := Lib.hid hS; clear hS
      refine ⟨(by first | exact HS.out | exact HS.out.sub 0 | exact (HS.out.sub 0).sub 0), ?_⟩
      try simp only [Act.put, List.setIfInBounds_toArray, List.set_cons_succ, List.set_cons_zero]
      refine wpT_act (by rw [hops.out]; simp only [List.getElem?_toArray, List.getElem?_cons_succ, List.getElem?_cons_zero]; rfl) (by first | rfl | (rw [hops.out]; rfl)) ?_ trivial
      go_simp
      refine (twinN _ p _ (HS.out.fact (i := 2) rfl) (by rw [HPL.out]; omega)).mono ?_
      rintro e Wn ⟨v1, rfl, hb⟩
      have hS := HS.out.take hb
      obtain ⟨A1, c1, rfl⟩ := Row.sl (hS.res (i := 0) rfl)
      clear HS
      have HS := Lib.hid hS
      clear hS hb
      refine ⟨(by first | exact HS.out | exact HS.out.sub 0 | exact (HS.out.sub 0).sub 0), ?_⟩
      try simp only [Act.put, List.setIfInBounds_toArray, List.set_cons_succ, List.set_cons_zero]
      refine wpT_yield _ (by rw [hops.out]; simp only [List.getElem?_toArray, List.getElem?_cons_succ, List.getElem?_cons_zero]; rfl) (by first | rfl | (rw [hops.out]; rfl)) (fun w' hS => by first | exact run_ld (by kernel_rfl) (by rfl) (by rfl) (hS.fact (i := 1) rfl) | (go_simp; rfl)) ?_
      simp only [Act.put, List.setIfInBounds_toArray, List.set_cons_succ, List.set_cons_zero]
      refine wpT_act (by rw [hops.out]; simp only [List.getElem?_toArray, List.getElem?_cons_succ, List.getElem?_cons_zero]; rfl) (by first | rfl | (rw [hops.out]; rfl)) ?_ trivial
      first | (refine s_sta (cs := [.int .i64 (k.toNat : Int), .slice A1 p.length c1]) HS.out 0 2 (by rfl) (by rfl) (by rfl) ag25 (by rfl) (by rfl) (by intro v hv; simp at hv; rcases hv with rfl | rfl <;> rfl) (by decide) ?_) | (refine s_sta (cs := [.int .i64 (k.toNat : Int), .slice A1 p.length c1]) HS.out 1 2 (by rfl) (by rfl) (by rfl) ag25 (by rfl) (by rfl) (by intro v hv; simp at hv; rcases hv with rfl | rfl <;> rfl) (by decide) ?_)
      intro Wn hS
      have HS := Lib.hid hS; clear hS
      refine ⟨(by first | exact HS.out | exact HS.out.sub 0 | exact (HS.out.sub 0).sub 0), ?_⟩
      try simp only [Act.put, List.setIfInBounds_toArray, List.set_cons_succ, List.set_cons_zero]
      first | exact ⟨rfl, b2, A1, c1, rfl, HS.out⟩ | exact ⟨rfl, b2, A1, c1, rfl, HS.out.swap⟩
    exact trivial
  case hK =>
    intro b2 A1 c1 Wn hS
    clear HS; have HS := Lib.hid hS; clear hS
    go_wp2_with fail
    refine wp_region_pi [(0, true), (3, true), (4, true), (5, true), (6, true), (7, true), (1, false), (2, false), (8, true)] (by kernel_rfl) (by kernel_rfl) rfl (by kernel_rfl) (fun _ _ _ _ _ h => h) (fun w' => St w w' [Blk b2 [.int .i64 (k.toNat : Int), .slice A1 p.length c1] 48, Row (.slice A1 p.length c1) 5 1 p.length (bs p), Blk b1 [.int .i64 0, .slice none 0 0] 48] [(fun W => HB W (.slice (cutA (some ad) c (a + 1)) 4 (c - (a + 1))) ((xs.drop (a + 1)).take 4)), (fun W => W.cell? (ad.add a) = some (.int .u8 (k.toNat : Int))), (fun W => HB W (.slice (cutA (some ad) c (a + 9)) n (c - (a + 9))) p), (fun W => HB W (.slice (cutA (some ad) c a) (n + 13) (c - a)) ((xs.drop a).take (n + 13)))]) HS.out.drew ?_
    intro OPS hops
    have hS := HS.out.drew
    clear HS; have HS := Lib.hid hS; clear hS
    iterate 6
      first | (refine wpPi_yield _ (by rw [hops.out]; simp only [List.getElem?_toArray, List.getElem?_cons_succ, List.getElem?_cons_zero]; rfl) (by first | rfl | (rw [hops.out]; rfl)) (fun w' hS => by first | exact run_lda (n := 2) (cs := [.int .i64 (k.toNat : Int), .slice A1 p.length c1]) ag25 (by rfl) (by rfl) (hS.range (i := 0) rfl (by rfl)) (by rfl) | exact run_str (by rfl) (by rfl) (hS.fact (i := 3) rfl) | (go_simp; rfl)) ?_; simp only [Act.put, List.setIfInBounds_toArray, List.set_cons_succ, List.set_cons_zero]) | (refine wpPi_skip (by rw [hops.out]; simp only [List.getElem?_toArray, List.getElem?_cons_succ, List.getElem?_cons_zero]; rfl) (by first | rfl | (rw [hops.out]; rfl)) ?_; simp only [Act.put, List.setIfInBounds_toArray, List.set_cons_succ, List.set_cons_zero])
    refine wpPi_act (by rw [hops.out]; simp only [List.getElem?_toArray, List.getElem?_cons_succ, List.getElem?_cons_zero]; rfl) (by first | rfl | (rw [hops.out]; rfl)) ?_
    go_simp
    refine (one39 k _ p _ (Row.hb (HS.out.res (i := 1) rfl)) (by rw [HPL.out]; omega)).mono ?_
    rintro e Wn ⟨v3, rfl, hb⟩
    have hS := HS.out.take hb
    clear HS; have HS := Lib.hid hS; clear hS
    clear hb
    refine ⟨HS.out.sub 0, ?_⟩
    try simp only [Act.put, List.setIfInBounds_toArray, List.set_cons_succ, List.set_cons_zero]
    refine wpPi_act (by rw [hops.out]; simp only [List.getElem?_toArray, List.getElem?_cons_succ, List.getElem?_cons_zero]; rfl) (by first | rfl | (rw [hops.out]; rfl)) ?_
    refine wp_of_run (run_str (by rfl) (by rfl) (Row.hb (HS.out.res (i := 0) rfl))) ?_
    refine ⟨HS.out.sub 0, ?_⟩
    try simp only [Act.put, List.setIfInBounds_toArray, List.set_cons_succ, List.set_cons_zero]
    iterate 1
      first | (refine wpPi_yield _ (by rw [hops.out]; simp only [List.getElem?_toArray, List.getElem?_cons_succ, List.getElem?_cons_zero]; rfl) (by first | rfl | (rw [hops.out]; rfl)) (fun w' hS => by first | exact run_lda (n := 2) (cs := [.int .i64 (k.toNat : Int), .slice A1 p.length c1]) ag25 (by rfl) (by rfl) (hS.range (i := 0) rfl (by rfl)) (by rfl) | exact run_str (by rfl) (by rfl) (hS.fact (i := 3) rfl) | (go_simp; rfl)) ?_; simp only [Act.put, List.setIfInBounds_toArray, List.set_cons_succ, List.set_cons_zero]) | (refine wpPi_skip (by rw [hops.out]; simp only [List.getElem?_toArray, List.getElem?_cons_succ, List.getElem?_cons_zero]; rfl) (by first | rfl | (rw [hops.out]; rfl)) ?_; simp only [Act.put, List.setIfInBounds_toArray, List.set_cons_succ, List.set_cons_zero])
    simp only [wpPi]
    clear OPS hops
    have hc : (recB k p == (xs.drop a).take (n + 13)) = true := beq_iff_eq.2 (HCQ.out.2 trivial)
    rw [hc]
    go_wp2_with (first
      | (refine wl (by rfl) (s_lda (cs := [.int .i64 (k.toNat : Int), .slice A1 p.length c1]) HS.out 1 2 (by rfl) (by rfl) (by rfl) ag25 (by rfl) (by rfl) ?_))
      | (refine wl (by rfl) (s_sta (cs := [.int .i64 (k.toNat : Int), .slice A1 p.length c1]) HS.out 3 2 (by rfl) (by rfl) (by rfl) ag25 (by rfl) (by rfl) (by intro v hv; simp at hv; rcases hv with rfl | rfl <;> rfl) (by decide) ?_); intro Wn hS; clear HS; have HS := Lib.hid hS; clear hS))
    exact bodyPost_ret (ret_rtt (p := 4) (u := 5) (q := 6) rfl _ b1 _ 48 (0, 0) (.int .i64 ((a : Int) + 13 + (n : Int))) (.int .i64 0) (by rfl) (by rfl) (by rfl) (HS.out.blk (i := 3) rfl) (by rfl)) rfl ⟨_, rfl, HS.out.give 2 rfl⟩
end
section
open Go Go.RowKit Go.Proofs
attribute [local irreducible] Calls
/-- What a decoding answers. -/
def DecPost (xs : List UInt8) (i : Int) (w : World) (e : Ending) (w' : World) : Prop :=
  match decR xs i with
  | none => e = .returned decBad ∧ Below w.heap.size w w'
  | some (k, p) => ∃ v', e = .returned (.tuple #[.agg #[.int .i64 (k.toNat : Int), v'], .int .i64 (i + 13 + (p.length : Int)), .int .i64 0]) ∧ New w w' (Row v' 5 1 p.length (bs p))
theorem decR_nat (xs : List UInt8) (a : Nat) (h : a + 13 ≤ xs.length) : decR xs (a : Int) = decA (xs.drop a) := by
  unfold decR
  rw [if_neg (by omega), Int.toNat_natCast]
theorem decR_far {xs : List UInt8} {i : Int} (hb : i < 0 ∨ (xs.length : Int) < i ∨ (xs.length : Int) - i < 13) : decR xs i = none := by
  unfold decR
  rw [if_pos hb]
theorem DecPost.bad {xs : List UInt8} {i : Int} {w : World} (hd : decR xs i = none) {e : Ending} {w' : World} (h : e = .returned decBad ∧ Below w.heap.size w w') : DecPost xs i w e w' := by
  unfold DecPost; rw [hd]; exact h
theorem DecPost.good {xs : List UInt8} {i : Int} {w : World} {k : UInt8} {p : List UInt8} (hd : decR xs i = some (k, p)) {e : Ending} {w' : World} (h : ∃ v', e = .returned (.tuple #[.agg #[.int .i64 (k.toNat : Int), v'], .int .i64 (i + 13 + (p.length : Int)), .int .i64 0]) ∧ New w w' (Row v' 5 1 p.length (bs p))) : DecPost xs i w e w' := by
  unfold DecPost; rw [hd]; exact h
theorem dec12_any (v : Value) (xs : List UInt8) (i : Int) (w : World) (h : HB w v xs) (hl : xs.length ≤ 1000000) : Calls Try.prog 33 #[v, .int .i64 i] w (DecPost xs i w) := by
  by_cases hb : i < 0 ∨ (xs.length : Int) < i ∨ (xs.length : Int) - i < 13
  · exact (dec12_far v xs i w h hb).mono fun e w' hp => DecPost.bad (decR_far hb) hp
  · obtain ⟨a, rfl⟩ := Int.eq_ofNat_of_zero_le (show 0 ≤ i by omega)
    have ha : a + 13 ≤ xs.length := by omega
    have hd := decR_nat xs a ha
    unfold decA at hd
    cases hh : bareR ((xs.drop a).take 9) with
    | none =>
      rw [hh] at hd
      exact (dec12_head v xs a w h ha hl hh).mono fun e w' hp => DecPost.bad hd hp
    | some g =>
      rw [hh] at hd
      simp only [] at hd
      have hgl : g.length = 5 := by rw [bareR_inj hh]; simp; omega
      obtain ⟨k, q, rfl⟩ : ∃ k q, g = k :: q := by
        cases g with
        | nil => simp at hgl
        | cons k q => exact ⟨k, q, rfl⟩
      have hq : q.length = 4 := by simpa using hgl
      have e1 : (List.drop 1 (k :: q)).take 4 = q := by simp only [List.drop_succ_cons, List.drop_zero]; exact List.take_of_length_le (by omega)
      rw [e1, List.drop_drop] at hd
      by_cases hN : 200000 < leNum q ∨ (xs.drop a).length < leNum q + 13
      · rw [if_pos hN] at hd
        exact (dec12_long v xs a k q _ w h ha hl hh hq rfl (by rw [List.length_drop] at hN; omega)).mono fun e w' hp => DecPost.bad hd hp
      · rw [if_neg hN] at hd
        rw [List.length_drop] at hN
        cases h2 : bareR ((xs.drop (a + 9)).take (leNum q + 4)) with
        | none =>
          rw [h2] at hd
          exact (dec12_body v xs a k q _ w h ha hl hh hq rfl (by omega) h2).mono fun e w' hp => DecPost.bad hd hp
        | some p =>
          rw [h2] at hd
          have hpl : p.length = leNum q := by rw [bareR_inj h2]; simp; omega
          refine (dec12_ok v xs a k q _ w h ha hl hh hq rfl p (by omega) h2).mono fun e w' hp => DecPost.good hd ?_
          obtain ⟨v', he, hn⟩ := hp
          refine ⟨v', ?_, hn⟩
          rw [he, hpl, show (a : Int) + 9 + (leNum q : Int) + 4 = (a : Int) + 13 + (leNum q : Int) by omega]
          rfl
theorem dec13_any (v : Value) (xs : List UInt8) (i : Int) (w : World) (h : HB w v xs) (hl : xs.length ≤ 1000000) : Calls Try.prog 39 #[v, .int .i64 i] w (DecPost xs i w) := by
  by_cases hb : i < 0 ∨ (xs.length : Int) < i ∨ (xs.length : Int) - i < 13
  · exact (dec13_far v xs i w h hb).mono fun e w' hp => DecPost.bad (decR_far hb) hp
  · obtain ⟨a, rfl⟩ := Int.eq_ofNat_of_zero_le (show 0 ≤ i by omega)
    have ha : a + 13 ≤ xs.length := by omega
    have hd := decR_nat xs a ha
    have hx : xs[a]? = some ((xs.drop a).headD 0) := by
      have : (xs.drop a)[0]? = xs[a]? := by simp
      rw [← this]
      cases hc : xs.drop a with
      | nil => have := congrArg List.length hc; simp at this; omega
      | cons b r => simp
    rw [decA_ref (xs.drop a) (by simp; omega), List.drop_drop, List.drop_drop, List.length_drop] at hd
    generalize hk0 : (xs.drop a).headD 0 = k0 at *
    obtain ⟨n, hn⟩ : ∃ n, n = leNum ((xs.drop (a + 1)).take 4) := ⟨_, rfl⟩
    rw [← hn] at hd
    by_cases hN : 200000 < n ∨ xs.length - a < n + 13
    · rw [if_pos hN] at hd
      exact (dec13_long v xs a n w h ha hl hn.symm (by omega)).mono fun e w' hp => DecPost.bad hd hp
    · rw [if_neg hN] at hd
      by_cases hc : recB k0 ((xs.drop (a + 9)).take n) = (xs.drop a).take (n + 13)
      · rw [if_pos hc] at hd
        refine (dec13_ok v xs a n w h ha hl hn.symm k0 hx (by omega) (fun k hk => by rw [hx] at hk; obtain rfl := Option.some.inj hk; exact iff_true_intro hc)).mono fun e w' hp => DecPost.good hd ?_
        obtain ⟨v', he, hn'⟩ := hp
        refine ⟨v', ?_, hn'⟩
        have hpl : ((xs.drop (a + 9)).take n).length = n := by rw [List.length_take, List.length_drop]; omega
        rw [he, hpl]
      · rw [if_neg hc] at hd
        exact (dec13_no v xs a n w h ha hl hn.symm (by omega) (fun k hk => by rw [hx] at hk; obtain rfl := Option.some.inj hk; exact iff_false_intro hc)).mono fun e w' hp => DecPost.bad hd hp
end
end Go.Proofs.Ytakeggdpnfibpaa
