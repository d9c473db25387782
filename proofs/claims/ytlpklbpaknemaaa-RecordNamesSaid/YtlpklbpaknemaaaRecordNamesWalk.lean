/- Contracts and words that the laws stand on (RecordNamesWalk). -/
import Derived.Test.YtlpklbpaknemaaaRecM
import Derived.Test.YtlpklbpaknemaaaRecordRunsWalk
set_option linter.unusedVariables false
set_option linter.unusedSimpArgs false
namespace Go.Proofs.Ytlpklbpaknemaaa
section
open Go Go.RowKit Go.Proofs
attribute [local irreducible] Calls

theorem z5 : zeroIs Try.prog 5 (.int .u8 0) := by unfold zeroIs; kernel_rfl
theorem RS.nil' (W : World) (A : Option Addr) (c : Nat) : RS W (.slice A 0 c) [] := ⟨A, c, rfl, Nat.zero_le _, fun _ => rfl, fun a ha i x hx => by simp at hx⟩
theorem enc20_e (l : List (Int × List UInt8)) (er : Int) (n : Nat) (xs : List UInt8) (he : encE l = er) (ho : encO l = xs) (hn : xs.length = n) (hl : l.length ≤ 1000000) : ∀ u W, RS W u l → Calls Try.prog 20 #[u] W fun e w' => ∃ A c, e = .returned (.tuple #[.slice A n c, .int .i64 er]) ∧ New W w' (Row (.slice A n c) 5 1 n (bs xs)) := fun u W hu => by
  refine (enc20 u l W hu hl).mono ?_
  rintro e w' ⟨v', rfl, hb⟩
  rw [ho, hn] at hb
  obtain ⟨A, c, rfl⟩ := Row.sl hb.2.1
  exact ⟨A, c, by rw [he], hb⟩
set_option maxHeartbeats 8000000 in
set_option maxRecDepth 100000 in
theorem recordNames_walk (w : World) : Calls Try.prog 6 #[] w fun e w' => e = .returned (.bool true) ∧ Below w.heap.size w w' := by
  obtain ⟨xs, e3, n3, h41, d1, d14, dm, d42, d41, d15, a15, a3, a42, a40⟩ := names_plain
  have hC20 : ∀ u W, RS W u L3 → Calls Try.prog 20 #[u] W fun e w' => ∃ v', e = .returned (.tuple #[v', .int .i64 0]) ∧ New W w' (Row v' 5 1 41 (bs xs)) := fun u W hu => by
    refine (enc20 u _ W hu (by decide)).mono ?_
    rintro e w' ⟨v', rfl, hn⟩
    rw [e3, h41] at hn
    exact ⟨v', by rw [n3], hn⟩
  have hX : ∀ v W, (Row v 5 1 41 (bs xs)).ok W → HB W v xs := fun v W h => HB.of_own (h41 ▸ h)
  have C20 := Lib.hid hC20; have HX := Lib.hid hX; have D1 := Lib.hid d1; have D14 := Lib.hid d14; have DM := Lib.hid dm; have D42 := Lib.hid d42; have D41 := Lib.hid d41; have D15 := Lib.hid d15
  have A15 := Lib.hid a15; have A3 := Lib.hid a3; have A42 := Lib.hid a42; have A40 := Lib.hid a40
  obtain ⟨n1, hn1⟩ : ∃ n, n = 200001 := ⟨_, rfl⟩
  obtain ⟨n2, hn2⟩ : ∃ n, n = 200000 := ⟨_, rfl⟩
  have i1 : (200001 : Int) = (n1 : Int) := by omega
  have i2 : (200000 : Int) = (n2 : Int) := by omega
  have k2 : (n2 : Int) = 200000 := by omega
  have HN1 := Lib.hid i1; have HN2 := Lib.hid i2
  have NB1 := Lib.hid (show 1 * n1 ≤ 281474976710656 by omega); have NC1 := Lib.hid (show n1 ≤ 9223372036854775807 by omega)
  have NB2 := Lib.hid (show 1 * n2 ≤ 281474976710656 by omega); have NC2 := Lib.hid (show n2 ≤ 9223372036854775807 by omega)
  obtain ⟨bg1, bg2, bg3⟩ := big_plain n2 (by omega)
  obtain ⟨ov1, ov2⟩ := over_plain n1 (by omega)
  obtain ⟨X, hXX⟩ : ∃ X, encO [((0 : Int), List.replicate n2 (0 : UInt8))] = X := ⟨_, rfl⟩
  obtain ⟨M, hM⟩ : ∃ M, n2 + 13 = M := ⟨_, rfl⟩
  have kM : (M : Int) = 200013 := by omega
  rw [hXX] at bg2 bg3
  rw [hM] at bg2 bg3
  have E256 := Lib.hid (enc20_e [((256 : Int), [])] 160 0 [] (by decide) (by decide) rfl (by decide))
  have EM1 := Lib.hid (enc20_e [((-1 : Int), [])] 160 0 [] (by decide) (by decide) rfl (by decide))
  have E0 := Lib.hid (enc20_e [] 0 0 [] (by decide) (by decide) rfl (by decide))
  have EOV := Lib.hid (enc20_e [((0 : Int), []), (0, List.replicate n1 0)] 160 0 [] ov1 ov2 rfl (by simp))
  have EBG := Lib.hid (enc20_e [((0 : Int), List.replicate n2 0)] 0 M X bg1 hXX bg2 (by simp))
  have ML := Lib.hid bg2
  have hD200 : ∀ v W, HB W v X → Calls Try.prog 12 #[v, .int .i64 0] W fun e w' => ∃ A c, e = .returned (.tuple #[.agg #[.int .i64 0, .slice A n2 c], .int .i64 (M : Int), .int .i64 0]) ∧ Below W.heap.size W w' := fun v W hW => by
    refine (dec12_any v X 0 W hW (by omega)).mono ?_
    rintro e w' hp
    obtain ⟨v', rfl, hn⟩ := hp.one bg3
    obtain ⟨A', c', rfl⟩ := Row.sl hn.2.1
    refine ⟨A', c', ?_, hn.1⟩
    rw [List.length_replicate]
  have D200 := Lib.hid hD200
  clear hD200 i1 i2 hn1 hn2 bg1 bg2 bg3 ov1 ov2 hXX hM
  clear hC20 hX d1 d14 dm d42 d41 d15 a15 a3 a42 a40 e3 n3
  have HS := Lib.hid (St.start w)
  go_enter Try.func6, Try.ntmps6
  go_wp2_with (first
    | (refine atd 45 (by rfl) ?_; refine wl (by rfl) (s_bs (E := 5) (z := (.int .u8 0)) HS.out 2 1 (bs [97, 98]) (by rfl) Try.underlying22 (by kernel_rfl) (by rfl) (by decide) (by decide) (by kernel_rfl) (by rfl) (by decide) ?_); intro b45 Wn hS; clear HS; have HS := Lib.hid hS; clear hS)
    | (refine atd 46 (by rfl) ?_; refine wl (by rfl) (s_cv (xs := [97, 98]) HS.out 0 (by rfl) (by rfl) (by rfl) ?_); intro Wn hS; clear HS; have HS := Lib.hid hS; clear hS)
    | (refine atd 50 (by rfl) ?_; refine wl (by rfl) (s_bs (E := 25) (z := .agg #[.int .i64 0, .slice none 0 0]) HS.out 3 2 [.int .i64 7, .slice (some ⟨b45, 0, none⟩) 2 2, .int .i64 255, .slice none 0 0, .int .i64 0, .slice none 0 0] (by rfl) Try.underlying31 (by kernel_rfl) (by rfl) (by decide) (by decide) (by kernel_rfl) (by rfl) (by decide) ?_); intro b50 Wn hS; clear HS; have HS := Lib.hid hS; clear hS)
    | (go_at_call 20; refine (C20.out _ _ (RS.g [(7, .slice (some ⟨b45, 0, none⟩) 2 2, [97, 98]), (255, .slice none 0 0, []), (0, .slice none 0 0, [])] (HS.out.res (i := 0) rfl) (by intro x hx; simp at hx; rcases hx with rfl | rfl | rfl; exact LitR.hb (HS.out.res (i := 1) rfl); exact HB.nil _ _ _; exact HB.nil _ _ _))).mono ?_; rintro e Wn ⟨v1, rfl, hb⟩; have hS := HS.out.take hb; clear hb; have h1 := HX.out _ _ (hS.res (i := 0) rfl); obtain ⟨A1, c1, rfl⟩ := Row.sl (hS.res (i := 0) rfl); have HC1 := Lib.hid h1.cap; clear h1; replace hS := ((((hS.freeze (i := 0) rfl).sub 0).sub 0).more 0 rfl (fun W hW => HX.out _ W hW)); clear HS; have HS := Lib.hid hS; clear hS)
    | (go_at_call 12; refine (dec12_bad _ xs 1 _ (HS.out.fact (i := 0) rfl) (by omega) D1.out).mono ?_; rintro e Wn ⟨rfl, hb⟩; have hS := HS.out.call hb; clear hb; clear HS; have HS := Lib.hid hS; clear hS)
    | (refine atd 3 (by rfl) ?_; refine wl (by rfl) (s_al HS.out (by rfl) z25 (by rfl) ?_); intro b3 Wn hS; clear HS; have HS := Lib.hid hS; clear hS)
    | (refine sto 3 (by rfl) ?_; refine wl (by rfl) (s_sta (cs := [.int .i64 0, .slice none 0 0]) HS.out 0 2 (by rfl) (by rfl) (by rfl) ag25 (by rfl) (by rfl) (by intro v hv; simp at hv; rcases hv with rfl | rfl <;> rfl) (by decide) ?_); intro Wn hS; replace hS := hS.sub 0; clear HS; have HS := Lib.hid hS; clear hS)
    | (refine atd 65 (by rfl) ?_; refine wl (by rfl) (wp_of_run (run_slh 14 (by rfl) (by rfl) (by rfl) (by decide) HC1.out) ?_))
    | (go_at_call 12; refine (dec12_bad _ (xs.take 14) 0 _ ((HS.out.fact (i := 0) rfl : HB _ (.slice A1 41 c1) xs).take (b := 14) (by decide)) (by rw [List.length_take]; omega) D14.out).mono ?_; rintro e Wn ⟨rfl, hb⟩; have hS := HS.out.call hb; clear hb; clear HS; have HS := Lib.hid hS; clear hS)
    | (refine atd 6 (by rfl) ?_; refine wl (by rfl) (s_al HS.out (by rfl) z25 (by rfl) ?_); intro b6 Wn hS; clear HS; have HS := Lib.hid hS; clear hS)
    | (refine sto 6 (by rfl) ?_; refine wl (by rfl) (s_sta (cs := [.int .i64 0, .slice none 0 0]) HS.out 0 2 (by rfl) (by rfl) (by rfl) ag25 (by rfl) (by rfl) (by intro v hv; simp at hv; rcases hv with rfl | rfl <;> rfl) (by decide) ?_); intro Wn hS; replace hS := hS.sub 0; clear HS; have HS := Lib.hid hS; clear hS)
    | (go_at_call 12; refine (dec12_bad _ xs (-1) _ (HS.out.fact (i := 0) rfl) (by omega) DM.out).mono ?_; rintro e Wn ⟨rfl, hb⟩; have hS := HS.out.call hb; clear hb; clear HS; have HS := Lib.hid hS; clear hS)
    | (refine atd 9 (by rfl) ?_; refine wl (by rfl) (s_al HS.out (by rfl) z25 (by rfl) ?_); intro b9 Wn hS; clear HS; have HS := Lib.hid hS; clear hS)
    | (refine sto 9 (by rfl) ?_; refine wl (by rfl) (s_sta (cs := [.int .i64 0, .slice none 0 0]) HS.out 0 2 (by rfl) (by rfl) (by rfl) ag25 (by rfl) (by rfl) (by intro v hv; simp at hv; rcases hv with rfl | rfl <;> rfl) (by decide) ?_); intro Wn hS; replace hS := hS.sub 0; clear HS; have HS := Lib.hid hS; clear hS)
    | (go_at_call 12; refine (dec12_bad _ xs 42 _ (HS.out.fact (i := 0) rfl) (by omega) D42.out).mono ?_; rintro e Wn ⟨rfl, hb⟩; have hS := HS.out.call hb; clear hb; clear HS; have HS := Lib.hid hS; clear hS)
    | (refine atd 12 (by rfl) ?_; refine wl (by rfl) (s_al HS.out (by rfl) z25 (by rfl) ?_); intro b12 Wn hS; clear HS; have HS := Lib.hid hS; clear hS)
    | (refine sto 12 (by rfl) ?_; refine wl (by rfl) (s_sta (cs := [.int .i64 0, .slice none 0 0]) HS.out 0 2 (by rfl) (by rfl) (by rfl) ag25 (by rfl) (by rfl) (by intro v hv; simp at hv; rcases hv with rfl | rfl <;> rfl) (by decide) ?_); intro Wn hS; replace hS := hS.sub 0; clear HS; have HS := Lib.hid hS; clear hS)
    | (go_at_call 12; refine (dec12_bad _ xs 41 _ (HS.out.fact (i := 0) rfl) (by omega) D41.out).mono ?_; rintro e Wn ⟨rfl, hb⟩; have hS := HS.out.call hb; clear hb; clear HS; have HS := Lib.hid hS; clear hS)
    | (refine atd 15 (by rfl) ?_; refine wl (by rfl) (s_al HS.out (by rfl) z25 (by rfl) ?_); intro b15 Wn hS; clear HS; have HS := Lib.hid hS; clear hS)
    | (refine sto 15 (by rfl) ?_; refine wl (by rfl) (s_sta (cs := [.int .i64 0, .slice none 0 0]) HS.out 0 2 (by rfl) (by rfl) (by rfl) ag25 (by rfl) (by rfl) (by intro v hv; simp at hv; rcases hv with rfl | rfl <;> rfl) (by decide) ?_); intro Wn hS; replace hS := hS.sub 0; clear HS; have HS := Lib.hid hS; clear hS)
    | (go_at_call 12; refine (dec12_any _ xs 15 _ (HS.out.fact (i := 0) rfl) (by omega)).mono ?_; rintro e Wn hp; obtain ⟨v2, rfl, hb⟩ := hp.one D15.out; have hS := (HS.out.call hb.1).addF (F := fun _ => True) (fun _ _ => trivial); obtain ⟨A2, c2, rfl⟩ := Row.sl hb.2.1; replace hS := hS.dropF (Gs := _) (fun G hG => List.mem_cons_of_mem _ hG); clear hp hb; clear HS; have HS := Lib.hid hS; clear hS)
    | (refine atd 18 (by rfl) ?_; refine wl (by rfl) (s_al HS.out (by rfl) z25 (by rfl) ?_); intro b18 Wn hS; clear HS; have HS := Lib.hid hS; clear hS)
    | (refine sto 18 (by rfl) ?_; refine wl (by rfl) (s_sta (cs := [.int .i64 255, .slice A2 0 c2]) HS.out 0 2 (by rfl) (by rfl) (by rfl) ag25 (by rfl) (by rfl) (by intro v hv; simp at hv; rcases hv with rfl | rfl <;> rfl) (by decide) ?_); intro Wn hS; clear HS; have HS := Lib.hid hS; clear hS)
    | (go_at_call 14; refine (A15.out _ _ (HS.out.fact (i := 0) rfl)).mono ?_; rintro e Wn ⟨A21, c21, rfl, hb⟩; have hS := HS.out.call hb; clear hb; clear HS; have HS := Lib.hid hS; clear hS)
    | (go_at_call 14; refine (A3.out _ _ (HS.out.fact (i := 0) rfl)).mono ?_; rintro e Wn ⟨A23, c23, rfl, hb⟩; have hS := HS.out.call hb; clear hb; clear HS; have HS := Lib.hid hS; clear hS)
    | (go_at_call 14; refine (A42.out _ _ (HS.out.fact (i := 0) rfl)).mono ?_; rintro e Wn ⟨rfl, hb⟩; have hS := HS.out.call hb; clear hb; clear HS; have HS := Lib.hid hS; clear hS)
    | (refine atd 111 (by rfl) ?_; refine wl (by rfl) (wp_of_run (run_slh 40 (by rfl) (by rfl) (by rfl) (by decide) HC1.out) ?_))
    | (go_at_call 14; refine (A40.out _ _ (((HS.out.fact (i := 0) rfl : HB _ (.slice A1 41 c1) xs).take (b := 40) (by decide)))).mono ?_; rintro e Wn ⟨A27, c27, rfl, hb⟩; have hS := HS.out.call hb; clear hb; have q0 := (show Wn.cell? ⟨b18, 0, none⟩ = some (.int .i64 255) from hS.cell (i := 0) rfl rfl); have q1 := (show Wn.cell? ⟨b18, 1, none⟩ = some (.slice A2 0 c2) from hS.cell (i := 0) rfl rfl); clear HS; have HS := Lib.hid hS; clear hS)
    | (refine atd 194 (by rfl) ?_; refine wl (by rfl) (s_bs (E := 25) (z := .agg #[.int .i64 0, .slice none 0 0]) HS.out 1 2 [.int .i64 256, .slice none 0 0] (by rfl) Try.underlying31 (by kernel_rfl) (by rfl) (by decide) (by decide) (by kernel_rfl) (by rfl) (by decide) ?_); intro b194 Wn hS; clear HS; have HS := Lib.hid hS; clear hS)
    | (go_at_call 20; refine (E256.out _ _ (RS.g [(256, .slice none 0 0, [])] (u := .slice (some ⟨b194, 0, none⟩) 1 1) (HS.out.res (i := 0) rfl) (by intro x hx; simp at hx; subst hx; exact HB.nil _ _ _))).mono ?_; rintro e Wn ⟨A30, c30, rfl, hb⟩; have hS := HS.out.call hb.1; clear hb; clear HS; have HS := Lib.hid hS; clear hS)
    | (refine atd 200 (by rfl) ?_; refine wl (by rfl) (s_bs (E := 25) (z := .agg #[.int .i64 0, .slice none 0 0]) HS.out 1 2 [.int .i64 (-1), .slice none 0 0] (by rfl) Try.underlying31 (by kernel_rfl) (by rfl) (by decide) (by decide) (by kernel_rfl) (by rfl) (by decide) ?_); intro b200 Wn hS; clear HS; have HS := Lib.hid hS; clear hS)
    | (go_at_call 20; refine (EM1.out _ _ (RS.g [(-1, .slice none 0 0, [])] (u := .slice (some ⟨b200, 0, none⟩) 1 1) (HS.out.res (i := 0) rfl) (by intro x hx; simp at hx; subst hx; exact HB.nil _ _ _))).mono ?_; rintro e Wn ⟨A32, c32, rfl, hb⟩; have hS := HS.out.call hb.1; clear hb; clear HS; have HS := Lib.hid hS; clear hS)
    | (refine atd 206 (by rfl) ?_; refine wl (by rfl) (s_mk (k := 1) HS.out n1 (by rfl) (by exact congrArg (Value.int .i64) HN1.out) (by exact congrArg (Value.int .i64) HN1.out) Try.underlying22 z5 (by rfl) (by kernel_rfl) NB1.out NC1.out ?_); intro b206 Wn hS; clear HS; have HS := Lib.hid hS; clear hS)
    | (refine atd 208 (by rfl) ?_; refine wl (by rfl) (s_bs (E := 25) (z := .agg #[.int .i64 0, .slice none 0 0]) HS.out 2 2 [.int .i64 0, .slice none 0 0, .int .i64 0, .slice (some ⟨b206, 0, none⟩) n1 n1] (by rfl) Try.underlying31 (by kernel_rfl) (by rfl) (by decide) (by decide) (by kernel_rfl) (by rfl) (by decide) ?_); intro b208 Wn hS; clear HS; have HS := Lib.hid hS; clear hS)
    | (go_at_call 20; refine (EOV.out _ _ (RS.g [(0, .slice none 0 0, []), (0, .slice (some ⟨b206, 0, none⟩) n1 n1, List.replicate n1 0)] (u := .slice (some ⟨b208, 0, none⟩) 2 2) (HS.out.res (i := 0) rfl) (by intro x hx; simp at hx; rcases hx with rfl | rfl; exact HB.nil _ _ _; exact HB.of_blk (HS.out.blk (i := 1) rfl)))).mono ?_; rintro e Wn ⟨A34, c34, rfl, hb⟩; have hS := HS.out.call hb.1; clear hb; clear HS; have HS := Lib.hid hS; clear hS)
    | (refine atd 213 (by rfl) ?_; refine wl (by rfl) (s_mk (k := 1) HS.out n2 (by rfl) (by exact congrArg (Value.int .i64) HN2.out) (by exact congrArg (Value.int .i64) HN2.out) Try.underlying22 z5 (by rfl) (by kernel_rfl) NB2.out NC2.out ?_); intro b213 Wn hS; clear HS; have HS := Lib.hid hS; clear hS)
    | (refine atd 215 (by rfl) ?_; refine wl (by rfl) (s_bs (E := 25) (z := .agg #[.int .i64 0, .slice none 0 0]) HS.out 1 2 [.int .i64 0, .slice (some ⟨b213, 0, none⟩) n2 n2] (by rfl) Try.underlying31 (by kernel_rfl) (by rfl) (by decide) (by decide) (by kernel_rfl) (by rfl) (by decide) ?_); intro b215 Wn hS; clear HS; have HS := Lib.hid hS; clear hS)
    | (go_at_call 20; refine (EBG.out _ _ (RS.g [(0, .slice (some ⟨b213, 0, none⟩) n2 n2, List.replicate n2 0)] (u := .slice (some ⟨b215, 0, none⟩) 1 1) (HS.out.res (i := 0) rfl) (by intro x hx; simp at hx; subst hx; exact HB.of_blk (HS.out.blk (i := 1) rfl)))).mono ?_; rintro e Wn ⟨A36, c36, rfl, hb⟩; have hS := HS.out.call hb.1; have HB36 := Lib.hid (hb_row hb.2.1 ML.out); clear hb; clear HS; have HS := Lib.hid hS; clear hS)
    | (go_at_call 12; refine (D200.out _ _ HB36.out).mono ?_; rintro e Wn ⟨A38, c38, rfl, hb⟩; have hS := HS.out.call hb; clear hb; clear HS; have HS := Lib.hid hS; clear hS)
    | (refine atd 38 (by rfl) ?_; refine wl (by rfl) (s_al HS.out (by rfl) z25 (by rfl) ?_); intro b38 Wn hS; clear HS; have HS := Lib.hid hS; clear hS)
    | (refine sto 38 (by rfl) ?_; refine wl (by rfl) (s_sta (cs := [.int .i64 0, .slice A38 n2 c38]) HS.out 0 2 (by rfl) (by rfl) (by rfl) ag25 (by rfl) (by rfl) (by intro v hv; simp at hv; rcases hv with rfl | rfl <;> rfl) (by decide) ?_); intro Wn hS; clear HS; have HS := Lib.hid hS; clear hS)
    | (refine atd 246 (by rfl) ?_; refine wl (by rfl) (s_ld HS.out 0 (by rfl) (by rfl) (by rfl) (by kernel_rfl) (by rfl) ?_))
    | (go_at_call 20; refine (E0.out _ _ (RS.nil _)).mono ?_; rintro e Wn ⟨A42, c42, rfl, hb⟩; have hS := HS.out.call hb.1; clear hb; clear HS; have HS := Lib.hid hS; clear hS)
    | (go_at_call 25; refine (alive25 _).mono ?_; rintro e Wn ⟨rfl, hb⟩; have hS := HS.out.call hb; clear hb; clear HS; have HS := Lib.hid hS; clear hS)
    | (refine atd 281 (by rfl) ?_; refine wl (by rfl) (s_bs0 (E := 25) HS.out 2 (by rfl) Try.underlying31 (by kernel_rfl) (by rfl) ?_); intro b281 Wn hS; clear HS; have HS := Lib.hid hS; clear hS)
    | (go_at_call 22; refine (same22_d _ _ [] [] true _ (decide_eq_true rfl) (RS.nil _) (RS.nil' _ (some ⟨b281, 0, none⟩) 0) (by decide) (by decide)).mono ?_; rintro e Wn ⟨rfl, hb⟩; have hS := HS.out.call hb; clear hb; clear HS; have HS := Lib.hid hS; clear hS)
    | (refine atd 286 (by rfl) ?_; refine wl (by rfl) (s_bs (E := 25) (z := .agg #[.int .i64 0, .slice none 0 0]) HS.out 1 2 [.int .i64 0, .slice none 0 0] (by rfl) Try.underlying31 (by kernel_rfl) (by rfl) (by decide) (by decide) (by kernel_rfl) (by rfl) (by decide) ?_); intro b286 Wn hS; clear HS; have HS := Lib.hid hS; clear hS)
    | (go_at_call 22; refine (same22_d _ _ [(0, [])] [] false _ (by decide) (RS.g [(0, .slice none 0 0, [])] (u := .slice (some ⟨b286, 0, none⟩) 1 1) (HS.out.res (i := 0) rfl) (by intro x hx; simp at hx; subst hx; exact HB.nil _ _ _)) (RS.nil _) (by decide) (by decide)).mono ?_; rintro e Wn ⟨rfl, hb⟩; have hS := HS.out.call hb; clear hb; clear HS; have HS := Lib.hid hS; clear hS)
    | (refine atd 139 (by rfl) ?_; refine wl (by rfl) (s_ld HS.out 0 (by rfl) (by rfl) (by rfl) (by kernel_rfl) (by rfl) ?_))
    | (refine atd 144 (by rfl) ?_; refine wl (by rfl) (s_ld HS.out 0 (by rfl) (by rfl) (by rfl) (by kernel_rfl) (by rfl) ?_)))
  go_ret
  exact ⟨rfl, HS.out.below⟩
end
end Go.Proofs.Ytlpklbpaknemaaa
