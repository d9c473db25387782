/- Contracts and words that the laws stand on (RecM). -/
import Derived.Test.YtlpklbpaknemaaaRecK
import Derived.Test.YtlpklbpaknemaaaRecordBackWalk
set_option linter.unusedVariables false
set_option linter.unusedSimpArgs false
namespace Go.Proofs.Ytlpklbpaknemaaa
section
open Go Go.RowKit Go.Proofs
attribute [local irreducible] Calls
def L3 : List (Int × List UInt8) := [(7, [97, 98]), (255, []), (0, [])]
def X3 : List UInt8 := recB 7 [97, 98] ++ (recB 255 [] ++ recB 0 [])
theorem enc_L3 : encO L3 = X3 ∧ encE L3 = 0 := by
  have hok : okL L3 = true := by decide
  refine ⟨?_, by unfold encE; rw [hok]; rfl⟩
  unfold encO
  rw [hok, if_pos rfl]
  simp [L3, X3, encL]
theorem X3_len : X3.length = 41 := by simp [X3, recB_length]
theorem X3_1 : decR X3 1 = none := by kernel_rfl
theorem X3_3 : decR X3 3 = none := by kernel_rfl
theorem X3_14 : decR (X3.take 14) 0 = none := by kernel_rfl
theorem X3_15 : decR X3 15 = some (255, []) := decR_at (recB 7 [97, 98]) (recB 0 []) 255 [] (by decide)
end
section
open Go Go.RowKit Go.Proofs
attribute [local irreducible] Calls

theorem HB.of_blk {W : World} {b n : Nat} (h : W.heap[b]? = some (.cells (List.replicate n (.int .u8 0)).toArray 5 (0, 0))) : HB W (.slice (some ⟨b, 0, none⟩) n n) (List.replicate n 0) := by
  have e : bs (List.replicate n 0) = List.replicate n (.int .u8 0) := by simp [bs]
  have h1 : (LitR b (List.replicate n 0)).ok W := ⟨(0, 0), by rw [e]; exact h⟩
  have := LitR.hb h1
  rwa [List.length_replicate] at this
theorem RS.g {W : World} {B : Nat} {u : Value} (ys : List (Int × Value × List UInt8)) (h : W.ownsRow B 25 2 u ys.length (gcells ys)) (hp : ∀ x ∈ ys, HB W x.2.1 x.2.2) : RS W u (ys.map gkp) := RS.of_g h hp
theorem RS.nil (W : World) : RS W (.slice none 0 0) [] := ⟨none, 0, rfl, Nat.le_refl _, fun _ => rfl, fun a ha => by cases ha⟩
theorem dec12_bad (v : Value) (xs : List UInt8) (i : Int) (w : World) (h : HB w v xs) (hl : xs.length ≤ 1000000) (hd : decR xs i = none) : Calls Try.prog 12 #[v, .int .i64 i] w fun e w' => e = .returned (.tuple #[.agg #[.int .i64 0, .slice none 0 0], .int .i64 0, .int .i64 160]) ∧ Below w.heap.size w w' := by
  refine (dec12_any v xs i w h hl).mono fun e w' hp => ?_
  unfold DecPost at hp
  rw [hd] at hp
  exact hp
theorem names_plain : ∃ xs : List UInt8, encO L3 = xs ∧ encE L3 = 0 ∧ xs.length = 41 ∧ decR xs 1 = none ∧ decR (xs.take 14) 0 = none ∧ decR xs (-1) = none ∧ decR xs 42 = none ∧ decR xs 41 = none ∧ decT xs 15 = (255, [], 28, 0) ∧
    (∀ v W, HB W v xs → Calls Try.prog 14 #[v, .int .i64 15] W fun e w' => ∃ A c, e = .returned (.tuple #[.slice A 2 c, .int .i64 41]) ∧ Below W.heap.size W w') ∧
    (∀ v W, HB W v xs → Calls Try.prog 14 #[v, .int .i64 3] W fun e w' => ∃ A c, e = .returned (.tuple #[.slice A 0 c, .int .i64 3]) ∧ Below W.heap.size W w') ∧
    (∀ v W, HB W v xs → Calls Try.prog 14 #[v, .int .i64 42] W fun e w' => e = .returned (.tuple #[.slice none 0 0, .int .i64 0]) ∧ Below W.heap.size W w') ∧
    (∀ v W, HB W v (xs.take 40) → Calls Try.prog 14 #[v, .int .i64 0] W fun e w' => ∃ A c, e = .returned (.tuple #[.slice A 2 c, .int .i64 28]) ∧ Below W.heap.size W w') := by
  have h41 := X3_len
  refine ⟨X3, enc_L3.1, enc_L3.2, h41, X3_1, X3_14, decR_far (.inl (by decide)), decR_far (.inr (.inl (by rw [h41]; decide))), decR_far (.inr (.inr (by rw [h41]; decide))), ?_, ?_, ?_, ?_, ?_⟩
  · unfold decT; rw [X3_15]; rfl
  · intro v W hW
    have hd : decR X3 (((recB 7 [97, 98]).length + (encL [((255 : Int), ([] : List UInt8)), (0, [])]).length : Nat) : Int) = none := decR_far (.inr (.inr (by rw [h41]; simp [encL, recB_length])))
    have h := all14_enc v (recB 7 [97, 98]) [] [(255, []), (0, [])] X3 W hW (by simp [X3, encL]) (by decide) hd (by rw [h41]; decide)
    rw [show ((recB 7 [97, 98]).length : Int) = 15 by rw [recB_length]; rfl] at h
    refine h.mono ?_
    rintro e w' ⟨A, c, rfl, hb, _⟩
    refine ⟨A, c, ?_, hb⟩
    rw [show (((recB 7 [97, 98]).length + (encL [((255 : Int), ([] : List UInt8)), (0, [])]).length : Nat) : Int) = 41 by simp [encL, recB_length]]
    rfl
  · intro v W hW
    have h := all14_enc v (X3.take 3) (X3.drop 3) [] X3 W hW (by simp [encL]) (by decide) (by simp only [encL, List.flatMap_nil, List.length_nil, Nat.add_zero, List.length_take, h41]; exact X3_3) (by rw [h41]; decide)
    rw [show ((X3.take 3).length : Int) = 3 by rw [List.length_take, h41]; rfl] at h
    refine h.mono ?_
    rintro e w' ⟨A, c, rfl, hb, _⟩
    refine ⟨A, c, ?_, hb⟩
    rw [show (((X3.take 3).length + (encL ([] : List (Int × List UInt8))).length : Nat) : Int) = 3 by rw [List.length_take, h41]; rfl]
    rfl
  · intro v W hW
    exact all14_far v X3 42 W hW (.inr (by rw [h41]; decide))
  · intro v W hW
    have hl40 : (X3.take 40).length = 40 := by rw [List.length_take, h41]; rfl
    have hlr : (recB 7 [97, 98] ++ recB 255 []).length = 28 := by simp [recB_length]
    have e0 : X3.take 40 = [] ++ (encL [((7 : Int), ([97, 98] : List UInt8)), (255, [])] ++ (recB 0 []).take 12) := by
      have e1 : X3 = (recB 7 [97, 98] ++ recB 255 []) ++ recB 0 [] := by simp [X3]
      rw [e1, show 40 = (recB 7 [97, 98] ++ recB 255 []).length + 12 by rw [hlr], List.take_length_add_append]
      simp [encL]
    have hd : decR (X3.take 40) ((([] : List UInt8).length + (encL [((7 : Int), ([97, 98] : List UInt8)), (255, [])]).length : Nat) : Int) = none := decR_far (.inr (.inr (by rw [hl40]; simp [encL, recB_length])))
    have h := all14_enc v [] ((recB 0 []).take 12) [(7, [97, 98]), (255, [])] (X3.take 40) W hW e0 (by decide) hd (by rw [hl40]; decide)
    refine h.mono ?_
    rintro e w' ⟨A, c, rfl, hb, _⟩
    refine ⟨A, c, ?_, hb⟩
    rw [show ((([] : List UInt8).length + (encL [((7 : Int), ([97, 98] : List UInt8)), (255, [])]).length : Nat) : Int) = 28 by simp [encL, recB_length]]
    rfl
theorem big_plain (n : Nat) (hn : n ≤ 200000) : encE [((0 : Int), List.replicate n (0 : UInt8))] = 0 ∧ (encO [((0 : Int), List.replicate n (0 : UInt8))]).length = n + 13 ∧ decT (encO [((0 : Int), List.replicate n (0 : UInt8))]) 0 = (0, List.replicate n 0, ((n + 13 : Nat) : Int), 0) := by
  have hok : okL [((0 : Int), List.replicate n (0 : UInt8))] = true := by
    unfold okL
    simp only [List.all_cons, List.all_nil, Bool.and_true, List.length_replicate]
    exact decide_eq_true ⟨by decide, by decide, hn⟩
  have e0 : encO [((0 : Int), List.replicate n (0 : UInt8))] = recB 0 (List.replicate n 0) := by
    unfold encO
    rw [hok, if_pos rfl]
    simp [encL]
  refine ⟨by unfold encE; rw [hok]; rfl, by rw [e0, recB_length, List.length_replicate], ?_⟩
  rw [e0]
  have h := decR_at [] [] 0 (List.replicate n 0) (by rw [List.length_replicate]; exact hn)
  simp only [List.nil_append, List.append_nil] at h
  have h0 : decR (recB 0 (List.replicate n 0)) 0 = some (0, List.replicate n 0) := h
  unfold decT
  rw [h0]
  simp
  omega
theorem over_plain (n : Nat) (hn : 200000 < n) : encE [((0 : Int), ([] : List UInt8)), (0, List.replicate n 0)] = 160 ∧ encO [((0 : Int), ([] : List UInt8)), (0, List.replicate n 0)] = [] := by
  have hok : okL [((0 : Int), ([] : List UInt8)), (0, List.replicate n 0)] = false := by
    refine okL_take (i := 1) (x := (0, List.replicate n 0)) rfl ?_
    rw [List.length_replicate]
    exact decide_eq_false (fun h => by omega)
  refine ⟨by unfold encE; rw [hok]; rfl, by unfold encO; rw [hok]; rfl⟩
end
end Go.Proofs.Ytlpklbpaknemaaa
