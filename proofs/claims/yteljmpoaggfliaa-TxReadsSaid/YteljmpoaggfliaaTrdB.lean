/- Contracts and words that the laws stand on (TrdB). -/
import Derived.Great.FillDense
import Derived.Test.YteljmpoaggfliaaTrdA
set_option linter.unusedVariables false
set_option linter.unusedSimpArgs false
namespace Go.Proofs.Yteljmpoaggfliaa
section
open Go Go.RowKit Go.Proofs
/-! Plain: what is read of a transaction's bytes. -/
theorem numN_fwd {k n : Nat} (hn : n < 256 ^ k) (r : List UInt8) : numN k (le k n ++ r) = n := by
  have hl : (le k n).length = k := le_length k n
  unfold numN
  rw [if_pos (by rw [List.length_append]; omega), List.take_append_of_le_length (by omega), List.take_of_length_le (by omega), leNum_le k n hn]
theorem numM_fwd {k : Nat} {l : List UInt8} (hl : l.length = k) (r : List UInt8) : numM k (l ++ r) = r := by
  unfold numM
  rw [if_pos (by rw [List.length_append]; omega), ← hl, List.drop_left]
theorem num_back {k : Nat} {xs : List UInt8} (h : k ≤ xs.length) : xs = le k (numN k xs) ++ numM k xs := by
  unfold numN numM
  rw [if_pos h, if_pos h]
  have := le_leNum (xs.take k)
  rw [List.length_take, Nat.min_eq_left h] at this
  rw [this, List.take_append_drop]
theorem bytV_fwd {s : List UInt8} (hs : s.length ≤ 2000) (r : List UInt8) : bytV (csize s.length ++ (s ++ r)) = s ∧ bytM (csize s.length ++ (s ++ r)) = r ∧ (getBytes 2000 (csize s.length ++ (s ++ r))).isSome = true := by
  unfold bytV bytM
  rw [getBytes_fwd s r hs]
  refine ⟨rfl, ?_, rfl⟩
  show List.drop (compact s.length + s.length) _ = r
  rw [← List.append_assoc, List.drop_left' (by rw [List.length_append, csize_length])]
theorem byt_back {xs : List UInt8} (h : (getBytes 2000 xs).isSome = true) : xs = csize (bytV xs).length ++ (bytV xs ++ bytM xs) ∧ (bytV xs).length ≤ 2000 := by
  unfold bytV bytM
  cases hb : getBytes 2000 xs with
  | none => rw [hb] at h; cases h
  | some p =>
    obtain ⟨l, m⟩ := p
    obtain ⟨e, _, _, hm, _, _⟩ := getBytes_csize hb
    refine ⟨?_, by dsimp only; omega⟩
    dsimp only
    rw [← List.append_assoc, e, List.take_append_drop]
theorem rIn_fwd {y : TIn} (hy : y.ok) (hs : y.s.length ≤ 2000) (r : List UInt8) : rInV (inB y ++ r) = y ∧ rInM (inB y ++ r) = r ∧ rInB (inB y ++ r) = true := by
  obtain ⟨h, n, s, q⟩ := y
  obtain ⟨h1, h2, h3⟩ := hy
  dsimp only at h1 h2 h3 hs
  have e0 : inB ⟨h, n, s, q⟩ ++ r = h ++ (le 4 n ++ (csize s.length ++ (s ++ (le 4 q ++ r)))) := by simp [inB]
  rw [e0]
  have m1 : numM 32 (h ++ (le 4 n ++ (csize s.length ++ (s ++ (le 4 q ++ r))))) = le 4 n ++ (csize s.length ++ (s ++ (le 4 q ++ r))) := numM_fwd h1 _
  have m2 : rIn2 (h ++ (le 4 n ++ (csize s.length ++ (s ++ (le 4 q ++ r))))) = csize s.length ++ (s ++ (le 4 q ++ r)) := by
    unfold rIn2; rw [m1]; exact numM_fwd (le_length 4 n) _
  obtain ⟨b1, b2, b3⟩ := bytV_fwd hs (le 4 q ++ r)
  have hl : 32 ≤ (h ++ (le 4 n ++ (csize s.length ++ (s ++ (le 4 q ++ r))))).length := by rw [List.length_append]; omega
  refine ⟨?_, ?_, ?_⟩
  · unfold rInV rInH
    rw [m2, m1, b1, b2, if_pos hl, List.take_left' h1, numN_fwd (by simpa using h2), numN_fwd (by simpa using h3)]
  · unfold rInM
    rw [m2, b2]
    exact numM_fwd (le_length 4 q) _
  · unfold rInB
    rw [m2, m1, b2, b3, decide_eq_true hl, decide_eq_true (by rw [List.length_append, le_length]; omega), decide_eq_true (by rw [List.length_append, le_length]; omega)]
    rfl
theorem rIn_back {xs : List UInt8} (h : rInB xs = true) : xs = inB (rInV xs) ++ rInM xs ∧ (rInV xs).s.length ≤ 2000 := by
  unfold rInB at h
  simp only [Bool.and_eq_true, decide_eq_true_eq] at h
  obtain ⟨h1, h2, h3, h4⟩ := h
  obtain ⟨e3, hs⟩ := byt_back h3
  refine ⟨?_, hs⟩
  have e1 : xs = xs.take 32 ++ numM 32 xs := by unfold numM; rw [if_pos h1, List.take_append_drop]
  have e2 := num_back h2
  have e4 := num_back h4
  unfold inB rInV rInM rInH
  dsimp only
  rw [if_pos h1]
  simp only [List.append_assoc]
  rw [← e4, ← e3]
  unfold rIn2
  rw [← e2, ← e1]
theorem emod_add_sub {v a m : Int} (h0 : 0 ≤ v + a) (h : v + a < m) : (v % m + a) % m - a = v := by
  rw [Int.emod_add_emod, Int.emod_eq_of_lt h0 h, Int.add_sub_cancel]
theorem w64_of_u (y : TOut) (hy : y.ok) : wrap64 ((y.u : Nat) : Int) = y.v := by
  have e : ∀ x : Int, wrap64 x = (x + 9223372036854775808) % 18446744073709551616 - 9223372036854775808 := fun x => by simp only [wrap64]
  have hu : ((y.u : Nat) : Int) = y.v % 18446744073709551616 := Int.toNat_of_nonneg (Int.emod_nonneg _ (by decide))
  rw [e, hu]
  exact emod_add_sub (by have := hy.1; omega) (by have := hy.2; omega)
theorem rOut_fwd {y : TOut} (hy : y.ok) (hs : y.s.length ≤ 2000) (r : List UInt8) : rOutV (outB y ++ r) = y ∧ rOutM (outB y ++ r) = r ∧ rOutB (outB y ++ r) = true := by
  have e0 : outB y ++ r = le 8 y.u ++ (csize y.s.length ++ (y.s ++ r)) := by simp [outB]
  rw [e0]
  have m1 : numM 8 (le 8 y.u ++ (csize y.s.length ++ (y.s ++ r))) = csize y.s.length ++ (y.s ++ r) := numM_fwd (le_length 8 _) _
  have n1 : numN 8 (le 8 y.u ++ (csize y.s.length ++ (y.s ++ r))) = y.u := numN_fwd (k := 8) (by rw [show (256 : Nat) ^ 8 = 18446744073709551616 from rfl]; exact y.u_lt) _
  obtain ⟨b1, b2, b3⟩ := bytV_fwd hs r
  refine ⟨?_, ?_, ?_⟩
  · unfold rOutV
    rw [m1, n1, b1, w64_of_u y hy]
  · unfold rOutM
    rw [m1, b2]
  · unfold rOutB
    rw [m1, b3, decide_eq_true (by rw [List.length_append, le_length]; omega)]
    rfl
theorem rOut_back {xs : List UInt8} (h : rOutB xs = true) : xs = outB (rOutV xs) ++ rOutM xs ∧ (rOutV xs).s.length ≤ 2000 := by
  unfold rOutB at h
  simp only [Bool.and_eq_true, decide_eq_true_eq] at h
  obtain ⟨h1, h2⟩ := h
  obtain ⟨e2, hs⟩ := byt_back h2
  refine ⟨?_, hs⟩
  have e1 := num_back h1
  unfold outB
  rw [rOutV_u]
  unfold rOutV rOutM
  dsimp only
  simp only [List.append_assoc]
  rw [← e2, ← e1]
/-- Reading n things, one behind another. -/
def rMany {α : Type} (V : List UInt8 → α) (M : List UInt8 → List UInt8) (B : List UInt8 → Bool) : Nat → List UInt8 → Option (List α × List UInt8)
  | 0, xs => some ([], xs)
  | n + 1, xs => if B xs then (rMany V M B n (M xs)).map (fun p => (V xs :: p.1, p.2)) else none
theorem rMany_snoc {α : Type} {V : List UInt8 → α} {M : List UInt8 → List UInt8} {B : List UInt8 → Bool} : ∀ {n : Nat} {xs r : List UInt8} {l : List α}, rMany V M B n xs = some (l, r) → rMany V M B (n + 1) xs = if B r then some (l ++ [V r], M r) else none
  | 0, xs, r, l, h => by
    simp only [rMany, Option.some.injEq, Prod.mk.injEq] at h
    obtain ⟨rfl, rfl⟩ := h
    simp [rMany]
  | n + 1, xs, r, l, h => by
    rw [rMany] at h
    split at h
    · rename_i hb
      obtain ⟨⟨l', r'⟩, h1, h2⟩ := Option.map_eq_some_iff.1 h
      simp only [Prod.mk.injEq] at h2
      obtain ⟨rfl, rfl⟩ := h2
      rw [rMany, if_pos hb, rMany_snoc h1]
      split <;> simp
    · cases h
theorem rMany_none {α : Type} {V : List UInt8 → α} {M : List UInt8 → List UInt8} {B : List UInt8 → Bool} : ∀ {n m : Nat} {xs : List UInt8}, rMany V M B n xs = none → n ≤ m → rMany V M B m xs = none
  | 0, _, _, h, _ => by cases h
  | n + 1, 0, _, _, hm => by omega
  | n + 1, m + 1, xs, h, hm => by
    rw [rMany] at h ⊢
    split at h
    · rename_i hb
      rw [if_pos hb]
      have h' : rMany V M B n (M xs) = none := by
        cases hc : rMany V M B n (M xs) with
        | none => rfl
        | some p => rw [hc] at h; cases h
      rw [rMany_none h' (by omega)]
      rfl
    · rename_i hb; rw [if_neg hb]
theorem rMany_len {α : Type} {V : List UInt8 → α} {M : List UInt8 → List UInt8} {B : List UInt8 → Bool} : ∀ {n : Nat} {xs r : List UInt8} {l : List α}, rMany V M B n xs = some (l, r) → l.length = n
  | 0, xs, r, l, h => by simp only [rMany, Option.some.injEq, Prod.mk.injEq] at h; rw [← h.1]; rfl
  | n + 1, xs, r, l, h => by
    rw [rMany] at h
    split at h
    · obtain ⟨⟨l', r'⟩, h1, h2⟩ := Option.map_eq_some_iff.1 h
      simp only [Prod.mk.injEq] at h2
      rw [← h2.1, List.length_cons, rMany_len h1]
    · cases h
theorem rMany_fwd {α : Type} {V : List UInt8 → α} {M : List UInt8 → List UInt8} {B : List UInt8 → Bool} {E : α → List UInt8} {p : α → Prop} (hf : ∀ y, p y → ∀ r, V (E y ++ r) = y ∧ M (E y ++ r) = r ∧ B (E y ++ r) = true) : ∀ (l : List α), (∀ y ∈ l, p y) → ∀ r, rMany V M B l.length (l.flatMap E ++ r) = some (l, r)
  | [], _, _ => rfl
  | y :: l, h, r => by
    obtain ⟨h1, h2, h3⟩ := hf y (h y (List.mem_cons_self ..)) (l.flatMap E ++ r)
    rw [List.flatMap_cons, List.append_assoc, List.length_cons, rMany, if_pos h3, h2, rMany_fwd hf l (fun z hz => h z (List.mem_cons_of_mem _ hz)) r, h1]
    rfl
theorem rMany_back {α : Type} {V : List UInt8 → α} {M : List UInt8 → List UInt8} {B : List UInt8 → Bool} {E : α → List UInt8} {p : α → Prop} (hb : ∀ xs, B xs = true → xs = E (V xs) ++ M xs ∧ p (V xs)) : ∀ {n : Nat} {xs r : List UInt8} {l : List α}, rMany V M B n xs = some (l, r) → xs = l.flatMap E ++ r ∧ (∀ y ∈ l, p y)
  | 0, xs, r, l, h => by
    simp only [rMany, Option.some.injEq, Prod.mk.injEq] at h
    obtain ⟨rfl, rfl⟩ := h
    exact ⟨rfl, fun y hy => (nomatch hy)⟩
  | n + 1, xs, r, l, h => by
    rw [rMany] at h
    split at h
    · rename_i hB
      obtain ⟨⟨l', r'⟩, h1, h2⟩ := Option.map_eq_some_iff.1 h
      simp only [Prod.mk.injEq] at h2
      obtain ⟨rfl, rfl⟩ := h2
      obtain ⟨e1, e2⟩ := rMany_back hb h1
      obtain ⟨e3, e4⟩ := hb xs hB
      refine ⟨?_, fun y hy => ?_⟩
      · rw [List.flatMap_cons, List.append_assoc, ← e1, ← e3]
      · rcases List.mem_cons.1 hy with rfl | hy
        · exact e4
        · exact e2 y hy
    · cases h
end
section
open Go Go.RowKit Go.Proofs
/-- Scripts, each new memory of its own. -/
def ScrR (l : List (Value × List UInt8)) : Res where
  fp := l.flatMap fun x => x.1.ownBlock.toList
  ok := fun W => ∀ x ∈ l, (Row x.1 5 1 x.2.length (bs x.2)).ok W
  loc := fun W W' h ho x hx => (Row x.1 5 1 x.2.length (bs x.2)).loc W W' (fun k hk => h k (List.mem_flatMap.2 ⟨x, hx, hk⟩)) (ho x hx)
  cel := fun W ho k hk => by
    obtain ⟨x, hx, hk⟩ := List.mem_flatMap.1 hk
    exact (Row x.1 5 1 x.2.length (bs x.2)).cel W (ho x hx) k hk
section
variable {w W : World} {L : List Res} {Fs : List (World → Prop)}
/-- A part and another become one. -/
theorem St.join2 {r q t : Res} {i : Nat} (h : St w W (r :: L) Fs) (hi : L[i]? = some q) (hok : t.ok W) (hfp : ∀ k ∈ t.fp, k ∈ r.fp ∨ k ∈ q.fp) : St w W (L.set i t) Fs := by
  have hli := (List.getElem?_eq_some_iff.1 hi).1
  have hr := h.own r (List.mem_cons_self ..)
  have hq := h.own q (List.mem_cons_of_mem _ (List.mem_of_getElem? hi))
  have get : ∀ (a : Nat) (s : Res), (L.set i t)[a]? = some s → (a = i ∧ s = t) ∨ (a ≠ i ∧ L[a]? = some s) := by
    intro a s ha
    by_cases hai : i = a
    · subst hai; rw [List.getElem?_set_self hli] at ha; injection ha with ha; exact .inl ⟨rfl, ha.symm⟩
    · rw [List.getElem?_set_ne hai] at ha; exact .inr ⟨fun e => hai e.symm, ha⟩
  have key : ∀ (j : Nat) (s : Res), j ≠ i → L[j]? = some s → ∀ k ∈ s.fp, k ∉ t.fp := by
    intro j s hj hs k hk hk'
    rcases hfp k hk' with h1 | h1
    · exact h.apart (j + 1) 0 s r (by simpa using hs) rfl (by omega) k hk h1
    · exact h.apart (j + 1) (i + 1) s q (by simpa using hs) (by simpa using hi) (by omega) k hk h1
  refine ⟨h.below, ?_, ?_, ?_⟩
  · intro s hs
    obtain ⟨a, ha⟩ := List.mem_iff_getElem?.1 hs
    rcases get a s ha with ⟨_, rfl⟩ | ⟨_, h2⟩
    · exact ⟨hok, fun k hk => by rcases hfp k hk with h1 | h1; exact hr.2 k h1; exact hq.2 k h1⟩
    · exact h.own s (List.mem_cons_of_mem _ (List.mem_of_getElem? h2))
  · intro a b s u ha hb hab k hk hk'
    rcases get a s ha with ⟨rfl, rfl⟩ | ⟨h1, h2⟩
    · rcases get b u hb with ⟨rfl, rfl⟩ | ⟨h3, h4⟩
      · exact hab rfl
      · exact key b u h3 h4 k hk' hk
    · rcases get b u hb with ⟨rfl, rfl⟩ | ⟨h3, h4⟩
      · exact key a s h1 h2 k hk hk'
      · exact h.apart (a + 1) (b + 1) s u (by simpa using h2) (by simpa using h4) (by omega) k hk hk'
  · intro F hF
    refine (h.facts F hF).mono fun k hk => ?_
    obtain ⟨s, hs, hm⟩ := hk
    obtain ⟨a, ha⟩ := List.mem_iff_getElem?.1 hs
    rcases get a s ha with ⟨_, rfl⟩ | ⟨_, h2⟩
    · rcases hfp k hm with h1 | h1
      · exact ⟨r, List.mem_cons_self .., h1⟩
      · exact ⟨q, List.mem_cons_of_mem _ (List.mem_of_getElem? hi), h1⟩
    · exact ⟨s, List.mem_cons_of_mem _ (List.mem_of_getElem? h2), hm⟩
theorem St.scr {v : Value} {s : List UInt8} {l : List (Value × List UInt8)} {i : Nat} (h : St w W (Row v 5 1 s.length (bs s) :: L) Fs) (hi : L[i]? = some (ScrR l)) : St w W (L.set i (ScrR (l ++ [(v, s)]))) Fs := by
  refine h.join2 hi ?_ ?_
  · intro x hx
    rcases List.mem_append.1 hx with hx | hx
    · exact (h.own _ (List.mem_cons_of_mem _ (List.mem_of_getElem? hi))).1 x hx
    · rw [List.mem_singleton.1 hx]; exact (h.own _ (List.mem_cons_self ..)).1
  · intro k hk
    obtain ⟨x, hx, hm⟩ := List.mem_flatMap.1 hk
    rcases List.mem_append.1 hx with hx | hx
    · exact .inr (List.mem_flatMap.2 ⟨x, hx, hm⟩)
    · rw [List.mem_singleton.1 hx] at hm; exact .inl hm
theorem St.scr0 (h : St w W L Fs) : St w W (ScrR [] :: L) Fs :=
  h.new (Below.refl _ _) (fun x hx => (nomatch hx)) (fun k hk => by simp [ScrR] at hk)
/-- A part comes to the front. -/
theorem St.front {r : Res} {i : Nat} (h : St w W L Fs) (hi : L[i]? = some r) : St w W (r :: L.eraseIdx i) Fs := by
  have get : ∀ (a : Nat) (s : Res), (L.eraseIdx i)[a]? = some s → ∃ b, b ≠ i ∧ L[b]? = some s ∧ b = if a < i then a else a + 1 := by
    intro a s ha
    rw [List.getElem?_eraseIdx] at ha
    split at ha
    · exact ⟨a, by omega, ha, by rw [if_pos (by assumption)]⟩
    · exact ⟨a + 1, by omega, ha, by rw [if_neg (by assumption)]⟩
  refine ⟨h.below, ?_, ?_, ?_⟩
  · intro s hs
    rcases List.mem_cons.1 hs with rfl | hs
    · exact h.own _ (List.mem_of_getElem? hi)
    · exact h.own _ (List.mem_of_mem_eraseIdx hs)
  · intro a b s u ha hb hab k hk hk'
    cases a with
    | zero =>
      simp at ha; subst ha
      cases b with
      | zero => exact hab rfl
      | succ b =>
        obtain ⟨b', h1, h2, _⟩ := get b u (by simpa using hb)
        exact h.apart i b' _ u hi h2 (fun e => h1 e.symm) k hk hk'
    | succ a =>
      obtain ⟨a', h1, h2, e1⟩ := get a s (by simpa using ha)
      cases b with
      | zero =>
        simp at hb; subst hb
        exact h.apart a' i s _ h2 hi h1 k hk hk'
      | succ b =>
        obtain ⟨b', h3, h4, e2⟩ := get b u (by simpa using hb)
        refine h.apart a' b' s u h2 h4 (fun e => hab ?_) k hk hk'
        subst e1 e2
        split at e <;> split at e <;> omega
  · intro F hF
    refine (h.facts F hF).mono fun k hk => ?_
    obtain ⟨s, hs, hm⟩ := hk
    rcases List.mem_cons.1 hs with rfl | hs
    · exact ⟨_, List.mem_of_getElem? hi, hm⟩
    · exact ⟨s, List.mem_of_mem_eraseIdx hs, hm⟩
end
end
section
open Go Go.RowKit Go.Proofs
attribute [local go_sem] Oper.semAt_some
attribute [local irreducible] Calls

def pMany {α : Type} (V : List UInt8 → α) (M : List UInt8 → List UInt8) (B : List UInt8 → Bool) (xs : List UInt8) : Option (List α × List UInt8) :=
  match getSize xs with
  | some (n, k) => if n ≤ 50 then rMany V M B n (xs.drop k) else none
  | none => none
theorem rInM_len (l : List UInt8) : (rInM l).length ≤ l.length := Nat.le_trans (numM_len _ _) (Nat.le_trans (bytM_len _) (Nat.le_trans (numM_len _ _) (numM_len _ _)))
theorem rOutM_len (l : List UInt8) : (rOutM l).length ≤ l.length := Nat.le_trans (bytM_len _) (numM_len _ _)
def SevE (S : Bool → Prop) (good none : Prop) : Prop := ∃ b, S b ∧ (b = false → good) ∧ (b = true → none)
theorem fill_in {s : Nat} (hs : 0 < s) (C : List Value) (hC : C.length = s) (Z : Array Value) (hZ : Z.size = s) : Instr.fill (fun i => some (i * s, s)) Z (#[(0, Value.agg C.toArray)] : Array (Nat × Value)).toList = some C.toArray := by
  have h := Go.Great.fill_whole hs [.agg C.toArray] Z (by intro v hv; simp at hv; subst hv; simp [Value.cells, hC]) (by simp [hZ])
  simpa [Value.cells] using h
theorem St.eyeSizeOk {w0 W : World} {L : List Res} {Fs : List (World → Prop)} {i g n k : Nat} {u : Value} {xs : List UInt8} (hS : St w0 W L Fs) (hi : L[i]? = some (EyeR g u xs)) (hg : getSize xs = some (n, k)) :
    Calls Try.prog 129 #[.pointer (some ⟨g, 0, none⟩)] W fun e w' => ∃ u', e = .returned (.tuple #[.int .u64 (n : Int), .int .i64 0]) ∧ St w0 w' (L.set i (EyeR g u' (xs.drop k))) Fs := by
  refine (esz_ok g u xs n k W (hS.eyeAt hi) hg).mono ?_
  rintro e w' ⟨u', rfl, hgo⟩
  exact ⟨u', rfl, hS.eye hi hgo⟩
theorem St.eyeSizeBad {w0 W : World} {L : List Res} {Fs : List (World → Prop)} {i g : Nat} {u : Value} {xs : List UInt8} (hS : St w0 W L Fs) (hi : L[i]? = some (EyeR g u xs)) (hg : getSize xs = none) :
    Calls Try.prog 129 #[.pointer (some ⟨g, 0, none⟩)] W fun e w' => ∃ u', e = .returned (.tuple #[.int .u64 0, .int .i64 10]) ∧ St w0 w' (L.set i (EyeR g u' xs)) Fs := by
  refine (esz_bad g u xs W (hS.eyeAt hi) hg).mono ?_
  rintro e w' ⟨rfl, hb⟩
  exact ⟨u, rfl, by rw [set_same hi]; exact hS.call hb⟩
set_option maxHeartbeats 4000000 in
set_option maxRecDepth 100000 in
theorem St.sev82a {w0 W : World} {Ls : List Res} {Fs : List (World → Prop)} {g r : Nat} {u : Value} {xs : List UInt8} (hS : St w0 W (EyeR g u xs :: Blk r [.pointer (some ⟨g, 0, none⟩), .bool true] 120 :: Ls) Fs) (hl : xs.length ≤ 1000000) {n k : Nat} (hg : getSize xs = some (n, k)) :
    Calls Try.prog 82 #[.pointer (some ⟨r, 0, none⟩), .func (.func 80) #[.pointer (some ⟨r, 0, none⟩)] #[]] W fun e w' => ∃ u', e = .returned (.slice none 0 0) ∧ St w0 w' (EyeR g u' (xs.drop k) :: Blk r [.pointer (some ⟨g, 0, none⟩), .bool true] 120 :: Ls) Fs := by
  have HS := Lib.hid hS
  have HG := Lib.hid hg
  clear hS hg
  go_enter Try.func82, Try.ntmps82
  go_wp2_with (first
    | (refine atd 13 (by rfl) ?_; refine wl (by rfl) (s_ld HS.out 1 (by rfl) (by rfl) (by rfl) (by kernel_rfl) (by rfl) ?_))
    | (go_at_call 129; refine (HS.out.eyeSizeOk (i := 0) (by rfl) HG.out).mono ?_; rintro e Wn ⟨u1, rfl, hS⟩; clear HS; have HS := Lib.hid hS; clear hS)
    | (go_at_call 126; refine (HS.out.kept126 (j := 1) (by rfl) _).mono ?_; rintro e Wn ⟨rfl, hS⟩; clear HS; have HS := Lib.hid hS; clear hS)
    | (refine atd 24 (by rfl) ?_; refine wl (by rfl) (s_ld (v := .bool true) HS.out 1 (by rfl) (by rfl) (by rfl) (by kernel_rfl) (by rfl) ?_))
    | (refine wl (by rfl) (s_st (v := .bool true) HS.out 1 (by rfl) (by rfl) (by rfl) (by kernel_rfl) (by rfl) (by rfl) (by exact Nat.one_lt_two) ?_); intro Wn hS; clear HS; have HS := Lib.hid hS; clear hS))
  go_loopw [7, 8] (fun s7 s8 wr => s7 = .slice none 0 0 ∧ s8 = .int .u64 0 ∧ St w0 wr (EyeR g u1 (xs.drop k) :: Blk r [.pointer (some ⟨g, 0, none⟩), .bool true] 120 :: Ls) Fs) (fun _ _ _ => 0)
  case atStart => exact ⟨rfl, rfl, HS.out⟩
  case round =>
    obtain ⟨rfl, rfl, hs⟩ := hrel
    clear HS
    have HS := Lib.hid hs
    clear hs
    by_cases h0 : (0 : Int) < (n : Int)
    · have h2 : 0 < n := by omega
      have h3 : decide ((0 : Int) < (n : Int)) = true := decide_eq_true h0
      have h4 : decide (0 < n) = true := decide_eq_true h2
      go_wp2_with (first
        | (refine atd 38 (by rfl) ?_; refine wl (by rfl) (s_ld (v := .bool true) HS.out 1 (by rfl) (by rfl) (by rfl) (by kernel_rfl) (by rfl) ?_)))
      go_ret
      exact ⟨_, rfl, HS.out⟩
    · have h1 : decide ((0 : Int) < (n : Int)) = false := decide_eq_false h0
      have h5 : decide (0 < n) = false := decide_eq_false (by omega)
      clear h0
      go_wp2_with (first
        | (refine atd 38 (by rfl) ?_; refine wl (by rfl) (s_ld (v := .bool true) HS.out 1 (by rfl) (by rfl) (by rfl) (by kernel_rfl) (by rfl) ?_)))
      go_ret
      exact ⟨_, rfl, HS.out⟩
set_option maxHeartbeats 4000000 in
set_option maxRecDepth 100000 in
theorem St.sev82b {w0 W : World} {Ls : List Res} {Fs : List (World → Prop)} {g r : Nat} {u : Value} {xs : List UInt8} (hS : St w0 W (EyeR g u xs :: Blk r [.pointer (some ⟨g, 0, none⟩), .bool true] 120 :: Ls) Fs) (hl : xs.length ≤ 1000000) (hg : getSize xs = none) :
    Calls Try.prog 82 #[.pointer (some ⟨r, 0, none⟩), .func (.func 80) #[.pointer (some ⟨r, 0, none⟩)] #[]] W fun e w' => ∃ u', e = .returned (.slice none 0 0) ∧ St w0 w' (EyeR g u' (xs) :: Blk r [.pointer (some ⟨g, 0, none⟩), .bool true] 120 :: Ls) Fs := by
  have HS := Lib.hid hS
  have HG := Lib.hid hg
  clear hS hg
  go_enter Try.func82, Try.ntmps82
  go_wp2_with (first
    | (refine atd 13 (by rfl) ?_; refine wl (by rfl) (s_ld HS.out 1 (by rfl) (by rfl) (by rfl) (by kernel_rfl) (by rfl) ?_))
    | (go_at_call 129; refine (HS.out.eyeSizeBad (i := 0) (by rfl) HG.out).mono ?_; rintro e Wn ⟨u1, rfl, hS⟩; clear HS; have HS := Lib.hid hS; clear hS)
    | (go_at_call 126; refine (HS.out.kept126 (j := 1) (by rfl) _).mono ?_; rintro e Wn ⟨rfl, hS⟩; clear HS; have HS := Lib.hid hS; clear hS)
    | (refine atd 24 (by rfl) ?_; refine wl (by rfl) (s_ld (v := .bool true) HS.out 1 (by rfl) (by rfl) (by rfl) (by kernel_rfl) (by rfl) ?_))
    | (refine wl (by rfl) (s_st (v := .bool true) HS.out 1 (by rfl) (by rfl) (by rfl) (by kernel_rfl) (by rfl) (by rfl) (by exact Nat.one_lt_two) ?_); intro Wn hS; clear HS; have HS := Lib.hid hS; clear hS))
  go_loopw [7, 8] (fun s7 s8 wr => s7 = .slice none 0 0 ∧ s8 = .int .u64 0 ∧ St w0 wr (EyeR g u1 (xs) :: Blk r [.pointer (some ⟨g, 0, none⟩), .bool true] 120 :: Ls) Fs) (fun _ _ _ => 0)
  case atStart => exact ⟨rfl, rfl, HS.out⟩
  case round =>
    obtain ⟨rfl, rfl, hs⟩ := hrel
    clear HS
    have HS := Lib.hid hs
    clear hs
    go_wp2_with (first
      | (refine atd 38 (by rfl) ?_; refine wl (by rfl) (s_ld (v := .bool true) HS.out 1 (by rfl) (by rfl) (by rfl) (by kernel_rfl) (by rfl) ?_)))
    go_ret
    exact ⟨_, rfl, HS.out⟩
set_option maxHeartbeats 4000000 in
set_option maxRecDepth 100000 in
theorem St.sev82c {w0 W : World} {Ls : List Res} {Fs : List (World → Prop)} {g r : Nat} {u : Value} {xs : List UInt8} (hS : St w0 W (EyeR g u xs :: Blk r [.pointer (some ⟨g, 0, none⟩), .bool false] 120 :: Ls) Fs) (hl : xs.length ≤ 1000000) (hg : getSize xs = none) :
    Calls Try.prog 82 #[.pointer (some ⟨r, 0, none⟩), .func (.func 80) #[.pointer (some ⟨r, 0, none⟩)] #[]] W fun e w' => ∃ u', e = .returned (.slice none 0 0) ∧ St w0 w' (EyeR g u' (xs) :: Blk r [.pointer (some ⟨g, 0, none⟩), .bool true] 120 :: Ls) Fs := by
  have HS := Lib.hid hS
  have HG := Lib.hid hg
  clear hS hg
  go_enter Try.func82, Try.ntmps82
  go_wp2_with (first
    | (refine atd 13 (by rfl) ?_; refine wl (by rfl) (s_ld HS.out 1 (by rfl) (by rfl) (by rfl) (by kernel_rfl) (by rfl) ?_))
    | (go_at_call 129; refine (HS.out.eyeSizeBad (i := 0) (by rfl) HG.out).mono ?_; rintro e Wn ⟨u1, rfl, hS⟩; clear HS; have HS := Lib.hid hS; clear hS)
    | (go_at_call 126; refine (HS.out.kept126 (j := 1) (by rfl) _).mono ?_; rintro e Wn ⟨rfl, hS⟩; clear HS; have HS := Lib.hid hS; clear hS)
    | (refine atd 24 (by rfl) ?_; refine wl (by rfl) (s_ld (v := .bool true) HS.out 1 (by rfl) (by rfl) (by rfl) (by kernel_rfl) (by rfl) ?_))
    | (refine wl (by rfl) (s_st (v := .bool true) HS.out 1 (by rfl) (by rfl) (by rfl) (by kernel_rfl) (by rfl) (by rfl) (by exact Nat.one_lt_two) ?_); intro Wn hS; clear HS; have HS := Lib.hid hS; clear hS))
  go_loopw [7, 8] (fun s7 s8 wr => s7 = .slice none 0 0 ∧ s8 = .int .u64 0 ∧ St w0 wr (EyeR g u1 (xs) :: Blk r [.pointer (some ⟨g, 0, none⟩), .bool true] 120 :: Ls) Fs) (fun _ _ _ => 0)
  case atStart => exact ⟨rfl, rfl, HS.out⟩
  case round =>
    obtain ⟨rfl, rfl, hs⟩ := hrel
    clear HS
    have HS := Lib.hid hs
    clear hs
    go_wp2_with (first
      | (refine atd 38 (by rfl) ?_; refine wl (by rfl) (s_ld (v := .bool true) HS.out 1 (by rfl) (by rfl) (by rfl) (by kernel_rfl) (by rfl) ?_)))
    go_ret
    exact ⟨_, rfl, HS.out⟩
set_option maxHeartbeats 4000000 in
set_option maxRecDepth 100000 in
theorem St.sev82d {w0 W : World} {Ls : List Res} {Fs : List (World → Prop)} {g r : Nat} {u : Value} {xs : List UInt8} (hS : St w0 W (EyeR g u xs :: Blk r [.pointer (some ⟨g, 0, none⟩), .bool false] 120 :: Ls) Fs) (hl : xs.length ≤ 1000000) {n k : Nat} (hg : getSize xs = some (n, k)) (hn : 50 < n) :
    Calls Try.prog 82 #[.pointer (some ⟨r, 0, none⟩), .func (.func 80) #[.pointer (some ⟨r, 0, none⟩)] #[]] W fun e w' => ∃ u', e = .returned (.slice none 0 0) ∧ St w0 w' (EyeR g u' (xs.drop k) :: Blk r [.pointer (some ⟨g, 0, none⟩), .bool true] 120 :: Ls) Fs := by
  have HS := Lib.hid hS
  have HG := Lib.hid hg
  have k1 : (50 : Int) < (n : Int) := by omega
  clear hS hg
  go_enter Try.func82, Try.ntmps82
  go_wp2_with (first
    | (refine atd 13 (by rfl) ?_; refine wl (by rfl) (s_ld HS.out 1 (by rfl) (by rfl) (by rfl) (by kernel_rfl) (by rfl) ?_))
    | (go_at_call 129; refine (HS.out.eyeSizeOk (i := 0) (by rfl) HG.out).mono ?_; rintro e Wn ⟨u1, rfl, hS⟩; clear HS; have HS := Lib.hid hS; clear hS)
    | (go_at_call 126; refine (HS.out.kept126 (j := 1) (by rfl) _).mono ?_; rintro e Wn ⟨rfl, hS⟩; clear HS; have HS := Lib.hid hS; clear hS)
    | (refine atd 24 (by rfl) ?_; refine wl (by rfl) (s_ld (v := .bool false) HS.out 1 (by rfl) (by rfl) (by rfl) (by kernel_rfl) (by rfl) ?_))
    | (refine wl (by rfl) (s_st (v := .bool true) HS.out 1 (by rfl) (by rfl) (by rfl) (by kernel_rfl) (by rfl) (by rfl) (by exact Nat.one_lt_two) ?_); intro Wn hS; clear HS; have HS := Lib.hid hS; clear hS))
  go_loopw [7, 8] (fun s7 s8 wr => s7 = .slice none 0 0 ∧ s8 = .int .u64 0 ∧ St w0 wr (EyeR g u1 (xs.drop k) :: Blk r [.pointer (some ⟨g, 0, none⟩), .bool true] 120 :: Ls) Fs) (fun _ _ _ => 0)
  case atStart => exact ⟨rfl, rfl, HS.out⟩
  case round =>
    obtain ⟨rfl, rfl, hs⟩ := hrel
    clear HS
    have HS := Lib.hid hs
    clear hs
    go_wp2_with (first
      | (refine atd 38 (by rfl) ?_; refine wl (by rfl) (s_ld (v := .bool true) HS.out 1 (by rfl) (by rfl) (by rfl) (by kernel_rfl) (by rfl) ?_)))
    go_ret
    exact ⟨_, rfl, HS.out⟩
set_option maxHeartbeats 4000000 in
set_option maxRecDepth 100000 in
theorem St.sev82e {w0 W : World} {Ls : List Res} {Fs : List (World → Prop)} {g r : Nat} {u : Value} {xs : List UInt8} (hS : St w0 W (EyeR g u xs :: Blk r [.pointer (some ⟨g, 0, none⟩), .bool false] 120 :: Ls) Fs) (hl : xs.length ≤ 1000000) {n k : Nat} (hg : getSize xs = some (n, k)) (hn : n ≤ 50) :
    Calls Try.prog 82 #[.pointer (some ⟨r, 0, none⟩), .func (.func 80) #[.pointer (some ⟨r, 0, none⟩)] #[]] W fun e w' => ∃ (A : Option Addr) (c : Nat) (l : List (Value × TIn)) (u' : Value) (ys : List UInt8), e = .returned (.slice A l.length c) ∧ ys.length ≤ xs.length ∧ SevE (fun b => St w0 w' (EyeR g u' ys :: Blk r [.pointer (some ⟨g, 0, none⟩), .bool b] 120 :: Row (.slice A l.length c) 66 35 l.length (l.map inC).flatten :: ScrR (l.map fun x => (x.1, x.2.s)) :: Ls) Fs) (rMany rInV rInM rInB n (xs.drop k) = some (l.map (·.2), ys)) (rMany rInV rInM rInB n (xs.drop k) = none) := by
  have HS := Lib.hid hS
  have HG := Lib.hid hg
  have k1 : decide ((50 : Int) < (n : Int)) = false := decide_eq_false (by omega)
  clear hS hg
  go_enter Try.func82, Try.ntmps82
  go_wp2_with (first
    | (refine atd 13 (by rfl) ?_; refine wl (by rfl) (s_ld HS.out 1 (by rfl) (by rfl) (by rfl) (by kernel_rfl) (by rfl) ?_))
    | (go_at_call 129; refine (HS.out.eyeSizeOk (i := 0) (by rfl) HG.out).mono ?_; rintro e Wn ⟨u1, rfl, hS⟩; clear HS; have HS := Lib.hid hS; clear hS)
    | (go_at_call 126; refine (HS.out.kept126 (j := 1) (by rfl) _).mono ?_; rintro e Wn ⟨rfl, hS⟩; clear HS; have HS := Lib.hid hS; clear hS)
    | (refine atd 24 (by rfl) ?_; refine wl (by rfl) (s_ld (v := .bool false) HS.out 1 (by rfl) (by rfl) (by rfl) (by kernel_rfl) (by rfl) ?_))
    | (refine wl (by rfl) (s_st (v := .bool false) HS.out 1 (by rfl) (by rfl) (by rfl) (by kernel_rfl) (by rfl) (by rfl) (by exact Nat.one_lt_two) ?_); intro Wn hS; clear HS; have HS := Lib.hid hS; clear hS))
  have h0 := (HS.out.scr0.new (Below.refl _ _) (r := Row (.slice none 0 0) 66 35 0 []) (World.ownsRow_nil _ _ _ _) (fun k hk => by simp [Row, Value.ownBlock] at hk))
  have h1 := (h0.front (i := 3) rfl).front (i := 3) rfl
  clear HS h0
  have HS := Lib.hid h1
  clear h1
  go_loopw [7, 8] (fun s7 s8 wr => ∃ (i : Nat) (A7 : Option Addr) (c7 : Nat) (l : List (Value × TIn)) (uu : Value) (ys : List UInt8) (b : Bool), i ≤ n ∧ s8 = .int .u64 (i : Int) ∧ s7 = .slice A7 l.length c7 ∧ St w0 wr (EyeR g uu ys :: Blk r [.pointer (some ⟨g, 0, none⟩), .bool b] 120 :: Row (.slice A7 l.length c7) 66 35 l.length (l.map inC).flatten :: ScrR (l.map fun x => (x.1, x.2.s)) :: Ls) Fs ∧ ys.length ≤ xs.length ∧ (b = false → l.length = i ∧ rMany rInV rInM rInB i (xs.drop k) = some (l.map (·.2), ys)) ∧ (b = true → rMany rInV rInM rInB n (xs.drop k) = none)) (fun _ s8 _ => n - (intOf s8).toNat)
  case atStart => exact ⟨0, none, 0, [], u1, xs.drop k, false, by omega, rfl, rfl, HS.out, by simp, fun _ => ⟨rfl, rfl⟩, fun h => by cases h⟩
  case round =>
    obtain ⟨i, A7, c7, l, uu, ys, b, hi, rfl, rfl, hs, hyl, hb0, hb1⟩ := hrel
    clear HS
    have HS := Lib.hid hs
    have HB0 := Lib.hid hb0; have HB1 := Lib.hid hb1
    clear hs hb0 hb1
    cases b with
    | true =>
      by_cases h0 : i < n
      · have j1 : (i : Int) < (n : Int) := by omega
        go_wp2_with (first
          | (refine atd 38 (by rfl) ?_; refine wl (by rfl) (s_ld (v := .bool true) HS.out 1 (by rfl) (by rfl) (by rfl) (by kernel_rfl) (by rfl) ?_)))
        go_ret
        have X := (show SevE (fun b => St w0 wr (EyeR g uu ys :: Blk r [.pointer (some ⟨g, 0, none⟩), .bool b] 120 :: Row (.slice A7 l.length c7) 66 35 l.length (l.map inC).flatten :: ScrR (l.map fun x => (x.1, x.2.s)) :: Ls) Fs) (rMany rInV rInM rInB n (xs.drop k) = some (l.map (·.2), ys)) (rMany rInV rInM rInB n (xs.drop k) = none) from ⟨true, HS.out, (fun h => by cases h), fun _ => HB1.out (by trivial)⟩)
        first | exact ⟨A7, c7, l, uu, ys, rfl, hyl, X⟩ | exact ⟨A7, c7, l, rfl, uu, ys, hyl, X⟩
      · have j1 : decide ((i : Int) < (n : Int)) = false := decide_eq_false (by omega)
        have j2 : decide (i < n) = false := decide_eq_false h0
        go_wp2_with (first
          | (refine atd 38 (by rfl) ?_; refine wl (by rfl) (s_ld (v := .bool true) HS.out 1 (by rfl) (by rfl) (by rfl) (by kernel_rfl) (by rfl) ?_)))
        go_ret
        have X := (show SevE (fun b => St w0 wr (EyeR g uu ys :: Blk r [.pointer (some ⟨g, 0, none⟩), .bool b] 120 :: Row (.slice A7 l.length c7) 66 35 l.length (l.map inC).flatten :: ScrR (l.map fun x => (x.1, x.2.s)) :: Ls) Fs) (rMany rInV rInM rInB n (xs.drop k) = some (l.map (·.2), ys)) (rMany rInV rInM rInB n (xs.drop k) = none) from ⟨true, HS.out, (fun h => by cases h), fun _ => HB1.out (by trivial)⟩)
        first | exact ⟨A7, c7, l, uu, ys, rfl, hyl, X⟩ | exact ⟨A7, c7, l, rfl, uu, ys, hyl, X⟩
    | false =>
      by_cases h0 : i < n
      · have j1 : (i : Int) < (n : Int) := by omega
        obtain ⟨hli, hm⟩ := HB0.out rfl
        have HM := Lib.hid hm
        have hl5 : l.length ≤ 50 := by omega
        have HLI := Lib.hid hli
        clear hm hli
        go_wp2_with (first
          | (refine atd 38 (by rfl) ?_; refine wl (by rfl) (s_ld (v := .bool false) HS.out 1 (by rfl) (by rfl) (by rfl) (by kernel_rfl) (by rfl) ?_))
          | (go_at_call 80; refine (HS.out.in80 (by omega)).mono ?_; rintro e Wn ⟨Ai, ci, ui, rfl, hS⟩; clear HS; have HS := Lib.hid hS; clear hS)
          | (refine atd 46 (by rfl) ?_; go_loud (refine wl (by rfl) (s_bs (E := 66) (z := (.agg z35.toArray)) HS.out 1 35 (inC (.slice Ai ((rInV ys)).s.length ci, rInV ys)) (by rfl) Try.underlying52 (by kernel_rfl) (by simp only [List.map_toArray, List.map_cons, List.map_nil]; rfl) (by decide) (by decide) (fill_in (s := 35) (by decide) (inC (.slice Ai (rInV ys).s.length ci, rInV ys)) (inC_length (x := (.slice Ai (rInV ys).s.length ci, rInV ys)) (rInV_ok ys)) _ (by simp)) (inC_length (x := (.slice Ai (rInV ys).s.length ci, rInV ys)) (rInV_ok ys)) (by decide) ?_)); intro b46 Wn hS; clear HS; have HS := Lib.hid hS; clear hS)
          | (refine atd 47 (by rfl) ?_; refine wl (by rfl) (s_rows (size := 35) (bytes := 72) (z := (.agg z35.toArray)) HS.out 4 0 (by rfl) Try.underlying52 (by kernel_rfl) (by rfl) (by decide) (by rfl) (by rfl) (by rfl) (by rfl) (inC_one (x := (.slice Ai (rInV ys).s.length ci, rInV ys)) rfl) (by omega) (by omega) ?_); intro v47 Wn hS; obtain ⟨A47, c47, rfl⟩ := row_sl (hS.res (i := 4) rfl); clear HS; have HS := Lib.hid hS; clear hS))
        have h := (show St w0 Wn (Row (.slice Ai (rInV ys).s.length ci) 5 1 (rInV ys).s.length (bs (rInV ys).s) :: EyeR g ui (rInM ys) :: Blk r [.pointer (some ⟨g, 0, none⟩), .bool (false || !rInB ys)] 120 :: Row (.slice A47 (l.length + 1) c47) 66 35 (l.length + 1) ((l.map inC).flatten ++ inC (.slice Ai (rInV ys).s.length ci, rInV ys)) :: ScrR (l.map fun x => (x.1, x.2.s)) :: Ls) Fs from HS.out.sub 0).scr (i := 3) rfl
        refine ⟨⟨i + 1, A47, c47, l ++ [(.slice Ai (rInV ys).s.length ci, rInV ys)], ui, rInM ys, !rInB ys, by omega, by push_cast; rfl, by simp, ?_, Nat.le_trans (rInM_len _) hyl, ?_, ?_⟩, by simp [intOf]; omega⟩
        · have e1 : (l ++ [((.slice Ai (rInV ys).s.length ci : Value), rInV ys)]).length = l.length + 1 := by simp
          have e2 : ((l ++ [((.slice Ai (rInV ys).s.length ci : Value), rInV ys)]).map inC).flatten = (l.map inC).flatten ++ inC (.slice Ai (rInV ys).s.length ci, rInV ys) := by simp
          have e3 : (l ++ [((.slice Ai (rInV ys).s.length ci : Value), rInV ys)]).map (fun x => (x.1, x.2.s)) = l.map (fun x => (x.1, x.2.s)) ++ [((.slice Ai (rInV ys).s.length ci : Value), (rInV ys).s)] := by simp
          rw [e1, e2, e3]
          exact h
        · intro hb
          have hB : rInB ys = true := by simpa using hb
          exact ⟨by simp [HLI.out], by rw [rMany_snoc HM.out, if_pos hB]; simp⟩
        · intro hb
          have hB : ¬ rInB ys = true := by simpa using hb
          exact rMany_none (n := i + 1) (by rw [rMany_snoc HM.out, if_neg hB]) (by omega)
      · have j1 : decide ((i : Int) < (n : Int)) = false := decide_eq_false (by omega)
        have j2 : decide (i < n) = false := decide_eq_false h0
        go_wp2_with (first
          | (refine atd 38 (by rfl) ?_; refine wl (by rfl) (s_ld (v := .bool false) HS.out 1 (by rfl) (by rfl) (by rfl) (by kernel_rfl) (by rfl) ?_)))
        go_ret
        have hz := (HB0.out (by trivial)).2
        rw [show i = n by omega] at hz
        have X := (show SevE (fun b => St w0 wr (EyeR g uu ys :: Blk r [.pointer (some ⟨g, 0, none⟩), .bool b] 120 :: Row (.slice A7 l.length c7) 66 35 l.length (l.map inC).flatten :: ScrR (l.map fun x => (x.1, x.2.s)) :: Ls) Fs) (rMany rInV rInM rInB n (xs.drop k) = some (l.map (·.2), ys)) (rMany rInV rInM rInB n (xs.drop k) = none) from ⟨false, HS.out, fun _ => hz, fun h => by cases h⟩)
        first | exact ⟨A7, c7, l, uu, ys, rfl, hyl, X⟩ | exact ⟨A7, c7, l, rfl, uu, ys, hyl, X⟩
set_option maxHeartbeats 4000000 in
set_option maxRecDepth 100000 in
theorem St.sev83a {w0 W : World} {Ls : List Res} {Fs : List (World → Prop)} {g r : Nat} {u : Value} {xs : List UInt8} (hS : St w0 W (EyeR g u xs :: Blk r [.pointer (some ⟨g, 0, none⟩), .bool true] 120 :: Ls) Fs) (hl : xs.length ≤ 1000000) {n k : Nat} (hg : getSize xs = some (n, k)) :
    Calls Try.prog 83 #[.pointer (some ⟨r, 0, none⟩), .func (.func 81) #[.pointer (some ⟨r, 0, none⟩)] #[]] W fun e w' => ∃ u', e = .returned (.slice none 0 0) ∧ St w0 w' (EyeR g u' (xs.drop k) :: Blk r [.pointer (some ⟨g, 0, none⟩), .bool true] 120 :: Ls) Fs := by
  have HS := Lib.hid hS
  have HG := Lib.hid hg
  clear hS hg
  go_enter Try.func83, Try.ntmps83
  go_wp2_with (first
    | (refine atd 13 (by rfl) ?_; refine wl (by rfl) (s_ld HS.out 1 (by rfl) (by rfl) (by rfl) (by kernel_rfl) (by rfl) ?_))
    | (go_at_call 129; refine (HS.out.eyeSizeOk (i := 0) (by rfl) HG.out).mono ?_; rintro e Wn ⟨u1, rfl, hS⟩; clear HS; have HS := Lib.hid hS; clear hS)
    | (go_at_call 126; refine (HS.out.kept126 (j := 1) (by rfl) _).mono ?_; rintro e Wn ⟨rfl, hS⟩; clear HS; have HS := Lib.hid hS; clear hS)
    | (refine atd 24 (by rfl) ?_; refine wl (by rfl) (s_ld (v := .bool true) HS.out 1 (by rfl) (by rfl) (by rfl) (by kernel_rfl) (by rfl) ?_))
    | (refine wl (by rfl) (s_st (v := .bool true) HS.out 1 (by rfl) (by rfl) (by rfl) (by kernel_rfl) (by rfl) (by rfl) (by exact Nat.one_lt_two) ?_); intro Wn hS; clear HS; have HS := Lib.hid hS; clear hS))
  go_loopw [7, 8] (fun s7 s8 wr => s7 = .slice none 0 0 ∧ s8 = .int .u64 0 ∧ St w0 wr (EyeR g u1 (xs.drop k) :: Blk r [.pointer (some ⟨g, 0, none⟩), .bool true] 120 :: Ls) Fs) (fun _ _ _ => 0)
  case atStart => exact ⟨rfl, rfl, HS.out⟩
  case round =>
    obtain ⟨rfl, rfl, hs⟩ := hrel
    clear HS
    have HS := Lib.hid hs
    clear hs
    by_cases h0 : (0 : Int) < (n : Int)
    · have h2 : 0 < n := by omega
      have h3 : decide ((0 : Int) < (n : Int)) = true := decide_eq_true h0
      have h4 : decide (0 < n) = true := decide_eq_true h2
      go_wp2_with (first
        | (refine atd 38 (by rfl) ?_; refine wl (by rfl) (s_ld (v := .bool true) HS.out 1 (by rfl) (by rfl) (by rfl) (by kernel_rfl) (by rfl) ?_)))
      go_ret
      exact ⟨_, rfl, HS.out⟩
    · have h1 : decide ((0 : Int) < (n : Int)) = false := decide_eq_false h0
      have h5 : decide (0 < n) = false := decide_eq_false (by omega)
      clear h0
      go_wp2_with (first
        | (refine atd 38 (by rfl) ?_; refine wl (by rfl) (s_ld (v := .bool true) HS.out 1 (by rfl) (by rfl) (by rfl) (by kernel_rfl) (by rfl) ?_)))
      go_ret
      exact ⟨_, rfl, HS.out⟩
set_option maxHeartbeats 4000000 in
set_option maxRecDepth 100000 in
theorem St.sev83b {w0 W : World} {Ls : List Res} {Fs : List (World → Prop)} {g r : Nat} {u : Value} {xs : List UInt8} (hS : St w0 W (EyeR g u xs :: Blk r [.pointer (some ⟨g, 0, none⟩), .bool true] 120 :: Ls) Fs) (hl : xs.length ≤ 1000000) (hg : getSize xs = none) :
    Calls Try.prog 83 #[.pointer (some ⟨r, 0, none⟩), .func (.func 81) #[.pointer (some ⟨r, 0, none⟩)] #[]] W fun e w' => ∃ u', e = .returned (.slice none 0 0) ∧ St w0 w' (EyeR g u' (xs) :: Blk r [.pointer (some ⟨g, 0, none⟩), .bool true] 120 :: Ls) Fs := by
  have HS := Lib.hid hS
  have HG := Lib.hid hg
  clear hS hg
  go_enter Try.func83, Try.ntmps83
  go_wp2_with (first
    | (refine atd 13 (by rfl) ?_; refine wl (by rfl) (s_ld HS.out 1 (by rfl) (by rfl) (by rfl) (by kernel_rfl) (by rfl) ?_))
    | (go_at_call 129; refine (HS.out.eyeSizeBad (i := 0) (by rfl) HG.out).mono ?_; rintro e Wn ⟨u1, rfl, hS⟩; clear HS; have HS := Lib.hid hS; clear hS)
    | (go_at_call 126; refine (HS.out.kept126 (j := 1) (by rfl) _).mono ?_; rintro e Wn ⟨rfl, hS⟩; clear HS; have HS := Lib.hid hS; clear hS)
    | (refine atd 24 (by rfl) ?_; refine wl (by rfl) (s_ld (v := .bool true) HS.out 1 (by rfl) (by rfl) (by rfl) (by kernel_rfl) (by rfl) ?_))
    | (refine wl (by rfl) (s_st (v := .bool true) HS.out 1 (by rfl) (by rfl) (by rfl) (by kernel_rfl) (by rfl) (by rfl) (by exact Nat.one_lt_two) ?_); intro Wn hS; clear HS; have HS := Lib.hid hS; clear hS))
  go_loopw [7, 8] (fun s7 s8 wr => s7 = .slice none 0 0 ∧ s8 = .int .u64 0 ∧ St w0 wr (EyeR g u1 (xs) :: Blk r [.pointer (some ⟨g, 0, none⟩), .bool true] 120 :: Ls) Fs) (fun _ _ _ => 0)
  case atStart => exact ⟨rfl, rfl, HS.out⟩
  case round =>
    obtain ⟨rfl, rfl, hs⟩ := hrel
    clear HS
    have HS := Lib.hid hs
    clear hs
    go_wp2_with (first
      | (refine atd 38 (by rfl) ?_; refine wl (by rfl) (s_ld (v := .bool true) HS.out 1 (by rfl) (by rfl) (by rfl) (by kernel_rfl) (by rfl) ?_)))
    go_ret
    exact ⟨_, rfl, HS.out⟩
set_option maxHeartbeats 4000000 in
set_option maxRecDepth 100000 in
theorem St.sev83c {w0 W : World} {Ls : List Res} {Fs : List (World → Prop)} {g r : Nat} {u : Value} {xs : List UInt8} (hS : St w0 W (EyeR g u xs :: Blk r [.pointer (some ⟨g, 0, none⟩), .bool false] 120 :: Ls) Fs) (hl : xs.length ≤ 1000000) (hg : getSize xs = none) :
    Calls Try.prog 83 #[.pointer (some ⟨r, 0, none⟩), .func (.func 81) #[.pointer (some ⟨r, 0, none⟩)] #[]] W fun e w' => ∃ u', e = .returned (.slice none 0 0) ∧ St w0 w' (EyeR g u' (xs) :: Blk r [.pointer (some ⟨g, 0, none⟩), .bool true] 120 :: Ls) Fs := by
  have HS := Lib.hid hS
  have HG := Lib.hid hg
  clear hS hg
  go_enter Try.func83, Try.ntmps83
  go_wp2_with (first
    | (refine atd 13 (by rfl) ?_; refine wl (by rfl) (s_ld HS.out 1 (by rfl) (by rfl) (by rfl) (by kernel_rfl) (by rfl) ?_))
    | (go_at_call 129; refine (HS.out.eyeSizeBad (i := 0) (by rfl) HG.out).mono ?_; rintro e Wn ⟨u1, rfl, hS⟩; clear HS; have HS := Lib.hid hS; clear hS)
    | (go_at_call 126; refine (HS.out.kept126 (j := 1) (by rfl) _).mono ?_; rintro e Wn ⟨rfl, hS⟩; clear HS; have HS := Lib.hid hS; clear hS)
    | (refine atd 24 (by rfl) ?_; refine wl (by rfl) (s_ld (v := .bool true) HS.out 1 (by rfl) (by rfl) (by rfl) (by kernel_rfl) (by rfl) ?_))
    | (refine wl (by rfl) (s_st (v := .bool true) HS.out 1 (by rfl) (by rfl) (by rfl) (by kernel_rfl) (by rfl) (by rfl) (by exact Nat.one_lt_two) ?_); intro Wn hS; clear HS; have HS := Lib.hid hS; clear hS))
  go_loopw [7, 8] (fun s7 s8 wr => s7 = .slice none 0 0 ∧ s8 = .int .u64 0 ∧ St w0 wr (EyeR g u1 (xs) :: Blk r [.pointer (some ⟨g, 0, none⟩), .bool true] 120 :: Ls) Fs) (fun _ _ _ => 0)
  case atStart => exact ⟨rfl, rfl, HS.out⟩
  case round =>
    obtain ⟨rfl, rfl, hs⟩ := hrel
    clear HS
    have HS := Lib.hid hs
    clear hs
    go_wp2_with (first
      | (refine atd 38 (by rfl) ?_; refine wl (by rfl) (s_ld (v := .bool true) HS.out 1 (by rfl) (by rfl) (by rfl) (by kernel_rfl) (by rfl) ?_)))
    go_ret
    exact ⟨_, rfl, HS.out⟩
set_option maxHeartbeats 4000000 in
set_option maxRecDepth 100000 in
theorem St.sev83d {w0 W : World} {Ls : List Res} {Fs : List (World → Prop)} {g r : Nat} {u : Value} {xs : List UInt8} (hS : St w0 W (EyeR g u xs :: Blk r [.pointer (some ⟨g, 0, none⟩), .bool false] 120 :: Ls) Fs) (hl : xs.length ≤ 1000000) {n k : Nat} (hg : getSize xs = some (n, k)) (hn : 50 < n) :
    Calls Try.prog 83 #[.pointer (some ⟨r, 0, none⟩), .func (.func 81) #[.pointer (some ⟨r, 0, none⟩)] #[]] W fun e w' => ∃ u', e = .returned (.slice none 0 0) ∧ St w0 w' (EyeR g u' (xs.drop k) :: Blk r [.pointer (some ⟨g, 0, none⟩), .bool true] 120 :: Ls) Fs := by
  have HS := Lib.hid hS
  have HG := Lib.hid hg
  have k1 : (50 : Int) < (n : Int) := by omega
  clear hS hg
  go_enter Try.func83, Try.ntmps83
  go_wp2_with (first
    | (refine atd 13 (by rfl) ?_; refine wl (by rfl) (s_ld HS.out 1 (by rfl) (by rfl) (by rfl) (by kernel_rfl) (by rfl) ?_))
    | (go_at_call 129; refine (HS.out.eyeSizeOk (i := 0) (by rfl) HG.out).mono ?_; rintro e Wn ⟨u1, rfl, hS⟩; clear HS; have HS := Lib.hid hS; clear hS)
    | (go_at_call 126; refine (HS.out.kept126 (j := 1) (by rfl) _).mono ?_; rintro e Wn ⟨rfl, hS⟩; clear HS; have HS := Lib.hid hS; clear hS)
    | (refine atd 24 (by rfl) ?_; refine wl (by rfl) (s_ld (v := .bool false) HS.out 1 (by rfl) (by rfl) (by rfl) (by kernel_rfl) (by rfl) ?_))
    | (refine wl (by rfl) (s_st (v := .bool true) HS.out 1 (by rfl) (by rfl) (by rfl) (by kernel_rfl) (by rfl) (by rfl) (by exact Nat.one_lt_two) ?_); intro Wn hS; clear HS; have HS := Lib.hid hS; clear hS))
  go_loopw [7, 8] (fun s7 s8 wr => s7 = .slice none 0 0 ∧ s8 = .int .u64 0 ∧ St w0 wr (EyeR g u1 (xs.drop k) :: Blk r [.pointer (some ⟨g, 0, none⟩), .bool true] 120 :: Ls) Fs) (fun _ _ _ => 0)
  case atStart => exact ⟨rfl, rfl, HS.out⟩
  case round =>
    obtain ⟨rfl, rfl, hs⟩ := hrel
    clear HS
    have HS := Lib.hid hs
    clear hs
    go_wp2_with (first
      | (refine atd 38 (by rfl) ?_; refine wl (by rfl) (s_ld (v := .bool true) HS.out 1 (by rfl) (by rfl) (by rfl) (by kernel_rfl) (by rfl) ?_)))
    go_ret
    exact ⟨_, rfl, HS.out⟩
set_option maxHeartbeats 4000000 in
set_option maxRecDepth 100000 in
theorem St.sev83e {w0 W : World} {Ls : List Res} {Fs : List (World → Prop)} {g r : Nat} {u : Value} {xs : List UInt8} (hS : St w0 W (EyeR g u xs :: Blk r [.pointer (some ⟨g, 0, none⟩), .bool false] 120 :: Ls) Fs) (hl : xs.length ≤ 1000000) {n k : Nat} (hg : getSize xs = some (n, k)) (hn : n ≤ 50) :
    Calls Try.prog 83 #[.pointer (some ⟨r, 0, none⟩), .func (.func 81) #[.pointer (some ⟨r, 0, none⟩)] #[]] W fun e w' => ∃ (A : Option Addr) (c : Nat) (l : List (Value × TOut)) (u' : Value) (ys : List UInt8), e = .returned (.slice A l.length c) ∧ ys.length ≤ xs.length ∧ SevE (fun b => St w0 w' (EyeR g u' ys :: Blk r [.pointer (some ⟨g, 0, none⟩), .bool b] 120 :: Row (.slice A l.length c) 68 2 l.length (l.map outC).flatten :: ScrR (l.map fun x => (x.1, x.2.s)) :: Ls) Fs) (rMany rOutV rOutM rOutB n (xs.drop k) = some (l.map (·.2), ys)) (rMany rOutV rOutM rOutB n (xs.drop k) = none) := by
  have HS := Lib.hid hS
  have HG := Lib.hid hg
  have k1 : decide ((50 : Int) < (n : Int)) = false := decide_eq_false (by omega)
  clear hS hg
  go_enter Try.func83, Try.ntmps83
  go_wp2_with (first
    | (refine atd 13 (by rfl) ?_; refine wl (by rfl) (s_ld HS.out 1 (by rfl) (by rfl) (by rfl) (by kernel_rfl) (by rfl) ?_))
    | (go_at_call 129; refine (HS.out.eyeSizeOk (i := 0) (by rfl) HG.out).mono ?_; rintro e Wn ⟨u1, rfl, hS⟩; clear HS; have HS := Lib.hid hS; clear hS)
    | (go_at_call 126; refine (HS.out.kept126 (j := 1) (by rfl) _).mono ?_; rintro e Wn ⟨rfl, hS⟩; clear HS; have HS := Lib.hid hS; clear hS)
    | (refine atd 24 (by rfl) ?_; refine wl (by rfl) (s_ld (v := .bool false) HS.out 1 (by rfl) (by rfl) (by rfl) (by kernel_rfl) (by rfl) ?_))
    | (refine wl (by rfl) (s_st (v := .bool false) HS.out 1 (by rfl) (by rfl) (by rfl) (by kernel_rfl) (by rfl) (by rfl) (by exact Nat.one_lt_two) ?_); intro Wn hS; clear HS; have HS := Lib.hid hS; clear hS))
  have h0 := (HS.out.scr0.new (Below.refl _ _) (r := Row (.slice none 0 0) 68 2 0 []) (World.ownsRow_nil _ _ _ _) (fun k hk => by simp [Row, Value.ownBlock] at hk))
  have h1 := (h0.front (i := 3) rfl).front (i := 3) rfl
  clear HS h0
  have HS := Lib.hid h1
  clear h1
  go_loopw [7, 8] (fun s7 s8 wr => ∃ (i : Nat) (A7 : Option Addr) (c7 : Nat) (l : List (Value × TOut)) (uu : Value) (ys : List UInt8) (b : Bool), i ≤ n ∧ s8 = .int .u64 (i : Int) ∧ s7 = .slice A7 l.length c7 ∧ St w0 wr (EyeR g uu ys :: Blk r [.pointer (some ⟨g, 0, none⟩), .bool b] 120 :: Row (.slice A7 l.length c7) 68 2 l.length (l.map outC).flatten :: ScrR (l.map fun x => (x.1, x.2.s)) :: Ls) Fs ∧ ys.length ≤ xs.length ∧ (b = false → l.length = i ∧ rMany rOutV rOutM rOutB i (xs.drop k) = some (l.map (·.2), ys)) ∧ (b = true → rMany rOutV rOutM rOutB n (xs.drop k) = none)) (fun _ s8 _ => n - (intOf s8).toNat)
  case atStart => exact ⟨0, none, 0, [], u1, xs.drop k, false, by omega, rfl, rfl, HS.out, by simp, fun _ => ⟨rfl, rfl⟩, fun h => by cases h⟩
  case round =>
    obtain ⟨i, A7, c7, l, uu, ys, b, hi, rfl, rfl, hs, hyl, hb0, hb1⟩ := hrel
    clear HS
    have HS := Lib.hid hs
    have HB0 := Lib.hid hb0; have HB1 := Lib.hid hb1
    clear hs hb0 hb1
    cases b with
    | true =>
      by_cases h0 : i < n
      · have j1 : (i : Int) < (n : Int) := by omega
        go_wp2_with (first
          | (refine atd 38 (by rfl) ?_; refine wl (by rfl) (s_ld (v := .bool true) HS.out 1 (by rfl) (by rfl) (by rfl) (by kernel_rfl) (by rfl) ?_)))
        go_ret
        have X := (show SevE (fun b => St w0 wr (EyeR g uu ys :: Blk r [.pointer (some ⟨g, 0, none⟩), .bool b] 120 :: Row (.slice A7 l.length c7) 68 2 l.length (l.map outC).flatten :: ScrR (l.map fun x => (x.1, x.2.s)) :: Ls) Fs) (rMany rOutV rOutM rOutB n (xs.drop k) = some (l.map (·.2), ys)) (rMany rOutV rOutM rOutB n (xs.drop k) = none) from ⟨true, HS.out, (fun h => by cases h), fun _ => HB1.out (by trivial)⟩)
        first | exact ⟨A7, c7, l, uu, ys, rfl, hyl, X⟩ | exact ⟨A7, c7, l, rfl, uu, ys, hyl, X⟩
      · have j1 : decide ((i : Int) < (n : Int)) = false := decide_eq_false (by omega)
        have j2 : decide (i < n) = false := decide_eq_false h0
        go_wp2_with (first
          | (refine atd 38 (by rfl) ?_; refine wl (by rfl) (s_ld (v := .bool true) HS.out 1 (by rfl) (by rfl) (by rfl) (by kernel_rfl) (by rfl) ?_)))
        go_ret
        have X := (show SevE (fun b => St w0 wr (EyeR g uu ys :: Blk r [.pointer (some ⟨g, 0, none⟩), .bool b] 120 :: Row (.slice A7 l.length c7) 68 2 l.length (l.map outC).flatten :: ScrR (l.map fun x => (x.1, x.2.s)) :: Ls) Fs) (rMany rOutV rOutM rOutB n (xs.drop k) = some (l.map (·.2), ys)) (rMany rOutV rOutM rOutB n (xs.drop k) = none) from ⟨true, HS.out, (fun h => by cases h), fun _ => HB1.out (by trivial)⟩)
        first | exact ⟨A7, c7, l, uu, ys, rfl, hyl, X⟩ | exact ⟨A7, c7, l, rfl, uu, ys, hyl, X⟩
    | false =>
      by_cases h0 : i < n
      · have j1 : (i : Int) < (n : Int) := by omega
        obtain ⟨hli, hm⟩ := HB0.out rfl
        have HM := Lib.hid hm
        have hl5 : l.length ≤ 50 := by omega
        have HLI := Lib.hid hli
        clear hm hli
        go_wp2_with (first
          | (refine atd 38 (by rfl) ?_; refine wl (by rfl) (s_ld (v := .bool false) HS.out 1 (by rfl) (by rfl) (by rfl) (by kernel_rfl) (by rfl) ?_))
          | (go_at_call 81; refine (HS.out.out81 (by omega)).mono ?_; rintro e Wn ⟨Ai, ci, ui, rfl, hS⟩; clear HS; have HS := Lib.hid hS; clear hS)
          | (refine atd 46 (by rfl) ?_; go_loud (refine wl (by rfl) (s_bs (E := 68) (z := (.agg #[.int .i64 0, .slice none 0 0])) HS.out 1 2 (outC (.slice Ai ((rOutV ys)).s.length ci, rOutV ys)) (by rfl) Try.underlying53 (by kernel_rfl) (by simp only [List.map_toArray, List.map_cons, List.map_nil]; rfl) (by decide) (by decide) (fill_in (s := 2) (by decide) (outC (.slice Ai (rOutV ys).s.length ci, rOutV ys)) (rfl) _ (by simp)) (by rfl) (by decide) ?_)); intro b46 Wn hS; clear HS; have HS := Lib.hid hS; clear hS)
          | (refine atd 47 (by rfl) ?_; refine wl (by rfl) (s_rows (size := 2) (bytes := 32) (z := (.agg #[.int .i64 0, .slice none 0 0])) HS.out 4 0 (by rfl) Try.underlying53 (by kernel_rfl) (by rfl) (by decide) (by rfl) (by rfl) (by rfl) (by rfl) ((by intro v hv; simp [outC] at hv; rcases hv with rfl | rfl <;> rfl)) (by omega) (by omega) ?_); intro v47 Wn hS; obtain ⟨A47, c47, rfl⟩ := row_sl (hS.res (i := 4) rfl); clear HS; have HS := Lib.hid hS; clear hS))
        have h := (show St w0 Wn (Row (.slice Ai (rOutV ys).s.length ci) 5 1 (rOutV ys).s.length (bs (rOutV ys).s) :: EyeR g ui (rOutM ys) :: Blk r [.pointer (some ⟨g, 0, none⟩), .bool (false || !rOutB ys)] 120 :: Row (.slice A47 (l.length + 1) c47) 68 2 (l.length + 1) ((l.map outC).flatten ++ outC (.slice Ai (rOutV ys).s.length ci, rOutV ys)) :: ScrR (l.map fun x => (x.1, x.2.s)) :: Ls) Fs from HS.out.sub 0).scr (i := 3) rfl
        refine ⟨⟨i + 1, A47, c47, l ++ [(.slice Ai (rOutV ys).s.length ci, rOutV ys)], ui, rOutM ys, !rOutB ys, by omega, by push_cast; rfl, by simp, ?_, Nat.le_trans (rOutM_len _) hyl, ?_, ?_⟩, by simp [intOf]; omega⟩
        · have e1 : (l ++ [((.slice Ai (rOutV ys).s.length ci : Value), rOutV ys)]).length = l.length + 1 := by simp
          have e2 : ((l ++ [((.slice Ai (rOutV ys).s.length ci : Value), rOutV ys)]).map outC).flatten = (l.map outC).flatten ++ outC (.slice Ai (rOutV ys).s.length ci, rOutV ys) := by simp
          have e3 : (l ++ [((.slice Ai (rOutV ys).s.length ci : Value), rOutV ys)]).map (fun x => (x.1, x.2.s)) = l.map (fun x => (x.1, x.2.s)) ++ [((.slice Ai (rOutV ys).s.length ci : Value), (rOutV ys).s)] := by simp
          rw [e1, e2, e3]
          exact h
        · intro hb
          have hB : rOutB ys = true := by simpa using hb
          exact ⟨by simp [HLI.out], by rw [rMany_snoc HM.out, if_pos hB]; simp⟩
        · intro hb
          have hB : ¬ rOutB ys = true := by simpa using hb
          exact rMany_none (n := i + 1) (by rw [rMany_snoc HM.out, if_neg hB]) (by omega)
      · have j1 : decide ((i : Int) < (n : Int)) = false := decide_eq_false (by omega)
        have j2 : decide (i < n) = false := decide_eq_false h0
        go_wp2_with (first
          | (refine atd 38 (by rfl) ?_; refine wl (by rfl) (s_ld (v := .bool false) HS.out 1 (by rfl) (by rfl) (by rfl) (by kernel_rfl) (by rfl) ?_)))
        go_ret
        have hz := (HB0.out (by trivial)).2
        rw [show i = n by omega] at hz
        have X := (show SevE (fun b => St w0 wr (EyeR g uu ys :: Blk r [.pointer (some ⟨g, 0, none⟩), .bool b] 120 :: Row (.slice A7 l.length c7) 68 2 l.length (l.map outC).flatten :: ScrR (l.map fun x => (x.1, x.2.s)) :: Ls) Fs) (rMany rOutV rOutM rOutB n (xs.drop k) = some (l.map (·.2), ys)) (rMany rOutV rOutM rOutB n (xs.drop k) = none) from ⟨false, HS.out, fun _ => hz, fun h => by cases h⟩)
        first | exact ⟨A7, c7, l, uu, ys, rfl, hyl, X⟩ | exact ⟨A7, c7, l, rfl, uu, ys, hyl, X⟩
end
section
open Go Go.RowKit Go.Proofs
/-! Plain: the transaction that stands first. -/
theorem pMany_fwd {α : Type} {V : List UInt8 → α} {M : List UInt8 → List UInt8} {B : List UInt8 → Bool} {E : α → List UInt8} {p : α → Prop} (hf : ∀ y, p y → ∀ r, V (E y ++ r) = y ∧ M (E y ++ r) = r ∧ B (E y ++ r) = true) (l : List α) (hl : l.length ≤ 50) (h : ∀ y ∈ l, p y) (r : List UInt8) : pMany V M B (csize l.length ++ (l.flatMap E ++ r)) = some (l, r) := by
  unfold pMany
  rw [getSize_fwd l.length (by omega)]
  simp only
  rw [if_pos hl, ← csize_length, List.drop_left, rMany_fwd hf l h r]
theorem pMany_back {α : Type} {V : List UInt8 → α} {M : List UInt8 → List UInt8} {B : List UInt8 → Bool} {E : α → List UInt8} {p : α → Prop} (hb : ∀ xs, B xs = true → xs = E (V xs) ++ M xs ∧ p (V xs)) {xs r : List UInt8} {l : List α} (h : pMany V M B xs = some (l, r)) : xs = csize l.length ++ (l.flatMap E ++ r) ∧ l.length ≤ 50 ∧ ∀ y ∈ l, p y := by
  unfold pMany at h
  cases hg : getSize xs with
  | none => rw [hg] at h; cases h
  | some q =>
    obtain ⟨n, k⟩ := q
    rw [hg] at h
    simp only at h
    split at h
    · rename_i hn
      obtain ⟨e1, e2⟩ := rMany_back hb h
      have hl := rMany_len h
      obtain ⟨e3, _⟩ := getSize_csize hg
      refine ⟨?_, by omega, e2⟩
      rw [hl, e3, ← e1, List.take_append_drop]
    · cases h
def pTx (xs : List UInt8) : Option (TxP × List UInt8) :=
  if 4 ≤ xs.length then
    match pMany rInV rInM rInB (numM 4 xs) with
    | none => none
    | some (ins, r1) =>
      match pMany rOutV rOutM rOutB r1 with
      | none => none
      | some (outs, r2) => if 4 ≤ r2.length then (if chkT ⟨numN 4 xs, ins, outs, numN 4 r2⟩ then some (⟨numN 4 xs, ins, outs, numN 4 r2⟩, numM 4 r2) else none) else none
  else none
theorem pTx_fwd {t : TxP} (ht : t.ok) (hc : chkT t = true) (r : List UInt8) : pTx (txB t ++ r) = some (t, r) := by
  obtain ⟨⟨h1, h2, h3, h4⟩, h5, h6⟩ := chkT_iff.1 hc
  have e0 : txB t ++ r = le 4 t.ver ++ (csize t.ins.length ++ (t.ins.flatMap inB ++ (csize t.outs.length ++ (t.outs.flatMap outB ++ (le 4 t.lock ++ r))))) := by simp [txB]
  have m1 := numM_fwd (le_length 4 t.ver) (csize t.ins.length ++ (t.ins.flatMap inB ++ (csize t.outs.length ++ (t.outs.flatMap outB ++ (le 4 t.lock ++ r)))))
  have n1 := numN_fwd (k := 4) (n := t.ver) (by simpa using ht.ver) (csize t.ins.length ++ (t.ins.flatMap inB ++ (csize t.outs.length ++ (t.outs.flatMap outB ++ (le 4 t.lock ++ r)))))
  have q1 := pMany_fwd (V := rInV) (M := rInM) (B := rInB) (E := inB) (p := fun y => y.ok ∧ y.s.length ≤ 2000) (fun y hy r => rIn_fwd hy.1 hy.2 r) t.ins h2 (fun y hy => ⟨ht.ins y hy, h5 y hy⟩) (csize t.outs.length ++ (t.outs.flatMap outB ++ (le 4 t.lock ++ r)))
  have q2 := pMany_fwd (V := rOutV) (M := rOutM) (B := rOutB) (E := outB) (p := fun y => y.ok ∧ y.s.length ≤ 2000) (fun y hy r => rOut_fwd hy.1 hy.2 r) t.outs h4 (fun y hy => ⟨ht.outs y hy, h6 y hy⟩) (le 4 t.lock ++ r)
  have m2 := numM_fwd (le_length 4 t.lock) r
  have n2 := numN_fwd (k := 4) (n := t.lock) (by simpa using ht.lock) r
  unfold pTx
  rw [e0, if_pos (by rw [List.length_append, le_length]; omega), m1, n1, q1]
  simp only
  rw [q2]
  simp only
  rw [if_pos (by rw [List.length_append, le_length]; omega), n2, m2, if_pos (show chkT ⟨t.ver, t.ins, t.outs, t.lock⟩ = true from hc)]
theorem pTx_back {t : TxP} {xs r : List UInt8} (h : pTx xs = some (t, r)) : xs = txB t ++ r ∧ t.ok ∧ chkT t = true := by
  unfold pTx at h
  split at h
  · rename_i h0
    cases hq1 : pMany rInV rInM rInB (numM 4 xs) with
    | none => rw [hq1] at h; cases h
    | some p1 =>
      obtain ⟨ins, r1⟩ := p1
      rw [hq1] at h
      simp only at h
      cases hq2 : pMany rOutV rOutM rOutB r1 with
      | none => rw [hq2] at h; cases h
      | some p2 =>
        obtain ⟨outs, r2⟩ := p2
        rw [hq2] at h
        simp only at h
        split at h
        · rename_i h9
          split at h
          · rename_i hc
            simp only [Option.some.injEq, Prod.mk.injEq] at h
            obtain ⟨rfl, rfl⟩ := h
            obtain ⟨e1, _, o1⟩ := pMany_back (E := inB) (p := fun y => y.ok) (fun xs hB => ⟨(rIn_back hB).1, rInV_ok xs⟩) hq1
            obtain ⟨e2, _, o2⟩ := pMany_back (E := outB) (p := fun y => y.ok) (fun xs hB => ⟨(rOut_back hB).1, rOutV_ok xs⟩) hq2
            refine ⟨?_, ⟨numN_lt 4 _ (by decide), numN_lt 4 _ (by decide), o1, o2⟩, hc⟩
            have e3 := num_back h0
            have e4 := num_back h9
            have e5 : xs = le 4 (numN 4 xs) ++ (csize ins.length ++ (ins.flatMap inB ++ (csize outs.length ++ (outs.flatMap outB ++ (le 4 (numN 4 r2) ++ numM 4 r2))))) := by
              rw [← e4, ← e2, ← e1]
              exact e3
            have e6 : txB ⟨numN 4 xs, ins, outs, numN 4 r2⟩ ++ numM 4 r2 = le 4 (numN 4 xs) ++ (csize ins.length ++ (ins.flatMap inB ++ (csize outs.length ++ (outs.flatMap outB ++ (le 4 (numN 4 r2) ++ numM 4 r2))))) := by simp [txB]
            rw [e6]
            exact e5
          · cases h
        · cases h
  · cases h
end
section
open Go Go.RowKit Go.Proofs
attribute [local irreducible] Calls
theorem St.sev82 {w0 W : World} {Ls : List Res} {Fs : List (World → Prop)} {g r : Nat} {u : Value} {xs : List UInt8} {bad : Bool} (hS : St w0 W (EyeR g u xs :: Blk r [.pointer (some ⟨g, 0, none⟩), .bool bad] 120 :: Ls) Fs) (hl : xs.length ≤ 1000000) :
    Calls Try.prog 82 #[.pointer (some ⟨r, 0, none⟩), .func (.func 80) #[.pointer (some ⟨r, 0, none⟩)] #[]] W fun e w' => ∃ (A : Option Addr) (c : Nat) (l : List (Value × TIn)) (u' : Value) (ys : List UInt8), e = .returned (.slice A l.length c) ∧ ys.length ≤ xs.length ∧ SevE (fun b => St w0 w' (EyeR g u' ys :: Blk r [.pointer (some ⟨g, 0, none⟩), .bool b] 120 :: Row (.slice A l.length c) 66 35 l.length (l.map inC).flatten :: ScrR (l.map fun x => (x.1, x.2.s)) :: Ls) Fs) (bad = false ∧ pMany rInV rInM rInB xs = some (l.map (·.2), ys)) (bad = true ∨ pMany rInV rInM rInB xs = none) := by
  have nil : ∀ (w' : World) (u' : Value) (ys : List UInt8) (b : Bool), St w0 w' (EyeR g u' ys :: Blk r [.pointer (some ⟨g, 0, none⟩), .bool b] 120 :: Ls) Fs → St w0 w' (EyeR g u' ys :: Blk r [.pointer (some ⟨g, 0, none⟩), .bool b] 120 :: Row (.slice none 0 0) 66 35 0 [] :: ScrR [] :: Ls) Fs := fun w' u' ys b h => by
    have h0 := (h.scr0.new (Below.refl _ _) (r := Row (.slice none 0 0) 66 35 0 []) (World.ownsRow_nil _ _ _ _) (fun k hk => by simp [Row, Value.ownBlock] at hk))
    exact (h0.front (i := 3) rfl).front (i := 3) rfl
  cases hg : getSize xs with
  | none =>
    have hp : pMany rInV rInM rInB xs = none := by unfold pMany; rw [hg]
    cases bad with
    | true =>
      refine (hS.sev82b hl hg).mono ?_
      rintro e w' ⟨u', rfl, h⟩
      exact ⟨none, 0, [], u', xs, rfl, by simp, true, nil _ _ _ _ h, (fun h => by cases h), fun _ => .inl rfl⟩
    | false =>
      refine (hS.sev82c hl hg).mono ?_
      rintro e w' ⟨u', rfl, h⟩
      exact ⟨none, 0, [], u', xs, rfl, by simp, true, nil _ _ _ _ h, (fun h => by cases h), fun _ => .inr hp⟩
  | some q =>
    obtain ⟨n, k⟩ := q
    cases bad with
    | true =>
      refine (hS.sev82a hl hg).mono ?_
      rintro e w' ⟨u', rfl, h⟩
      exact ⟨none, 0, [], u', xs.drop k, rfl, by simp, true, nil _ _ _ _ h, (fun h => by cases h), fun _ => .inl rfl⟩
    | false =>
      by_cases hn : n ≤ 50
      · refine (hS.sev82e hl hg hn).mono ?_
        rintro e w' ⟨A, c, l, u', ys, rfl, hy, b, h, h1, h2⟩
        have hp : pMany rInV rInM rInB xs = rMany rInV rInM rInB n (xs.drop k) := by unfold pMany; rw [hg]; simp only; rw [if_pos hn]
        exact ⟨A, c, l, u', ys, rfl, hy, b, h, fun hb => ⟨rfl, by rw [hp]; exact h1 hb⟩, fun hb => .inr (by rw [hp]; exact h2 hb)⟩
      · have hp : pMany rInV rInM rInB xs = none := by unfold pMany; rw [hg]; simp only; rw [if_neg hn]
        refine (hS.sev82d hl hg (by omega)).mono ?_
        rintro e w' ⟨u', rfl, h⟩
        exact ⟨none, 0, [], u', xs.drop k, rfl, by simp, true, nil _ _ _ _ h, (fun h => by cases h), fun _ => .inr hp⟩
theorem St.sev83 {w0 W : World} {Ls : List Res} {Fs : List (World → Prop)} {g r : Nat} {u : Value} {xs : List UInt8} {bad : Bool} (hS : St w0 W (EyeR g u xs :: Blk r [.pointer (some ⟨g, 0, none⟩), .bool bad] 120 :: Ls) Fs) (hl : xs.length ≤ 1000000) :
    Calls Try.prog 83 #[.pointer (some ⟨r, 0, none⟩), .func (.func 81) #[.pointer (some ⟨r, 0, none⟩)] #[]] W fun e w' => ∃ (A : Option Addr) (c : Nat) (l : List (Value × TOut)) (u' : Value) (ys : List UInt8), e = .returned (.slice A l.length c) ∧ ys.length ≤ xs.length ∧ SevE (fun b => St w0 w' (EyeR g u' ys :: Blk r [.pointer (some ⟨g, 0, none⟩), .bool b] 120 :: Row (.slice A l.length c) 68 2 l.length (l.map outC).flatten :: ScrR (l.map fun x => (x.1, x.2.s)) :: Ls) Fs) (bad = false ∧ pMany rOutV rOutM rOutB xs = some (l.map (·.2), ys)) (bad = true ∨ pMany rOutV rOutM rOutB xs = none) := by
  have nil : ∀ (w' : World) (u' : Value) (ys : List UInt8) (b : Bool), St w0 w' (EyeR g u' ys :: Blk r [.pointer (some ⟨g, 0, none⟩), .bool b] 120 :: Ls) Fs → St w0 w' (EyeR g u' ys :: Blk r [.pointer (some ⟨g, 0, none⟩), .bool b] 120 :: Row (.slice none 0 0) 68 2 0 [] :: ScrR [] :: Ls) Fs := fun w' u' ys b h => by
    have h0 := (h.scr0.new (Below.refl _ _) (r := Row (.slice none 0 0) 68 2 0 []) (World.ownsRow_nil _ _ _ _) (fun k hk => by simp [Row, Value.ownBlock] at hk))
    exact (h0.front (i := 3) rfl).front (i := 3) rfl
  cases hg : getSize xs with
  | none =>
    have hp : pMany rOutV rOutM rOutB xs = none := by unfold pMany; rw [hg]
    cases bad with
    | true =>
      refine (hS.sev83b hl hg).mono ?_
      rintro e w' ⟨u', rfl, h⟩
      exact ⟨none, 0, [], u', xs, rfl, by simp, true, nil _ _ _ _ h, (fun h => by cases h), fun _ => .inl rfl⟩
    | false =>
      refine (hS.sev83c hl hg).mono ?_
      rintro e w' ⟨u', rfl, h⟩
      exact ⟨none, 0, [], u', xs, rfl, by simp, true, nil _ _ _ _ h, (fun h => by cases h), fun _ => .inr hp⟩
  | some q =>
    obtain ⟨n, k⟩ := q
    cases bad with
    | true =>
      refine (hS.sev83a hl hg).mono ?_
      rintro e w' ⟨u', rfl, h⟩
      exact ⟨none, 0, [], u', xs.drop k, rfl, by simp, true, nil _ _ _ _ h, (fun h => by cases h), fun _ => .inl rfl⟩
    | false =>
      by_cases hn : n ≤ 50
      · refine (hS.sev83e hl hg hn).mono ?_
        rintro e w' ⟨A, c, l, u', ys, rfl, hy, b, h, h1, h2⟩
        have hp : pMany rOutV rOutM rOutB xs = rMany rOutV rOutM rOutB n (xs.drop k) := by unfold pMany; rw [hg]; simp only; rw [if_pos hn]
        exact ⟨A, c, l, u', ys, rfl, hy, b, h, fun hb => ⟨rfl, by rw [hp]; exact h1 hb⟩, fun hb => .inr (by rw [hp]; exact h2 hb)⟩
      · have hp : pMany rOutV rOutM rOutB xs = none := by unfold pMany; rw [hg]; simp only; rw [if_neg hn]
        refine (hS.sev83d hl hg (by omega)).mono ?_
        rintro e w' ⟨u', rfl, h⟩
        exact ⟨none, 0, [], u', xs.drop k, rfl, by simp, true, nil _ _ _ _ h, (fun h => by cases h), fun _ => .inr hp⟩
end
end Go.Proofs.Yteljmpoaggfliaa
