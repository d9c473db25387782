/- Contracts and words that the laws stand on (RecK). -/
import Derived.Test.YtakeggdpnfibpaaRecJb
set_option linter.unusedVariables false
set_option linter.unusedSimpArgs false
namespace Go.Proofs.Ytakeggdpnfibpaa
section
open Go Go.RowKit Go.Proofs
attribute [local irreducible] Calls
/-! Records that are read back, plain. -/
theorem decA_short {k : UInt8} {p r t : List UInt8} (hp : p.length ≤ 200000) (h13 : 13 ≤ r.length) (hr : r.length < p.length + 13) (e : recB k p = r ++ t) : decA r = none := by
  have h1 : (markB (k :: le 4 p.length)).length = 9 := by rw [markB_length]; simp [le_length]
  have e1 : r.take 9 = markB (k :: le 4 p.length) := by
    have e2 : (recB k p).take 9 = markB (k :: le 4 p.length) := by unfold recB; rw [← h1, List.take_left' rfl]
    rw [← e2, e, List.take_append_of_le_length (by omega)]
  have e3 : ((k :: le 4 p.length).drop 1).take 4 = le 4 p.length := by
    simp only [List.drop_succ_cons, List.drop_zero]
    exact List.take_of_length_le (by simp [le_length])
  have e4 : leNum (le 4 p.length) = p.length := leNum_le4 _ (by omega)
  unfold decA
  rw [e1, bareR_mark]
  simp only []
  rw [e3, e4, if_pos (by omega)]
theorem okL_cons {x : Int × List UInt8} {l : List (Int × List UInt8)} (h : okL (x :: l) = true) : (∃ b : UInt8, x.1 = (b.toNat : Int) ∧ x.2.length ≤ 200000) ∧ okL l = true := by
  unfold okL at h ⊢
  rw [List.all_cons, Bool.and_eq_true] at h
  exact ⟨chkB_true h.1, h.2⟩
theorem encL_cons (x : Int × List UInt8) (l : List (Int × List UInt8)) : encL (x :: l) = recB (UInt8.ofNat x.1.toNat) x.2 ++ encL l := by simp [encL]
theorem encL_app (l m : List (Int × List UInt8)) : encL (l ++ m) = encL l ++ encL m := by simp [encL]
theorem encL_ge (l : List (Int × List UInt8)) : l.length ≤ (encL l).length := by
  induction l with
  | nil => simp
  | cons x l ih => rw [encL_cons, List.length_append, recB_length, List.length_cons]; omega
theorem allF_enc (post : List UInt8) : ∀ (l : List (Int × List UInt8)) (pre : List UInt8) (f : Nat), okL l = true → l.length < f → decR (pre ++ (encL l ++ post)) ((pre.length + (encL l).length : Nat) : Int) = none →
    ∃ s, allF (pre ++ (encL l ++ post)) f (pre.length : Int) = s ∧ (s.map fun x => ((x.1.toNat : Int), x.2.1)) = l ∧ (s.getLast?.map (·.2.2)).getD (pre.length : Int) = ((pre.length + (encL l).length : Nat) : Int) := by
  intro l
  induction l with
  | nil =>
    intro pre f _ hf hd
    simp only [encL, List.flatMap_nil, List.length_nil, Nat.add_zero, List.nil_append] at hd
    refine ⟨[], ?_, rfl, by simp [encL]⟩
    simp only [encL, List.flatMap_nil, List.nil_append]
    exact allF_none hd _
  | cons x l ih =>
    intro pre f hok hf hd
    obtain ⟨⟨k, hk, hp⟩, hok'⟩ := okL_cons hok
    obtain ⟨k0, p⟩ := x
    dsimp only at hk hp
    subst hk
    have ek : UInt8.ofNat ((k.toNat : Int)).toNat = k := by simp
    rw [encL_cons] at hd ⊢
    dsimp only at hd ⊢
    rw [ek] at hd ⊢
    cases f with
    | zero => omega
    | succ f =>
      have h1 := decR_at pre (encL l ++ post) k p hp
      rw [List.append_assoc] at hd ⊢
      have e0 : pre ++ (recB k p ++ (encL l ++ post)) = (pre ++ recB k p) ++ (encL l ++ post) := by rw [List.append_assoc]
      have e1 : (pre.length : Int) + 13 + (p.length : Int) = ((pre ++ recB k p).length : Int) := by rw [List.length_append, recB_length]; push_cast; omega
      obtain ⟨s, g1, g2, g3⟩ := ih (pre ++ recB k p) f hok' (by simp at hf; omega) (by rw [← e0, ← hd]; congr 2; simp only [List.length_append]; omega)
      refine ⟨(k, p, ((pre ++ recB k p).length : Int)) :: s, ?_, ?_, ?_⟩
      · rw [allF_some h1, e1, e0, g1]
      · rw [List.map_cons, g2]
      · have e2 : (pre.length + (recB k p ++ encL l).length : Nat) = (pre ++ recB k p).length + (encL l).length := by simp only [List.length_append]; omega
        rw [e2, ← g3]
        cases s with
        | nil => simp
        | cons y s => simp [List.getLast?_cons]
/-- Where records end that are there whole. -/
def Stop (l : List (Int × List UInt8)) (cut i : Nat) : Prop := i ≤ l.length ∧ (encL (l.take i)).length ≤ cut ∧ ∀ x, l[i]? = some x → cut < (encL (l.take i)).length + 13 + x.2.length
theorem Stop.ex : ∀ (l : List (Int × List UInt8)) (cut : Nat), ∃ i, Stop l cut i := by
  intro l
  induction l with
  | nil => intro cut; exact ⟨0, Nat.le_refl _, by simp [encL], fun x hx => by simp at hx⟩
  | cons x l ih =>
    intro cut
    by_cases h : x.2.length + 13 ≤ cut
    · obtain ⟨i, h1, h2, h3⟩ := ih (cut - (x.2.length + 13))
      refine ⟨i + 1, by simp; omega, ?_, fun y hy => ?_⟩
      · rw [List.take_succ_cons, encL_cons, List.length_append, recB_length]; omega
      · rw [List.getElem?_cons_succ] at hy
        have := h3 y hy
        rw [List.take_succ_cons, encL_cons, List.length_append, recB_length]; omega
    · exact ⟨0, by simp, by simp [encL], fun y hy => by simp at hy; subst hy; simp [encL]; omega⟩
theorem encL_mono (l : List (Int × List UInt8)) {i j : Nat} (h : i ≤ j) : (encL (l.take i)).length ≤ (encL (l.take j)).length := by
  have : l.take j = l.take i ++ (l.take j).drop i := by
    have h2 := (List.take_append_drop i (l.take j)).symm
    rwa [List.take_take, Nat.min_eq_left h] at h2
  rw [this, encL_app, List.length_append]; omega
theorem encL_next (l : List (Int × List UInt8)) {i : Nat} {x : Int × List UInt8} (h : l[i]? = some x) : (encL (l.take (i + 1))).length = (encL (l.take i)).length + 13 + x.2.length := by
  rw [take_snoc l i x h, encL_snoc, List.length_append, recB_length]; omega
theorem okL_take' {l : List (Int × List UInt8)} (h : okL l = true) (i : Nat) : okL (l.take i) = true := by
  unfold okL at h ⊢
  rw [List.all_eq_true] at h ⊢
  exact fun x hx => h x (List.mem_of_mem_take hx)
theorem okL_get {l : List (Int × List UInt8)} (h : okL l = true) {i : Nat} {x : Int × List UInt8} (hx : l[i]? = some x) : ∃ b : UInt8, x.1 = (b.toNat : Int) ∧ x.2.length ≤ 200000 := by
  unfold okL at h
  rw [List.all_eq_true] at h
  exact chkB_true (h x (List.mem_of_getElem? hx))
theorem drop_get {α : Type} {l : List α} {i : Nat} (h : i < l.length) : l.drop i = l[i] :: l.drop (i + 1) := List.drop_eq_getElem_cons h
/-- Of the first bytes the records that are there whole. -/
theorem cut_parts {l : List (Int × List UInt8)} {cut i : Nat} (hok : okL l = true) (hs : Stop l cut i) (hc : cut ≤ (encL l).length) : ∃ post, (encL l).take cut = [] ++ (encL (l.take i) ++ post) ∧ decR ((encL l).take cut) ((([] : List UInt8).length + (encL (l.take i)).length : Nat) : Int) = none := by
  obtain ⟨h1, h2, h3⟩ := hs
  have e0 : encL l = encL (l.take i) ++ encL (l.drop i) := by rw [← encL_app, List.take_append_drop]
  have e1 : (encL l).take cut = encL (l.take i) ++ (encL (l.drop i)).take (cut - (encL (l.take i)).length) := by
    rw [e0, List.take_append]
    congr 1
    exact List.take_of_length_le h2
  refine ⟨_, by rw [List.nil_append]; exact e1, ?_⟩
  generalize hN : (encL (l.take i)).length = N at *
  have hlen : ((encL l).take cut).length = cut := by rw [List.length_take, Nat.min_eq_left hc]
  by_cases h13 : cut - N < 13
  · exact decR_far (.inr (.inr (by rw [hlen]; simp; omega)))
  · by_cases hi : i < l.length
    · have hx : l[i]? = some l[i] := List.getElem?_eq_getElem hi
      have h4 := h3 _ hx
      obtain ⟨k, hk, hp⟩ := okL_get hok hx
      unfold decR
      rw [if_neg (by rw [hlen]; simp; omega)]
      have e2 : ((encL l).take cut).drop ((([] : List UInt8).length + N : Nat) : Int).toNat = (encL (l.drop i)).take (cut - N) := by
        rw [e1, Int.toNat_natCast, List.length_nil, Nat.zero_add, ← hN, List.drop_left' rfl]
      rw [e2, drop_get hi, encL_cons]
      have hll : (((recB (UInt8.ofNat (l[i].1).toNat) l[i].2) ++ encL (l.drop (i + 1))).take (cut - N)).length = cut - N := by
        rw [List.length_take, Nat.min_eq_left]
        have e3 : (encL l).length = N + (encL (l.drop i)).length := by rw [e0, List.length_append, hN]
        rw [drop_get hi, encL_cons] at e3
        omega
      refine decA_short (k := UInt8.ofNat (l[i].1).toNat) (p := l[i].2) (t := (recB (UInt8.ofNat (l[i].1).toNat) l[i].2).drop (cut - N)) hp (by rw [hll]; omega) (by rw [hll]; omega) ?_
      rw [List.take_append_of_le_length (by rw [recB_length]; omega), List.take_append_drop]
    · exfalso
      have : l.drop i = [] := List.drop_eq_nil_of_le (by omega)
      rw [this] at e0
      have := congrArg List.length e0
      simp [encL] at this
      simp [encL] at hN hc
      omega
theorem RS.take {W : World} {A : Option Addr} {n c : Nat} {l : List (Int × List UInt8)} (h : RS W (.slice A n c) l) (i : Nat) (hi : i ≤ l.length) : RS W (.slice A i c) (l.take i) := by
  obtain ⟨A', c', e, h1, h2, h3⟩ := h
  injection e with e1 e2 e3
  subst e1 e2 e3
  have hl : (l.take i).length = i := by rw [List.length_take, Nat.min_eq_left hi]
  refine ⟨A, c, by rw [hl], by omega, fun hA => by rw [h2 hA]; simp, fun a ha j x hx => ?_⟩
  rw [List.getElem?_take] at hx
  split at hx
  · exact h3 a ha j x hx
  · cases hx
theorem HB.cap {W : World} {A : Option Addr} {n c : Nat} {xs : List UInt8} (h : HB W (.slice A n c) xs) : n ≤ c := by
  obtain ⟨_, _, e, h1, _⟩ := h
  injection e with _ e2 e3
  omega
theorem RS.cap {W : World} {A : Option Addr} {n c : Nat} {l : List (Int × List UInt8)} (h : RS W (.slice A n c) l) : n ≤ c := by
  obtain ⟨_, _, e, h1, _⟩ := h
  injection e with _ e2 e3
  omega
theorem run_cut31 (A : Option Addr) (n c k : Nat) (hk : k ≤ n) (hn : n ≤ c) (W : World) :
    (Instr.slice 37 (.slice A n c) none (some (.int .i64 (k : Int))) none).run Try.prog W = .ok (.slice A k c) W := by
  have ht' : Try.prog.underlying 37 = some (.slice (Try.prog.elem 37)) := by simp [Program.elem, Try.underlying37]
  have he : Try.prog.elem 37 = 48 := by simp [Program.elem, Try.underlying37]
  have hz : ∀ w, (Go.sizeOf 48).run Try.prog w = .ok 2 w := fun w => by kernel_rfl
  rw [run_slice_h W 37 _ _ _ ht' .i64 _ (by omega) (by omega), he, hz]
  cases A <;> simp [Result.andThen, sliced, Addr.add]
theorem run_sl31 {W : World} {o : Oper} {ev : Operand → Value} {x y : Operand} {A : Option Addr} {n c : Nat} (k : Nat) (ho : o.op = .slice 37 x none (some y) none) (hx : ev x = .slice A n c) (hy : ev y = .int .i64 (k : Int)) (hk : k ≤ n) (hn : n ≤ c) : (execOp ev o).run Try.prog W = .ok (.value (.slice A k c)) W := by
  have h := run_cut31 A n c k hk hn W
  unfold execOp
  simp only [ho, hx, hy, Instr.sliceAt, run_underlying Try.underlying37, Option.map_some, Option.map_none, Sem.run_bind, Sem.run_pure, Result.andThen_ok, h]
section
variable {P : Program} {w W : World} {L : List Res} {Fs : List (World → Prop)} {o : Oper} {a : Act} {K : Act → World → Prop} {Q : Exit → Act → World → Prop}
theorem s_bs0 (hS : St w W L Fs) {t E : TypeId} (s : Nat) {parts : Array (Nat × Operand)} (ho : o.op = .buildSlice t 0 parts) (ht : P.underlying t = some (.slice E)) (hi : (P.info? E).map (·.size) = some s) (hp : parts = #[])
    (h : ∀ b W', St w W' (Row (.slice (some ⟨b, 0, none⟩) 0 0) E s 0 [] :: L) Fs → K (a.put o.dst (.slice (some ⟨b, 0, none⟩) 0 0)) W') : o.wp P a W K Q := by
  subst hp
  refine wp_of_run (W' := W.alloc (.cells #[] E)) (v := .slice (some ⟨W.heap.size, 0, none⟩) 0 0) ?_ (h _ _ ?_)
  · obtain ⟨i, hi', rfl⟩ := Option.map_eq_some_iff.1 hi
    have e2 : (Go.sizeOf E).run P W = .ok i.size W := by simp [sizeOf, typeInfo, hi', go_sem]
    unfold execOp
    simp only [ho, Instr.buildSlice, Sem.run_bind, Sem.run_pure, Result.andThen_ok, run_underlying ht, e2, Nat.zero_mul]
    have e3 : (Array.range 0).map (fun _ => (default : Value)) = #[] := by apply Array.ext <;> simp
    simp [Instr.fill, newRow, e3]
  · refine hS.new ((Below.refl _ _).alloc (Nat.le_refl _) _) (r := Row (.slice (some ⟨W.heap.size, 0, none⟩) 0 0) E s 0 []) ?_ (fun k hk => by simp [Row, Value.ownBlock] at hk; subst hk; simp)
    have := World.ownsRow_lit (base := 0) (e := E) (size := s) W #[] 0 (Nat.zero_le _) (by simp only [maxLen]; omega) (by simp)
    have this' : (W.alloc (.cells #[] E)).ownsRow 0 E s (.slice (some ⟨W.heap.size, 0, none⟩) 0 0) 0 [] := by simpa using this
    exact this'
end
end
end Go.Proofs.Ytakeggdpnfibpaa
