/- Contracts and words that the laws stand on (SegA). -/
import Derived.Test.YtakeggdpnfibpaaRecK
import Derived.Test.YtakeggdpnfibpaaRecJ
import Derived.Test.YtakeggdpnfibpaaLawA
import Derived.Test.YtakeggdpnfibpaaRecI
import Derived.Test.YtakeggdpnfibpaaRng
set_option linter.unusedVariables false
set_option linter.unusedSimpArgs false
namespace Go.Proofs.Ytakeggdpnfibpaa
section
open Go Go.RowKit Go.Proofs
/-! Groups, plain. -/
abbrev Grp := List (Int × List UInt8)
/-- A group's marker. -/
def mkr (num m : Nat) : Int × List UInt8 := (255, le 8 num ++ le 4 m)
def segL (num : Nat) (l : Grp) : Grp := l ++ [mkr num l.length]
def no255 (l : Grp) : Bool := l.all fun x => !(x.1 == 255)
def segOk (num : Nat) (l : Grp) : Bool := decide (num ≠ 0) && (decide (l ≠ []) && (no255 l && (okL l && decide ((encL (segL num l)).length ≤ 1500000))))
def encG (num : Nat) : List Grp → List UInt8
  | [] => []
  | g :: gs => encL (segL num g) ++ encG (num + 1) gs
def allOk (num : Nat) : List Grp → Prop
  | [] => True
  | g :: gs => segOk num g = true ∧ allOk (num + 1) gs
theorem segOk_iff {num : Nat} {l : Grp} : segOk num l = true ↔ (num ≠ 0 ∧ l ≠ [] ∧ no255 l = true ∧ okL l = true ∧ (encL (segL num l)).length ≤ 1500000) := by
  unfold segOk
  simp only [Bool.and_eq_true, decide_eq_true_eq]
theorem mkr_ok (num m : Nat) : chkB (mkr num m).1 (mkr num m).2.length = true := by
  unfold chkB mkr
  exact decide_eq_true ⟨by show (0 : Int) ≤ 255; decide, by show (255 : Int) ≤ 255; decide, by simp [le_length]⟩
theorem okL_segL {num : Nat} {l : Grp} (h : okL l = true) : okL (segL num l) = true := by
  unfold okL segL at *
  rw [List.all_append, h, List.all_cons, mkr_ok]
  rfl
/-- Of two runs of records at one place one is the other's beginning. -/
theorem recs_cmp : ∀ (l m : Grp) (p q : List UInt8), okL l = true → okL m = true → encL l ++ p = encL m ++ q → (∃ t, m = l ++ t) ∨ (∃ t, l = m ++ t) := by
  intro l
  induction l with
  | nil => intro m p q _ _ _; exact .inl ⟨m, rfl⟩
  | cons x l ih =>
    intro m p q hl hm h
    cases m with
    | nil => exact .inr ⟨_, rfl⟩
    | cons y m =>
      obtain ⟨⟨bx, hx1, hx2⟩, hl'⟩ := okL_cons hl
      obtain ⟨⟨by', hy1, hy2⟩, hm'⟩ := okL_cons hm
      obtain ⟨xk, xp⟩ := x
      obtain ⟨yk, yp⟩ := y
      dsimp only at hx1 hx2 hy1 hy2
      subst hx1 hy1
      rw [encL_cons, encL_cons, List.append_assoc, List.append_assoc] at h
      dsimp only at h
      have ex : UInt8.ofNat ((bx.toNat : Int)).toNat = bx := by simp
      have ey : UInt8.ofNat ((by'.toNat : Int)).toNat = by' := by simp
      rw [ex, ey] at h
      have h1 := decA_recB bx xp (encL l ++ p) hx2
      rw [h, decA_recB by' yp (encL m ++ q) hy2] at h1
      injection h1 with h1
      injection h1 with h1 h2
      subst h1 h2
      have h3 := List.append_cancel_left h
      rcases ih m p q hl' hm' h3 with ⟨t, rfl⟩ | ⟨t, rfl⟩
      · exact .inl ⟨t, rfl⟩
      · exact .inr ⟨t, rfl⟩
theorem seg_same {l m : Grp} {x y : Int × List UInt8} (hl : no255 l = true) (hm : no255 m = true) (hx : x.1 = 255) (hy : y.1 = 255) (h : (∃ t, m ++ [y] = (l ++ [x]) ++ t) ∨ (∃ t, l ++ [x] = (m ++ [y]) ++ t)) : l = m ∧ x = y := by
  have key : ∀ (l m : Grp) (x y : Int × List UInt8), no255 m = true → x.1 = 255 → (∃ t, m ++ [y] = (l ++ [x]) ++ t) → l = m ∧ x = y := by
    intro l m x y hm hx ⟨t, e⟩
    rw [List.append_assoc] at e
    have hlen := congrArg List.length e
    simp at hlen
    by_cases ht : t = []
    · subst ht
      rw [List.append_nil] at e
      have := List.append_inj' e rfl
      exact ⟨this.1.symm, by simpa using this.2.symm⟩
    · exfalso
      have hlt : l.length < m.length := by
        have : 0 < t.length := List.length_pos_iff.2 ht
        omega
      have h1 := congrArg (fun q => q[l.length]?) e
      rw [List.getElem?_append_left hlt, List.getElem?_append_right (Nat.le_refl _), Nat.sub_self] at h1
      simp at h1
      unfold no255 at hm
      rw [List.all_eq_true] at hm
      have h2 := hm x (List.mem_of_getElem? h1)
      rw [hx] at h2
      exact absurd h2 (by decide)
  rcases h with h | h
  · exact key l m x y hm hx h
  · obtain ⟨h1, h2⟩ := key m l y x hl hy h
    exact ⟨h1.symm, h2.symm⟩
/-- Two groups at one place are the same. -/
theorem grp_same {n n' : Nat} {l m : Grp} {p q : List UInt8} (hl : no255 l = true) (hl' : okL l = true) (hm : no255 m = true) (hm' : okL m = true) (h : encL (segL n l) ++ p = encL (segL n' m) ++ q) : l = m ∧ mkr n l.length = mkr n' m.length ∧ p = q := by
  obtain ⟨h1, h2⟩ := seg_same hl hm rfl rfl (recs_cmp _ _ p q (okL_segL hl') (okL_segL hm') h)
  refine ⟨h1, h2, ?_⟩
  unfold segL at h
  rw [h1, ← h1, h2] at h
  subst h1
  exact List.append_cancel_left h
/-- What a reading answers. -/
structure ReadP (xs : List UInt8) (num : Nat) (gs : List Grp) (e : Nat) : Prop where
  len : e = (encG num gs).length
  ok : allOk num gs
  top : num + gs.length ≤ 18446744073709551616
  split : ∃ post, xs = encG num gs ++ post ∧ (num + gs.length < 18446744073709551616 → ∀ g q, segOk (num + gs.length) g = true → post ≠ encL (segL (num + gs.length) g) ++ q)
theorem read_uniq : ∀ (gs hs : List Grp) (xs : List UInt8) (num e f : Nat), ReadP xs num gs e → ReadP xs num hs f → gs = hs := by
  intro gs
  induction gs with
  | nil =>
    intro hs xs num e f h k
    cases hs with
    | nil => rfl
    | cons g hs =>
      exfalso
      obtain ⟨p, e1, n1⟩ := h.split
      obtain ⟨q, e2, _⟩ := k.split
      have ht := k.top
      simp at ht
      simp only [encG, List.nil_append, List.length_nil, Nat.add_zero] at e1 n1
      refine n1 (by omega) g (encG (num + 1) hs ++ q) k.ok.1 ?_
      rw [← e1, e2]
      simp [encG]
  | cons g gs ih =>
    intro hs xs num e f h k
    cases hs with
    | nil =>
      exfalso
      obtain ⟨p, e1, _⟩ := h.split
      obtain ⟨q, e2, n2⟩ := k.split
      have ht := h.top
      simp at ht
      simp only [encG, List.nil_append, List.length_nil, Nat.add_zero] at e2 n2
      refine n2 (by omega) g (encG (num + 1) gs ++ p) h.ok.1 ?_
      rw [← e2, e1]
      simp [encG]
    | cons g' hs =>
      obtain ⟨p, e1, n1⟩ := h.split
      obtain ⟨q, e2, n2⟩ := k.split
      obtain ⟨a1, a2, a3, a4, _⟩ := segOk_iff.1 h.ok.1
      obtain ⟨b1, b2, b3, b4, _⟩ := segOk_iff.1 k.ok.1
      simp only [encG, List.append_assoc] at e1 e2
      obtain ⟨rfl, _, e3⟩ := grp_same a3 a4 b3 b4 (e1.symm.trans e2)
      have h' : ReadP (encG (num + 1) gs ++ p) (num + 1) gs _ := ⟨rfl, h.ok.2, by have := h.top; simp at this; omega, p, rfl, by simpa [Nat.add_assoc, Nat.add_comm 1] using n1⟩
      have k' : ReadP (encG (num + 1) gs ++ p) (num + 1) hs _ := ⟨rfl, k.ok.2, by have := k.top; simp at this; omega, q, e3, by simpa [Nat.add_assoc, Nat.add_comm 1] using n2⟩
      rw [ih hs _ _ _ _ h' k']
theorem ReadP.uniq {xs : List UInt8} {num : Nat} {gs hs : List Grp} {e f : Nat} (h : ReadP xs num gs e) (k : ReadP xs num hs f) : gs = hs ∧ e = f := by
  obtain rfl := read_uniq gs hs xs num e f h k
  exact ⟨rfl, h.len.trans k.len.symm⟩
end
section
open Go Go.RowKit Go.Proofs
attribute [local irreducible] Calls

theorem s_frows {P : Program} {w W : World} {L : List Res} {Fs : List (World → Prop)} {o : Oper} {a : Act} {K : Act → World → Prop} {Q : Exit → Act → World → Prop} (hS : St w W L Fs) (i : Nat) {t E : TypeId} {s x : Operand} {v : Value} {n m c size bytes : Nat} {A : Addr} {xs news : List Value} {z : Value} (ho : o.op = .call { callee := .builtin .append, args := #[s, x], argTypes := #[t, t] }) (ht : P.underlying t = some (.slice E)) (hinfo : (P.info? E).map (fun i => (i.zero, i.size, i.bytes)) = some (some z, size, bytes)) (hzs : z.cells.size = size) (hsz : 0 < size)
    (hs : a.eval s = v) (hx : a.eval x = .slice (some A) m c) (hi : L[i]? = some (Row v E size n xs)) (hn : news.length = m * size) (hc : ∀ j u, news[j]? = some u → W.cell? (A.add j) = some u) (h1 : ∀ u ∈ news, u.oneCell' = true) (hl : (n + m) * bytes ≤ 140737488355328) (hl2 : n + m ≤ 140737488355328)
    (h : ∀ v' W', St w W' (L.set i (Row v' E size (n + m) (xs ++ news))) Fs → K (a.put o.dst v') W') : o.wp P a W K Q := by
  obtain ⟨i0, hi0, hzz⟩ := Option.map_eq_some_iff.1 hinfo
  simp only [Prod.mk.injEq] at hzz
  obtain ⟨hz0, hz1, hz2⟩ := hzz
  obtain ⟨v', w', hrun, a2, a3, _, a5⟩ := run_append_own_at (P := P) (w := W) w.heap.size t o.type E i0 z size bytes ht hi0 hz0 hz1 hz2 hzs hsz v n xs (hS.own_row hi) A m c news hn hc h1 (by simp only [maxLen]; omega) hl hS.below.size
  have h4 : Nx W v v' := by
    rcases a5 with a5 | a5
    · exact .inl a5
    · exact .inr ⟨_, a5, Nat.le_refl _⟩
  exact wp_of_run (exec_app ho hs hx hrun) (h _ _ (hS.grown hi a2 a3 h4))
/-- A slice of records, by the values of its payloads. -/
theorem RS.ys {W : World} {A : Option Addr} {n c : Nat} {l : List (Int × List UInt8)} (h : RS W (.slice A n c) l) : ∃ ys : List (Int × Value × List UInt8), ys.map gkp = l ∧ GPays ys W ∧ ∀ a, A = some a → ∀ j v, (gcells ys)[j]? = some v → W.cell? (a.add j) = some v := by
  obtain ⟨A', c', e, h1, h2, h3⟩ := h
  injection e with e1 e2 e3
  subst e1
  cases A with
  | none =>
    obtain rfl := h2 rfl
    exact ⟨[], rfl, (fun x hx => by cases hx), (fun a ha => by cases ha)⟩
  | some a =>
    have h4 := h3 a rfl
    clear h1 h2 h3 e2 e3
    have key : ∀ (m : Grp) (o : Nat), (∀ (i : Nat) x, m[i]? = some x → ∃ pv, a = ⟨a.block, a.off, none⟩ ∧ W.cell? (a.add (o + 2 * i)) = some (.int .i64 x.1) ∧ W.cell? (a.add (o + 2 * i + 1)) = some pv ∧ HB W pv x.2) → ∃ ys : List (Int × Value × List UInt8), ys.map gkp = m ∧ GPays ys W ∧ ∀ j v, (gcells ys)[j]? = some v → W.cell? (a.add (o + j)) = some v := by
      intro m
      induction m with
      | nil => intro o _; exact ⟨[], rfl, (fun x hx => by cases hx), fun j v hv => by simp [gcells] at hv⟩
      | cons x m ih =>
        intro o hm
        obtain ⟨pv, _, c1, c2, hb⟩ := hm 0 x rfl
        obtain ⟨ys, g1, g2, g3⟩ := ih (o + 2) (fun i y hy => by
          obtain ⟨pv, b0, b1, b2, b3⟩ := hm (i + 1) y hy
          exact ⟨pv, b0, by rw [show o + 2 + 2 * i = o + 2 * (i + 1) by omega]; exact b1, by rw [show o + 2 + 2 * i + 1 = o + 2 * (i + 1) + 1 by omega]; exact b2, b3⟩)
        refine ⟨(x.1, pv, x.2) :: ys, by rw [List.map_cons, g1]; rfl, fun y hy => ?_, fun j v hv => ?_⟩
        · rcases List.mem_cons.1 hy with rfl | hy
          · exact hb
          · exact g2 y hy
        · have e : gcells ((x.1, pv, x.2) :: ys) = .int .i64 x.1 :: pv :: gcells ys := by simp [gcells]
          rw [e] at hv
          match j, hv with
          | 0, hv => simp at hv; subst hv; exact c1
          | 1, hv => simp at hv; subst hv; exact c2
          | j + 2, hv =>
            rw [List.getElem?_cons_succ, List.getElem?_cons_succ] at hv
            have := g3 j v hv
            rwa [show o + 2 + j = o + (j + 2) by omega] at this
    obtain ⟨ys, g1, g2, g3⟩ := key l 0 (fun i x hx => by
      obtain ⟨pv, b0, b1, b2, b3⟩ := h4 i x hx
      exact ⟨pv, b0, by rw [Nat.zero_add]; exact b1, by rw [Nat.zero_add]; exact b2, b3⟩)
    refine ⟨ys, g1, g2, fun b hb j v hv => ?_⟩
    injection hb with hb
    subst hb
    have := g3 j v hv
    rwa [Nat.zero_add] at this
theorem gcells_len (ys : List (Int × Value × List UInt8)) : (gcells ys).length = ys.length * 2 := by
  induction ys with
  | nil => rfl
  | cons y ys ih =>
    have e : gcells (y :: ys) = .int .i64 y.1 :: y.2.1 :: gcells ys := by simp [gcells]
    rw [e, List.length_cons, List.length_cons, List.length_cons, ih]
    omega
theorem HB.one {W : World} {v : Value} {xs : List UInt8} (h : HB W v xs) : v.oneCell' = true := by
  obtain ⟨A, c, rfl, _⟩ := h.shape
  rfl
theorem gcells_one {ys : List (Int × Value × List UInt8)} {W : World} (h : GPays ys W) : ∀ u ∈ gcells ys, u.oneCell' = true := by
  intro u hu
  unfold gcells at hu
  rw [List.mem_flatMap] at hu
  obtain ⟨x, hx, hu⟩ := hu
  simp at hu
  rcases hu with rfl | rfl
  · rfl
  · exact (h x hx).one
theorem GPays.away0 {ys : List (Int × Value × List UInt8)} {W : World} (h : GPays ys W) : Away (Keys []) (fun W => GPays ys W) W := fun V hs x hx => (h x hx).away0 V hs
set_option maxHeartbeats 1000000 in
set_option maxRecDepth 100000 in
theorem mark23 (k : Int) (pv : Value) (w : World) : Calls Try.prog 23 #[.agg #[.int .i64 k, pv]] w fun e w' => e = .returned (.bool (k == 255)) ∧ Below w.heap.size w w' := by
  have HS := Lib.hid (St.start w)
  go_enter Try.func23, Try.ntmps23
  go_wp2_with (first
    | (refine atd 1 (by rfl) ?_; refine wl (by rfl) (s_bx (l := [.int .i64 k, pv]) HS.out (by rfl) (by rfl) ?_); intro b1 Wn hS; clear HS; have HS := Lib.hid hS; clear hS)
    | (refine wl (by rfl) (s_ld HS.out 0 (by rfl) (by rfl) (by rfl) (by kernel_rfl) (by rfl) ?_)))
  go_ret
  exact ⟨rfl, HS.out.below⟩
set_option maxHeartbeats 1000000 in
set_option maxRecDepth 100000 in
theorem index34 (u : Value) (l : List (Int × List UInt8)) (w : World) (hu : RS w u l) (hl : l.length ≤ 1000000) :
    Calls Try.prog 34 #[u, .func (.func 23) #[] #[]] w fun e w' => ∃ r : Int, e = .returned (.int .i64 r) ∧ (no255 l = !decide (0 ≤ r)) ∧ Below w.heap.size w w' := by
  have HU := Lib.hid hu
  obtain ⟨A, c, rfl, hlc⟩ := hu.shape
  have HS := Lib.hid ((St.start w).addF hu.away0)
  clear hu
  go_enter Try.func34, Try.ntmps34
  go_wp2_with fail
  go_loopw [8] (fun s8 wr => ∃ i : Nat, i ≤ l.length ∧ s8 = .int .i64 (i : Int) ∧ no255 (l.take i) = true ∧ St w wr [] [fun V => RS V (.slice A l.length c) l]) (fun s8 _ => l.length - (intOf s8).toNat)
  case atStart => exact ⟨0, by omega, rfl, rfl, HS.out⟩
  case round =>
    obtain ⟨i, hi, rfl, hall, hs⟩ := hrel
    have HALL := Lib.hid hall
    clear HS
    clear hall
    by_cases hlt : i < l.length
    · obtain ⟨bb, o, pv, rfl, c1, c2, hbp⟩ := HU.out.get hlt
      have hli : l[i]? = some l[i] := List.getElem?_eq_getElem hlt
      generalize l[i] = x at *
      obtain ⟨k, p⟩ := x
      dsimp only at c1 c2 hbp
      obtain ⟨Ap, cp, rfl, hpc⟩ := hbp.shape
      have hr1 : Away (Keys []) (fun V => V.rangeAt bb (o + i * 2) [.int .i64 k, .slice Ap p.length cp]) w := range_away0 (range2 c1 c2)
      have HLI := Lib.hid hli
      have j1 : (i : Int) < (l.length : Int) := by omega
      have HBP := Lib.hid hbp.away0; have HR1 := Lib.hid hr1
      clear hli c1 c2 hbp hr1
      have hn255 : no255 (l.take (i + 1)) = (no255 (l.take i) && !(k == 255)) := by
        rw [take_snoc l i _ HLI.out]
        unfold no255
        rw [List.all_append]
        simp
      have HN := Lib.hid hn255
      clear hn255
      have HS := Lib.hid (hs.old HR1.out)
      clear hs
      cases hk : (k == 255) with
      | true =>
        have HK := Lib.hid hk
        clear hk
        go_wp2_with (first
          | (refine wl (by rfl) (wp_of_run (run_lda (n := 2) (cs := [.int .i64 k, .slice Ap p.length cp]) ag25 (by rfl) (by rfl) (HS.out.fact (i := 0) rfl) (by rfl)) ?_))
          | (go_at_call 23; refine (mark23 k _ _).mono ?_; rintro e Wn ⟨rfl, hb⟩; rw [HK.out]; have hS := HS.out.call hb; clear hb; clear HS; have HS := Lib.hid hS; clear hS))
        go_ret
        refine ⟨_, rfl, ?_, HS.out.below⟩
        have h1 : no255 l = false := by
          have e := HN.out
          rw [HK.out] at e
          cases h : no255 l with
          | false => rfl
          | true =>
            unfold no255 at h e
            rw [List.all_eq_true] at h
            have : (l.take (i + 1)).all (fun x => !(x.1 == 255)) = true := List.all_eq_true.2 fun x hx => h x (List.mem_of_mem_take hx)
            rw [this] at e
            simp at e
        rw [h1, decide_eq_true (by omega)]
        rfl
      | false =>
        have HK := Lib.hid hk
        clear hk
        go_wp2_with (first
          | (refine wl (by rfl) (wp_of_run (run_lda (n := 2) (cs := [.int .i64 k, .slice Ap p.length cp]) ag25 (by rfl) (by rfl) (HS.out.fact (i := 0) rfl) (by rfl)) ?_))
          | (go_at_call 23; refine (mark23 k _ _).mono ?_; rintro e Wn ⟨rfl, hb⟩; rw [HK.out]; have hS := HS.out.call hb; clear hb; clear HS; have HS := Lib.hid hS; clear hS))
        exact ⟨⟨i + 1, by omega, by push_cast; rfl, by rw [HN.out, HALL.out, HK.out]; rfl, HS.out.dropF (fun G hG => List.mem_cons_of_mem _ hG)⟩, by simp [intOf]; omega⟩
    · have j1 : ¬ (i : Int) < (l.length : Int) := by omega
      have hil : i = l.length := by omega
      have HS := Lib.hid hs
      clear hs
      go_wp2_with fail
      go_ret
      refine ⟨_, rfl, ?_, HS.out.below⟩
      have h1 := HALL.out
      rw [hil, List.take_length] at h1
      rw [h1]
      rfl
set_option maxHeartbeats 1000000 in
set_option maxRecDepth 100000 in
theorem contains22 (u : Value) (l : List (Int × List UInt8)) (w : World) (hu : RS w u l) (hl : l.length ≤ 1000000) :
    Calls Try.prog 22 #[u, .func (.func 23) #[] #[]] w fun e w' => e = .returned (.bool (!no255 l)) ∧ Below w.heap.size w w' := by
  have HU := Lib.hid hu
  obtain ⟨A, c, rfl, hlc⟩ := hu.shape
  clear hu
  go_enter Try.func22, Try.ntmps22
  go_wp2_with (first
    | (go_at_call 34; refine (index34 _ l _ HU.out hl).mono ?_; rintro e Wn ⟨r, rfl, hr, hb⟩; have HR := Lib.hid hr; have HB := Lib.hid hb; clear hr hb))
  go_ret
  exact ⟨by rw [HR.out]; simp, HB.out⟩
set_option maxHeartbeats 1000000 in
set_option maxRecDepth 100000 in
theorem clone24 (u : Value) (l : List (Int × List UInt8)) (w : World) (hu : RS w u l) (hl : l.length ≤ 1000000) :
    Calls Try.prog 24 #[u] w fun e w' => ∃ v' ys, e = .returned v' ∧ ys.map gkp = l ∧ GPays ys w ∧ New w w' (Row v' 48 2 ys.length (gcells ys)) := by
  obtain ⟨A, c, rfl, hlc⟩ := hu.shape
  obtain ⟨ys, h1, h2, h3⟩ := hu.ys
  have hlen : ys.length = l.length := by rw [← h1, List.length_map]
  have q37 : ∀ (w : World) (a : Option Addr) (n c n' c' : Nat), (binOp .eql 37 (.slice a n c) (.slice none n' c')).run Try.prog w = .ok (.bool a.isNone) w := fun w a n c n' c' => Lib.run_eql_slice_nil w _ _ a n c n' c' Try.underlying37
  cases A with
  | none =>
    have hl0 : l = [] := by
      obtain ⟨_, _, e, _, h4, _⟩ := hu
      injection e with e1 _ _
      exact h4 e1.symm
    subst hl0
    have hy : ys = [] := List.map_eq_nil_iff.1 h1
    subst hy
    clear h1 h3
    go_enter Try.func24, Try.ntmps24
    go_wp2_with fail
    go_ret
    exact ⟨_, [], rfl, rfl, h2, ((St.start w).new (Below.refl _ _) (r := Row (.slice none 0 0) 48 2 0 []) (World.ownsRow_nil _ _ _ _) (fun k hk => by simp [Row, Value.ownBlock] at hk)).give 0 rfl⟩
  | some a =>
    have HC := Lib.hid (show Away (Keys []) (fun W => ∀ j v, (gcells ys)[j]? = some v → W.cell? (a.add j) = some v) w from fun V hs j v hv => hs.cell (fun ⟨r, hr, _⟩ => by cases hr) (h3 a rfl j v hv))
    have HS := Lib.hid ((St.start w).addF HC.out)
    have HP := Lib.hid h2; have H1 := Lib.hid h1; have HL := Lib.hid hlen
    clear h1 h2 h3 hu hlen
    go_enter Try.func24, Try.ntmps24
    go_wp2_with (first
      | (refine wl (by rfl) (s_bs0 (E := 48) HS.out 2 (by rfl) Try.underlying37 (by kernel_rfl) (by rfl) ?_); intro b5 Wn hS; clear HS; have HS := Lib.hid hS; clear hS)
      | (refine wl (by rfl) (s_frows (size := 2) (bytes := 32) (z := .agg #[.int .i64 0, .slice none 0 0]) HS.out 0 (by rfl) Try.underlying37 (by kernel_rfl) (by rfl) (by decide) (by rfl) (by rfl) (by rfl) (by rw [gcells_len, HL.out]) (HS.out.fact (i := 0) rfl) (gcells_one HP.out) (by omega) (by omega) ?_); intro v7 Wn hS; clear HS; have HS := Lib.hid hS; clear hS))
    go_ret
    have hg := HS.out.give 0 rfl
    rw [List.nil_append, Nat.zero_add, ← HL.out] at hg
    exact ⟨_, ys, rfl, H1.out, HP.out, hg⟩
end
section
open Go.RowKit Go.Proofs
theorem fixedB_of {k n : Nat} (hk : k = 1 ∨ k = 2 ∨ k = 4 ∨ k = 8) (h : n < 256 ^ k) : fixedB (k : Int) n = le k n := by
  have hE : fixedE (k : Int) n = 0 := by
    have : wideB (k : Int) = true := by rcases hk with rfl | rfl | rfl | rfl <;> rfl
    have h2 : goesB n (k : Int).toNat = true := by simpa [goesB] using h
    rw [fixedE, if_neg (by rw [this]; decide), if_neg (by rw [h2]; decide)]
  rw [fixedB, if_pos hE, Int.toNat_natCast]
attribute [local irreducible] Calls
end
section
open Go Go.RowKit Go.Proofs
attribute [local irreducible] Calls

theorem penEight (p : Nat) (n : Nat) (v : Value) (xs : List UInt8) (w : World) (hp : IsPen w p v xs) (hn : n < 18446744073709551616) (hb : xs.length + 8 ≤ 70368744177664) :
    Calls Try.prog 35 #[.pointer (some ⟨p, 0, none⟩), .int .i64 8, .int .u64 (n : Int)] w fun e w' => ∃ v', e = .returned (.int .i64 0) ∧ PenGo w w' p v v' (xs ++ le 8 n) := by
  have hE : fixedE 8 n = 0 := by
    unfold fixedE
    rw [if_neg (by decide), if_neg]
    simp [goesB]; omega
  have hB : fixedB 8 n = le 8 n := by
    unfold fixedB
    rw [if_pos hE]
    rfl
  refine (fixed_any p 8 n v xs w hp hn hb).mono ?_
  rintro e w' ⟨rfl, v', hg⟩
  rw [hB] at hg
  exact ⟨v', by rw [hE], hg⟩
theorem ret_c25 {w : World} {fn : Func} {p : Tmp} (h : fn.results = #[.cell p 48]) (tmps : Array Value) (g : Nat) (cs : Array Value) (t : TypeId) (fr : Nat × Nat) (hp : tmps.getD p undef = .pointer (some ⟨g, 0, none⟩)) (hg : w.heap[g]? = some (.cells cs t fr)) (hz : cs.size = 2) :
    (results fn tmps).run Try.prog w = .ok (.agg cs) w := by
  have hp' : tmps[p]?.getD undef = .pointer (some ⟨g, 0, none⟩) := by simpa using hp
  simp [results, h, hp', asAddr, load25 g cs t fr hg hz]
def segE (num : Nat) (l : Grp) : Int := if segOk num l then 0 else 170
def segO (num : Nat) (l : Grp) : List UInt8 := if segOk num l then encL (segL num l) else []
theorem encL_take_le (l : Grp) (i : Nat) : (encL (l.take i)).length ≤ (encL l).length := by
  have := encL_mono l (i := i) (j := max i l.length) (by omega)
  rwa [List.take_of_length_le (show l.length ≤ max i l.length by omega)] at this
theorem segOk_no {num : Nat} {l : Grp} (h : okL (segL num l) = false ∨ 1500000 < (encL (segL num l)).length) : segOk num l = false := by
  cases hs : segOk num l with
  | false => rfl
  | true =>
    obtain ⟨_, _, _, h4, h5⟩ := segOk_iff.1 hs
    rcases h with h | h
    · rw [okL_segL h4] at h; cases h
    · omega
theorem segOk_yes {num : Nat} {l : Grp} (h0 : num ≠ 0) (h1 : l ≠ []) (h2 : no255 l = true) (h3 : okL (segL num l) = true) (h4 : (encL (segL num l)).length ≤ 1500000) : segOk num l = true := by
  refine segOk_iff.2 ⟨h0, h1, h2, ?_, h4⟩
  unfold okL segL at *
  rw [List.all_append, Bool.and_eq_true] at h3
  exact h3.1
set_option maxHeartbeats 1000000 in
set_option maxRecDepth 100000 in
theorem marker25 (num m : Nat) (w : World) (hn : num < 18446744073709551616) (hm : m < 4294967296) :
    Calls Try.prog 25 #[.int .u64 (num : Int), .int .i64 (m : Int)] w fun e w' => ∃ A c, e = .returned (.agg #[.int .i64 255, .slice A 12 c]) ∧ New w w' (Row (.slice A 12 c) 5 1 12 (bs (le 8 num ++ le 4 m))) := by
  have HS := Lib.hid (St.start w)
  go_enter Try.func25, Try.ntmps25
  go_wp2_with (first
    | (refine atd 4 (by rfl) ?_; refine wl (by rfl) (s_al HS.out (by rfl) z25 (by rfl) ?_); intro b4 Wn hS; clear HS; have HS := Lib.hid hS; clear hS)
    | (refine atd 5 (by rfl) ?_; refine wl (by rfl) (s_al HS.out (by rfl) z80 (by rfl) ?_); intro b5 Wn hS; replace hS := hS.pen0 (i := 0) rfl; clear HS; have HS := Lib.hid hS; clear hS)
    | (go_at_call 35; refine (penEight b5 num _ _ _ (HS.out.res (i := 0) rfl) hn (by simp)).mono ?_; rintro e Wn ⟨v8, rfl, hb⟩; have hS := HS.out.pen (i := 0) rfl hb; clear hb; clear HS; have HS := Lib.hid hS; clear hS)
    | (go_at_call 35; refine (penFour b5 m _ _ _ (HS.out.res (i := 0) rfl) hm (by simp [le_length])).mono ?_; rintro e Wn ⟨v9, rfl, hb⟩; have hS := HS.out.pen (i := 0) rfl hb; clear hb; clear HS; have HS := Lib.hid hS; clear hS)
    | (go_at_call 36; refine (penAll b5 _ _ _ (HS.out.res (i := 0) rfl) (by simp [le_length])).mono ?_; rintro e Wn ⟨v', rfl, hb⟩; have hS := HS.out.take hb; clear hb; rw [List.nil_append] at hS; rw [show (le 8 num ++ le 4 m).length = 12 by simp [le_length]] at hS; clear HS; have HS := Lib.hid hS; clear hS; obtain ⟨A6, c6, rfl⟩ := Row.sl (HS.out.res (i := 0) rfl))
    | (refine sto 4 (by rfl) ?_; refine wl (by rfl) (s_sta (cs := [.int .i64 255, .slice A6 12 c6]) HS.out 2 2 (by rfl) (by rfl) (by rfl) ag25 (by rfl) (by rfl) (by intro v hv; simp at hv; rcases hv with rfl | rfl <;> rfl) (by decide) ?_); intro Wn hS; clear HS; have HS := Lib.hid hS; clear hS))
  exact bodyPost_ret (ret_c25 (p := 4) rfl _ b4 _ 48 (0, 0) (by rfl) (HS.out.blk (i := 2) rfl) rfl) rfl ⟨_, _, rfl, HS.out.give 0 rfl⟩
set_option maxHeartbeats 1000000 in
set_option maxRecDepth 100000 in
theorem seg13g (num : Nat) (A : Option Addr) (c : Nat) (l : List (Int × List UInt8)) (w : World) (hn : num < 18446744073709551616) (hu : RS w (.slice A l.length c) l) (hl : l.length ≤ 100000) (hg : num = 0 ∨ l = [] ∨ no255 l = false) :
    Calls Try.prog 13 #[.int .u64 (num : Int), .slice A l.length c] w fun e w' => e = .returned (.tuple #[.slice none 0 0, .int .i64 170]) ∧ Below w.heap.size w w' := by
  have HS := Lib.hid ((St.start w).addF hu.away0)
  clear hu
  by_cases h0 : num = 0
  · have b0 : ((num : Int) == 0) = true := by rw [h0]; rfl
    have H2 := Lib.hid (rfl : (!no255 l) = (!no255 l))
    clear hg h0
    go_enter Try.func13, Try.ntmps13
    go_wp2_with (first
      | (go_at_call 22; refine (contains22 _ l _ (HS.out.fact (i := 0) rfl) (by omega)).mono ?_; rintro e Wn ⟨rfl, hb⟩; rw [H2.out]; have hS := HS.out.call hb; clear hb; clear HS; have HS := Lib.hid hS; clear hS))
    go_ret2
    exact ⟨rfl, HS.out.below⟩
  have b0 : ((num : Int) == 0) = false := beq_eq_false_iff_ne.2 (by omega)
  by_cases h1 : l = []
  · have b1 : ((l.length : Int) == 0) = true := by rw [h1]; rfl
    have H2 := Lib.hid (rfl : (!no255 l) = (!no255 l))
    clear hg h1
    go_enter Try.func13, Try.ntmps13
    go_wp2_with (first
      | (go_at_call 22; refine (contains22 _ l _ (HS.out.fact (i := 0) rfl) (by omega)).mono ?_; rintro e Wn ⟨rfl, hb⟩; rw [H2.out]; have hS := HS.out.call hb; clear hb; clear HS; have HS := Lib.hid hS; clear hS))
    go_ret2
    exact ⟨rfl, HS.out.below⟩
  have b1 : ((l.length : Int) == 0) = false := beq_eq_false_iff_ne.2 (fun e => h1 (List.eq_nil_of_length_eq_zero (by omega)))
  have H2 := Lib.hid (show (!no255 l) = true by rcases hg with h | h | h; exact absurd h h0; exact absurd h h1; rw [h]; rfl)
  clear hg h1
  go_enter Try.func13, Try.ntmps13
  go_wp2_with (first
    | (go_at_call 22; refine (contains22 _ l _ (HS.out.fact (i := 0) rfl) (by omega)).mono ?_; rintro e Wn ⟨rfl, hb⟩; rw [H2.out]; have hS := HS.out.call hb; clear hb; clear HS; have HS := Lib.hid hS; clear hS))
  go_ret2
  exact ⟨rfl, HS.out.below⟩
set_option maxHeartbeats 2000000 in
set_option maxRecDepth 100000 in
theorem seg13m (num : Nat) (A : Option Addr) (c : Nat) (l : List (Int × List UInt8)) (w : World) (hn : num < 18446744073709551616) (hu : RS w (.slice A l.length c) l) (hl : l.length ≤ 100000) (h0 : num ≠ 0) (h1 : l ≠ []) (h2 : no255 l = true) :
    Calls Try.prog 13 #[.int .u64 (num : Int), .slice A l.length c] w fun e w' => ∃ v', e = .returned (.tuple #[v', .int .i64 (segE num l)]) ∧ New w w' (Row v' 5 1 (segO num l).length (bs (segO num l))) := by
  have HS := Lib.hid ((St.start w).addF hu.away0)
  have b0 : ((num : Int) == 0) = false := beq_eq_false_iff_ne.2 (by omega)
  have b1 : ((l.length : Int) == 0) = false := beq_eq_false_iff_ne.2 (fun e => h1 (List.eq_nil_of_length_eq_zero (by omega)))
  have H2 := Lib.hid (show (!no255 l) = false by rw [h2]; rfl)
  have H0 := Lib.hid h0; have H1 := Lib.hid h1; have H2' := Lib.hid h2; have HU := Lib.hid hu
  clear hu h0 h1 h2
  go_enter Try.func13, Try.ntmps13
  go_wp2_with (first
    | (go_at_call 22; refine (contains22 _ l _ (HS.out.fact (i := 0) rfl) (by omega)).mono ?_; rintro e Wn ⟨rfl, hb⟩; rw [H2.out]; have hS := HS.out.call hb; clear hb; clear HS; have HS := Lib.hid hS; clear hS))
  refine (clone24 _ l _ (HS.out.fact (i := 0) rfl) (by omega)).mono ?_
  rintro e Wn ⟨v24, ys, rfl, hy1, hy2, hb⟩
  have hp0 : GPays ys _ := hy2
  have hyl : ys.length = l.length := by rw [← hy1, List.length_map]
  have hS := (HS.out.addF hp0.away0).take hb
  rw [hyl] at hS
  clear hb hp0 hy2 HS
  have HS := Lib.hid hS
  have HY1 := Lib.hid hy1; have HYL := Lib.hid hyl
  clear hS hy1 hyl
  go_wp2_with (first
    | (go_at_call 25; refine (marker25 num l.length _ hn (by omega)).mono ?_; rintro e Wn ⟨A28, c28, rfl, hb⟩; have hS := HS.out.take hb; clear hb; clear HS; have HS := Lib.hid hS; clear hS)
    | (refine wl (by rfl) (s_bs (E := 48) (z := .agg #[.int .i64 0, .slice none 0 0]) HS.out 1 2 [.int .i64 255, .slice A28 12 c28] (by rfl) Try.underlying37 (by kernel_rfl) (by rfl) (by decide) (by decide) (by kernel_rfl) (by rfl) (by decide) ?_); intro b29 Wn hS; clear HS; have HS := Lib.hid hS; clear hS)
    | (refine atd 30 (by rfl) ?_; refine wl (by rfl) (s_rows (size := 2) (bytes := 32) (z := .agg #[.int .i64 0, .slice none 0 0]) HS.out 2 0 (by rfl) Try.underlying37 (by kernel_rfl) (by rfl) (by decide) (by rfl) (by rfl) (by rfl) (by rfl) (by intro v hv; simp at hv; rcases hv with rfl | rfl <;> rfl) (by omega) (by omega) ?_); intro v30 Wn hS; clear HS; have HS := Lib.hid hS; clear hS; obtain ⟨A30, c30, rfl⟩ := Row.sl (HS.out.res (i := 2) rfl)))
  have hrs : RS Wn (.slice A30 (l.length + 1) c30) (segL num l) := by
    have h1 := HS.out.res (i := 2) rfl
    have h2 : GPays (ys ++ [(255, .slice A28 12 c28, le 8 num ++ le 4 l.length)]) Wn := fun x hx => by
      rcases List.mem_append.1 hx with hx | hx
      · exact HS.out.fact (i := 0) rfl x hx
      · simp at hx
        subst hx
        have h3 := HS.out.res (i := 1) rfl
        exact Row.hb (l := le 8 num ++ le 4 l.length) (by rw [show (le 8 num ++ le 4 l.length).length = 12 by simp [le_length]]; exact h3)
    have h4 := RS.of_g (ys := ys ++ [(255, .slice A28 12 c28, le 8 num ++ le 4 l.length)]) (by rw [gcells_snoc, List.length_append, HYL.out]; exact h1) h2
    have e : (ys ++ [((255 : Int), Value.slice A28 12 c28, le 8 num ++ le 4 l.length)]).map gkp = segL num l := by
      rw [List.map_append, HY1.out]
      rfl
    rw [e] at h4
    exact h4
  have hS := ((St.start w).call HS.out.below).addF hrs.away0
  clear hrs HS
  have HS := Lib.hid hS
  clear hS
  have hML : (segL num l).length = l.length + 1 := by simp [segL]
  have HML := Lib.hid hML
  clear hML
  have HMD := Lib.hid (show segE num l = if segOk num l then 0 else 170 from rfl)
  have hno : ∀ W, Below w.heap.size w W → segOk num l = false → ∃ v', Ending.returned (.tuple #[.slice none 0 0, .int .i64 170]) = .returned (.tuple #[v', .int .i64 (segE num l)]) ∧ New w W (Row v' 5 1 (segO num l).length (bs (segO num l))) := fun W hb h => by
    unfold segE segO
    rw [h]
    exact ⟨_, rfl, New.row (World.ownsRow_nil _ _ _ _) hb⟩
  have HNO := Lib.hid hno
  clear hno
  go_loopw [6, 33] (fun s6 s33 wr => ∃ (i z : Nat), i ≤ l.length + 1 ∧ s33 = .int .i64 (i : Int) ∧ s6 = .int .i64 (z : Int) ∧ z = (encL ((segL num l).take i)).length ∧ okL ((segL num l).take i) = true ∧ z ≤ 1500000 ∧ St w wr [] [fun V => RS V (.slice A30 (l.length + 1) c30) (segL num l)]) (fun _ s33 _ => l.length + 1 - (intOf s33).toNat)
  case atStart => exact ⟨0, 0, by omega, rfl, rfl, rfl, rfl, by omega, HS.out⟩
  case round =>
    obtain ⟨i, z, hi, rfl, rfl, hz, hok, hz2, hs⟩ := hrel
    have HZ := Lib.hid hz; have HOK := Lib.hid hok
    clear HS
    clear hz hok
    have HU2 := Lib.hid (hs.fact (i := 0) rfl)
    by_cases hlt : i < l.length + 1
    · have hli : (segL num l)[i]? = some ((segL num l)[i]'(by rw [HML.out]; exact hlt)) := List.getElem?_eq_getElem (by rw [HML.out]; exact hlt)
      obtain ⟨bb, o, pv, rfl, c1, c2, hbp⟩ := HU2.out.get (i := i) (by rw [HML.out]; exact hlt)
      generalize (segL num l)[i]'(by rw [HML.out]; exact hlt) = x at *
      obtain ⟨k, p⟩ := x
      dsimp only at c1 c2 hbp
      obtain ⟨Ap, cp, rfl, hpc⟩ := hbp.shape
      have hr1 : Away (Keys []) (fun V => V.rangeAt bb (o + i * 2) [.int .i64 k, .slice Ap p.length cp]) wr := range_away0 (range2 c1 c2)
      have HLI := Lib.hid hli
      have j1 : (i : Int) < (l.length : Int) + 1 := by omega
      have HS := Lib.hid ((hs.addF hbp.away0).addF hr1)
      clear hli c1 c2 hbp hr1 hs
      have hnx := encL_next _ HLI.out
      have htk := take_snoc _ i _ HLI.out
      have hzn : (encL ((segL num l).take (i + 1))).length = z + 13 + p.length := by rw [hnx, ← HZ.out]
      have HZN := Lib.hid hzn
      have hall := encL_take_le (segL num l) (i + 1)
      rw [hzn] at hall
      have HALL := Lib.hid hall
      clear hnx hzn hall
      cases hc : chkB k p.length with
      | false =>
        have HC := Lib.hid hc
        have hbad : segOk num l = false := segOk_no (.inl (okL_take HLI.out hc))
        have HB2 := Lib.hid hbad
        clear hc hbad htk
        go_wp2_with (first
          | (refine atd 36 (by rfl) ?_; refine wl (by rfl) (wp_of_run (run_lda (n := 2) (cs := [.int .i64 k, .slice Ap p.length cp]) ag25 (by rfl) (by rfl) (HS.out.fact (i := 0) rfl) (by rfl)) ?_))
          | (refine atd 9 (by rfl) ?_; refine wl (by rfl) (s_al HS.out (by rfl) z25 (by rfl) ?_); intro b9 Wn hS; clear HS; have HS := Lib.hid hS; clear hS)
          | (refine sto 9 (by rfl) ?_; refine wl (by rfl) (s_sta (cs := [.int .i64 k, .slice Ap p.length cp]) HS.out 0 2 (by rfl) (by rfl) (by rfl) ag25 (by rfl) (by rfl) (by intro v hv; simp at hv; rcases hv with rfl | rfl <;> rfl) (by decide) ?_); intro Wn hS; clear HS; have HS := Lib.hid hS; clear hS)
          | (refine atd 37 (by rfl) ?_; refine wl (by rfl) (s_lda (cs := [.int .i64 k, .slice Ap p.length cp]) HS.out 0 2 (by rfl) (by rfl) (by rfl) ag25 (by rfl) (by rfl) ?_))
          | (go_at_call 26; refine (check23 k (.slice Ap p.length cp) p _ (HS.out.fact (i := 1) rfl)).mono ?_; rintro e Wn ⟨rfl, hb⟩; rw [HC.out]; have hS := HS.out.call hb; clear hb; clear HS; have HS := Lib.hid hS; clear hS)
          | (refine atd 42 (by rfl) ?_; refine wl (by rfl) (s_ld HS.out 0 (by rfl) (by rfl) (by rfl) (by kernel_rfl) (by rfl) ?_)))
        go_ret2
        exact HNO.out _ HS.out.below HB2.out
      | true =>
        have HC := Lib.hid hc
        have hp2 : p.length ≤ 200000 := (of_decide_eq_true hc).2.2
        have hokn : okL ((segL num l).take (i + 1)) = true := by
          rw [htk]
          have := HOK.out
          unfold okL at this ⊢
          rw [List.all_append, this]
          simp [hc]
        have HOKN := Lib.hid hokn
        clear hc hokn htk
        by_cases hbig : 1500000 < z + 13 + p.length
        · have d1 : decide ((1500000 : Int) < (z : Int) + (13 + (p.length : Int))) = true := decide_eq_true (by omega)
          have hbad : segOk num l = false := segOk_no (.inr (by have := HALL.out; omega))
          have HB2 := Lib.hid hbad
          clear hbad
          go_wp2_with (first
            | (refine atd 36 (by rfl) ?_; refine wl (by rfl) (wp_of_run (run_lda (n := 2) (cs := [.int .i64 k, .slice Ap p.length cp]) ag25 (by rfl) (by rfl) (HS.out.fact (i := 0) rfl) (by rfl)) ?_))
            | (refine atd 9 (by rfl) ?_; refine wl (by rfl) (s_al HS.out (by rfl) z25 (by rfl) ?_); intro b9 Wn hS; clear HS; have HS := Lib.hid hS; clear hS)
            | (refine sto 9 (by rfl) ?_; refine wl (by rfl) (s_sta (cs := [.int .i64 k, .slice Ap p.length cp]) HS.out 0 2 (by rfl) (by rfl) (by rfl) ag25 (by rfl) (by rfl) (by intro v hv; simp at hv; rcases hv with rfl | rfl <;> rfl) (by decide) ?_); intro Wn hS; clear HS; have HS := Lib.hid hS; clear hS)
            | (refine atd 37 (by rfl) ?_; refine wl (by rfl) (s_lda (cs := [.int .i64 k, .slice Ap p.length cp]) HS.out 0 2 (by rfl) (by rfl) (by rfl) ag25 (by rfl) (by rfl) ?_))
            | (go_at_call 26; refine (check23 k (.slice Ap p.length cp) p _ (HS.out.fact (i := 1) rfl)).mono ?_; rintro e Wn ⟨rfl, hb⟩; rw [HC.out]; have hS := HS.out.call hb; clear hb; clear HS; have HS := Lib.hid hS; clear hS)
            | (refine atd 42 (by rfl) ?_; refine wl (by rfl) (s_ld HS.out 0 (by rfl) (by rfl) (by rfl) (by kernel_rfl) (by rfl) ?_)))
          go_ret2
          exact HNO.out _ HS.out.below HB2.out
        · have d1 : decide ((1500000 : Int) < (z : Int) + (13 + (p.length : Int))) = false := decide_eq_false (by omega)
          go_wp2_with (first
            | (refine atd 36 (by rfl) ?_; refine wl (by rfl) (wp_of_run (run_lda (n := 2) (cs := [.int .i64 k, .slice Ap p.length cp]) ag25 (by rfl) (by rfl) (HS.out.fact (i := 0) rfl) (by rfl)) ?_))
            | (refine atd 9 (by rfl) ?_; refine wl (by rfl) (s_al HS.out (by rfl) z25 (by rfl) ?_); intro b9 Wn hS; clear HS; have HS := Lib.hid hS; clear hS)
            | (refine sto 9 (by rfl) ?_; refine wl (by rfl) (s_sta (cs := [.int .i64 k, .slice Ap p.length cp]) HS.out 0 2 (by rfl) (by rfl) (by rfl) ag25 (by rfl) (by rfl) (by intro v hv; simp at hv; rcases hv with rfl | rfl <;> rfl) (by decide) ?_); intro Wn hS; clear HS; have HS := Lib.hid hS; clear hS)
            | (refine atd 37 (by rfl) ?_; refine wl (by rfl) (s_lda (cs := [.int .i64 k, .slice Ap p.length cp]) HS.out 0 2 (by rfl) (by rfl) (by rfl) ag25 (by rfl) (by rfl) ?_))
            | (go_at_call 26; refine (check23 k (.slice Ap p.length cp) p _ (HS.out.fact (i := 1) rfl)).mono ?_; rintro e Wn ⟨rfl, hb⟩; rw [HC.out]; have hS := HS.out.call hb; clear hb; clear HS; have HS := Lib.hid hS; clear hS)
            | (refine atd 42 (by rfl) ?_; refine wl (by rfl) (s_ld HS.out 0 (by rfl) (by rfl) (by rfl) (by kernel_rfl) (by rfl) ?_)))
          exact ⟨⟨i + 1, z + 13 + p.length, by omega, by push_cast; rfl, (by exact congrArg (Value.int .i64) (by omega)), HZN.out.symm, HOKN.out, by omega, (HS.out.sub 0).dropF (fun G hG => List.mem_cons_of_mem _ (List.mem_cons_of_mem _ hG))⟩, by simp [intOf]; omega⟩
    · have j1 : ¬ (i : Int) < (l.length : Int) + 1 := by omega
      have hiN : i = l.length + 1 := by omega
      have htk : (segL num l).take i = segL num l := List.take_of_length_le (by rw [HML.out]; omega)
      have hok := HOK.out
      rw [htk] at hok
      have hyes : segOk num l = true := segOk_yes H0.out H1.out H2'.out hok (by have := HZ.out; rw [htk] at this; omega)
      have hE : encE (segL num l) = 0 := by unfold encE; rw [hok]; rfl
      have hO : encO (segL num l) = encL (segL num l) := by unfold encO; rw [hok]; rfl
      have HE := Lib.hid hE; have HO := Lib.hid hO; have HYES := Lib.hid hyes
      have HS := Lib.hid hs
      clear hs hE hO hyes hok htk
      go_wp2_with (first
        | (go_at_call 27; refine (enc20 _ (segL num l) _ (HS.out.fact (i := 0) rfl) (by rw [HML.out]; omega)).mono ?_; rintro e Wn ⟨v50, rfl, hb⟩; rw [HE.out]; rw [HO.out] at hb; have hS := HS.out.take hb; clear hb; clear HS; have HS := Lib.hid hS; clear hS))
      go_ret2
      unfold segE segO
      rw [HYES.out]
      exact ⟨_, rfl, HS.out.give 0 rfl⟩
theorem seg13 (num : Nat) (u : Value) (l : List (Int × List UInt8)) (w : World) (hn : num < 18446744073709551616) (hu : RS w u l) (hl : l.length ≤ 100000) :
    Calls Try.prog 13 #[.int .u64 (num : Int), u] w fun e w' => ∃ v', e = .returned (.tuple #[v', .int .i64 (segE num l)]) ∧ New w w' (Row v' 5 1 (segO num l).length (bs (segO num l))) := by
  obtain ⟨A, c, rfl, _⟩ := hu.shape
  by_cases hg : num = 0 ∨ l = [] ∨ no255 l = false
  · refine (seg13g num A c l w hn hu hl hg).mono ?_
    rintro e w' ⟨rfl, hb⟩
    have hs : segOk num l = false := by
      cases h : segOk num l with
      | false => rfl
      | true =>
        obtain ⟨h1, h2, h3, _⟩ := segOk_iff.1 h
        rcases hg with hg | hg | hg
        · exact absurd hg h1
        · exact absurd hg h2
        · rw [hg] at h3; cases h3
    unfold segE segO
    rw [hs]
    exact ⟨_, rfl, New.row (World.ownsRow_nil _ _ _ _) hb⟩
  · exact seg13m num A c l w hn hu hl (fun h => hg (.inl h)) (fun h => hg (.inr (.inl h))) (by cases h : no255 l; exact absurd (.inr (.inr h)) hg; rfl)
end
section
open Go Go.RowKit Go.Proofs
/-! A loop over a function that has two variables of its own, made when it starts. -/
structure TurnsH (T : TypeId) (c : Nat × Nat) (A B : World) : Prop where
  same : Same (fun k => k = c.1 ∨ k = c.2) A B
  oth : KeepsOthers A B
  side : B.os = A.os ∧ B.tape = A.tape ∧ B.output = A.output
  one : ∃ i : Int, B.heap[c.1]? = some (.cells #[.int .i64 i] 3 (0, 0))
  two : ∃ u : Value, B.heap[c.2]? = some (.cells #[u] T (0, 0))
def BearsH {α : Type} (T : TypeId) (J : Nat × Nat → List α → World → Prop) : Prop := ∀ c s A B, J c s A → TurnsH T c A B → J c s B
/-- The two variables at the start. -/
structure InitH (T : TypeId) (c : Nat × Nat) (W W1 : World) : Prop where
  below : Below W.heap.size W W1
  ge1 : W.heap.size ≤ c.1
  ge2 : W.heap.size ≤ c.2
  ne : c.1 ≠ c.2
  one : W1.heap[c.1]? = some (.cells #[.int .i64 0] 3 (0, 0))
  two : W1.heap[c.2]? = some (.cells #[.slice none 0 0] T (0, 0))
def SeqH {α : Type} (F : Fence) (n : Nat) (P : Program) (g : Nat) (lb : Array Value) (encs : α → Array Value) (Kp : World → World → Prop) (Kc : Nat × Nat → World → World → Prop) (T : TypeId) (R : α → World → World → Prop) (E : List α → Prop) (Nx : List α → α → Prop) (w : World) : Prop :=
  ∀ (l : Nat) (J Jx : Nat × Nat → List α → World → Prop) (W : World), Kp w W → Below w.heap.size w W → BearsH T J → BearsH T Jx →
    (∀ c pre x W0 W1, W.heap.size ≤ c.1 → W.heap.size ≤ c.2 → J c pre W0 → TurnsH T c W0 W1 → R x W0 W1 → Nx pre x → YieldAt F (n - 1) P l (encs x) W1 fun e W' =>
      (e = .returned (.bool true) ∧ J c (pre ++ [x]) W' ∧ Kc c W1 W') ∨ (e = .returned (.bool false) ∧ Jx c (pre ++ [x]) W' ∧ Kc c W1 W')) →
    (∀ c W1, InitH T c W W1 → J c [] W1) →
    CallsIn F n P g (#[.func (.yield l) #[] #[]] ++ lb) W fun e W' => (∃ v, e = .returned v) ∧ ∃ c, ((∃ xs, E xs ∧ J c xs W') ∨ (∃ pre, Jx c pre W'))
theorem Books.bearH {B : Nat} {T : TypeId} {c : Nat × Nat} {r : Loop} {W W' : World} (h : Books B r W) (ht : TurnsH T c W W') : Books B r W' :=
  ⟨ht.oth.same _ _ h.1 rfl, ht.oth.same _ _ h.2 rfl⟩
theorem Books.below {B : Nat} {r : Loop} {W W' : World} (h : Books B r W) (hb : Below W.heap.size W W') : Books B r W' :=
  ⟨(hb.block _ (Array.getElem?_eq_some_iff.1 h.1).1).trans h.1, (hb.block _ (Array.getElem?_eq_some_iff.1 h.2).1).trans h.2⟩
variable {F : Fence} {n : Nat} {P : Program}
theorem wpIn_range_H {α : Type} {g : Operand} {ps : Array Tmp} {assign body : Code} {Q : Exit → Act → World → Prop} {a : Act} {w : World}
    (hro : F.round = none) (h1 : 1 ≤ n) {gf : Nat} {lb : Array Value} (hg : a.eval g = .func (.func gf) #[] lb) (hFg : F.fn gf) (eg : ∀ args w, (callFunc gf args).run P w = .ok (.enter gf args) w)
    {encs : α → Array Value} {Kp : World → World → Prop} {Kc : Nat × Nat → World → World → Prop} {T : TypeId} {R : α → World → World → Prop} {E : List α → Prop} {Nx : List α → α → Prop} {w0 : World} (hseq : SeqH F (n - 1) P gf lb encs Kp Kc T R E Nx w0) (hk0 : Kp w0 w) (hKa : ∀ (W : World) (o : Obj), w.heap.size ≤ W.heap.size → Kp W (W.alloc o))
    (hKt : ∀ {A B C : World}, Kp A B → Kp B C → Kp A C) (hKct : ∀ {c A B C}, Kc c A B → Kc c B C → Kc c A C) (hKcb : ∀ (c : Nat × Nat) (W : World) (o' : Obj), w.heap.size + 2 ≤ c.1 → w.heap.size + 2 ≤ c.2 → Kc c W (W.putObj (w.heap.size + 1) o')) (hb0 : Below w0.heap.size w0 w) (hps : ∀ x, (encs x).size = ps.size)
    (I0 : World → Prop) (hI0 : OwnFrom w.heap.size (fun (_ : Unit) W => I0 W)) (h0 : I0 w) (I : Nat × Nat → List α → World → Prop) (Ix : Code → Nat × Nat → List α → World → Prop) (hI : ∀ q, OwnFrom w.heap.size (I q)) (hIx : ∀ c q, OwnFrom w.heap.size (Ix c q)) (hIb : BearsH T I) (hIxb : ∀ c, BearsH T (Ix c)) (hI1 : ∀ q W W1, I0 W → w.heap.size + 2 ≤ W.heap.size → InitH T q W W1 → I q [] W1)
    (Ax : Nat × Nat → List α → α → Act → World → Prop) (hAx : ∀ q pre x a', OwnFrom w.heap.size (fun (_ : Unit) W => Ax q pre x a' W))
    (hassign : ∀ (l : Nat) (q : Nat × Nat) (pre : List α) (x : α) (W0 W : World) (K : Act → World → Prop), w.heap.size + 2 ≤ q.1 → w.heap.size + 2 ≤ q.2 → I q pre W0 → TurnsH T q W0 W → R x W0 W → Nx pre x → (∀ a' W', KeepsFrom w.heap.size W W' → Kc q W W' → I q pre W' → Ax q pre x a' W' → K a' W') →
      assign.wpIn (F.inRound l) (n - 1 - 1) P (Exit.then K (fun _ _ _ => False)) { tmps := (ps.zip (encs x)).foldl (fun t (p, v) => t.setIfInBounds p v) a.tmps, defers := [] } W)
    (hbody : ∀ (l : Nat) (q : Nat × Nat) (pre : List α) (x : α) (a' : Act) (W : World), w.heap.size + 2 ≤ q.1 → w.heap.size + 2 ≤ q.2 → I q pre W → Ax q pre x a' W → Nx pre x → body.wpIn (F.inRound l) (n - 1 - 1) P (fun e _ W' => KeepsFrom w.heap.size W W' ∧ Kc q W W' ∧
      match e with
      | .normal => I q (pre ++ [x]) W'
      | .ret => Ix .ret q (pre ++ [x]) W'
      | .exit id => Ix (.exit id) q (pre ++ [x]) W'
      | .goto t => Ix (.goto t) q (pre ++ [x]) W'
      | .panic _ => False
      | .outgrown => False) a' W)
    (hdone : ∀ (D : Nat) (q : Nat × Nat) (xs : List α) (W : World), w.heap.size ≤ D → E xs → I q xs W → W.heap[D]? = some (.deferred (some [])) → Q .normal { a with defers := { target := .collected D, args := #[] } :: a.defers } W)
    (hstop : ∀ (D : Nat) (c : Code) (q : Nat × Nat) (pre : List α) (W : World), w.heap.size ≤ D → Ix c q pre W → W.heap[D]? = some (.deferred (some [])) → c.wpIn F n P Q { a with defers := { target := .collected D, args := #[] } :: a.defers } W) :
    (Code.rangeFunc g ps assign body).wpIn F n P Q a w := by
  refine wpIn_rangeFunc fun fn hfn => ?_
  rw [hro]
  -- the record, by its state and its jump
  let Rc : LoopState → Option Code → Loop := fun st pe => { state := st, pending := pe, fn, tmps := a.tmps, params := ps, assign, body, defers := w.heap.size }
  let V := (w.alloc (.deferred (some []))).alloc (.loop (Rc .ready none))
  have hVs : V.heap.size = w.heap.size + 2 := by simp [V]
  have hbk : Books w.heap.size (Rc .ready none) V := by
    refine ⟨?_, ?_⟩
    · have := World.alloc_heap_new (w.alloc (.deferred (some []))) (.loop (Rc .ready none)); rwa [World.size_alloc] at this
    · exact (Below.heap_alloc _ _ _ (by simp)).trans (World.alloc_heap_new w _)
  have hIV : I0 V := hI0.alloc (s := ()) _ (hI0.alloc (s := ()) _ h0)
  have hbV : Below w0.heap.size w0 V := hb0.trans ((((Below.refl _ w).alloc (Nat.le_refl _) _).alloc (by simp) _).mono hb0.size)
  have hkV : Kp w0 V := hKt hk0 (hKt (hKa w _ (Nat.le_refl _)) (hKa _ _ (by simp)))
  have enter : (Instr.enterLoop fn a.tmps ps assign body none).run P w = .ok (w.heap.size + 1, [{ target := .collected w.heap.size, args := #[] }]) V := run_enterLoop_outer _ _ _ _ _
  refine ⟨_, _, V, { target := .fn (.func gf) lb, args := #[.func (.yield (w.heap.size + 1)) #[] #[]] }, V, gf, #[.func (.yield (w.heap.size + 1)) #[] #[]] ++ lb, V, enter, ?_, ?_, ?_, fun _ => h1, ?_⟩
  · simp only [resolve, hg]
    simp [go_sem]
  · intro f' hf'
    simp [Target.leads] at hf'
    subst hf'
    exact hFg
  · simp [invoke, go_sem, eg]
  have call := hseq (w.heap.size + 1) (fun q pre W => (I q pre W ∧ Books w.heap.size (Rc .ready none) W) ∧ w.heap.size + 2 ≤ q.1 ∧ w.heap.size + 2 ≤ q.2) (fun q pre W => (∃ c, Ix c q pre W ∧ Books w.heap.size (Rc .done (some c)) W) ∧ w.heap.size + 2 ≤ q.1 ∧ w.heap.size + 2 ≤ q.2) V hkV hbV
    (fun q s A B hs ht => ⟨⟨hIb q s A B hs.1.1 ht, hs.1.2.bearH ht⟩, hs.2⟩)
    (fun q s A B hs ht => ⟨⟨hs.1.choose, hIxb _ q s A B hs.1.choose_spec.1 ht, hs.1.choose_spec.2.bearH ht⟩, hs.2⟩)
    (by
      rintro q pre x W0 W _ _ ⟨⟨hi, hbk⟩, hq1, hq2⟩ hT hR hlen
      replace hbk := hbk.bearH hT
      refine ⟨fn, _, assign, body, run_yield (r := Rc .ready none) hbk.1 (hps x), roundIn_of_wpIn hfn (hassign _ q pre x W0 W _ hq1 hq2 hi hT hR hlen ?_)⟩
      intro a' W2 kf2 kp2 hi2 hax
      have hbk2 := hbk.kept kf2
      refine ⟨_, run_beginRound (r := Rc .ready none) hbk2.1 rfl, ?_⟩
      have kp3 := hKcb q W2 (.loop (Rc .busy none)) hq1 hq2
      have hbk3 : Books w.heap.size (Rc .busy none) (W2.putObj (w.heap.size + 1) (.loop (Rc .busy none))) := hbk2.turn
      refine wpIn_mono (hbody _ q pre x a' _ hq1 hq2 ((hI q).putObj (.loop (Rc .busy none)) hi2 (by omega) hbk2.1 rfl) ((hAx q pre x a').putObj (s := ()) (.loop (Rc .busy none)) hax (by omega) hbk2.1 rfl) hlen) ?_
      rintro e a3 W3 ⟨kf4, kp4, hp⟩
      have hbk4 := hbk3.kept kf4
      have kp5 : ∀ r, Kc q W (W3.putObj (w.heap.size + 1) (.loop r)) := fun r => hKct kp2 (hKct kp3 (hKct kp4 (hKcb _ _ _ hq1 hq2)))
      cases e with
      | normal => exact ⟨_, _, run_endRound none hbk4.1, .inl ⟨rfl, ⟨⟨(hI q).putObj _ hp (by omega) hbk4.1 rfl, hbk4.turn⟩, hq1, hq2⟩, kp5 _⟩⟩
      | ret => exact ⟨_, _, run_endRound (some .ret) hbk4.1, .inr ⟨rfl, ⟨⟨.ret, (hIx _ q).putObj _ hp (by omega) hbk4.1 rfl, hbk4.turn⟩, hq1, hq2⟩, kp5 _⟩⟩
      | exit id => exact ⟨_, _, run_endRound (some (.exit id)) hbk4.1, .inr ⟨rfl, ⟨⟨.exit id, (hIx _ q).putObj _ hp (by omega) hbk4.1 rfl, hbk4.turn⟩, hq1, hq2⟩, kp5 _⟩⟩
      | goto t => exact ⟨_, _, run_endRound (some (.goto t)) hbk4.1, .inr ⟨rfl, ⟨⟨.goto t, (hIx _ q).putObj _ hp (by omega) hbk4.1 rfl, hbk4.turn⟩, hq1, hq2⟩, kp5 _⟩⟩
      | panic _ => exact hp.elim
      | outgrown => exact hp.elim)
    (fun q W1 hi => ⟨⟨hI1 q V W1 hIV (by omega) hi, hbk.below hi.below⟩, by have := hi.ge1; omega, by have := hi.ge2; omega⟩)
  refine call.mono ?_
  rintro e W' ⟨⟨v, rfl⟩, q, hend⟩
  rcases hend with ⟨xs, hex, ⟨hi, hbk'⟩, _⟩ | ⟨pre, ⟨c, hi, hbk'⟩, _⟩
  · refine ⟨none, _, run_endLoop (r := Rc .ready none) hbk'.1 (by simp [Rc]), ?_⟩
    exact hdone _ q xs _ (Nat.le_refl _) hex ((hI q).putObj _ hi (by omega) hbk'.1 rfl) ((World.putObj_heap_other (by omega)).trans hbk'.2)
  · refine ⟨some c, _, run_endLoop (r := Rc .done (some c)) hbk'.1 (by simp [Rc]), ?_⟩
    exact hstop _ c q pre _ (Nat.le_refl _) ((hIx c q).putObj _ hi (by omega) hbk'.1 rfl) ((World.putObj_heap_other (by omega)).trans hbk'.2)
/-- What is in parts, when the two variables are turned. -/
theorem St.turnH {w W W' : World} {L : List Res} {Fs : List (World → Prop)} {T : TypeId} {c : Nat × Nat} (h : St w W L Fs) {i1 i2 : Nat} {l1 l2 : List Value} (h1 : L[i1]? = some (Blk c.1 l1 3)) (h2 : L[i2]? = some (Blk c.2 l2 T)) (hi : i1 ≠ i2) (ht : TurnsH T c W W') : ∃ i u, St w W' ((L.set i1 (Blk c.1 [.int .i64 i] 3)).set i2 (Blk c.2 [u] T)) Fs := by
  obtain ⟨hs, ho, ⟨o1, o2, o3⟩, ⟨i, e1⟩, u, e2⟩ := ht
  have k1 : w.heap.size ≤ c.1 := ((h.own _ (List.mem_of_getElem? h1)).2 c.1 (by simp [Blk])).1
  have k2 : w.heap.size ≤ c.2 := ((h.own _ (List.mem_of_getElem? h2)).2 c.2 (by simp [Blk])).1
  have hne : c.1 ≠ c.2 := fun e => h.apart i1 i2 _ _ h1 h2 hi c.1 (by simp [Blk]) (by simp [Blk, e])
  have keep : ∀ k, k ≠ c.1 → k ≠ c.2 → k < W.heap.size → W'.heap[k]? = W.heap[k]? := fun k q1 q2 hk => by
    have e : W.heap[k]? = some W.heap[k] := Array.getElem?_eq_getElem hk
    rw [e]
    cases hc : W.heap[k].isCells with
    | true => exact hs.blk k _ (fun h => by rcases h with h | h; exact q1 h; exact q2 h) e hc
    | false => exact ho.same k _ e hc
  have hb : Below w.heap.size w W' := ⟨o1.trans h.below.os, o2.trans h.below.tape, o3.trans h.below.output, Nat.le_trans h.below.size ho.size, fun k hk => (keep k (by omega) (by omega) (Nat.lt_of_lt_of_le hk h.below.size)).trans (h.below.block k hk)⟩
  have hl1 := (List.getElem?_eq_some_iff.1 h1).1
  have hl2 := (List.getElem?_eq_some_iff.1 h2).1
  refine ⟨i, u, hb, ?_, ?_, ?_⟩
  · intro r hr
    obtain ⟨j, hj⟩ := List.mem_iff_getElem?.1 hr
    by_cases q2 : i2 = j
    · subst q2
      rw [List.getElem?_set_self (by simpa using hl2)] at hj
      injection hj with hj
      subst hj
      exact ⟨e2, fun k hk => by simp [Blk] at hk; subst hk; exact ⟨k2, blk_lt e2⟩⟩
    · rw [List.getElem?_set_ne q2] at hj
      by_cases q1 : i1 = j
      · subst q1
        rw [List.getElem?_set_self hl1] at hj
        injection hj with hj
        subst hj
        exact ⟨e1, fun k hk => by simp [Blk] at hk; subst hk; exact ⟨k1, blk_lt e1⟩⟩
      · rw [List.getElem?_set_ne q1] at hj
        have ho' := h.own r (List.mem_of_getElem? hj)
        refine ⟨r.loc W W' (fun k hk => keep k (fun e => h.apart j i1 r _ hj h1 (fun e => q1 e.symm) k hk (by simp [Blk, e])) (fun e => h.apart j i2 r _ hj h2 (fun e => q2 e.symm) k hk (by simp [Blk, e])) (ho'.2 k hk).2) ho'.1, fun k hk => ⟨(ho'.2 k hk).1, Nat.lt_of_lt_of_le (ho'.2 k hk).2 ho.size⟩⟩
  · have fp : ∀ (j : Nat) (r : Res), ((L.set i1 (Blk c.1 [.int .i64 i] 3)).set i2 (Blk c.2 [u] T))[j]? = some r → ∃ r', L[j]? = some r' ∧ r'.fp = r.fp := fun j r hj => by
      by_cases q2 : i2 = j
      · subst q2
        rw [List.getElem?_set_self (by simpa using hl2)] at hj
        injection hj with hj
        subst hj
        exact ⟨_, h2, rfl⟩
      · rw [List.getElem?_set_ne q2] at hj
        by_cases q1 : i1 = j
        · subst q1
          rw [List.getElem?_set_self hl1] at hj
          injection hj with hj
          subst hj
          exact ⟨_, h1, rfl⟩
        · rw [List.getElem?_set_ne q1] at hj
          exact ⟨r, hj, rfl⟩
    intro a b r s ha hb' hab k hk
    obtain ⟨r', g1, g2⟩ := fp a r ha
    obtain ⟨s', g3, g4⟩ := fp b s hb'
    rw [← g2] at hk
    rw [← g4]
    exact h.apart a b r' s' g1 g3 hab k hk
  · intro F hF W'' hs'
    refine h.facts F hF W'' ⟨Nat.le_trans ho.size hs'.size, fun k o hn hk hc => ?_⟩
    have hk' := (Array.getElem?_eq_some_iff.1 hk).1
    have n1 : k ≠ c.1 := fun e => hn ⟨_, List.mem_of_getElem? h1, by simp [Blk, e]⟩
    have n2 : k ≠ c.2 := fun e => hn ⟨_, List.mem_of_getElem? h2, by simp [Blk, e]⟩
    refine hs'.blk k o ?_ ((keep k n1 n2 hk').trans hk) hc
    rintro ⟨r, hr, hm⟩
    obtain ⟨j, hj⟩ := List.mem_iff_getElem?.1 hr
    by_cases q2 : i2 = j
    · subst q2
      rw [List.getElem?_set_self (by simpa using hl2)] at hj
      injection hj with hj
      subst hj
      simp [Blk] at hm
      exact n2 hm
    · rw [List.getElem?_set_ne q2] at hj
      by_cases q1 : i1 = j
      · subst q1
        rw [List.getElem?_set_self hl1] at hj
        injection hj with hj
        subst hj
        simp [Blk] at hm
        exact n1 hm
      · rw [List.getElem?_set_ne q1] at hj
        exact hn ⟨r, List.mem_of_getElem? hj, hm⟩
/-- A world's first blocks. -/
def World.cut (W : World) (m : Nat) : World := { W with heap := W.heap.take m }
theorem St.cut {W : World} {m : Nat} (hm : m ≤ W.heap.size) : St (World.cut W m) W [] [] := by
  have hz : (World.cut W m).heap.size = m := by simp [World.cut]; omega
  refine ⟨⟨rfl, rfl, rfl, by rw [hz]; exact hm, fun k hk => ?_⟩, (fun _ h => by cases h), (fun i j r s h => by simp at h), (fun _ h => by cases h)⟩
  rw [hz] at hk
  show W.heap[k]? = (W.heap.extract 0 m)[k]?
  rw [Array.getElem?_extract, if_pos (by omega), Nat.zero_add]
theorem St.adopt {w W : World} {L : List Res} (h : St w W L []) {b : Nat} {l : List Value} {T : TypeId} (hb : W.heap[b]? = some (.cells l.toArray T (0, 0))) (hge : w.heap.size ≤ b) (hn : ¬ Keys L b) : St w W (Blk b l T :: L) [] := by
  refine ⟨h.below, ?_, ?_, (fun _ h => by cases h)⟩
  · intro r hr
    rcases List.mem_cons.1 hr with rfl | hr
    · exact ⟨hb, fun k hk => by simp [Blk] at hk; subst hk; exact ⟨hge, blk_lt hb⟩⟩
    · exact h.own r hr
  · intro i j r s hi hj hij k hk hk'
    cases i with
    | zero =>
      simp at hi; subst hi
      simp [Blk] at hk; subst hk
      cases j with
      | zero => exact hij rfl
      | succ j => exact hn ⟨s, List.mem_of_getElem? (by simpa using hj), hk'⟩
    | succ i =>
      cases j with
      | zero =>
        simp at hj; subst hj
        simp [Blk] at hk'; subst hk'
        exact hn ⟨r, List.mem_of_getElem? (by simpa using hi), hk⟩
      | succ j => exact h.apart i j r s (by simpa using hi) (by simpa using hj) (by omega) k hk hk'
end
end Go.Proofs.Ytakeggdpnfibpaa
