/- Contracts and words that the laws stand on (RecF). -/
import Derived.Test.YtakeggdpnfibpaaRecE
set_option linter.unusedVariables false
set_option linter.unusedSimpArgs false
namespace Go.Proofs.Ytakeggdpnfibpaa
section
open Go Go.RowKit Go.Proofs
attribute [local go_sem] Oper.semAt_some
attribute [local irreducible] Calls
end
section
open Go Go.RowKit Go.Proofs
attribute [local irreducible] Calls

theorem St.pay {w W : World} {L : List Res} {Fs : List (World → Prop)} (h : St w W L Fs) (i j : Nat) {pre : List RecI} {x : RecI} (hi : L[i]? = some (Row x.v 5 1 x.p.length (bs x.p))) (hj : Fs[j]? = some (Pays w.heap.size pre)) : St w W (L.eraseIdx i) (Pays w.heap.size (pre ++ [x]) :: Fs) := by
  have h1 := h.freeze hi
  have hb : ∀ k, x.v.ownBlock = some k → w.heap.size ≤ k := fun k hk => ((h.own _ (List.mem_of_getElem? hi)).2 k (by simp [Row, hk])).1
  have h2 := h1.addF (F := Pays w.heap.size (pre ++ [x])) (fun V hV y hy => by
    rcases List.mem_append.1 hy with hy | hy
    · exact h1.facts _ (List.mem_cons_of_mem _ (List.mem_of_getElem? hj)) V hV y hy
    · simp only [List.mem_singleton] at hy
      subst hy
      exact own_base (h1.facts _ (List.mem_cons_self ..) V hV) hb)
  exact h2.dropF fun G hG => by
    simp only [List.mem_cons] at hG ⊢
    rcases hG with h | h
    · exact .inl h
    · exact .inr (.inr h)
end
section
open Go Go.RowKit Go.Proofs
/-! A slice of records that is read. -/
def RS (W : World) (v : Value) (l : List (Int × List UInt8)) : Prop :=
  ∃ A c, v = .slice A l.length c ∧ l.length ≤ c ∧ (A = none → l = []) ∧ ∀ a, A = some a → ∀ (i : Nat) x, l[i]? = some x →
    ∃ pv, a = ⟨a.block, a.off, none⟩ ∧ W.cell? (a.add (2 * i)) = some (.int .i64 x.1) ∧ W.cell? (a.add (2 * i + 1)) = some pv ∧ HB W pv x.2
theorem RS.shape {W : World} {v : Value} {l : List (Int × List UInt8)} (h : RS W v l) : ∃ A c, v = .slice A l.length c ∧ l.length ≤ c := by
  obtain ⟨A, c, e, h1, _⟩ := h; exact ⟨A, c, e, h1⟩
theorem RS.away0 {W : World} {v : Value} {l : List (Int × List UInt8)} (h : RS W v l) : Away (Keys []) (fun W => RS W v l) W := fun V hs => by
  have nk : ∀ k, ¬ Keys [] k := fun k hk => by obtain ⟨r, hr, _⟩ := hk; cases hr
  obtain ⟨A, c, rfl, h1, h2, h3⟩ := h
  refine ⟨A, c, rfl, h1, h2, fun a ha i x hx => ?_⟩
  obtain ⟨pv, c0, c1, c2, hb⟩ := h3 a ha i x hx
  exact ⟨pv, c0, hs.cell (nk _) c1, hs.cell (nk _) c2, hb.away0 V hs⟩
def RecI.kp (x : RecI) : Int × List UInt8 := ((x.k.toNat : Int), x.p)
theorem rcells_get (l : List RecI) : ∀ (i : Nat) (x : RecI), l[i]? = some x → (rcells l)[2 * i]? = some (.int .i64 (x.k.toNat : Int)) ∧ (rcells l)[2 * i + 1]? = some x.v := by
  induction l with
  | nil => intro i x h; simp at h
  | cons y l ih =>
    intro i x h
    have e : rcells (y :: l) = .int .i64 (y.k.toNat : Int) :: y.v :: rcells l := by simp [rcells]
    cases i with
    | zero => simp only [List.getElem?_cons_zero, Option.some.injEq] at h; subst h; rw [e]; simp
    | succ i =>
      rw [List.getElem?_cons_succ] at h
      have := ih i x h
      rw [e, show 2 * (i + 1) = 2 * i + 1 + 1 by omega, show 2 * i + 1 + 1 + 1 = (2 * i + 1) + 1 + 1 by omega]
      simpa using this
/-- Records of one's own are read. -/
theorem RS.of_rows {W : World} {B : Nat} {u : Value} {ys : List RecI} (h : W.ownsRow B 48 2 u ys.length (rcells ys)) (hp : Pays B ys W) : RS W u (ys.map RecI.kp) := by
  have hh := h
  rcases h.2 with ⟨rfl, he⟩ | ⟨g, cap, cur, rfl, h1, h2, h3, _⟩
  · have : ys = [] := by
      cases ys with
      | nil => rfl
      | cons y l => simp at he
    subst this
    exact ⟨none, 0, rfl, Nat.zero_le _, fun _ => rfl, fun a ha => by cases ha⟩
  · refine ⟨some ⟨g, 0, none⟩, cap, by simp, by simpa using h3, (fun e => by cases e), fun a ha i x hx => ?_⟩
    injection ha with ha
    subst ha
    rw [List.getElem?_map, Option.map_eq_some_iff] at hx
    obtain ⟨y, hy, rfl⟩ := hx
    obtain ⟨e1, e2⟩ := rcells_get ys i y hy
    exact ⟨y.v, rfl, hh.cells rfl _ _ e1, hh.cells rfl _ _ e2, HB.of_own (hp y (List.mem_of_getElem? hy))⟩
end
section
open Go Go.RowKit Go.Proofs
attribute [local irreducible] Calls

theorem RS.get {W : World} {A : Option Addr} {n c : Nat} {l : List (Int × List UInt8)} (h : RS W (.slice A n c) l) {i : Nat} (hi : i < l.length) : ∃ b o pv, A = some ⟨b, o, none⟩ ∧ W.cell? ⟨b, o + i * 2, none⟩ = some (.int .i64 l[i].1) ∧ W.cell? ⟨b, o + i * 2 + 1, none⟩ = some pv ∧ HB W pv l[i].2 := by
  obtain ⟨A', c', e, h1, h2, h3⟩ := h
  injection e with e1 e2 e3
  subst e1
  cases A with
  | none => have := h2 rfl; subst this; simp at hi
  | some a =>
    obtain ⟨pv, c0, c1, c2, hb⟩ := h3 a rfl i l[i] (List.getElem?_eq_getElem hi)
    obtain ⟨b, o, sp⟩ := a
    injection c0 with _ _ c0
    subst c0
    rw [Nat.mul_comm] at c1 c2
    have ha : ∀ q, (⟨b, o, none⟩ : Addr).add q = ⟨b, o + q, none⟩ := fun q => by simp [Addr.add]
    rw [ha] at c1 c2
    exact ⟨b, o, pv, rfl, c1, by rw [Nat.add_assoc]; exact c2, hb⟩
theorem RS.below {W W' : World} {v : Value} {l : List (Int × List UInt8)} (h : RS W v l) (hb : Below W.heap.size W W') : RS W' v l :=
  h.away0 W' ⟨hb.size, fun k o _ ho _ => (hb.block k (Array.getElem?_eq_some_iff.1 ho).1).trans ho⟩
set_option maxHeartbeats 1000000 in
set_option maxRecDepth 100000 in
theorem rsame16 (u v : Value) (l m : List (Int × List UInt8)) (w : World) (hu : RS w u l) (hv : RS w v m) (hl : l.length ≤ 1000000) (hm : m.length ≤ 1000000) :
    Calls Try.prog 14 #[u, v] w fun e w' => e = .returned (.bool (decide (l = m))) ∧ Below w.heap.size w w' := by
  have HU := Lib.hid hu; have HV := Lib.hid hv
  obtain ⟨A, c, rfl, hlc⟩ := hu.shape
  obtain ⟨B, d, rfl, hmc⟩ := hv.shape
  clear hu hv
  by_cases hlen : l.length = m.length
  · have HLEN := Lib.hid hlen
    have k1 : (l.length : Int) = (m.length : Int) := by omega
    go_enter Try.func14, Try.ntmps14
    go_wp2_with fail
    go_loopw [5] (fun s5 wr => ∃ i : Nat, i ≤ l.length ∧ s5 = .int .i64 (i : Int) ∧ (∀ j, j < i → l[j]? = m[j]?) ∧ Below w.heap.size w wr) (fun s5 _ => l.length - (intOf s5).toNat)
    case atStart => exact ⟨0, by omega, rfl, fun j hj => by omega, Below.refl _ _⟩
    case round =>
      obtain ⟨i, hi, rfl, hall, hb⟩ := hrel
      have HALL := Lib.hid hall; have HB := Lib.hid hb
      clear hall
      by_cases hlt : i < l.length
      · obtain ⟨ba, oa, pv, rfl, c1, c2, hb1⟩ := (HU.out.below hb).get hlt
        obtain ⟨bb, ob, pv', rfl, c1', c2', hb2⟩ := (HV.out.below hb).get (show i < m.length by omega)
        have hli : l[i]? = some l[i] := List.getElem?_eq_getElem hlt
        have hmi : m[i]? = some (m[i]'(by omega)) := List.getElem?_eq_getElem (by omega)
        generalize l[i] = x at *
        generalize m[i]'(by omega) = y at *
        obtain ⟨k, p⟩ := x
        obtain ⟨k', p'⟩ := y
        dsimp only at c1 c1' hb1 hb2
        have HLI := Lib.hid hli; have HMI := Lib.hid hmi; have C1 := Lib.hid c1; have C2 := Lib.hid c2; have C1' := Lib.hid c1'; have C2' := Lib.hid c2'; have HP := Lib.hid hb1; have HP' := Lib.hid hb2
        clear hli hmi c1 c2 c1' c2' hb1 hb2 hb
        have j1 : (i : Int) < (l.length : Int) := by omega
        have j2 : (i : Int) < (m.length : Int) := by omega
        by_cases hk : k = k'
        · subst hk
          go_wp2_with fail
          refine wp_region_pi [(0, true), (1, true), (2, true), (3, true), (4, true), (5, true), (6, true), (7, true), (8, true), (9, true), (10, true), (11, true), (12, true), (13, true), (14, true), (15, true), (16, true), (17, true), (18, true), (19, true), (20, true), (21, true), (22, true), (23, true), (24, true), (25, true)] (by kernel_rfl) (by kernel_rfl) rfl (by kernel_rfl) (fun _ _ _ _ _ h => h) (fun V => V = wr.drew) rfl ?_
          intro OPS hops
          iterate 26
            first | (refine wpPi_yield _ (by rw [hops.out]; simp only [List.getElem?_toArray, List.getElem?_cons_succ, List.getElem?_cons_zero]; rfl) (by first | rfl | (rw [hops.out]; rfl)) (fun w' hS => by subst hS; first | exact run_ld (by kernel_rfl) (by rfl) (by rfl) C1.out | exact run_ld (by kernel_rfl) (by rfl) (by rfl) C1'.out | exact run_ld (by kernel_rfl) (by rfl) (by rfl) C2.out | exact run_ld (by kernel_rfl) (by rfl) (by rfl) C2'.out | exact run_str (by rfl) (by rfl) HP.out | exact run_str (by rfl) (by rfl) HP'.out | (go_simp; rfl)) ?_; simp only [Act.put, List.setIfInBounds_toArray, List.set_cons_succ, List.set_cons_zero]) | (refine wpPi_skip (by rw [hops.out]; simp only [List.getElem?_toArray, List.getElem?_cons_succ, List.getElem?_cons_zero]; rfl) (by first | rfl | (rw [hops.out]; rfl)) ?_; simp only [Act.put, List.setIfInBounds_toArray, List.set_cons_succ, List.set_cons_zero])
          simp only [wpPi]
          clear OPS hops
          by_cases hp : p = p'
          · have hc : (p == p') = true := beq_iff_eq.2 hp
            rw [hc]
            go_wp2_with fail
            refine ⟨⟨i + 1, by omega, by push_cast; rfl, fun j hj => ?_, HB.out.drew⟩, by simp [intOf]; omega⟩
            by_cases hji : j < i
            · exact HALL.out j hji
            · obtain rfl : j = i := by omega
              rw [HLI.out, HMI.out, hp]
          · have hc : (p == p') = false := beq_eq_false_iff_ne.2 hp
            rw [hc]
            have hne : decide (l = m) = false := decide_eq_false (fun e => hp (by have h1 := HLI.out; rw [e, HMI.out] at h1; injection h1 with h1; injection h1 with _ h1; exact h1.symm))
            go_wp2_with fail
            go_ret
            exact ⟨by rw [hne]; rfl, HB.out.drew⟩
        · have hne : decide (l = m) = false := decide_eq_false (fun e => hk (by have h1 := HLI.out; rw [e, HMI.out] at h1; injection h1 with h1; injection h1 with h1 _; exact h1.symm))
          have hkd : decide (k = k') = false := decide_eq_false hk
          have hkb : (k == k') = false := beq_eq_false_iff_ne.2 hk
          have hkn : (k != k') = true := by simp [hk]
          go_wp2_with fail
          refine wp_region_pi [(0, true), (1, true), (2, true), (3, true), (4, true), (5, true), (6, true), (7, true), (8, true), (9, true), (10, true), (11, true), (12, true), (13, true), (14, true), (15, true), (16, true), (17, true), (18, true), (19, true), (20, true), (21, true), (22, true), (23, true), (24, true), (25, true)] (by kernel_rfl) (by kernel_rfl) rfl (by kernel_rfl) (fun _ _ _ _ _ h => h) (fun V => V = wr.drew) rfl ?_
          intro OPS hops
          iterate 26
            first | (refine wpPi_yield _ (by rw [hops.out]; simp only [List.getElem?_toArray, List.getElem?_cons_succ, List.getElem?_cons_zero]; rfl) (by first | rfl | (rw [hops.out]; rfl)) (fun w' hS => by subst hS; first | exact run_ld (by kernel_rfl) (by rfl) (by rfl) C1.out | exact run_ld (by kernel_rfl) (by rfl) (by rfl) C1'.out | exact run_ld (by kernel_rfl) (by rfl) (by rfl) C2.out | exact run_ld (by kernel_rfl) (by rfl) (by rfl) C2'.out | exact run_str (by rfl) (by rfl) HP.out | exact run_str (by rfl) (by rfl) HP'.out | (go_simp; rfl)) ?_; simp only [Act.put, List.setIfInBounds_toArray, List.set_cons_succ, List.set_cons_zero]) | (refine wpPi_skip (by rw [hops.out]; simp only [List.getElem?_toArray, List.getElem?_cons_succ, List.getElem?_cons_zero]; rfl) (by first | rfl | (rw [hops.out]; rfl)) ?_; simp only [Act.put, List.setIfInBounds_toArray, List.set_cons_succ, List.set_cons_zero])
          simp only [wpPi]
          clear OPS hops
          go_wp2_with fail
          go_ret
          exact ⟨by rw [hne]; rfl, HB.out.drew⟩
      · have heq : decide (l = m) = true := decide_eq_true (List.ext_getElem? fun j => by
          by_cases hj : j < i
          · exact HALL.out j hj
          · rw [List.getElem?_eq_none (by omega), List.getElem?_eq_none (by have := HLEN.out; omega)])
        go_wp2_with fail
        go_ret
        exact ⟨by rw [heq]; rfl, HB.out⟩
  · have hne : decide (l = m) = false := decide_eq_false (fun e => hlen (by rw [e]))
    rw [hne]
    have k1 : ¬ (l.length : Int) = (m.length : Int) := by omega
    clear hne hlen
    go_enter Try.func14, Try.ntmps14
    go_wp2_with fail
    go_ret
    exact ⟨rfl, Below.refl _ _⟩
end
end Go.Proofs.Ytakeggdpnfibpaa
