/- Contracts and words that the laws stand on (Inv). -/
import Derived.Test.YtkibccmfgndfjaaMem
set_option linter.unusedVariables false
set_option linter.unusedSimpArgs false
namespace Go.Proofs.Ytkibccmfgndfjaa
section
open Go Go.RowKit
def upd (x : Nat → Value) (i : Nat) (v : Value) : Nat → Value := fun j => if j = i then v else x j
theorem upd_self (x : Nat → Value) (i : Nat) (v : Value) : upd x i v i = v := by simp [upd]
theorem upd_ne (x : Nat → Value) {i j : Nat} (v : Value) (h : j ≠ i) : upd x i v j = x j := by simp [upd, h]
section
variable {P : Program} {ops : Array Oper} {Q : Exit → Act → World → Prop} {md : Region.Mode}
/-- The operations wait for earlier ones alone. -/
def backward (ops : Array Oper) : Bool := (List.range ops.size).all fun i => ((ops[i]?).map fun o => o.after.all fun e => decide (e.on < i)).getD true
def cnt (ops : Array Oper) (listed : Array Bool) : Nat := ((List.range ops.size).filter fun i => !listed.getD i true).length

/-- What one operation must do: it leaves a value of which T i tells, and what lay there stays. -/
def StepI (P : Program) (ops : Array Oper) (Q : Exit → Act → World → Prop) (mk : (Nat → Value) → Act) (T : Nat → Value → World → Prop) (i : Nat) (o : Oper) (x : Nat → Value) (w : World) : Prop :=
  (Region.wanted o (yielded ops (mk x).tmps) = true ∧ o.wp P (mk x) w (fun a' w' => ∃ v, a' = mk (upd x i v) ∧ T i v w' ∧ Below w.heap.size w w') Q) ∨
  (Region.wanted o (yielded ops (mk x).tmps) = false ∧ T i undef w)

theorem getD_set_self {l : Array Bool} {i : Nat} {d : Bool} (h : l.getD i true = false) : (l.setIfInBounds i true).getD i d = true := by
  have hi : i < l.size := by
    rcases Nat.lt_or_ge i l.size with h' | h'
    · exact h'
    · simp [Array.getD, Nat.not_lt.2 h'] at h
  simp [Array.getD, hi]
theorem getD_set_other {l : Array Bool} {i j : Nat} {d : Bool} (h : j ≠ i) : (l.setIfInBounds i true).getD j d = l.getD j d := getD_set_ne d (Ne.symm h)

theorem cnt_set {listed : Array Bool} {i : Nat} (hi : i < ops.size) (h : listed.getD i true = false) : cnt ops (listed.setIfInBounds i true) < cnt ops listed := by
  unfold cnt
  have e : ((List.range ops.size).filter fun j => !(listed.setIfInBounds i true).getD j true) = (((List.range ops.size).filter fun j => !listed.getD j true)).filter (fun j => decide (j ≠ i)) := by
    rw [List.filter_filter]
    refine List.filter_congr fun j _ => ?_
    by_cases hj : j = i
    · subst hj; rw [getD_set_self h]; simp
    · rw [getD_set_other hj]; simp [hj]
  rw [e]
  refine List.length_filter_lt_length_iff_exists.2 ⟨i, ?_, by simp⟩
  rw [List.mem_filter]
  exact ⟨List.mem_range.2 hi, by rw [h]; rfl⟩

theorem all_listed (hb : backward ops = true) {listed : Array Bool} (hr : Region.ready md ops listed = []) : ∀ i, i < ops.size → listed.getD i true = true := by
  intro i
  induction i using Nat.strongRecOn with
  | ind i ih =>
    intro hi
    cases hl : listed.getD i true with
    | true => rfl
    | false =>
      exfalso
      have hm : i ∈ Region.ready md ops listed := by
        rw [mem_ready]
        refine ⟨hl, ops[i], Array.getElem?_eq_getElem hi, fun e he _ => ?_⟩
        have hb' := List.all_eq_true.1 hb i (List.mem_range.2 hi)
        rw [Array.getElem?_eq_getElem hi] at hb'
        have h2 := (Array.all_eq_true_iff_forall_mem (p := fun e : Edge => decide (e.on < i))).1 (by simpa using hb') e he
        have hlt : e.on < i := by simpa using h2
        have h3 := ih e.on hlt (by omega)
        rcases Nat.lt_or_ge e.on listed.size with h' | h'
        · simp [Array.getD, h'] at h3 ⊢; exact h3
        · exfalso
          have : listed.getD i true = true := by simp [Array.getD, show ¬ i < listed.size by omega]
          rw [this] at hl; cases hl
      rw [hr] at hm; cases hm

/-- A region walked by what each operation leaves, in whatever order. -/
theorem wpAnyH_inv {B : Nat} {w0 : World} (hB : B ≤ w0.heap.size) (mk : (Nat → Value) → Act) (T : Nat → Value → World → Prop) (S : World → Prop) (listed0 : Array Bool)
    (hb : backward ops = true)
    (hS : ∀ w, Below B w0 w → S w)
    (hT : ∀ i v w w', T i v w → Below w.heap.size w w' → T i v w')
    (hmk : ∀ x i o v, ops[i]? = some o → listed0.getD i true = false → (mk x).put o.dst v = mk (upd x i v))
    (hop : ∀ i o, ops[i]? = some o → listed0.getD i true = false → ∀ x w, Below B w0 w → (∀ e ∈ o.after, Region.binds md e = true → T e.on (x e.on) w) → StepI P ops Q mk T i o x w)
    (hend : ∀ x w, Below B w0 w → (∀ i, i < ops.size → T i (x i) w) → Q .normal (mk x) w) :
    ∀ (fuel : Nat) (listed : Array Bool) (x : Nat → Value) (w : World), listed.size = ops.size → (∀ i, listed0.getD i true = true → listed.getD i true = true) → cnt ops listed ≤ fuel → Below B w0 w → (∀ i, i < ops.size → listed.getD i true = true → T i (x i) w) →
      wpAnyH P md ops Q S fuel listed (mk x) w := by
  intro fuel
  induction fuel with
  | zero =>
    intro listed x w hz h0 hc hw hx
    have hr : Region.ready md ops listed = [] := by
      have : ((List.range ops.size).filter fun i => !listed.getD i true) = [] := List.eq_nil_of_length_eq_zero (by unfold cnt at hc; omega)
      rw [List.filter_eq_nil_iff] at this
      unfold Region.ready
      rw [List.filter_eq_nil_iff]
      intro i hi h
      refine this i hi ?_
      simp only [Bool.and_eq_true] at h
      exact h.1
    exact ⟨hr, hend x w hw (fun i hi => hx i hi (all_listed hb hr i hi))⟩
  | succ fuel ih =>
    intro listed x w hz h0 hc hw hx
    refine ⟨fun hr => hend x w hw (fun i hi => hx i hi (all_listed hb hr i hi)), fun i hi => ?_⟩
    obtain ⟨hun, o, ho, hall⟩ := mem_ready.1 hi
    have hin := (Array.getElem?_eq_some_iff.1 ho).1
    have hun0 : listed0.getD i true = false := by
      cases h : listed0.getD i true with
      | false => rfl
      | true => rw [h0 i h] at hun; cases hun
    have key : ∀ v w', T i v w' → Below w.heap.size w w' → S w' ∧ wpAnyH P md ops Q S fuel (listed.setIfInBounds i true) (mk (upd x i v)) w' := by
      intro v w' hv hb'
      have hw' : Below B w0 w' := hw.trans (hb'.mono (Nat.le_trans hB hw.size))
      refine ⟨hS _ hw', ih _ _ _ (by simpa using hz) ?_ ?_ hw' ?_⟩
      · intro j hj
        by_cases hji : j = i
        · subst hji; exact getD_set_self hun
        · rw [getD_set_other hji]; exact h0 j hj
      · have := cnt_set hin hun; omega
      · intro j hj hl
        by_cases hji : j = i
        · subst hji; rw [upd_self]; exact hv
        · rw [upd_ne _ _ hji]
          rw [getD_set_other hji] at hl
          exact hT _ _ _ _ (hx j hj hl) hb'
    have hst := hop i o ho hun0 x w hw (fun e he hbi => by
      have h1 := hall e he hbi
      have hlt : e.on < listed.size := by
        rcases Nat.lt_or_ge e.on listed.size with h' | h'
        · exact h'
        · simp [Array.getD, Nat.not_lt.2 h'] at h1
      refine hx e.on (by omega) ?_
      simp [Array.getD, hlt] at h1 ⊢; exact h1)
    unfold wpOp
    simp only [ho]
    rcases hst with ⟨hwt, hwp⟩ | ⟨hwt, hu⟩
    · rw [if_pos hwt]
      refine .inl (Oper.wp_mono ?_ hwp)
      rintro a' w' ⟨v, rfl, hv, hb'⟩
      exact key v w' hv hb'
    · rw [if_neg (by rw [hwt]; simp), hmk x i o undef ho hun0]
      exact key undef w hu (Below.refl _ _)

/-! values first, then whatever order -/
def okPre (md : Region.Mode) (ops : Array Oper) : List Nat → Array Bool → Bool
  | [], _ => true
  | i :: r, listed => Region.free md ops listed i && (Region.ready md ops listed).contains i && okPre md ops r (listed.setIfInBounds i true)
def behind : List Nat → Array Bool → Array Bool
  | [], listed => listed
  | i :: r, listed => behind r (listed.setIfInBounds i true)
def wpPre (P : Program) (ops : Array Oper) (S : World → Prop) (K : Act → World → Prop) : List Nat → Act → World → Prop
  | [], a, w => K a w
  | i :: r, a, w => ∃ o v, ops[i]? = some o ∧ YieldsIf P ops S o v a ∧ wpPre P ops S K r (a.put o.dst v) w
theorem wpPre_yield {S : World → Prop} {K : Act → World → Prop} {i : Nat} {r : List Nat} {a : Act} {w : World} {o : Oper} (v : Value) (ho : ops[i]? = some o) (hw : Region.wanted o (yielded ops a.tmps) = true)
    (hv : ∀ w, S w → (execOp a.eval o).run P w = .ok (.value v) w) (h : wpPre P ops S K r (a.put o.dst v) w) : wpPre P ops S K (i :: r) a w := ⟨o, v, ho, .inl ⟨hw, hv⟩, h⟩
theorem wpPre_skip {S : World → Prop} {K : Act → World → Prop} {i : Nat} {r : List Nat} {a : Act} {w : World} {o : Oper} (ho : ops[i]? = some o) (hw : Region.wanted o (yielded ops a.tmps) = false)
    (h : wpPre P ops S K r (a.put o.dst undef) w) : wpPre P ops S K (i :: r) a w := ⟨o, undef, ho, .inr ⟨hw, rfl⟩, h⟩
theorem wpPre_sound {S : World → Prop} (hs : Region.noSelect ops = true) (hQ : ∀ c d v a w, Q (.panic c) (Act.put a (some d) v) w → Q (.panic c) a w) (fuel : Nat) (K : Act → World → Prop) :
    ∀ (l : List Nat) (listed : Array Bool) (a : Act) (w : World), okPre md ops l listed = true → S w → (∀ a w, S w → K a w → wpAnyH P md ops Q S fuel (behind l listed) a w) → wpPre P ops S K l a w → wpAnyH P md ops Q S (fuel + l.length) listed a w := by
  intro l
  induction l with
  | nil => intro listed a w _ hS hK h; exact hK a w hS h
  | cons i r ih =>
    intro listed a w hk hS hK h
    simp only [okPre, Bool.and_eq_true] at hk
    obtain ⟨o, v, ho, hy, hr⟩ := h
    refine wpAnyH_take ho hs hk.1.1 hk.1.2 (fun c a w h => by
      cases hd : o.dst with
      | none => rw [hd] at h; exact h
      | some d => rw [hd] at h; exact hQ c _ _ a w h) hy hS (ih _ _ _ hk.2 hS hK hr)
/-- A region that draws its order: the operations of l first, the others (rest) by what each leaves. -/
theorem wp_region_inv {id : Nat} {a : Act} {w : World} (l rest : List Nat) (B : Nat) (w0 : World) (hB : B ≤ w0.heap.size) (hm : P.follows .mixedOrders = true) (hs : Region.noSelect ops = true)
    (hl : rest.length + l.length = ops.size) (hk : okPre .any ops l (Array.replicate ops.size false) = true) (hb : backward ops = true)
    (hrest : ((List.range ops.size).filter fun i => !(behind l (Array.replicate ops.size false)).getD i true) = rest) (hsz : (behind l (Array.replicate ops.size false)).size = ops.size)
    (hQ : ∀ c d v a w, Q (.panic c) (Act.put a (some d) v) w → Q (.panic c) a w) (hS0 : Below B w0 w.drew)
    (mk : (Nat → Value) → Act) (x0 : Nat → Value) (T : Nat → Value → World → Prop) (hT : ∀ i v w w', T i v w → Below w.heap.size w w' → T i v w')
    (hmk : ∀ i ∈ rest, ∀ x o v, ops[i]? = some o → (mk x).put o.dst v = mk (upd x i v))
    (hop : ∀ i ∈ rest, ∀ o, ops[i]? = some o → ∀ x w, Below B w0 w → (∀ e ∈ o.after, Region.binds .any e = true → T e.on (x e.on) w) → StepI P ops Q mk T i o x w)
    (hend : ∀ x w, Below B w0 w → (∀ i, i < ops.size → T i (x i) w) → Q .normal (mk x) w)
    (h : ∀ ops' : Array Oper, Hid (ops' = ops) → wpPre P ops' (fun w' => Below B w0 w') (fun a1 w1 => a1 = mk x0 ∧ ∀ i, i < ops.size → (behind l (Array.replicate ops.size false)).getD i true = true → T i (x0 i) w1) l a w.drew) : (Code.region id ops true).wp P Q a w := by
  refine wp_region_held (S := fun w' => Below B w0 w') hm ?_
  have key := wpPre_sound (P := P) (md := .any) (S := fun w' => Below B w0 w') hs hQ rest.length _ l _ a _ hk hS0 (fun a1 w1 hS1 hK1 => by
    obtain ⟨rfl, hx0⟩ := hK1
    have hin : ∀ i o, ops[i]? = some o → (behind l (Array.replicate ops.size false)).getD i true = false → i ∈ rest := by
      intro i o ho hun
      rw [← hrest, List.mem_filter]
      exact ⟨List.mem_range.2 (Array.getElem?_eq_some_iff.1 ho).1, by rw [hun]; rfl⟩
    refine wpAnyH_inv hB mk T _ (behind l (Array.replicate ops.size false)) hb (fun _ h => h) hT (fun x i o v ho hun => hmk i (hin i o ho hun) x o v ho) (fun i o ho hun => hop i (hin i o ho hun) o ho) hend _ _ x0 w1 hsz (fun _ h => h) ?_ hS1 hx0
    unfold cnt
    rw [hrest]
    exact Nat.le_refl _) (h ops rfl)
  rwa [hl] at key
end
end
section
open Go Go.RowKit
section
variable {P : Program} {ops : Array Oper} {Q : Exit → Act → World → Prop} {md : Region.Mode}
def setO (t : Array Value) (d : Option Nat) (v : Value) : Array Value := match d with
  | none => t
  | some d => t.setIfInBounds d v
def dstOf (ops : Array Oper) (i : Nat) : Option Nat := ops[i]?.bind (·.dst)
/-- The state in which the operations of rest have left the values x. -/
def mkT (ops : Array Oper) : List Nat → Array Value → (Nat → Value) → Array Value
  | [], t, _ => t
  | i :: r, t, x => mkT ops r (setO t (dstOf ops i) (x i)) x
def mkA (ops : Array Oper) (rest : List Nat) (a1 : Act) (x : Nat → Value) : Act := { a1 with tmps := mkT ops rest a1.tmps x }
def apartD (ops : Array Oper) : List Nat → Bool
  | [] => true
  | i :: r => r.all (fun j => j != i && (dstOf ops i == none || dstOf ops j != dstOf ops i)) && apartD ops r
theorem setO_comm (t : Array Value) (d e : Option Nat) (u v : Value) (h : d = none ∨ e ≠ d) : setO (setO t d u) e v = setO (setO t e v) d u := by
  cases d with
  | none => rfl
  | some d =>
    cases e with
    | none => rfl
    | some e =>
      have : d ≠ e := by rintro rfl; simp at h
      exact Array.setIfInBounds_comm _ _ this
theorem mkT_comm (r : List Nat) (t : Array Value) (x : Nat → Value) (d : Option Nat) (v : Value) (h : ∀ j ∈ r, d = none ∨ dstOf ops j ≠ d) : setO (mkT ops r t x) d v = mkT ops r (setO t d v) x := by
  induction r generalizing t with
  | nil => rfl
  | cons j r ih =>
    rw [mkT, ih _ (fun k hk => h k (by simp [hk])), mkT, setO_comm _ d (dstOf ops j) v (x j) (h j (by simp))]
theorem setO_setO (t : Array Value) (d : Option Nat) (u v : Value) : setO (setO t d u) d v = setO t d v := by
  cases d with
  | none => rfl
  | some d => simp [setO]
theorem mkT_congr (r : List Nat) (t : Array Value) (x y : Nat → Value) (h : ∀ j ∈ r, x j = y j) : mkT ops r t x = mkT ops r t y := by
  induction r generalizing t with
  | nil => rfl
  | cons j r ih => rw [mkT, mkT, h j (by simp), ih _ (fun k hk => h k (by simp [hk]))]
theorem mkT_put (r : List Nat) (t : Array Value) (x : Nat → Value) (i : Nat) (v : Value) (hd : apartD ops r = true) (hi : i ∈ r) : setO (mkT ops r t x) (dstOf ops i) v = mkT ops r t (upd x i v) := by
  induction r generalizing t with
  | nil => simp at hi
  | cons j r ih =>
    simp only [apartD, Bool.and_eq_true, List.all_eq_true] at hd
    by_cases hji : i = j
    · subst hji
      rw [mkT, mkT_comm r _ x _ v (fun k hk => by
        have := (hd.1 k hk)
        simp only [Bool.or_eq_true, beq_iff_eq, bne_iff_ne] at this
        exact this.2), setO_setO, mkT, upd_self]
      refine mkT_congr r _ _ _ (fun k hk => ?_)
      have := hd.1 k hk
      simp only [bne_iff_ne] at this
      exact (upd_ne x v this.1).symm
    · rw [mkT, mkT, upd_ne x v (fun e => hji e.symm)]
      exact ih _ hd.2 (by simpa [hji] using hi)
/-- The slots' own values. -/
def own0 (ops : Array Oper) (a1 : Act) (i : Nat) : Value := match dstOf ops i with
  | none => undef
  | some d => a1.tmps.getD d undef
theorem mkT_own (r : List Nat) (a1 : Act) : mkT ops r a1.tmps (own0 ops a1) = a1.tmps := by
  induction r with
  | nil => rfl
  | cons j r ih =>
    have : setO a1.tmps (dstOf ops j) (own0 ops a1 j) = a1.tmps := by
      unfold own0
      cases dstOf ops j with
      | none => rfl
      | some d =>
        simp only [setO]
        apply Array.ext
        · simp
        · intro k h1 h2
          rw [Array.getElem_setIfInBounds (by simpa using h2)]
          split
          · rename_i hk; subst hk; simp [Array.getD, h2]
          · rfl
    rw [mkT, this, ih]
theorem mkA_own (r : List Nat) (a1 : Act) : mkA ops r a1 (own0 ops a1) = a1 := by unfold mkA; rw [mkT_own]
theorem mkA_put (r : List Nat) (a1 : Act) (x : Nat → Value) (i : Nat) (o : Oper) (v : Value) (ho : ops[i]? = some o) (hd : apartD ops r = true) (hi : i ∈ r) : (mkA ops r a1 x).put o.dst v = mkA ops r a1 (upd x i v) := by
  have h := mkT_put r a1.tmps x i v hd hi
  have he : dstOf ops i = o.dst := by simp [dstOf, ho]
  rw [he] at h
  unfold mkA
  rw [← h]
  cases o.dst <;> rfl
/-- What is to be shown behind the values. -/
structure InvGoal (P : Program) (ops : Array Oper) (Q : Exit → Act → World → Prop) (rest : List Nat) (B : Nat) (w0 : World) (a1 : Act) : Prop where
  out : ∃ T : Nat → Value → World → Prop, (∀ i v w w', T i v w → Below w.heap.size w w' → T i v w') ∧ (∀ i v w, i ∉ rest → T i v w) ∧
    (∀ i ∈ rest, ∀ o, ops[i]? = some o → ∀ x w, Below B w0 w → (∀ j ∈ rest, o.after.any (fun e => Region.binds .any e && e.on == j) = true → T j (x j) w) →
      StepI P ops Q (mkA ops rest a1) T i o x w) ∧
    (∀ x w, Below B w0 w → (∀ i ∈ rest, T i (x i) w) → Q .normal (mkA ops rest a1 x) w)
/-- A region that draws its order: the operations of l first, the others (rest) by what each leaves. -/
theorem wp_region_inv2 {id : Nat} {a : Act} {w : World} (l rest : List Nat) (B : Nat) (w0 : World) (hB : B ≤ w0.heap.size) (hm : P.follows .mixedOrders = true) (hs : Region.noSelect ops = true)
    (hl : rest.length + l.length = ops.size) (hk : okPre .any ops l (Array.replicate ops.size false) = true) (hb : backward ops = true) (hd : apartD ops rest = true)
    (hrest : ((List.range ops.size).filter fun i => !(behind l (Array.replicate ops.size false)).getD i true) = rest) (hsz : (behind l (Array.replicate ops.size false)).size = ops.size)
    (hQ : ∀ c d v a w, Q (.panic c) (Act.put a (some d) v) w → Q (.panic c) a w) (hS0 : Below B w0 w.drew)
    (h : ∀ ops' : Array Oper, Hid (ops' = ops) → wpPre P ops' (fun w' => Below B w0 w') (fun a1 w1 => InvGoal P ops' Q rest B w0 a1) l a w.drew) : (Code.region id ops true).wp P Q a w := by
  refine wp_region_held (S := fun w' => Below B w0 w') hm ?_
  have key := wpPre_sound (P := P) (md := .any) (S := fun w' => Below B w0 w') hs hQ rest.length _ l _ a _ hk hS0 (fun a1 w1 hS1 hK1 => by
    obtain ⟨T, hT, hT0, hop, hend⟩ := hK1.out
    have hin : ∀ i o, ops[i]? = some o → (behind l (Array.replicate ops.size false)).getD i true = false → i ∈ rest := by
      intro i o ho hun
      rw [← hrest, List.mem_filter]
      exact ⟨List.mem_range.2 (Array.getElem?_eq_some_iff.1 ho).1, by rw [hun]; rfl⟩
    have hout : ∀ i, (behind l (Array.replicate ops.size false)).getD i true = true → i ∉ rest := by
      intro i hi hm
      rw [← hrest, List.mem_filter] at hm
      rw [hi] at hm; simp at hm
    have := wpAnyH_inv (P := P) (Q := Q) (md := .any) hB (mkA ops rest a1) T (fun w' => Below B w0 w') (behind l (Array.replicate ops.size false)) hb (fun _ h => h) hT (fun x i o v ho hun => mkA_put rest a1 x i o v ho hd (hin i o ho hun))
      (fun i o ho hun x w hw hx => hop i (hin i o ho hun) o ho x w hw (fun j _ hj => by
        obtain ⟨e, he, hbe⟩ := Array.any_eq_true'.1 hj
        simp only [Bool.and_eq_true, beq_iff_eq] at hbe
        rw [← hbe.2]
        exact hx e he hbe.1)) (fun x w hw hx => hend x w hw (fun i hi => by
        rw [← hrest, List.mem_filter] at hi
        exact hx i (List.mem_range.1 hi.1))) rest.length (behind l (Array.replicate ops.size false)) (own0 ops a1) w1 hsz (fun _ h => h) (by unfold cnt; rw [hrest]; exact Nat.le_refl _) hS1 (fun i _ hi => hT0 i _ _ (hout i hi))
    rwa [mkA_own] at this) (h ops rfl)
  rwa [hl] at key
theorem StepI.go {mk : (Nat → Value) → Act} {T : Nat → Value → World → Prop} {i : Nat} {o : Oper} {x : Nat → Value} {w : World} (hw : Region.wanted o (yielded ops (mk x).tmps) = true)
    (h : ∀ K : Act → World → Prop, (∀ v w' a, T i v w' → Below w.heap.size w w' → mk (upd x i v) = a → K a w') → o.wp P (mk x) w K Q) : StepI P ops Q mk T i o x w :=
  .inl ⟨hw, h _ fun v _ _ hT hb he => ⟨v, he.symm, hT, hb⟩⟩
end
end
end Go.Proofs.Ytkibccmfgndfjaa
