/- Contracts and words that the laws stand on (TrdA). -/
import Derived.Test.YteljmpoaggfliaaTxD
set_option linter.unusedVariables false
set_option linter.unusedSimpArgs false
namespace Go.Proofs.Yteljmpoaggfliaa
section
open Go Go.RowKit Go.Proofs
attribute [local irreducible] Calls
/-! Eyes among the parts of a world. -/
section
variable {P : Program} {w W : World} {L : List Res} {Fs : List (World → Prop)} {o : Oper} {a : Act} {K : Act → World → Prop} {Q : Exit → Act → World → Prop} {x y : Operand} {b : Nat} {l : List Value} {T : TypeId}
theorem St.setRow0 (h : St w W L Fs) {i : Nat} (hi : L[i]? = some (Blk b l T)) (cs : List Value) : St w (W.setRow b cs.toArray) (L.set i (Blk b cs T)) Fs := by
  have hb := h.blk hi
  have h2 : (W.setRow b cs.toArray).heap[b]? = some (.cells cs.toArray T (0, 0)) := setRow_heap W b _ _ T (0, 0) hb
  have hc : Chg [b] W (W.setRow b cs.toArray) := ⟨rfl, rfl, rfl, by simp, fun k hk hn => setRow_other W b k cs.toArray (by simpa using hn)⟩
  refine h.upd hi hc h2 (fun k hk => ?_)
  simp [Blk] at hk
  subst hk
  exact ⟨.inl (by simp [Blk]), blk_lt h2⟩
theorem s_cp (hS : St w W L Fs) (i : Nat) {cs : List Value} {n dc sl sc : Nat} {A : Addr} (ho : o.op = .call { callee := .builtin .copy, args := #[x, y], argTypes := #[28, 28] }) (hu : P.underlying 28 = some (.slice 5)) (hz : (P.info? 5).map (·.size) = some 1) (hx : a.eval x = .slice (some ⟨b, 0, none⟩) n dc) (hy : a.eval y = .slice (some A) sl sc) (hi : L[i]? = some (Blk b l T)) (hn : cs.length = Nat.min sl n) (hl : cs.length = l.length) (hc : ∀ j v, cs[j]? = some v → W.cell? (A.add j) = some v) (h1 : ∀ v ∈ cs, v.oneCell' = true) (h : ∀ W', St w W' (L.set i (Blk b cs T)) Fs → K (a.put o.dst (goInt cs.length)) W') : o.wp P a W K Q := by
  have hb := hS.blk hi
  have hrun := run_copy_row (P := P) W 28 28 o.type 5 b 0 n dc A sl sc l.toArray T cs hu hz hb hn hc (by simp [hl]) h1
  have e : (l.toArray.toList.take 0 ++ cs ++ l.toArray.toList.drop (0 + cs.length)) = cs := by simp [hl]
  rw [e] at hrun
  refine wp_of_run (v := goInt cs.length) (W' := W.setRow b cs.toArray) ?_ (h _ (hS.setRow0 hi cs))
  unfold execOp
  simp only [ho, resolve, invoke, builtin, Sem.run_bind, Sem.run_pure, Result.andThen_ok, List.map_toArray, List.map_cons, List.map_nil, hx, hy, hrun]
theorem run_cp0 {A : Option Addr} {n dc : Nat} (ho : o.op = .call { callee := .builtin .copy, args := #[x, y], argTypes := #[28, 28] }) (hu : P.underlying 28 = some (.slice 5)) (hz : (P.info? 5).map (·.size) = some 1) (hx : a.eval x = .slice A n dc) (hy : a.eval y = .slice none 0 0) : (execOp a.eval o).run P W = .ok (.value (goInt 0)) W := by
  have hrun := run_copy_none (P := P) W 28 28 o.type 5 A none n dc 0 0 hu hz (Nat.zero_min n)
  unfold execOp
  simp only [ho, resolve, invoke, builtin, Sem.run_bind, Sem.run_pure, Result.andThen_ok, List.map_toArray, List.map_cons, List.map_nil, hx, hy, hrun]
end
theorem St.updNew {w W W' : World} {L : List Res} {Fs : List (World → Prop)} (h : St w W L Fs) {i : Nat} {r r' s : Res} (hi : L[i]? = some r) (hc : Chg r.fp W W') (hok : r'.ok W') (hfp : ∀ k ∈ r'.fp, k ∈ r.fp) (hsok : s.ok W') (hs : ∀ k ∈ s.fp, W.heap.size ≤ k ∧ k < W'.heap.size) : St w W' (s :: L.set i r') Fs := by
  have hr := h.own r (List.mem_of_getElem? hi)
  have h1 := h.upd hi hc hok (fun k hk => ⟨.inl (hfp k hk), Nat.lt_of_lt_of_le (hr.2 k (hfp k hk)).2 hc.size⟩)
  have old : ∀ x ∈ L.set i r', ∀ k ∈ x.fp, ∃ y ∈ L, k ∈ y.fp := by
    intro x hx k hk
    obtain ⟨j, hj⟩ := List.mem_iff_getElem?.1 hx
    by_cases hji : i = j
    · subst hji
      rw [List.getElem?_set_self (List.getElem?_eq_some_iff.1 hi).1] at hj
      injection hj with hj
      subst hj
      exact ⟨r, List.mem_of_getElem? hi, hfp k hk⟩
    · rw [List.getElem?_set_ne hji] at hj
      exact ⟨x, List.mem_of_getElem? hj, hk⟩
  have lt : ∀ x ∈ L.set i r', ∀ k ∈ x.fp, k < W.heap.size := fun x hx k hk => by
    obtain ⟨y, hy, hk'⟩ := old x hx k hk
    exact ((h.own y hy).2 k hk').2
  refine ⟨h1.below, ?_, ?_, ?_⟩
  · intro x hx
    rcases List.mem_cons.1 hx with rfl | hx
    · exact ⟨hsok, fun k hk => ⟨Nat.le_trans h.below.size (hs k hk).1, (hs k hk).2⟩⟩
    · exact h1.own x hx
  · intro a b x y ha hb hab k hk hk'
    cases a with
    | zero =>
      simp at ha; subst ha
      cases b with
      | zero => exact hab rfl
      | succ b =>
        have h2 := lt y (List.mem_of_getElem? (by simpa using hb)) k hk'
        have h3 := (hs k hk).1
        omega
    | succ a =>
      cases b with
      | zero =>
        simp at hb; subst hb
        have h2 := lt x (List.mem_of_getElem? (by simpa using ha)) k hk
        have h3 := (hs k hk').1
        omega
      | succ b => exact h1.apart a b x y (by simpa using ha) (by simpa using hb) (by omega) k hk hk'
  · intro F hF W'' hsm
    refine h.facts F hF W'' ⟨Nat.le_trans hc.size hsm.size, fun k o hn ho hcl => ?_⟩
    have hk := (Array.getElem?_eq_some_iff.1 ho).1
    have hkr : k ∉ r.fp := fun hm => hn ⟨r, List.mem_of_getElem? hi, hm⟩
    refine hsm.blk k o ?_ ((hc.block k hk hkr).trans ho) hcl
    rintro ⟨x, hx, hm⟩
    rcases List.mem_cons.1 hx with rfl | hx
    · have := (hs k hm).1; omega
    · obtain ⟨y, hy, hm'⟩ := old x hx k hm
      exact hn ⟨y, hy, hm'⟩
theorem St.eyeRow {w W W' : World} {L : List Res} {Fs : List (World → Prop)} (h : St w W L Fs) {i g : Nat} {u u' v : Value} {xs ys l : List UInt8} (hi : L[i]? = some (EyeR g u xs)) (hg : EyeGo W W' g u u' ys) (ho : W'.ownsRow W.heap.size 5 1 v l.length (bs l)) : St w W' (Row v 5 1 l.length (bs l) :: L.set i (EyeR g u' ys)) Fs := by
  have h1 := h.eye hi hg
  have hli := (List.getElem?_eq_some_iff.1 hi).1
  have hlt := ho.lt
  refine h.updNew hi (hg.chg.mono (fun k hk => .inl (by simp at hk; simp [EyeR, hk]))) (h1.res (List.getElem?_set_self hli)) (fun k hk => ?_) (own_base ho (fun _ _ => Nat.zero_le _)) (fun k hk => ?_)
  · simp only [EyeR, hg.same] at hk ⊢; exact hk
  · simp only [Row, Option.mem_toList] at hk
    exact hlt k hk
theorem all_bs (l : List UInt8) : ∀ v ∈ bs l, v.oneCell' = true := by
  intro v hv
  obtain ⟨x, _, rfl⟩ := List.mem_map.1 hv
  rfl
theorem row_some {W : World} {v : Value} {l : List UInt8} (h : (Row v 5 1 l.length (bs l)).ok W) (h0 : 0 < l.length) : ∃ A c, v = .slice (some A) l.length c ∧ ∀ j x, (bs l)[j]? = some x → W.cell? (A.add j) = some x := by
  have hh := HB.of_own h
  obtain ⟨p, c, rfl, _, h1, h2⟩ := hh
  cases p with
  | none => rw [h1 rfl] at h0; exact absurd h0 (by decide)
  | some A =>
    refine ⟨A, c, rfl, fun j x hx => ?_⟩
    simp only [bs, List.getElem?_map, Option.map_eq_some_iff] at hx
    obtain ⟨y, hy, rfl⟩ := hx
    exact h2 A rfl j y hy
theorem St.eyeRawOk {w0 W : World} {L : List Res} {Fs : List (World → Prop)} (hS : St w0 W L Fs) (i : Nat) {g : Nat} {u : Value} {xs : List UInt8} (hi : L[i]? = some (EyeR g u xs)) (k : Nat) (hk : k ≤ xs.length) (hl : xs.length ≤ 70368744177664) :
    Calls Try.prog 127 #[.pointer (some ⟨g, 0, none⟩), .int .i64 (k : Int)] W fun e w' => ∃ v u', e = .returned (.tuple #[v, .int .i64 0]) ∧ St w0 w' (Row v 5 1 (xs.take k).length (bs (xs.take k)) :: L.set i (EyeR g u' (xs.drop k))) Fs := by
  refine (eraw_ok g k u xs W (hS.eyeAt hi) hk hl).mono ?_
  rintro e w' ⟨v, u', rfl, ho, hg⟩
  have ht : (xs.take k).length = k := by simp; omega
  exact ⟨v, u', rfl, hS.eyeRow hi hg (by rw [ht]; exact ho)⟩
theorem St.eyeRawBad {w0 W : World} {L : List Res} {Fs : List (World → Prop)} (hS : St w0 W L Fs) (i : Nat) {g : Nat} {u : Value} {xs : List UInt8} (hi : L[i]? = some (EyeR g u xs)) (k : Nat) (hk : xs.length < k) (hl : xs.length ≤ 70368744177664) :
    Calls Try.prog 127 #[.pointer (some ⟨g, 0, none⟩), .int .i64 (k : Int)] W fun e w' => ∃ c, e = .returned (.tuple #[.slice none 0 0, .int .i64 c]) ∧ W = w' := by
  refine (eraw_bad g k u xs W (hS.eyeAt hi) (by omega) hl).mono ?_
  rintro e w' ⟨rfl, rfl⟩
  exact ⟨_, rfl, rfl⟩
theorem St.nilRow {w0 W : World} {L : List Res} {Fs : List (World → Prop)} (hS : St w0 W L Fs) : St w0 W (Row (.slice none 0 0) 5 1 0 (bs []) :: L) Fs :=
  hS.new (Below.refl _ _) ⟨rfl, .inl ⟨rfl, rfl⟩⟩ (fun k hk => by simp [Row, Value.ownBlock] at hk)
end
section
open Go Go.RowKit Go.Proofs
attribute [local irreducible] Calls
/-! What a transaction's reader does: its eye, and whether all went well. -/
set_option maxHeartbeats 400000 in
set_option maxRecDepth 100000 in
theorem esz_ok (p : Nat) (u : Value) (xs : List UInt8) (n k : Nat) (w : World) (h : IsEye w p u xs) (hg : getSize xs = some (n, k)) :
    Calls Try.prog 129 #[.pointer (some ⟨p, 0, none⟩)] w fun e w' => ∃ u', e = .returned (.tuple #[.int .u64 (n : Int), .int .i64 0]) ∧ EyeGo w w' p u u' (xs.drop k) := by
  obtain ⟨k1, k9, kx, hn⟩ := getSize_some hg
  have HN := Lib.hid hn; clear hn
  have HG := Lib.hid hg; clear hg
  have hc0 := h.cell0
  have hc1 := h.cell1
  have H := Lib.hid h
  obtain ⟨A, c, rfl, hlc⟩ := h.left.shape
  clear h
  have hs2 := run_cut_l 28 5 Try.underlying28 size5 A xs.length c k kx
  have hk0 : ((k : Int) == 0) = false := by simp; omega
  go_enter Try.func129, Try.ntmps129
  go_wp2_with (first
    | (go_at_call 123; refine (shut_any p _ hc0).mono ?_; rintro e w1 ⟨rfl, rfl⟩)
    | (go_at_call 148; refine (esize_any p _ xs _ H.out).mono ?_; rw [HG.out]; rintro e w1 ⟨rfl, hbl⟩; dsimp only [sizeV]; have H1 := Lib.hid (H.out.below hbl); have hc1 := H1.out.cell1; have hf1 := H1.out.free 1))
  go_ret2
  have HO := H1.out.cut kx
  exact ⟨_, rfl, HO.eye, (Chg.of_belowS [p] hbl).trans HO.chg (fun k hk => .inl hk), HO.same⟩

set_option maxHeartbeats 400000 in
set_option maxRecDepth 100000 in
theorem esz_bad (p : Nat) (u : Value) (xs : List UInt8) (w : World) (h : IsEye w p u xs) (hg : getSize xs = none) :
    Calls Try.prog 129 #[.pointer (some ⟨p, 0, none⟩)] w fun e w' => e = .returned (.tuple #[.int .u64 0, .int .i64 10]) ∧ Below w.heap.size w w' := by
  have HG := Lib.hid hg; clear hg
  have hc0 := h.cell0
  have H := Lib.hid h
  clear h
  go_enter Try.func129, Try.ntmps129
  go_wp2_with (first
    | (go_at_call 123; refine (shut_any p _ hc0).mono ?_; rintro e w1 ⟨rfl, rfl⟩)
    | (go_at_call 148; refine (esize_any p _ xs _ H.out).mono ?_; rw [HG.out]; rintro e w1 ⟨rfl, hbl⟩; dsimp only [sizeV]))
  go_ret2
  exact ⟨rfl, hbl⟩

theorem leNum_le (k n : Nat) (h : n < 256 ^ k) : leNum (le k n) = n := by
  induction k generalizing n with
  | zero => simp at h; subst h; rfl
  | succ k ih =>
    rw [Nat.pow_succ] at h
    rw [le, leNum, ih (n / 256) (by omega)]
    simp
    omega
theorem getSize_fwd (n : Nat) (hn : n < 18446744073709551616) (r : List UInt8) : getSize (csize n ++ r) = some (n, compact n) := by
  have key : ∀ (f : UInt8) (m : Nat), ¬ f.toNat < 253 → msz f = m → n < 256 ^ m → compact n = m + 1 → getSize (f :: (le m n ++ r)) = some (n, m + 1) := by
    intro f m hf hm hlt hc
    have hlen : (le m n).length = m := le_length m n
    have ht : (le m n ++ r).take m = le m n := by rw [List.take_append_of_le_length (by omega), List.take_of_length_le (by omega)]
    simp only [getSize]
    rw [if_neg hf, hm, if_neg (by simp; omega), ht, leNum_le m n hlt, if_pos hc]
  unfold csize
  split
  · rename_i h
    have e : (UInt8.ofNat n).toNat = n := by simp; omega
    simp only [List.cons_append, List.nil_append, getSize, e]
    rw [if_pos h]; simp [compact, h]
  · rename_i h
    split
    · rename_i h2
      have hc : compact n = 3 := by simp [compact, h, h2]
      rw [hc]; exact key 253 2 (by decide) (by decide) (by simpa using h2) hc
    · rename_i h2
      split
      · rename_i h3
        have hc : compact n = 5 := by simp [compact, h, h2, h3]
        rw [hc]; exact key 254 4 (by decide) (by decide) (by simpa using h3) hc
      · rename_i h3
        have hc : compact n = 9 := by simp [compact, h, h2, h3]
        rw [hc]; exact key 255 8 (by decide) (by decide) (by simpa using hn) hc
theorem getBytes_fwd (xs r : List UInt8) (hx : xs.length ≤ 2000) : getBytes 2000 (csize xs.length ++ (xs ++ r)) = some (xs, compact xs.length + xs.length) := by
  unfold getBytes
  rw [getSize_fwd _ (by omega)]
  have hl := csize_length xs.length
  simp only
  rw [if_neg (by simp; omega)]
  rw [← hl, List.drop_left, List.take_left]
def numN (k : Nat) (l : List UInt8) : Nat := if k ≤ l.length then leNum (l.take k) else 0
def numM (k : Nat) (l : List UInt8) : List UInt8 := if k ≤ l.length then l.drop k else l
theorem numN_lt (k : Nat) (l : List UInt8) (hk : k ≤ 8) : numN k l < 256 ^ k := by
  unfold numN
  split
  · rename_i h
    have := leNum_lt (l.take k)
    rwa [List.length_take, Nat.min_eq_left h] at this
  · exact Nat.pos_of_ne_zero (by simp)
theorem set_same {L : List Res} {i : Nat} {r : Res} (hi : L[i]? = some r) : L.set i r = L := by
  apply List.ext_getElem?
  intro j
  by_cases hj : i = j
  · subst hj; rw [List.getElem?_set_self (List.getElem?_eq_some_iff.1 hi).1, hi]
  · rw [List.getElem?_set_ne hj]
section
variable {w0 W : World} {L : List Res} {Fs : List (World → Prop)} {i g : Nat} {u : Value} {xs : List UInt8}
theorem St.eyeFix (hS : St w0 W L Fs) (hi : L[i]? = some (EyeR g u xs)) (k : Nat) (hw : wideB (k : Int) = true) :
    Calls Try.prog 122 #[.pointer (some ⟨g, 0, none⟩), .int .i64 (k : Int)] W fun e w' => ∃ u' c, e = .returned (.tuple #[.int .u64 ((numN k xs : Nat) : Int), .int .i64 c]) ∧ (c = 0 ↔ k ≤ xs.length) ∧ St w0 w' (L.set i (EyeR g u' (numM k xs))) Fs := by
  unfold numN numM
  by_cases hk : k ≤ xs.length
  · rw [if_pos hk, if_pos hk]
    refine (efixed_ok g (k : Int) u xs W (hS.eyeAt hi) hw (by omega)).mono ?_
    rintro e w' ⟨u', rfl, hg⟩
    rw [Int.toNat_natCast] at hg
    exact ⟨u', 0, by rw [Int.toNat_natCast], by simp [hk], hS.eye hi hg⟩
  · rw [if_neg hk, if_neg hk]
    have he : efixE (k : Int) xs.length = 10 := by unfold efixE; rw [if_neg (by rw [hw]; decide), if_pos (by omega)]
    refine (efixed_bad g (k : Int) u xs W (hS.eyeAt hi) (by rw [he]; decide)).mono ?_
    rintro e w' ⟨rfl, rfl⟩
    exact ⟨u, _, rfl, by rw [he]; simp [hk], by rw [set_same hi]; exact hS⟩
def sizN (xs : List UInt8) : Nat := match getSize xs with | some (n, _) => n | none => 0
def sizM (xs : List UInt8) : List UInt8 := match getSize xs with | some (_, k) => xs.drop k | none => xs
theorem sizN_lt (xs : List UInt8) : sizN xs < 18446744073709551616 := by
  unfold sizN
  split
  · rename_i h; exact (getSize_some h).2.2.2
  · decide
theorem St.eyeSize (hS : St w0 W L Fs) (hi : L[i]? = some (EyeR g u xs)) :
    Calls Try.prog 129 #[.pointer (some ⟨g, 0, none⟩)] W fun e w' => ∃ u' c, e = .returned (.tuple #[.int .u64 ((sizN xs : Nat) : Int), .int .i64 c]) ∧ (c = 0 ↔ ∃ p, getSize xs = some p) ∧ St w0 w' (L.set i (EyeR g u' (sizM xs))) Fs := by
  unfold sizN sizM
  cases hg : getSize xs with
  | some p =>
    obtain ⟨n, k⟩ := p
    refine (esz_ok g u xs n k W (hS.eyeAt hi) hg).mono ?_
    rintro e w' ⟨u', rfl, hgo⟩
    exact ⟨u', 0, rfl, by simp, hS.eye hi hgo⟩
  | none =>
    refine (esz_bad g u xs W (hS.eyeAt hi) hg).mono ?_
    rintro e w' ⟨rfl, hb⟩
    exact ⟨u, 10, rfl, by simp, by rw [set_same hi]; exact hS.call hb⟩
def bytV (xs : List UInt8) : List UInt8 := match getBytes 2000 xs with | some (l, _) => l | none => []
def bytM (xs : List UInt8) : List UInt8 := match getBytes 2000 xs with | some (_, m) => xs.drop m | none => xs
theorem St.eyeBytes (hS : St w0 W L Fs) (hi : L[i]? = some (EyeR g u xs)) (hl : xs.length ≤ 70368744177664) :
    Calls Try.prog 143 #[.pointer (some ⟨g, 0, none⟩), .int .i64 2000] W fun e w' => ∃ v u' c, e = .returned (.tuple #[v, .int .i64 c]) ∧ (c = 0 ↔ ∃ p, getBytes 2000 xs = some p) ∧ St w0 w' (Row v 5 1 (bytV xs).length (bs (bytV xs)) :: L.set i (EyeR g u' (bytM xs))) Fs := by
  unfold bytV bytM
  cases hb : getBytes 2000 xs with
  | some p =>
    obtain ⟨l, m⟩ := p
    refine (ebytes_ok g u xs l m 2000 W (hS.eyeAt hi) hb (by omega) hl).mono ?_
    rintro e w' ⟨v, u', rfl, ho, hg⟩
    exact ⟨v, u', 0, rfl, by simp, hS.eyeRow hi hg ho⟩
  | none =>
    refine (ebytes_bad g u xs 2000 W (hS.eyeAt hi) hb (by omega) hl).mono ?_
    rintro e w' ⟨rfl, hbl⟩
    exact ⟨_, u, 10, rfl, by simp, by rw [set_same hi]; exact (hS.call hbl).nilRow⟩
theorem St.eyeRaw (hS : St w0 W L Fs) (hi : L[i]? = some (EyeR g u xs)) (hl : xs.length ≤ 70368744177664) :
    Calls Try.prog 127 #[.pointer (some ⟨g, 0, none⟩), .int .i64 32] W fun e w' => ∃ v u' c ys, e = .returned (.tuple #[v, .int .i64 c]) ∧ (c = 0 ↔ 32 ≤ xs.length) ∧ (32 ≤ xs.length → ys = xs.take 32) ∧ (¬ 32 ≤ xs.length → ys = [] ∧ v = .slice none 0 0) ∧ St w0 w' (Row v 5 1 ys.length (bs ys) :: L.set i (EyeR g u' (numM 32 xs))) Fs := by
  unfold numM
  by_cases hk : 32 ≤ xs.length
  · rw [if_pos hk]
    refine (hS.eyeRawOk i hi 32 hk hl).mono ?_
    rintro e w' ⟨v, u', rfl, h⟩
    exact ⟨v, u', 0, _, rfl, by simp [hk], fun _ => rfl, fun h' => absurd hk h', h⟩
  · rw [if_neg hk]
    refine (eraw_bad g 32 u xs W (hS.eyeAt hi) (by omega) hl).mono ?_
    rintro e w' ⟨rfl, rfl⟩
    refine ⟨_, u, _, [], rfl, ?_, fun h' => absurd h' hk, fun _ => ⟨rfl, rfl⟩, by rw [set_same hi]; exact hS.nilRow⟩
    unfold rawE
    rw [if_neg (by decide), if_pos (by omega)]
    simp [hk]
end
end
section
open Go Go.RowKit Go.Proofs
attribute [local go_sem] Oper.semAt_some
attribute [local irreducible] Calls
section
variable {w0 W : World} {L : List Res} {Fs : List (World → Prop)} {i j g r : Nat} {u : Value} {xs : List UInt8} {bad : Bool}
set_option maxHeartbeats 1000000 in
set_option maxRecDepth 100000 in
theorem St.kept126t (hS : St w0 W L Fs) (hj : L[j]? = some (Blk r [.pointer (some ⟨g, 0, none⟩), .bool true] 120)) (c : Int)  :
    Calls Try.prog 126 #[.pointer (some ⟨r, 0, none⟩), .int .i64 c] W fun e w' => e = .returned (.tuple #[]) ∧ St w0 w' (L.set j (Blk r [.pointer (some ⟨g, 0, none⟩), .bool true] 120)) Fs := by
  have HS := Lib.hid hS
  have HJ := Lib.hid hj
  clear hS hj
  go_enter Try.func126, Try.ntmps126
  go_wp2_with (first
    | (refine wl (by rfl) (s_ld (v := .bool true) HS.out j (by rfl) (by rfl) HJ.out (by kernel_rfl) (by rfl) ?_))
    | (refine wl (by rfl) (s_st (v := .bool true) HS.out j (by rfl) (by rfl) HJ.out (by kernel_rfl) (by rfl) (by rfl) (by exact Nat.one_lt_two) ?_); intro Wn hS; clear HS; have HS := Lib.hid hS; clear hS))
  first | refine bodyPost_end (results_none rfl _ _ _) rfl ?_ | refine bodyPost_ret (results_none rfl _ _ _) rfl ?_
  exact ⟨rfl, HS.out⟩
set_option maxHeartbeats 1000000 in
set_option maxRecDepth 100000 in
theorem St.kept126o (hS : St w0 W L Fs) (hj : L[j]? = some (Blk r [.pointer (some ⟨g, 0, none⟩), .bool false] 120)) (c : Int) (hc : c = 0) :
    Calls Try.prog 126 #[.pointer (some ⟨r, 0, none⟩), .int .i64 c] W fun e w' => e = .returned (.tuple #[]) ∧ St w0 w' (L.set j (Blk r [.pointer (some ⟨g, 0, none⟩), .bool false] 120)) Fs := by
  subst hc
  have HS := Lib.hid hS
  have HJ := Lib.hid hj
  clear hS hj
  go_enter Try.func126, Try.ntmps126
  go_wp2_with (first
    | (refine wl (by rfl) (s_ld (v := .bool false) HS.out j (by rfl) (by rfl) HJ.out (by kernel_rfl) (by rfl) ?_))
    | (refine wl (by rfl) (s_st (v := .bool false) HS.out j (by rfl) (by rfl) HJ.out (by kernel_rfl) (by rfl) (by rfl) (by exact Nat.one_lt_two) ?_); intro Wn hS; clear HS; have HS := Lib.hid hS; clear hS))
  first | refine bodyPost_end (results_none rfl _ _ _) rfl ?_ | refine bodyPost_ret (results_none rfl _ _ _) rfl ?_
  exact ⟨rfl, HS.out⟩
set_option maxHeartbeats 1000000 in
set_option maxRecDepth 100000 in
theorem St.kept126n (hS : St w0 W L Fs) (hj : L[j]? = some (Blk r [.pointer (some ⟨g, 0, none⟩), .bool false] 120)) (c : Int) (hc : c ≠ 0) :
    Calls Try.prog 126 #[.pointer (some ⟨r, 0, none⟩), .int .i64 c] W fun e w' => e = .returned (.tuple #[]) ∧ St w0 w' (L.set j (Blk r [.pointer (some ⟨g, 0, none⟩), .bool true] 120)) Fs := by
  have hc1 : (c != 0) = true := by simp [hc]
  have HS := Lib.hid hS
  have HJ := Lib.hid hj
  clear hS hj
  go_enter Try.func126, Try.ntmps126
  go_wp2_with (first
    | (refine wl (by rfl) (s_ld (v := .bool false) HS.out j (by rfl) (by rfl) HJ.out (by kernel_rfl) (by rfl) ?_))
    | (refine wl (by rfl) (s_st (v := .bool true) HS.out j (by rfl) (by rfl) HJ.out (by kernel_rfl) (by rfl) (by rfl) (by exact Nat.one_lt_two) ?_); intro Wn hS; clear HS; have HS := Lib.hid hS; clear hS))
  first | refine bodyPost_end (results_none rfl _ _ _) rfl ?_ | refine bodyPost_ret (results_none rfl _ _ _) rfl ?_
  exact ⟨rfl, HS.out⟩
theorem St.kept126 (hS : St w0 W L Fs) (hj : L[j]? = some (Blk r [.pointer (some ⟨g, 0, none⟩), .bool bad] 120)) (c : Int) :
    Calls Try.prog 126 #[.pointer (some ⟨r, 0, none⟩), .int .i64 c] W fun e w' => e = .returned (.tuple #[]) ∧ St w0 w' (L.set j (Blk r [.pointer (some ⟨g, 0, none⟩), .bool (bad || !decide (c = 0))] 120)) Fs := by
  cases bad with
  | true => exact hS.kept126t hj c
  | false =>
    by_cases hc : c = 0
    · rw [decide_eq_true hc]; exact hS.kept126o hj c hc
    · rw [decide_eq_false hc]; exact hS.kept126n hj c hc
set_option maxHeartbeats 1000000 in
set_option maxRecDepth 100000 in
theorem St.four79 (hS : St w0 W L Fs) (hi : L[i]? = some (EyeR g u xs)) (hj : L[j]? = some (Blk r [.pointer (some ⟨g, 0, none⟩), .bool bad] 120)) (hij : i ≠ j) :
    Calls Try.prog 79 #[.pointer (some ⟨r, 0, none⟩)] W fun e w' => ∃ u', e = .returned (.int .u32 ((numN 4 xs : Nat) : Int)) ∧ St w0 w' ((L.set i (EyeR g u' (numM 4 xs))).set j (Blk r [.pointer (some ⟨g, 0, none⟩), .bool (bad || !decide (4 ≤ xs.length))] 120)) Fs := by
  have HS := Lib.hid hS
  have HJ := Lib.hid hj; have HI := Lib.hid hi
  have hn := numN_lt 4 xs (by decide)
  have hw : IntKind.u32.wrap ((numN 4 xs : Nat) : Int) = ((numN 4 xs : Nat) : Int) := by
    rw [IntKind.wrap_u32]; omega
  have HJ2 := Lib.hid (fun (x : Res) => show (L.set i x)[j]? = some (Blk r [.pointer (some ⟨g, 0, none⟩), .bool bad] 120) by rw [List.getElem?_set_ne hij]; exact hj)
  clear hS hj hi
  go_enter Try.func79, Try.ntmps79
  go_wp2_with (first
    | (refine atd 9 (by rfl) ?_; refine wl (by rfl) (s_ld HS.out j (by rfl) (by rfl) HJ.out (by kernel_rfl) (by rfl) ?_))
    | (go_at_call 122; refine (HS.out.eyeFix HI.out 4 (by decide)).mono ?_; rintro e Wn ⟨u', c, rfl, hc, hS⟩; have HC := Lib.hid hc; clear hc; clear HS; have HS := Lib.hid hS; clear hS)
    | (go_at_call 126; refine (HS.out.kept126 (j := j) (HJ2.out _) _).mono ?_; rintro e Wn ⟨rfl, hS⟩; clear HS; have HS := Lib.hid hS; clear hS))
  go_ret
  have e : decide (c = 0) = decide (4 ≤ xs.length) := by by_cases h : c = 0 <;> simp [h, ← HC.out]
  rw [← e]
  exact ⟨u', rfl, HS.out⟩
set_option maxHeartbeats 1000000 in
set_option maxRecDepth 100000 in
theorem St.script128 (hS : St w0 W L Fs) (hi : L[i]? = some (EyeR g u xs)) (hj : L[j]? = some (Blk r [.pointer (some ⟨g, 0, none⟩), .bool bad] 120)) (hij : i ≠ j) (hl : xs.length ≤ 70368744177664) :
    Calls Try.prog 128 #[.pointer (some ⟨r, 0, none⟩)] W fun e w' => ∃ v u', e = .returned v ∧ St w0 w' (Row v 5 1 (bytV xs).length (bs (bytV xs)) :: (L.set i (EyeR g u' (bytM xs))).set j (Blk r [.pointer (some ⟨g, 0, none⟩), .bool (bad || !(getBytes 2000 xs).isSome)] 120)) Fs := by
  have HS := Lib.hid hS
  have HJ := Lib.hid hj; have HI := Lib.hid hi
  have HJ2 := Lib.hid (fun (x y : Res) => show (y :: L.set i x)[j + 1]? = some (Blk r [.pointer (some ⟨g, 0, none⟩), .bool bad] 120) by rw [List.getElem?_cons_succ, List.getElem?_set_ne hij]; exact hj)
  clear hS hj hi
  go_enter Try.func128, Try.ntmps128
  go_wp2_with (first
    | (refine atd 9 (by rfl) ?_; refine wl (by rfl) (s_ld HS.out j (by rfl) (by rfl) HJ.out (by kernel_rfl) (by rfl) ?_))
    | (go_at_call 143; refine (HS.out.eyeBytes HI.out hl).mono ?_; rintro e Wn ⟨v, u', c, rfl, hc, hS⟩; have HC := Lib.hid hc; clear hc; clear HS; have HS := Lib.hid hS; clear hS)
    | (go_at_call 126; refine (HS.out.kept126 (j := j + 1) (HJ2.out _ _) _).mono ?_; rintro e Wn ⟨rfl, hS⟩; clear HS; have HS := Lib.hid hS; clear hS))
  go_ret
  have e : decide (c = 0) = (getBytes 2000 xs).isSome := by
    cases hb : getBytes 2000 xs with
    | none => rw [decide_eq_false (fun h => by obtain ⟨p, hp⟩ := HC.out.1 h; rw [hb] at hp; cases hp)]; rfl
    | some p => rw [decide_eq_true (HC.out.2 ⟨p, hb⟩)]; rfl
  rw [← e]
  exact ⟨v, u', rfl, HS.out⟩
end
end
section
open Go Go.RowKit Go.Proofs
attribute [local go_sem] Oper.semAt_some
attribute [local irreducible] Calls

def z3c : List Value := [.int .u32 0, .slice none 0 0, .int .u32 0]
theorem z35_eq : z35 = bs zh ++ z3c := rfl
section
variable {P : Program} {w W : World} {L : List Res} {Fs : List (World → Prop)} {o : Oper} {a : Act} {K : Act → World → Prop} {Q : Exit → Act → World → Prop} {x y : Operand} {b : Nat} {l : List Value} {T : TypeId}
theorem s_cpk (hS : St w W L Fs) (i : Nat) {cs l' : List Value} {n dc sl sc : Nat} {A : Addr} (ho : o.op = .call { callee := .builtin .copy, args := #[x, y], argTypes := #[28, 28] }) (hu : P.underlying 28 = some (.slice 5)) (hz : (P.info? 5).map (·.size) = some 1) (hx : a.eval x = .slice (some ⟨b, 0, none⟩) n dc) (hy : a.eval y = .slice (some A) sl sc) (hi : L[i]? = some (Blk b l T)) (hn : cs.length = Nat.min sl n) (hl : cs.length ≤ l.length) (hl' : cs ++ l.drop cs.length = l') (hc : ∀ j v, cs[j]? = some v → W.cell? (A.add j) = some v) (h1 : ∀ v ∈ cs, v.oneCell' = true) (h : ∀ W', St w W' (L.set i (Blk b l' T)) Fs → K (a.put o.dst (goInt cs.length)) W') : o.wp P a W K Q := by
  subst hl'
  have hb := hS.blk hi
  have hrun := run_copy_row (P := P) W 28 28 o.type 5 b 0 n dc A sl sc l.toArray T cs hu hz hb hn hc (by simp [hl]) h1
  have e : (l.toArray.toList.take 0 ++ cs ++ l.toArray.toList.drop (0 + cs.length)) = cs ++ l.drop cs.length := by simp
  rw [e] at hrun
  refine wp_of_run (v := goInt cs.length) (W' := W.setRow b (cs ++ l.drop cs.length).toArray) ?_ (h _ (hS.setRow0 hi _))
  unfold execOp
  simp only [ho, resolve, invoke, builtin, Sem.run_bind, Sem.run_pure, Result.andThen_ok, List.map_toArray, List.map_cons, List.map_nil, hx, hy, hrun]
end
theorem info5s : (Try.prog.info? 5).map (·.size) = some 1 := by kernel_rfl
theorem row_cells {W : World} {A : Addr} {n c : Nat} {l : List UInt8} (h : (Row (.slice (some A) n c) 5 1 l.length (bs l)).ok W) : ∀ (j : Nat) v, (bs l)[j]? = some v → W.cell? (A.add j) = some v := by
  obtain ⟨p, c', e, _, _, h2⟩ := HB.of_own h
  injection e with e1 e2 e3
  subst e1
  intro j v hv
  simp only [bs, List.getElem?_map, Option.map_eq_some_iff] at hv
  obtain ⟨y, hy, rfl⟩ := hv
  exact h2 A rfl j y hy
theorem inset {h : List UInt8} {n q : Nat} {v : Value} {s : List UInt8} (hh : h.length = 32) : (((bs h ++ z3c).set 32 (.int .u32 (n : Int))).set 33 v).set 34 (.int .u32 (q : Int)) = inC (v, ⟨h, n, s, q⟩) := by
  have h1 : (bs h).length = 32 := by simp [hh]
  unfold inC z3c
  rw [List.set_append_right 32 _ (by omega), List.set_append_right 33 _ (by omega), List.set_append_right 34 _ (by omega), h1]
  rfl
theorem load66 {w : World} (g : Nat) (cs : Array Value) (t : TypeId) (fr : Nat × Nat) (hg : w.heap[g]? = some (.cells cs t fr)) (hz : cs.size = 35) : (loadVar 66 ⟨g, 0, none⟩).run Try.prog w = .ok (.agg cs) w :=
  run_loadVar_row w g t 66 cs fr _ hg Try.underlying66 rfl (by rw [hz]; kernel_rfl)
theorem ret_c66 {w : World} {fn : Func} {p : Tmp} (h : fn.results = #[.cell p 66]) (tmps : Array Value) (g : Nat) (cs : Array Value) (t : TypeId) (fr : Nat × Nat) (hp : tmps.getD p undef = .pointer (some ⟨g, 0, none⟩)) (hg : w.heap[g]? = some (.cells cs t fr)) (hz : cs.size = 35) :
    (results fn tmps).run Try.prog w = .ok (.agg cs) w := by
  have hp' : tmps[p]?.getD undef = .pointer (some ⟨g, 0, none⟩) := by simpa using hp
  simp [results, h, hp', asAddr, load66 g cs t fr hg hz]
theorem numM_len (k : Nat) (l : List UInt8) : (numM k l).length ≤ l.length := by unfold numM; split <;> simp
theorem bytM_len (l : List UInt8) : (bytM l).length ≤ l.length := by unfold bytM; split <;> simp
theorem sizM_len (l : List UInt8) : (sizM l).length ≤ l.length := by unfold sizM; split <;> simp
/-- What an input's reading gives, and leaves; went all well? -/
def rInH (xs : List UInt8) : List UInt8 := if 32 ≤ xs.length then xs.take 32 else zh
def rIn2 (xs : List UInt8) : List UInt8 := numM 4 (numM 32 xs)
def rInV (xs : List UInt8) : TIn := ⟨rInH xs, numN 4 (numM 32 xs), bytV (rIn2 xs), numN 4 (bytM (rIn2 xs))⟩
def rInM (xs : List UInt8) : List UInt8 := numM 4 (bytM (rIn2 xs))
def rInB (xs : List UInt8) : Bool := decide (32 ≤ xs.length) && (decide (4 ≤ (numM 32 xs).length) && ((getBytes 2000 (rIn2 xs)).isSome && decide (4 ≤ (bytM (rIn2 xs)).length)))
theorem rInV_ok (xs : List UInt8) : (rInV xs).ok := by
  refine ⟨?_, numN_lt 4 _ (by decide), numN_lt 4 _ (by decide)⟩
  unfold rInV rInH
  dsimp only
  split
  · rw [List.length_take]; omega
  · rfl
theorem rInH_len (xs : List UInt8) : (rInH xs).length = 32 := (rInV_ok xs).h
theorem row_sl {W : World} {v : Value} {E : TypeId} {s n : Nat} {l : List Value} (h : (Row v E s n l).ok W) : ∃ A c, v = .slice A n c := by
  rcases h.2 with ⟨rfl, he⟩ | ⟨g, cap, cur, rfl, _⟩
  · exact ⟨none, 0, by rw [he]⟩
  · exact ⟨_, _, rfl⟩
theorem in_all (xs : List UInt8) (As : Option Addr) (cs' : Nat) (h : List UInt8) (hh : h = rInH xs) : (((((bs h ++ z3c).set 32 (.int .u32 ((numN 4 (numM 32 xs) : Nat) : Int))).set 33 (.slice As (bytV (rIn2 xs)).length cs')).set 34 (.int .u32 ((numN 4 (bytM (rIn2 xs)) : Nat) : Int))).drop 0).take 35 = inC (.slice As (bytV (rIn2 xs)).length cs', rInV xs) := by
  subst hh
  have e : (((bs (rInH xs) ++ z3c).set 32 (.int .u32 ((numN 4 (numM 32 xs) : Nat) : Int))).set 33 (.slice As (bytV (rIn2 xs)).length cs')).set 34 (.int .u32 ((numN 4 (bytM (rIn2 xs)) : Nat) : Int)) = inC (.slice As (bytV (rIn2 xs)).length cs', rInV xs) := inset (s := bytV (rIn2 xs)) (rInH_len xs)
  rw [e, List.drop_zero, List.take_of_length_le (Nat.le_of_eq (inC_length (x := (.slice As (bytV (rIn2 xs)).length cs', rInV xs)) (rInV_ok xs)))]
set_option maxHeartbeats 4000000 in
set_option maxRecDepth 100000 in
theorem St.in80a {w0 W : World} {Ls : List Res} {Fs : List (World → Prop)} {g r : Nat} {u : Value} {xs : List UInt8} {bad : Bool} (hS : St w0 W (EyeR g u xs :: Blk r [.pointer (some ⟨g, 0, none⟩), .bool bad] 120 :: Ls) Fs) (hl : xs.length ≤ 1000000) (hk : 32 ≤ xs.length) :
    Calls Try.prog 80 #[.pointer (some ⟨r, 0, none⟩)] W fun e w' => ∃ A c u', e = .returned (.agg (inC (.slice A (rInV xs).s.length c, rInV xs)).toArray) ∧ St w0 w' (Row (.slice A (rInV xs).s.length c) 5 1 (rInV xs).s.length (bs (rInV xs).s) :: EyeR g u' (rInM xs) :: Blk r [.pointer (some ⟨g, 0, none⟩), .bool (bad || !rInB xs)] 120 :: Ls) Fs := by
  have HS := Lib.hid hS
  have HL2 := Lib.hid (show (rIn2 xs).length ≤ 70368744177664 from Nat.le_trans (numM_len _ _) (Nat.le_trans (numM_len _ _) (by omega)))
  have HHX := Lib.hid (show xs.take 32 = rInH xs by unfold rInH; rw [if_pos hk])
  have HH := Lib.hid (show (xs.take 32).length = 32 by rw [HHX.out]; exact rInH_len xs)
  have HK := Lib.hid hk
  clear hS
  go_enter Try.func80, Try.ntmps80
  go_wp2_with (first
    | (refine atd 2 (by rfl) ?_; refine wl (by rfl) (s_al (l := z35) HS.out (by rfl) z66 (by rfl) ?_); intro b2 Wn hS; clear HS; have HS := Lib.hid hS; clear hS)
    | (refine atd 3 (by rfl) ?_; refine wl (by rfl) (s_al (l := z35) HS.out (by rfl) z66 (by rfl) ?_); intro b3 Wn hS; clear HS; have HS := Lib.hid hS; clear hS)
    | (refine atd 10 (by rfl) ?_; refine wl (by rfl) (s_ld HS.out 3 (by rfl) (by rfl) (by rfl) (by kernel_rfl) (by rfl) ?_))
    | (go_at_call 127; go_loud (refine (HS.out.eyeRawOk 2 (by rfl) 32 HK.out (by omega)).mono ?_; rintro e Wn ⟨v4, u1, rfl, hS⟩); rw [show xs.drop 32 = numM 32 xs by unfold numM; rw [if_pos HK.out]] at hS; obtain ⟨A4, c4, rfl, -⟩ := row_some (hS.res (i := 0) rfl) (by rw [List.length_take]; have := HK.out; omega); clear HS; have HS := Lib.hid hS; clear hS)
    | (go_at_call 126; refine (HS.out.kept126 (j := 4) (by rfl) _).mono ?_; rintro e Wn ⟨rfl, hS⟩; clear HS; have HS := Lib.hid hS; clear hS)
    | (refine atd 19 (by rfl) ?_; refine wl (by rfl) (wp_of_run (run_sla (by rfl) (by rfl)) ?_))
    | (refine atd 21 (by rfl) ?_; refine wl (by rfl) (s_cpk HS.out 1 (cs := bs (xs.take 32)) (l' := bs (xs.take 32) ++ z3c) (by rfl) Try.underlying28 info5s (by rfl) (by rfl) (by rfl) (by rw [bs_length, HH.out]; rfl) (by rw [bs_length, HH.out]; decide) (by rw [bs_length, HH.out]; rfl) (row_cells (HS.out.res (i := 0) rfl)) (all_bs _) ?_); intro Wn hS; clear HS; have HS := Lib.hid hS; clear hS)
    | (go_at_call 79; (first | refine (HS.out.four79 (i := 3) (j := 4) (by rfl) (by rfl) (by decide)).mono ?_ | refine (HS.out.four79 (i := 4) (j := 5) (by rfl) (by rfl) (by decide)).mono ?_); rintro e Wn ⟨uf, rfl, hS⟩; clear HS; have HS := Lib.hid hS; clear hS)
    | (go_at_call 128; refine (HS.out.script128 (i := 3) (j := 4) (by rfl) (by rfl) (by decide) HL2.out).mono ?_; rintro e Wn ⟨vs, us, rfl, hS⟩; obtain ⟨As, cs', rfl⟩ : ∃ As cs', vs = .slice As (bytV (rIn2 xs)).length cs' := row_sl (hS.res (i := 0) rfl); clear HS; have HS := Lib.hid hS; clear hS)
    | (first | (refine wl (by rfl) (s_st (v := .int .u32 ((numN 4 (numM 32 xs) : Nat) : Int)) HS.out 1 (by rfl) (by rfl) (by rfl) (by kernel_rfl) (by rfl) (by rfl) (by simp [HH.out, z3c, z35_len]) ?_); intro Wn hS; clear HS; have HS := Lib.hid hS; clear hS))
    | (refine wl (by rfl) (s_st (v := .slice As (bytV (rIn2 xs)).length cs') HS.out 2 (by rfl) (by rfl) (by rfl) (by kernel_rfl) (by rfl) (by rfl) (by simp [HH.out, z3c, z35_len]) ?_); intro Wn hS; clear HS; have HS := Lib.hid hS; clear hS)
    | (refine wl (by rfl) (s_st (v := .int .u32 ((numN 4 (bytM (rIn2 xs)) : Nat) : Int)) HS.out 2 (by rfl) (by rfl) (by rfl) (by kernel_rfl) (by rfl) (by rfl) (by simp [HH.out, z3c, z35_len]) ?_); intro Wn hS; clear HS; have HS := Lib.hid hS; clear hS)
    | (refine atd 32 (by rfl) ?_; refine wl (by rfl) (s_lda (cs := inC (.slice As (bytV (rIn2 xs)).length cs', rInV xs)) HS.out 2 35 (by rfl) (by rfl) (by rfl) ag66 (by exact (in_all xs As cs' (xs.take 32) HHX.out)) (inC_length (x := (.slice As (bytV (rIn2 xs)).length cs', rInV xs)) (rInV_ok xs)) ?_))
    | (refine sto 2 (by rfl) ?_; refine wl (by rfl) (s_sta (cs := inC (.slice As (bytV (rIn2 xs)).length cs', rInV xs)) HS.out 3 35 (by rfl) (by rfl) (by rfl) ag66 (by rfl) (inC_length (x := (.slice As (bytV (rIn2 xs)).length cs', rInV xs)) (rInV_ok xs)) (inC_one (x := (.slice As (bytV (rIn2 xs)).length cs', rInV xs)) rfl) (by exact Nat.le_refl _) ?_); intro Wn hS; rw [splice_all (l := z35) (cs := inC (.slice As (bytV (rIn2 xs)).length cs', rInV xs)) (inC_length (x := (.slice As (bytV (rIn2 xs)).length cs', rInV xs)) (rInV_ok xs))] at hS; clear HS; have HS := Lib.hid hS; clear hS))
  have hb2 := HS.out.blk (i := 3) rfl
  refine bodyPost_ret (ret_c66 (p := 2) rfl _ b2 _ 66 (0, 0) (by rfl) hb2 (by rw [List.size_toArray]; exact inC_length (x := (.slice As (bytV (rIn2 xs)).length cs', rInV xs)) (rInV_ok xs))) rfl ?_
  have h := ((HS.out.sub 1).sub 1).sub 1
  have e : (bad || !decide ((0 : Int) = 0) || !decide (4 ≤ (numM 32 xs).length) || !(getBytes 2000 (rIn2 xs)).isSome || !decide (4 ≤ (bytM (rIn2 xs)).length)) = (bad || !rInB xs) := by
    unfold rInB
    rw [decide_eq_true HK.out]
    cases bad <;> simp [Bool.not_and, Bool.or_assoc, rIn2]
  rw [← e]
  exact ⟨As, cs', _, rfl, h⟩
set_option maxHeartbeats 4000000 in
set_option maxRecDepth 100000 in
theorem St.in80b {w0 W : World} {Ls : List Res} {Fs : List (World → Prop)} {g r : Nat} {u : Value} {xs : List UInt8} {bad : Bool} (hS : St w0 W (EyeR g u xs :: Blk r [.pointer (some ⟨g, 0, none⟩), .bool bad] 120 :: Ls) Fs) (hl : xs.length ≤ 1000000) (hk : ¬ 32 ≤ xs.length) :
    Calls Try.prog 80 #[.pointer (some ⟨r, 0, none⟩)] W fun e w' => ∃ A c u', e = .returned (.agg (inC (.slice A (rInV xs).s.length c, rInV xs)).toArray) ∧ St w0 w' (Row (.slice A (rInV xs).s.length c) 5 1 (rInV xs).s.length (bs (rInV xs).s) :: EyeR g u' (rInM xs) :: Blk r [.pointer (some ⟨g, 0, none⟩), .bool (bad || !rInB xs)] 120 :: Ls) Fs := by
  have HS := Lib.hid hS
  have HL2 := Lib.hid (show (rIn2 xs).length ≤ 70368744177664 from Nat.le_trans (numM_len _ _) (Nat.le_trans (numM_len _ _) (by omega)))
  have HHX := Lib.hid (show zh = rInH xs by unfold rInH; rw [if_neg hk])
  have HH := Lib.hid (show (zh).length = 32 by rw [HHX.out]; exact rInH_len xs)
  have HK := Lib.hid hk
  clear hS
  go_enter Try.func80, Try.ntmps80
  go_wp2_with (first
    | (refine atd 2 (by rfl) ?_; refine wl (by rfl) (s_al (l := z35) HS.out (by rfl) z66 (by rfl) ?_); intro b2 Wn hS; clear HS; have HS := Lib.hid hS; clear hS)
    | (refine atd 3 (by rfl) ?_; refine wl (by rfl) (s_al (l := z35) HS.out (by rfl) z66 (by rfl) ?_); intro b3 Wn hS; clear HS; have HS := Lib.hid hS; clear hS)
    | (refine atd 10 (by rfl) ?_; refine wl (by rfl) (s_ld HS.out 3 (by rfl) (by rfl) (by rfl) (by kernel_rfl) (by rfl) ?_))
    | (go_at_call 127; refine (HS.out.eyeRaw (i := 2) (by rfl) (by omega)).mono ?_; rintro e Wn ⟨v4, u1, c1, ys, rfl, hc, hy1, hy2, hS⟩; obtain ⟨rfl, rfl⟩ := hy2 HK.out; have hc0 : ¬ c1 = 0 := fun h => HK.out (hc.1 h); have HC0 := Lib.hid hc0; clear hc hy1 hy2 hc0; clear HS; have HS := Lib.hid hS; clear hS)
    | (go_at_call 126; refine (HS.out.kept126 (j := 4) (by rfl) _).mono ?_; rintro e Wn ⟨rfl, hS⟩; clear HS; have HS := Lib.hid hS; clear hS)
    | (refine atd 19 (by rfl) ?_; refine wl (by rfl) (wp_of_run (run_sla (by rfl) (by rfl)) ?_))
    | (refine atd 21 (by rfl) ?_; refine wl (by rfl) (wp_of_run (run_cp0 (by rfl) Try.underlying28 info5s (by rfl) (by rfl)) ?_))
    | (go_at_call 79; (first | refine (HS.out.four79 (i := 3) (j := 4) (by rfl) (by rfl) (by decide)).mono ?_ | refine (HS.out.four79 (i := 4) (j := 5) (by rfl) (by rfl) (by decide)).mono ?_); rintro e Wn ⟨uf, rfl, hS⟩; clear HS; have HS := Lib.hid hS; clear hS)
    | (go_at_call 128; refine (HS.out.script128 (i := 3) (j := 4) (by rfl) (by rfl) (by decide) HL2.out).mono ?_; rintro e Wn ⟨vs, us, rfl, hS⟩; obtain ⟨As, cs', rfl⟩ : ∃ As cs', vs = .slice As (bytV (rIn2 xs)).length cs' := row_sl (hS.res (i := 0) rfl); clear HS; have HS := Lib.hid hS; clear hS)
    | (first | (refine wl (by rfl) (s_st (v := .int .u32 ((numN 4 (numM 32 xs) : Nat) : Int)) HS.out 1 (by rfl) (by rfl) (by rfl) (by kernel_rfl) (by rfl) (by rfl) (by simp [HH.out, z3c, z35_len]) ?_); intro Wn hS; clear HS; have HS := Lib.hid hS; clear hS))
    | (refine wl (by rfl) (s_st (v := .slice As (bytV (rIn2 xs)).length cs') HS.out 2 (by rfl) (by rfl) (by rfl) (by kernel_rfl) (by rfl) (by rfl) (by simp [HH.out, z3c, z35_len]) ?_); intro Wn hS; clear HS; have HS := Lib.hid hS; clear hS)
    | (refine wl (by rfl) (s_st (v := .int .u32 ((numN 4 (bytM (rIn2 xs)) : Nat) : Int)) HS.out 2 (by rfl) (by rfl) (by rfl) (by kernel_rfl) (by rfl) (by rfl) (by simp [HH.out, z3c, z35_len]) ?_); intro Wn hS; clear HS; have HS := Lib.hid hS; clear hS)
    | (refine atd 32 (by rfl) ?_; refine wl (by rfl) (s_lda (cs := inC (.slice As (bytV (rIn2 xs)).length cs', rInV xs)) HS.out 2 35 (by rfl) (by rfl) (by rfl) ag66 (by exact (in_all xs As cs' (zh) HHX.out)) (inC_length (x := (.slice As (bytV (rIn2 xs)).length cs', rInV xs)) (rInV_ok xs)) ?_))
    | (refine sto 2 (by rfl) ?_; refine wl (by rfl) (s_sta (cs := inC (.slice As (bytV (rIn2 xs)).length cs', rInV xs)) HS.out 3 35 (by rfl) (by rfl) (by rfl) ag66 (by rfl) (inC_length (x := (.slice As (bytV (rIn2 xs)).length cs', rInV xs)) (rInV_ok xs)) (inC_one (x := (.slice As (bytV (rIn2 xs)).length cs', rInV xs)) rfl) (by exact Nat.le_refl _) ?_); intro Wn hS; rw [splice_all (l := z35) (cs := inC (.slice As (bytV (rIn2 xs)).length cs', rInV xs)) (inC_length (x := (.slice As (bytV (rIn2 xs)).length cs', rInV xs)) (rInV_ok xs))] at hS; clear HS; have HS := Lib.hid hS; clear hS))
  have hb2 := HS.out.blk (i := 3) rfl
  refine bodyPost_ret (ret_c66 (p := 2) rfl _ b2 _ 66 (0, 0) (by rfl) hb2 (by rw [List.size_toArray]; exact inC_length (x := (.slice As (bytV (rIn2 xs)).length cs', rInV xs)) (rInV_ok xs))) rfl ?_
  have hc0 := HC0.out
  have h := ((HS.out.sub 1).sub 1).sub 1
  have e : (bad || !decide (c1 = 0) || !decide (4 ≤ (numM 32 xs).length) || !(getBytes 2000 (rIn2 xs)).isSome || !decide (4 ≤ (bytM (rIn2 xs)).length)) = (bad || !rInB xs) := by
    unfold rInB
    rw [decide_eq_false HK.out]
    cases bad <;> simp [Bool.not_and, Bool.or_assoc, hc0]
  rw [← e]
  exact ⟨As, cs', _, rfl, h⟩
theorem St.in80 {w0 W : World} {Ls : List Res} {Fs : List (World → Prop)} {g r : Nat} {u : Value} {xs : List UInt8} {bad : Bool} (hS : St w0 W (EyeR g u xs :: Blk r [.pointer (some ⟨g, 0, none⟩), .bool bad] 120 :: Ls) Fs) (hl : xs.length ≤ 1000000) :
    Calls Try.prog 80 #[.pointer (some ⟨r, 0, none⟩)] W fun e w' => ∃ A c u', e = .returned (.agg (inC (.slice A (rInV xs).s.length c, rInV xs)).toArray) ∧ St w0 w' (Row (.slice A (rInV xs).s.length c) 5 1 (rInV xs).s.length (bs (rInV xs).s) :: EyeR g u' (rInM xs) :: Blk r [.pointer (some ⟨g, 0, none⟩), .bool (bad || !rInB xs)] 120 :: Ls) Fs := by
  by_cases hk : 32 ≤ xs.length
  · exact hS.in80a hl hk
  · exact hS.in80b hl hk
end
section
open Go Go.RowKit Go.Proofs
attribute [local go_sem] Oper.semAt_some
attribute [local irreducible] Calls

def rOutV (xs : List UInt8) : TOut := ⟨wrap64 ((numN 8 xs : Nat) : Int), bytV (numM 8 xs)⟩
def rOutM (xs : List UInt8) : List UInt8 := bytM (numM 8 xs)
def rOutB (xs : List UInt8) : Bool := decide (8 ≤ xs.length) && (getBytes 2000 (numM 8 xs)).isSome
theorem wrap64_ok (n : Nat) : -9223372036854775808 ≤ wrap64 (n : Int) ∧ wrap64 (n : Int) ≤ 9223372036854775807 := by
  simp only [wrap64, IntKind.wrap_i64]; omega
theorem rOutV_ok (xs : List UInt8) : (rOutV xs).ok := wrap64_ok _
theorem emod_sub_add {n a m : Int} (h0 : 0 ≤ n) (h : n < m) : ((n + a) % m - a) % m = n := by
  rw [Int.sub_emod, Int.emod_emod, ← Int.sub_emod, Int.add_sub_cancel]
  exact Int.emod_eq_of_lt h0 h
theorem w64_back (n : Nat) (h : n < 18446744073709551616) : (wrap64 (n : Int) % 18446744073709551616).toNat = n := by
  have e : wrap64 (n : Int) = ((n : Int) + 9223372036854775808) % 18446744073709551616 - 9223372036854775808 := by simp only [wrap64]
  rw [e, emod_sub_add (m := 18446744073709551616) (Int.natCast_nonneg n) (by omega), Int.toNat_natCast]
theorem pow8 : (256 : Nat) ^ 8 = 18446744073709551616 := rfl
theorem u_mk (v : Int) (s : List UInt8) : (TOut.mk v s).u = (v % 18446744073709551616).toNat := rfl
theorem rOutV_u (xs : List UInt8) : (rOutV xs).u = numN 8 xs := by
  have h := numN_lt 8 xs (by decide)
  rw [pow8] at h
  unfold rOutV
  rw [u_mk]
  exact w64_back _ h
theorem outC_r (xs : List UInt8) (A : Option Addr) (c : Nat) : outC (.slice A (rOutV xs).s.length c, rOutV xs) = [.int .i64 (wrap64 ((numN 8 xs : Nat) : Int)), .slice A (bytV (numM 8 xs)).length c] := rfl
theorem rOutV_s (xs : List UInt8) : (rOutV xs).s = bytV (numM 8 xs) := rfl
theorem build68v (v : Int) (A : Option Addr) (n c : Nat) (W : World) : (Instr.build 68 #[(0, .int .i64 v), (1, .slice A n c)]).run Try.prog W = .ok (.agg #[.int .i64 v, .slice A n c]) W := by kernel_rfl
theorem run_b68v {W : World} {ev : Operand → Value} {o : Oper} {x y : Operand} {v : Int} {A : Option Addr} {n c : Nat} (ho : o.op = .build 68 #[(0, x), (1, y)]) (hx : ev x = .int .i64 v) (hy : ev y = .slice A n c) : (execOp ev o).run Try.prog W = .ok (.value (.agg #[.int .i64 v, .slice A n c])) W := by
  unfold execOp
  simp only [ho, List.map_toArray, List.map_cons, List.map_nil, hx, hy, Sem.run_bind, build68v v A n c W, Result.andThen_ok, Sem.run_pure]
theorem load68 {w : World} (g : Nat) (cs : Array Value) (t : TypeId) (fr : Nat × Nat) (hg : w.heap[g]? = some (.cells cs t fr)) (hz : cs.size = 2) : (loadVar 68 ⟨g, 0, none⟩).run Try.prog w = .ok (.agg cs) w :=
  run_loadVar_row w g t 68 cs fr _ hg Try.underlying68 rfl (by rw [hz]; kernel_rfl)
theorem ret_c68 {w : World} {fn : Func} {p : Tmp} (h : fn.results = #[.cell p 68]) (tmps : Array Value) (g : Nat) (cs : Array Value) (t : TypeId) (fr : Nat × Nat) (hp : tmps.getD p undef = .pointer (some ⟨g, 0, none⟩)) (hg : w.heap[g]? = some (.cells cs t fr)) (hz : cs.size = 2) :
    (results fn tmps).run Try.prog w = .ok (.agg cs) w := by
  have hp' : tmps[p]?.getD undef = .pointer (some ⟨g, 0, none⟩) := by simpa using hp
  simp [results, h, hp', asAddr, load68 g cs t fr hg hz]
set_option maxHeartbeats 4000000 in
set_option maxRecDepth 100000 in
theorem St.out81 {w0 W : World} {Ls : List Res} {Fs : List (World → Prop)} {g r : Nat} {u : Value} {xs : List UInt8} {bad : Bool} (hS : St w0 W (EyeR g u xs :: Blk r [.pointer (some ⟨g, 0, none⟩), .bool bad] 120 :: Ls) Fs) (hl : xs.length ≤ 1000000) :
    Calls Try.prog 81 #[.pointer (some ⟨r, 0, none⟩)] W fun e w' => ∃ A c u', e = .returned (.agg (outC (.slice A (rOutV xs).s.length c, rOutV xs)).toArray) ∧ St w0 w' (Row (.slice A (rOutV xs).s.length c) 5 1 (rOutV xs).s.length (bs (rOutV xs).s) :: EyeR g u' (rOutM xs) :: Blk r [.pointer (some ⟨g, 0, none⟩), .bool (bad || !rOutB xs)] 120 :: Ls) Fs := by
  have HS := Lib.hid hS
  have HL2 := Lib.hid (show (numM 8 xs).length ≤ 70368744177664 from Nat.le_trans (numM_len _ _) (by omega))
  obtain ⟨N, hN⟩ : ∃ N, numN 8 xs = N := ⟨_, rfl⟩
  obtain ⟨V, hV⟩ : ∃ V, wrap64 ((N : Nat) : Int) = V := ⟨_, rfl⟩
  have HV := Lib.hid hV
  have HN := Lib.hid hN
  clear hS hN
  go_enter Try.func81, Try.ntmps81
  go_wp2_with (first
    | (refine atd 2 (by rfl) ?_; refine wl (by rfl) (s_al (l := [.int .i64 0, .slice none 0 0]) HS.out (by rfl) z68 (by rfl) ?_); intro b2 Wn hS; clear HS; have HS := Lib.hid hS; clear hS)
    | (refine atd 9 (by rfl) ?_; refine wl (by rfl) (s_ld HS.out 2 (by rfl) (by rfl) (by rfl) (by kernel_rfl) (by rfl) ?_))
    | (go_at_call 122; refine (HS.out.eyeFix (i := 1) (by rfl) 8 (by decide)).mono ?_; rintro e Wn ⟨u', c1, rfl, hc, hS⟩; rw [HN.out]; have HC := Lib.hid hc; clear hc; clear HS; have HS := Lib.hid hS; clear hS)
    | (go_at_call 126; refine (HS.out.kept126 (j := 2) (by rfl) _).mono ?_; rintro e Wn ⟨rfl, hS⟩; clear HS; have HS := Lib.hid hS; clear hS)
    | (go_at_call 128; refine (HS.out.script128 (i := 1) (j := 2) (by rfl) (by rfl) (by decide) HL2.out).mono ?_; rintro e Wn ⟨vs, us, rfl, hS⟩; obtain ⟨As, cs', rfl⟩ : ∃ As cs', vs = .slice As (bytV (numM 8 xs)).length cs' := row_sl (hS.res (i := 0) rfl); clear HS; have HS := Lib.hid hS; clear hS)
    | (refine atd 20 (by rfl) ?_; refine wl (by rfl) (wp_of_run (run_b68v (by rfl) (by rfl) (by rfl)) ?_))
    | (refine sto 2 (by rfl) ?_; refine wl (by rfl) (s_sta (cs := [.int .i64 V, .slice As (bytV (numM 8 xs)).length cs']) HS.out 1 2 (by rfl) (by rfl) (by rfl) ag68 (by rfl) (by rfl) (by intro v hv; simp at hv; rcases hv with rfl | rfl <;> rfl) (by exact Nat.le_refl _) ?_); intro Wn hS; rw [splice_all (l := [.int .i64 0, .slice none 0 0]) (cs := [.int .i64 V, .slice As (bytV (numM 8 xs)).length cs']) (rfl)] at hS; clear HS; have HS := Lib.hid hS; clear hS))
  have hb2 := HS.out.blk (i := 1) rfl
  refine bodyPost_ret (ret_c68 (p := 2) rfl _ b2 _ 68 (0, 0) (by rfl) hb2 (by rfl)) rfl ?_
  have h := HS.out.sub 1
  have e : (bad || !decide (c1 = 0) || !(getBytes 2000 (numM 8 xs)).isSome) = (bad || !rOutB xs) := by
    have e1 : decide (c1 = 0) = decide (8 ≤ xs.length) := by by_cases h : c1 = 0 <;> simp [h, ← HC.out]
    rw [e1]
    unfold rOutB
    cases bad <;> simp [Bool.not_and, Bool.or_assoc]
  rw [← e]
  refine ⟨As, cs', us, ?_, ?_⟩
  · rw [outC_r, HN.out, HV.out]
  · rw [rOutV_s]; exact h
end
end Go.Proofs.Yteljmpoaggfliaa
