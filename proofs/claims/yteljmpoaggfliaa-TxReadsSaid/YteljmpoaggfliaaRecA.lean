/- Contracts and words that the laws stand on (RecA). -/
import Derived.Test.YteljmpoaggfliaaBase
import Derived.Test.YteljmpoaggfliaaLawA
set_option linter.unusedVariables false
set_option linter.unusedSimpArgs false
namespace Go.Proofs.Yteljmpoaggfliaa
section
open Go Go.RowKit Go.Proofs
/-! Pens, eyes and bytes among the parts of a world. -/
section
variable {w W W' : World} {L : List Res} {Fs : List (World → Prop)} {K : Nat → Prop}
/-- A pen with what it has written. -/
def PenR (p : Nat) (v : Value) (xs : List UInt8) : Res := ⟨p :: v.ownBlock.toList, fun W => IsPen W p v xs,
  fun _ _ h ho => ⟨(h p (by simp)).trans ho.blk, own_block ho.row (fun k hk => h k (by simp [hk]))⟩,
  fun W ho k hk => by
    rcases List.mem_cons.1 hk with rfl | hk
    · exact ⟨_, ho.blk, rfl⟩
    · exact (Row v 5 1 xs.length (bs xs)).cel W (own_base ho.row (fun _ _ => Nat.zero_le _)) k hk⟩
theorem St.pen0 (h : St w W L Fs) {i p : Nat} (hi : L[i]? = some (Blk p [.slice none 0 0] 96)) : St w W (L.set i (PenR p (.slice none 0 0) [])) Fs := by
  have hb := h.blk hi
  refine h.upd hi (Chg.refl _ _) ⟨hb, World.ownsRow_nil _ _ _ _⟩ (fun k hk => ?_)
  simp [PenR, Value.ownBlock] at hk
  subst hk
  exact ⟨.inl (by simp [Blk]), blk_lt hb⟩
theorem St.pen (h : St w W L Fs) {i p : Nat} {v v' : Value} {xs ys : List UInt8} (hi : L[i]? = some (PenR p v xs)) (g : PenGo W W' p v v' ys) : St w W' (L.set i (PenR p v' ys)) Fs := by
  refine h.upd hi g.chg g.pen (fun k hk => ?_)
  rcases List.mem_cons.1 hk with rfl | hk
  · exact ⟨.inl (by simp [PenR]), blk_lt g.pen.blk⟩
  · simp only [Option.mem_toList] at hk
    refine ⟨?_, own_lt g.pen.row k hk⟩
    exact g.nx.mem (S := (PenR p v xs).fp) (fun k hk => by simp [PenR, hk]) k hk
/-- An eye with what is left to read. -/
def EyeR (p : Nat) (u : Value) (xs : List UInt8) : Res := ⟨p :: u.ownBlock.toList, fun W => IsEye W p u xs ∧ ∀ k, u.ownBlock = some k → k ≠ p ∧ ∃ o : Obj, W.heap[k]? = some o ∧ o.isCells = true,
  fun W W' h ho => ⟨⟨(h p (by simp)).trans ho.1.blk, by
      have hl := ho.1.left
      obtain ⟨A, c, rfl, h0, h1, h2⟩ := hl
      exact ⟨A, c, rfl, h0, h1, fun a ha i x hx => (World.cell?_of_block (h _ (by subst ha; simp [Value.ownBlock, blk_of_add]))).trans (h2 a ha i x hx)⟩⟩,
    fun k hk => ⟨(ho.2 k hk).1, by rw [h k (by simp [hk])]; exact (ho.2 k hk).2⟩⟩,
  fun W ho k hk => by
    rcases List.mem_cons.1 hk with rfl | hk
    · exact ⟨_, ho.1.blk, rfl⟩
    · simp only [Option.mem_toList] at hk; exact (ho.2 k hk).2⟩
theorem St.eye (h : St w W L Fs) {i p : Nat} {u u' : Value} {xs ys : List UInt8} (hi : L[i]? = some (EyeR p u xs)) (g : EyeGo W W' p u u' ys) : St w W' (L.set i (EyeR p u' ys)) Fs := by
  have hr := h.own _ (List.mem_of_getElem? hi)
  have hsame := g.same
  have key : ∀ k, u'.ownBlock = some k → k ≠ p ∧ k < W.heap.size ∧ W'.heap[k]? = W.heap[k]? := fun k hk => by
    rw [hsame] at hk
    have h1 := (hr.1.2 k hk).1
    have h2 := (hr.2 k (by simp [EyeR, hk])).2
    exact ⟨h1, h2, g.chg.block k h2 (by simp [h1])⟩
  refine h.upd hi (g.chg.mono (S' := (EyeR p u xs).fp) (fun k hk => .inl (by simp at hk; simp [EyeR, hk]))) ⟨g.eye, fun k hk => ⟨(key k hk).1, by rw [(key k hk).2.2]; exact (hr.1.2 k (by rwa [hsame] at hk)).2⟩⟩ (fun k hk => ?_)
  rcases List.mem_cons.1 hk with rfl | hk
  · exact ⟨.inl (by simp [EyeR]), blk_lt g.eye.blk⟩
  · simp only [Option.mem_toList] at hk
    have := (key k hk).2.1
    exact ⟨.inl (by rw [hsame] at hk; simp [EyeR, hk]), Nat.lt_of_lt_of_le this g.chg.size⟩
theorem St.eyeAt (h : St w W L Fs) {i p : Nat} {u : Value} {xs : List UInt8} (hi : L[i]? = some (EyeR p u xs)) : IsEye W p u xs := (h.res hi).1
theorem HB.away {v : Value} {l : List UInt8} (h : HB W v l) (hk : ∀ k, v.ownBlock = some k → ¬ K k) : Away K (fun W => HB W v l) W := fun W' hs => by
  obtain ⟨A, c, rfl, h0, h1, h2⟩ := h
  exact ⟨A, c, rfl, h0, h1, fun a ha i x hx => hs.cell (by rw [blk_of_add]; exact hk _ (by subst ha; rfl)) (h2 a ha i x hx)⟩
theorem HB.away0 {v : Value} {l : List UInt8} (h : HB W v l) : Away (Keys []) (fun W => HB W v l) W := h.away fun k _ hk => by obtain ⟨r, hr, _⟩ := hk; cases hr
theorem St.more (h : St w W L Fs) (i : Nat) {F G : World → Prop} (hi : Fs[i]? = some F) (hg : ∀ W, F W → G W) : St w W L (G :: Fs) :=
  h.addF fun W' hs => hg _ (h.facts F (List.mem_of_getElem? hi) W' hs)
theorem New.row {v' : Value} {E : TypeId} {n s : Nat} {l : List Value} (ho : W'.ownsRow W.heap.size E s v' n l) (hb : Below W.heap.size W W') : New W W' (Row v' E s n l) :=
  ⟨hb, own_base ho (fun _ _ => Nat.zero_le _), fun k hk => by simp only [Row, Option.mem_toList] at hk; exact ho.lt k hk⟩
theorem Row.hb {v : Value} {l : List UInt8} {W : World} (h : (Row v 5 1 l.length (bs l)).ok W) : HB W v l := HB.of_own h
theorem St.own_row {v : Value} {E : TypeId} {s n i : Nat} {l : List Value} (h : St w W L Fs) (hi : L[i]? = some (Row v E s n l)) : W.ownsRow w.heap.size E s v n l := own_base (h.res hi) (fun k hk => ((h.own _ (List.mem_of_getElem? hi)).2 k (by simp [Row, hk])).1)
end
set_option maxHeartbeats 400000 in
set_option maxRecDepth 100000 in
theorem look_new (v : Value) (xs : List UInt8) (w : World) (h : HB w v xs) (hl : xs.length ≤ 70368744177664) :
    Calls Try.prog 63 #[v] w fun e w' => ∃ g u, e = .returned (.pointer (some ⟨g, 0, none⟩)) ∧ New w w' (EyeR g u xs) := by
  have H := Lib.hid h; clear h
  go_enter Try.func63, Try.ntmps63
  go_wp2_with (go_at_call 78; refine (clone_any _ xs _ H.out hl).mono ?_; rintro e w1 ⟨v', rfl, hown, hbl⟩; have HO := Lib.hid hown; obtain ⟨A, c, rfl⟩ := own_slice hown; clear hown)
  go_ret
  have h1 := HO.out.lt
  have hc := (Row (.slice A xs.length c) 5 1 xs.length (bs xs)).cel w1 (own_base HO.out (fun _ _ => Nat.zero_le _))
  refine ⟨w1.heap.size, _, rfl, hbl.alloc hbl.size _, ⟨⟨heap_alloc_new w1 _, ?_⟩, fun k hk => ⟨by have := (h1 k hk).2; omega, ?_⟩⟩, fun k hk => ?_⟩
  · exact (HB.of_own HO.out).chg (S := []) ((Chg.refl _ _).alloc _) (by simp)
  · obtain ⟨o, ho, hcc⟩ := hc k (by simp [Row, hk])
    refine ⟨o, ?_, hcc⟩
    exact (heap_alloc_old (w := w1) _ (by have := (h1 k hk).2; omega)).trans ho
  · rcases List.mem_cons.1 hk with rfl | hk
    · exact ⟨hbl.size, by simp⟩
    · simp only [Option.mem_toList] at hk
      have := h1 k hk
      exact ⟨this.1, by simp; omega⟩
end
section
open Go Go.RowKit Go.Proofs
/-! A row that is built, and one that is appended to. -/
section
variable {P : Program} {w W : World} {L : List Res} {Fs : List (World → Prop)} {o : Oper} {a : Act} {K : Act → World → Prop} {Q : Exit → Act → World → Prop}
theorem run_bs {t E : TypeId} {n s : Nat} {z : Value} {parts : Array (Nat × Operand)} {vals : Array (Nat × Value)} {cs : List Value} (ho : o.op = .buildSlice t n parts) (ht : P.underlying t = some (.slice E)) (hi : ((P.info? E).map fun i => (i.size, i.zero)) = some (s, some z))
    (hv : parts.map (fun (i, x) => (i, a.eval x)) = vals) (hn : n * s ≤ 16777216) (h0 : n * s ≠ 0) (hf : Instr.fill (fun i => some (i * s, s)) ((Array.range (n * s)).map (z.cells[· % z.cells.size]!)) vals.toList = some cs.toArray) :
    (execOp a.eval o).run P W = .ok (.value (.slice (some ⟨W.heap.size, 0, none⟩) n n)) (W.alloc (.cells cs.toArray E)) := by
  obtain ⟨i, hi', hzz⟩ := Option.map_eq_some_iff.1 hi
  simp only [Prod.mk.injEq] at hzz
  obtain ⟨rfl, hz⟩ := hzz
  have e1 : (zeroValue E).run P W = .ok z W := by simp [zeroValue, typeInfo, hi', hz, go_sem]
  have e2 : (Go.sizeOf E).run P W = .ok i.size W := by simp [sizeOf, typeInfo, hi', go_sem]
  unfold execOp
  simp only [ho, hv, Instr.buildSlice, Sem.run_bind, Sem.run_pure, Result.andThen_ok, run_underlying ht, e2, show ¬ (n * i.size > 2 ^ 24) from by omega, if_false, h0, e1, hf, newRow, run_newObj_alloc]
theorem s_bs (hS : St w W L Fs) {t E : TypeId} (n s : Nat) {z : Value} {parts : Array (Nat × Operand)} {vals : Array (Nat × Value)} (cs : List Value) (ho : o.op = .buildSlice t n parts) (ht : P.underlying t = some (.slice E)) (hi : ((P.info? E).map fun i => (i.size, i.zero)) = some (s, some z))
    (hv : parts.map (fun (i, x) => (i, a.eval x)) = vals) (hn : n * s ≤ 16777216) (h0 : n * s ≠ 0) (hf : Instr.fill (fun i => some (i * s, s)) ((Array.range (n * s)).map (z.cells[· % z.cells.size]!)) vals.toList = some cs.toArray) (hl : cs.length = n * s) (hm : n ≤ 1000)
    (h : ∀ b W', St w W' (Row (.slice (some ⟨b, 0, none⟩) n n) E s n cs :: L) Fs → K (a.put o.dst (.slice (some ⟨b, 0, none⟩) n n)) W') : o.wp P a W K Q := by
  refine wp_of_run (run_bs ho ht hi hv hn h0 hf) (h _ _ ?_)
  refine hS.new ((Below.refl _ _).alloc (Nat.le_refl _) _) (r := Row (.slice (some ⟨W.heap.size, 0, none⟩) n n) E s n cs) ?_ (fun k hk => by simp [Row, Value.ownBlock] at hk; subst hk; simp)
  have := World.ownsRow_lit (base := 0) (e := E) (size := s) W cs.toArray n (Nat.zero_le _) (by simp only [maxLen]; omega) (by simpa using hl)
  have this' : (W.alloc (.cells cs.toArray E)).ownsRow 0 E s (.slice (some ⟨W.heap.size, 0, none⟩) n n) n cs := by simpa using this
  exact this'
theorem s_app (hS : St w W L Fs) (i : Nat) {t E : TypeId} {s x : Operand} {v u : Value} {xs ys : List UInt8} (ho : o.op = .call { callee := .builtin .append, args := #[s, x], argTypes := #[t, t] }) (ht : P.underlying t = some (.slice E)) (hinfo : (P.info? E).map (fun i => (i.zero, i.size, i.bytes)) = some (some (.int .u8 0), 1, 1))
    (hs : a.eval s = v) (hx : a.eval x = u) (hi : L[i]? = some (Row v E 1 xs.length (bs xs))) (hr : HB W u ys) (hl : xs.length + ys.length ≤ 140737488355328)
    (h : ∀ v' W', St w W' (L.set i (Row v' E 1 (xs ++ ys).length (bs (xs ++ ys)))) Fs → K (a.put o.dst v') W') : o.wp P a W K Q := by
  refine wp_pushes W s x t ho w.heap.size E ht hinfo v xs ys u hs hx (hS.own_row hi) hr hl hS.below.size fun v' W' h2 h3 h4 => h v' W' ?_
  refine hS.upd hi (r := Row v E 1 xs.length (bs xs)) ((Chg.refl _ _).grown h3 (fun k hk => .inl (by simp [Row, hk]))) (own_base h2 (fun _ _ => Nat.zero_le _)) (fun k hk => ?_)
  simp only [Row, Option.mem_toList] at hk
  exact ⟨h4.mem (S := (Row v E 1 xs.length (bs xs)).fp) (fun k hk => by simp [Row, hk]) k hk, (h2.lt k hk).2⟩
/-- Onto nil. -/
theorem s_app0 (hS : St w W L Fs) {t E : TypeId} {s x : Operand} {u : Value} {ys : List UInt8} (ho : o.op = .call { callee := .builtin .append, args := #[s, x], argTypes := #[t, t] }) (ht : P.underlying t = some (.slice E)) (hinfo : (P.info? E).map (fun i => (i.zero, i.size, i.bytes)) = some (some (.int .u8 0), 1, 1))
    (hs : a.eval s = .slice none 0 0) (hx : a.eval x = u) (hr : HB W u ys) (hl : ys.length ≤ 140737488355328)
    (h : ∀ v' W', St w W' (Row v' E 1 ys.length (bs ys) :: L) Fs → K (a.put o.dst v') W') : o.wp P a W K Q := by
  refine wp_pushes W s x t ho W.heap.size E ht hinfo _ [] ys u hs hx (World.ownsRow_nil _ _ _ _) hr (by simpa using hl) (Nat.le_refl _) fun v' W' h2 h3 h4 => h v' W' ?_
  have hb : Below W.heap.size W W' := (Below.refl _ _).grown h3 (Nat.le_refl _) (by simp [Value.ownBlock])
  exact hS.take (New.row (by simpa using h2) hb)
end
end
section
open Go Go.RowKit Go.Proofs
/-! A row appended to a row; built slices and appends inside a round. -/
section
variable {P : Program} {k0 w W : World} {L : List Res} {Fs : List (World → Prop)} {o : Oper} {a : Act} {K : Act → World → Prop} {Q : Exit → Act → World → Prop} {F : Fence} {fm : Nat}
theorem run_rows {base : Nat} {t ty E : TypeId} {z : Value} {size bytes : Nat} (ht : P.underlying t = some (.slice E)) (hinfo : (P.info? E).map (fun i => (i.zero, i.size, i.bytes)) = some (some z, size, bytes)) (hzs : z.cells.size = size) (hsz : 0 < size)
    {v : Value} {n : Nat} {xs : List Value} (hown : W.ownsRow base E size v n xs) {g m c : Nat} {news : List Value} (hu : W.ownsRow 0 E size (.slice (some ⟨g, 0, none⟩) m c) m news) (h1 : ∀ u ∈ news, u.oneCell' = true)
    (hl : (n + m) * bytes ≤ 140737488355328) (hl2 : n + m ≤ 140737488355328) (hbase : base ≤ W.heap.size) :
    ∃ v' w', (Builtin.append_ #[t, t] ty #[v, .slice (some ⟨g, 0, none⟩) m c]).run P W = .ok v' w' ∧ w'.ownsRow base E size v' (n + m) (xs ++ news) ∧ W.grownBy w' v.ownBlock ∧ Nx W v v' := by
  obtain ⟨i0, hi, hzz⟩ := Option.map_eq_some_iff.1 hinfo
  simp only [Prod.mk.injEq] at hzz
  obtain ⟨hz0, hz1, hz2⟩ := hzz
  obtain ⟨v', w', hrun, a2, a3, _, a5⟩ := run_append_own_at (P := P) (w := W) base t ty E i0 z size bytes ht hi hz0 hz1 hz2 hzs hsz v n xs hown ⟨g, 0, none⟩ m c news hu.1
    (fun j u hj => hu.cells rfl j u hj) h1 (by simp only [maxLen]; omega) hl hbase
  refine ⟨v', w', hrun, a2, a3, ?_⟩
  rcases a5 with a5 | a5
  · exact .inl a5
  · exact .inr ⟨_, a5, Nat.le_refl _⟩
theorem exec_app {t : TypeId} {s x : Operand} {ev : Operand → Value} {v u v' : Value} {w' : World} (ho : o.op = .call { callee := .builtin .append, args := #[s, x], argTypes := #[t, t] }) (hs : ev s = v) (hx : ev x = u) (h : (Builtin.append_ #[t, t] o.type #[v, u]).run P W = .ok v' w') :
    (execOp ev o).run P W = .ok (.value v') w' := by
  unfold execOp
  simp only [ho, resolve, invoke, builtin, Sem.run_bind, Sem.run_pure, Result.andThen_ok, List.map_toArray, List.map_cons, List.map_nil, hs, hx, h]
theorem St.grown (h : St w W L Fs) {i : Nat} {v v' : Value} {E : TypeId} {s n m : Nat} {xs ys : List Value} {W' : World} (hi : L[i]? = some (Row v E s n xs)) (h2 : W'.ownsRow w.heap.size E s v' m ys) (h3 : W.grownBy W' v.ownBlock) (h4 : Nx W v v') : St w W' (L.set i (Row v' E s m ys)) Fs := by
  refine h.upd hi (r := Row v E s n xs) ((Chg.refl _ _).grown h3 (fun k hk => .inl (by simp [Row, hk]))) (own_base h2 (fun _ _ => Nat.zero_le _)) (fun k hk => ?_)
  simp only [Row, Option.mem_toList] at hk
  exact ⟨h4.mem (S := (Row v E s n xs).fp) (fun k hk => by simp [Row, hk]) k hk, (h2.lt k hk).2⟩
theorem s_rows (hS : St w W L Fs) (i j : Nat) {t E : TypeId} {s x : Operand} {v : Value} {n m c g size bytes : Nat} {xs news : List Value} {z : Value} (ho : o.op = .call { callee := .builtin .append, args := #[s, x], argTypes := #[t, t] }) (ht : P.underlying t = some (.slice E)) (hinfo : (P.info? E).map (fun i => (i.zero, i.size, i.bytes)) = some (some z, size, bytes)) (hzs : z.cells.size = size) (hsz : 0 < size)
    (hs : a.eval s = v) (hx : a.eval x = .slice (some ⟨g, 0, none⟩) m c) (hi : L[i]? = some (Row v E size n xs)) (hj : L[j]? = some (Row (.slice (some ⟨g, 0, none⟩) m c) E size m news)) (h1 : ∀ u ∈ news, u.oneCell' = true) (hl : (n + m) * bytes ≤ 140737488355328) (hl2 : n + m ≤ 140737488355328)
    (h : ∀ v' W', St w W' (L.set i (Row v' E size (n + m) (xs ++ news))) Fs → K (a.put o.dst v') W') : o.wp P a W K Q := by
  obtain ⟨v', w', hrun, h2, h3, h4⟩ := run_rows (P := P) (ty := o.type) ht hinfo hzs hsz (hS.own_row hi) (hS.res hj) h1 hl hl2 hS.below.size
  exact wp_of_run (exec_app ho hs hx hrun) (h _ _ (hS.grown hi h2 h3 h4))
theorem KeepsOthers.of_row {v : Value} {B : Nat} {E : TypeId} {s n : Nat} {xs : List Value} {W' : World} (ho : W.ownsRow B E s v n xs) (hg : W.grownBy W' v.ownBlock) : KeepsOthers W W' := by
  refine ⟨hg.size, fun k x hk hx => (hg.block k (Array.getElem?_eq_some_iff.1 hk).1 (fun e => ?_)).trans hk⟩
  obtain ⟨y, hy, hc⟩ := (Row v E s n xs).cel W (own_base ho (fun _ _ => Nat.zero_le _)) k (by simp [Row, ← e])
  rw [hk] at hy
  injection hy with hy
  subst hy
  rw [hx] at hc
  cases hc
theorem i_rows (hS : Sk k0 w W L Fs) (i j : Nat) {t E : TypeId} {s x : Operand} {v : Value} {n m c g size bytes : Nat} {xs news : List Value} {z : Value} (ho : o.op = .call { callee := .builtin .append, args := #[s, x], argTypes := #[t, t] }) (hab : o.about P W a.eval = none) (ht : P.underlying t = some (.slice E)) (hinfo : (P.info? E).map (fun i => (i.zero, i.size, i.bytes)) = some (some z, size, bytes)) (hzs : z.cells.size = size) (hsz : 0 < size)
    (hs : a.eval s = v) (hx : a.eval x = .slice (some ⟨g, 0, none⟩) m c) (hi : L[i]? = some (Row v E size n xs)) (hj : L[j]? = some (Row (.slice (some ⟨g, 0, none⟩) m c) E size m news)) (h1 : ∀ u ∈ news, u.oneCell' = true) (hl : (n + m) * bytes ≤ 140737488355328) (hl2 : n + m ≤ 140737488355328)
    (h : ∀ v' W', Sk k0 w W' (L.set i (Row v' E size (n + m) (xs ++ news))) Fs → K (a.put o.dst v') W') : o.wpIn F fm P a W K Q := by
  obtain ⟨v', w', hrun, h2, h3, h4⟩ := run_rows (P := P) (ty := o.type) ht hinfo hzs hsz (hS.st.own_row hi) (hS.st.res hj) h1 hl hl2 hS.st.below.size
  exact wpIn_of_run (by rw [ho]; exact fun c h => by cases h) hab (exec_app ho hs hx hrun) (h _ _ ⟨hS.st.grown hi h2 h3 h4, hS.oth.trans (KeepsOthers.of_row (hS.st.own_row hi) h3)⟩)
theorem i_bs (hS : Sk k0 w W L Fs) {t E : TypeId} (n s : Nat) {z : Value} {parts : Array (Nat × Operand)} {vals : Array (Nat × Value)} (cs : List Value) (ho : o.op = .buildSlice t n parts) (ht : P.underlying t = some (.slice E)) (hi : ((P.info? E).map fun i => (i.size, i.zero)) = some (s, some z))
    (hv : parts.map (fun (i, x) => (i, a.eval x)) = vals) (hn : n * s ≤ 16777216) (h0 : n * s ≠ 0) (hf : Instr.fill (fun i => some (i * s, s)) ((Array.range (n * s)).map (z.cells[· % z.cells.size]!)) vals.toList = some cs.toArray) (hl : cs.length = n * s) (hm : n ≤ 1000)
    (h : ∀ b W', Sk k0 w W' (Row (.slice (some ⟨b, 0, none⟩) n n) E s n cs :: L) Fs → K (a.put o.dst (.slice (some ⟨b, 0, none⟩) n n)) W') : o.wpIn F fm P a W K Q := by
  refine wpIn_of_run (by rw [ho]; exact fun c h => by cases h) (about_none (by rw [ho]; exact fun c h => by cases h)) (run_bs ho ht hi hv hn h0 hf) (h _ _ ⟨?_, hS.oth.trans (KeepsOthers.alloc W _)⟩)
  refine hS.st.new ((Below.refl _ _).alloc (Nat.le_refl _) _) (r := Row (.slice (some ⟨W.heap.size, 0, none⟩) n n) E s n cs) ?_ (fun k hk => by simp [Row, Value.ownBlock] at hk; subst hk; simp)
  have := World.ownsRow_lit (base := 0) (e := E) (size := s) W cs.toArray n (Nat.zero_le _) (by simp only [maxLen]; omega) (by simpa using hl)
  have this' : (W.alloc (.cells cs.toArray E)).ownsRow 0 E s (.slice (some ⟨W.heap.size, 0, none⟩) n n) n cs := by simpa using this
  exact this'
/-- Two worlds in parts, one behind the other. -/
theorem St.join {L1 : List Res} {W' : World} (h : St w W L Fs) (k : St W W' L1 []) : St w W' (L1 ++ L) Fs := by
  have h' := h.call k.below
  refine ⟨h'.below, ?_, ?_, ?_⟩
  · intro r hr
    rcases List.mem_append.1 hr with hr | hr
    · have := k.own r hr
      exact ⟨this.1, fun q hq => ⟨Nat.le_trans h.below.size (this.2 q hq).1, (this.2 q hq).2⟩⟩
    · exact h'.own r hr
  · have key : ∀ r ∈ L1, ∀ s ∈ L, ∀ q ∈ r.fp, q ∉ s.fp := fun r hr s hs q hq hq' => by
      have h1 := ((k.own r hr).2 q hq).1
      have h2 := ((h.own s hs).2 q hq').2
      omega
    intro i j r s hi hj hij q hq hq'
    rw [List.getElem?_append] at hi hj
    split at hi <;> split at hj
    · exact k.apart i j r s hi hj hij q hq hq'
    · exact key r (List.mem_of_getElem? hi) s (List.mem_of_getElem? hj) q hq hq'
    · exact key s (List.mem_of_getElem? hj) r (List.mem_of_getElem? hi) q hq' hq
    · exact h'.apart _ _ r s hi hj (by omega) q hq hq'
  · intro G hG V hs
    refine h.facts G hG V ⟨Nat.le_trans k.below.size hs.size, fun q x hn hx hc => hs.blk q x ?_ ((k.below.block q (Array.getElem?_eq_some_iff.1 hx).1).trans hx) hc⟩
    rintro ⟨r, hr, hq⟩
    rcases List.mem_append.1 hr with hr | hr
    · have h1 := ((k.own r hr).2 q hq).1
      have h2 := (Array.getElem?_eq_some_iff.1 hx).1
      omega
    · exact hn ⟨r, hr, hq⟩
end
end
end Go.Proofs.Yteljmpoaggfliaa
