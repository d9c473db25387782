/- Contracts and words that the laws stand on (RecA). -/
import Derived.Test.YtakeggdpnfibpaaBase
import Derived.Test.YtakeggdpnfibpaaCrcA
import Derived.Test.YtakeggdpnfibpaaLawA
set_option linter.unusedVariables false
set_option linter.unusedSimpArgs false
namespace Go.Proofs.Ytakeggdpnfibpaa
section
open Go Go.RowKit Go.Proofs
/-! Pens, eyes and bytes among the parts of a world. -/
section
variable {w W W' : World} {L : List Res} {Fs : List (World → Prop)} {K : Nat → Prop}
/-- A pen with what it has written. -/
def PenR (p : Nat) (v : Value) (xs : List UInt8) : Res := ⟨p :: v.ownBlock.toList, fun W => IsPen W p v xs,
  fun _ _ h ho => ⟨(h p (by simp)).trans ho.blk, own_block ho.row (fun k hk => h k (by simp [hk]))⟩,
  fun W ho k hk => by
    rcases List.mem_cons.1 hk with rfl | hk
    · exact ⟨_, ho.blk, rfl⟩
    · exact (Row v 5 1 xs.length (bs xs)).cel W (own_base ho.row (fun _ _ => Nat.zero_le _)) k hk⟩
theorem St.pen0 (h : St w W L Fs) {i p : Nat} (hi : L[i]? = some (Blk p [.slice none 0 0] 68)) : St w W (L.set i (PenR p (.slice none 0 0) [])) Fs := by
  have hb := h.blk hi
  refine h.upd hi (Chg.refl _ _) ⟨hb, World.ownsRow_nil _ _ _ _⟩ (fun k hk => ?_)
  simp [PenR, Value.ownBlock] at hk
  subst hk
  exact ⟨.inl (by simp [Blk]), blk_lt hb⟩
theorem St.pen (h : St w W L Fs) {i p : Nat} {v v' : Value} {xs ys : List UInt8} (hi : L[i]? = some (PenR p v xs)) (g : PenGo W W' p v v' ys) : St w W' (L.set i (PenR p v' ys)) Fs := by
  refine h.upd hi g.chg g.pen (fun k hk => ?_)
  rcases List.mem_cons.1 hk with rfl | hk
  · exact ⟨.inl (by simp [PenR]), blk_lt g.pen.blk⟩
  · simp only [Option.mem_toList] at hk
    refine ⟨?_, own_lt g.pen.row k hk⟩
    exact g.nx.mem (S := (PenR p v xs).fp) (fun k hk => by simp [PenR, hk]) k hk
/-- An eye with what is left to read. -/
def EyeR (p : Nat) (u : Value) (xs : List UInt8) : Res := ⟨p :: u.ownBlock.toList, fun W => IsEye W p u xs ∧ ∀ k, u.ownBlock = some k → k ≠ p ∧ ∃ o : Obj, W.heap[k]? = some o ∧ o.isCells = true,
  fun W W' h ho => ⟨⟨(h p (by simp)).trans ho.1.blk, by
      have hl := ho.1.left
      obtain ⟨A, c, rfl, h0, h1, h2⟩ := hl
      exact ⟨A, c, rfl, h0, h1, fun a ha i x hx => (World.cell?_of_block (h _ (by subst ha; simp [Value.ownBlock, blk_of_add]))).trans (h2 a ha i x hx)⟩⟩,
    fun k hk => ⟨(ho.2 k hk).1, by rw [h k (by simp [hk])]; exact (ho.2 k hk).2⟩⟩,
  fun W ho k hk => by
    rcases List.mem_cons.1 hk with rfl | hk
    · exact ⟨_, ho.1.blk, rfl⟩
    · simp only [Option.mem_toList] at hk; exact (ho.2 k hk).2⟩
theorem St.eye (h : St w W L Fs) {i p : Nat} {u u' : Value} {xs ys : List UInt8} (hi : L[i]? = some (EyeR p u xs)) (g : EyeGo W W' p u u' ys) : St w W' (L.set i (EyeR p u' ys)) Fs := by
  have hr := h.own _ (List.mem_of_getElem? hi)
  have hsame := g.same
  have key : ∀ k, u'.ownBlock = some k → k ≠ p ∧ k < W.heap.size ∧ W'.heap[k]? = W.heap[k]? := fun k hk => by
    rw [hsame] at hk
    have h1 := (hr.1.2 k hk).1
    have h2 := (hr.2 k (by simp [EyeR, hk])).2
    exact ⟨h1, h2, g.chg.block k h2 (by simp [h1])⟩
  refine h.upd hi (g.chg.mono (S' := (EyeR p u xs).fp) (fun k hk => .inl (by simp at hk; simp [EyeR, hk]))) ⟨g.eye, fun k hk => ⟨(key k hk).1, by rw [(key k hk).2.2]; exact (hr.1.2 k (by rwa [hsame] at hk)).2⟩⟩ (fun k hk => ?_)
  rcases List.mem_cons.1 hk with rfl | hk
  · exact ⟨.inl (by simp [EyeR]), blk_lt g.eye.blk⟩
  · simp only [Option.mem_toList] at hk
    have := (key k hk).2.1
    exact ⟨.inl (by rw [hsame] at hk; simp [EyeR, hk]), Nat.lt_of_lt_of_le this g.chg.size⟩
theorem St.eyeAt (h : St w W L Fs) {i p : Nat} {u : Value} {xs : List UInt8} (hi : L[i]? = some (EyeR p u xs)) : IsEye W p u xs := (h.res hi).1
theorem HB.away {v : Value} {l : List UInt8} (h : HB W v l) (hk : ∀ k, v.ownBlock = some k → ¬ K k) : Away K (fun W => HB W v l) W := fun W' hs => by
  obtain ⟨A, c, rfl, h0, h1, h2⟩ := h
  exact ⟨A, c, rfl, h0, h1, fun a ha i x hx => hs.cell (by rw [blk_of_add]; exact hk _ (by subst ha; rfl)) (h2 a ha i x hx)⟩
theorem HB.away0 {v : Value} {l : List UInt8} (h : HB W v l) : Away (Keys []) (fun W => HB W v l) W := h.away fun k _ hk => by obtain ⟨r, hr, _⟩ := hk; cases hr
theorem St.more (h : St w W L Fs) (i : Nat) {F G : World → Prop} (hi : Fs[i]? = some F) (hg : ∀ W, F W → G W) : St w W L (G :: Fs) :=
  h.addF fun W' hs => hg _ (h.facts F (List.mem_of_getElem? hi) W' hs)
theorem New.row {v' : Value} {E : TypeId} {n s : Nat} {l : List Value} (ho : W'.ownsRow W.heap.size E s v' n l) (hb : Below W.heap.size W W') : New W W' (Row v' E s n l) :=
  ⟨hb, own_base ho (fun _ _ => Nat.zero_le _), fun k hk => by simp only [Row, Option.mem_toList] at hk; exact ho.lt k hk⟩
theorem Row.hb {v : Value} {l : List UInt8} {W : World} (h : (Row v 5 1 l.length (bs l)).ok W) : HB W v l := HB.of_own h
theorem St.own_row {v : Value} {E : TypeId} {s n i : Nat} {l : List Value} (h : St w W L Fs) (hi : L[i]? = some (Row v E s n l)) : W.ownsRow w.heap.size E s v n l := own_base (h.res hi) (fun k hk => ((h.own _ (List.mem_of_getElem? hi)).2 k (by simp [Row, hk])).1)
end
set_option maxHeartbeats 400000 in
set_option maxRecDepth 100000 in
theorem look_new (v : Value) (xs : List UInt8) (w : World) (h : HB w v xs) (hl : xs.length ≤ 70368744177664) :
    Calls Try.prog 44 #[v] w fun e w' => ∃ g u, e = .returned (.pointer (some ⟨g, 0, none⟩)) ∧ New w w' (EyeR g u xs) := by
  have H := Lib.hid h; clear h
  go_enter Try.func44, Try.ntmps44
  go_wp2_with (go_at_call 49; refine (clone_any _ xs _ H.out hl).mono ?_; rintro e w1 ⟨v', rfl, hown, hbl⟩; have HO := Lib.hid hown; obtain ⟨A, c, rfl⟩ := own_slice hown; clear hown)
  go_ret
  have h1 := HO.out.lt
  have hc := (Row (.slice A xs.length c) 5 1 xs.length (bs xs)).cel w1 (own_base HO.out (fun _ _ => Nat.zero_le _))
  refine ⟨w1.heap.size, _, rfl, hbl.alloc hbl.size _, ⟨⟨heap_alloc_new w1 _, ?_⟩, fun k hk => ⟨by have := (h1 k hk).2; omega, ?_⟩⟩, fun k hk => ?_⟩
  · exact (HB.of_own HO.out).chg (S := []) ((Chg.refl _ _).alloc _) (by simp)
  · obtain ⟨o, ho, hcc⟩ := hc k (by simp [Row, hk])
    refine ⟨o, ?_, hcc⟩
    exact (heap_alloc_old (w := w1) _ (by have := (h1 k hk).2; omega)).trans ho
  · rcases List.mem_cons.1 hk with rfl | hk
    · exact ⟨hbl.size, by simp⟩
    · simp only [Option.mem_toList] at hk
      have := h1 k hk
      exact ⟨this.1, by simp; omega⟩
end
section
open Go Go.RowKit Go.Proofs
/-! A row that is built, and one that is appended to. -/
section
variable {P : Program} {w W : World} {L : List Res} {Fs : List (World → Prop)} {o : Oper} {a : Act} {K : Act → World → Prop} {Q : Exit → Act → World → Prop}
theorem run_bs {t E : TypeId} {n s : Nat} {z : Value} {parts : Array (Nat × Operand)} {vals : Array (Nat × Value)} {cs : List Value} (ho : o.op = .buildSlice t n parts) (ht : P.underlying t = some (.slice E)) (hi : ((P.info? E).map fun i => (i.size, i.zero)) = some (s, some z))
    (hv : parts.map (fun (i, x) => (i, a.eval x)) = vals) (hn : n * s ≤ 16777216) (h0 : n * s ≠ 0) (hf : Instr.fill (fun i => some (i * s, s)) ((Array.range (n * s)).map (z.cells[· % z.cells.size]!)) vals.toList = some cs.toArray) :
    (execOp a.eval o).run P W = .ok (.value (.slice (some ⟨W.heap.size, 0, none⟩) n n)) (W.alloc (.cells cs.toArray E)) := by
  obtain ⟨i, hi', hzz⟩ := Option.map_eq_some_iff.1 hi
  simp only [Prod.mk.injEq] at hzz
  obtain ⟨rfl, hz⟩ := hzz
  have e1 : (zeroValue E).run P W = .ok z W := by simp [zeroValue, typeInfo, hi', hz, go_sem]
  have e2 : (Go.sizeOf E).run P W = .ok i.size W := by simp [sizeOf, typeInfo, hi', go_sem]
  unfold execOp
  simp only [ho, hv, Instr.buildSlice, Sem.run_bind, Sem.run_pure, Result.andThen_ok, run_underlying ht, e2, show ¬ (n * i.size > 2 ^ 24) from by omega, if_false, h0, e1, hf, newRow, run_newObj_alloc]
theorem s_bs (hS : St w W L Fs) {t E : TypeId} (n s : Nat) {z : Value} {parts : Array (Nat × Operand)} {vals : Array (Nat × Value)} (cs : List Value) (ho : o.op = .buildSlice t n parts) (ht : P.underlying t = some (.slice E)) (hi : ((P.info? E).map fun i => (i.size, i.zero)) = some (s, some z))
    (hv : parts.map (fun (i, x) => (i, a.eval x)) = vals) (hn : n * s ≤ 16777216) (h0 : n * s ≠ 0) (hf : Instr.fill (fun i => some (i * s, s)) ((Array.range (n * s)).map (z.cells[· % z.cells.size]!)) vals.toList = some cs.toArray) (hl : cs.length = n * s) (hm : n ≤ 1000)
    (h : ∀ b W', St w W' (Row (.slice (some ⟨b, 0, none⟩) n n) E s n cs :: L) Fs → K (a.put o.dst (.slice (some ⟨b, 0, none⟩) n n)) W') : o.wp P a W K Q := by
  refine wp_of_run (run_bs ho ht hi hv hn h0 hf) (h _ _ ?_)
  refine hS.new ((Below.refl _ _).alloc (Nat.le_refl _) _) (r := Row (.slice (some ⟨W.heap.size, 0, none⟩) n n) E s n cs) ?_ (fun k hk => by simp [Row, Value.ownBlock] at hk; subst hk; simp)
  have := World.ownsRow_lit (base := 0) (e := E) (size := s) W cs.toArray n (Nat.zero_le _) (by simp only [maxLen]; omega) (by simpa using hl)
  have this' : (W.alloc (.cells cs.toArray E)).ownsRow 0 E s (.slice (some ⟨W.heap.size, 0, none⟩) n n) n cs := by simpa using this
  exact this'
theorem s_app (hS : St w W L Fs) (i : Nat) {t E : TypeId} {s x : Operand} {v u : Value} {xs ys : List UInt8} (ho : o.op = .call { callee := .builtin .append, args := #[s, x], argTypes := #[t, t] }) (ht : P.underlying t = some (.slice E)) (hinfo : (P.info? E).map (fun i => (i.zero, i.size, i.bytes)) = some (some (.int .u8 0), 1, 1))
    (hs : a.eval s = v) (hx : a.eval x = u) (hi : L[i]? = some (Row v E 1 xs.length (bs xs))) (hr : HB W u ys) (hl : xs.length + ys.length ≤ 140737488355328)
    (h : ∀ v' W', St w W' (L.set i (Row v' E 1 (xs ++ ys).length (bs (xs ++ ys)))) Fs → K (a.put o.dst v') W') : o.wp P a W K Q := by
  refine wp_pushes W s x t ho w.heap.size E ht hinfo v xs ys u hs hx (hS.own_row hi) hr hl hS.below.size fun v' W' h2 h3 h4 => h v' W' ?_
  refine hS.upd hi (r := Row v E 1 xs.length (bs xs)) ((Chg.refl _ _).grown h3 (fun k hk => .inl (by simp [Row, hk]))) (own_base h2 (fun _ _ => Nat.zero_le _)) (fun k hk => ?_)
  simp only [Row, Option.mem_toList] at hk
  exact ⟨h4.mem (S := (Row v E 1 xs.length (bs xs)).fp) (fun k hk => by simp [Row, hk]) k hk, (h2.lt k hk).2⟩
/-- Onto nil. -/
theorem s_app0 (hS : St w W L Fs) {t E : TypeId} {s x : Operand} {u : Value} {ys : List UInt8} (ho : o.op = .call { callee := .builtin .append, args := #[s, x], argTypes := #[t, t] }) (ht : P.underlying t = some (.slice E)) (hinfo : (P.info? E).map (fun i => (i.zero, i.size, i.bytes)) = some (some (.int .u8 0), 1, 1))
    (hs : a.eval s = .slice none 0 0) (hx : a.eval x = u) (hr : HB W u ys) (hl : ys.length ≤ 140737488355328)
    (h : ∀ v' W', St w W' (Row v' E 1 ys.length (bs ys) :: L) Fs → K (a.put o.dst v') W') : o.wp P a W K Q := by
  refine wp_pushes W s x t ho W.heap.size E ht hinfo _ [] ys u hs hx (World.ownsRow_nil _ _ _ _) hr (by simpa using hl) (Nat.le_refl _) fun v' W' h2 h3 h4 => h v' W' ?_
  have hb : Below W.heap.size W W' := (Below.refl _ _).grown h3 (Nat.le_refl _) (by simp [Value.ownBlock])
  exact hS.take (New.row (by simpa using h2) hb)
end
end
section
open Go Go.RowKit Go.Proofs
/-! A row appended to a row; built slices and appends inside a round. -/
section
variable {P : Program} {k0 w W : World} {L : List Res} {Fs : List (World → Prop)} {o : Oper} {a : Act} {K : Act → World → Prop} {Q : Exit → Act → World → Prop} {F : Fence} {fm : Nat}
theorem run_rows {base : Nat} {t ty E : TypeId} {z : Value} {size bytes : Nat} (ht : P.underlying t = some (.slice E)) (hinfo : (P.info? E).map (fun i => (i.zero, i.size, i.bytes)) = some (some z, size, bytes)) (hzs : z.cells.size = size) (hsz : 0 < size)
    {v : Value} {n : Nat} {xs : List Value} (hown : W.ownsRow base E size v n xs) {g m c : Nat} {news : List Value} (hu : W.ownsRow 0 E size (.slice (some ⟨g, 0, none⟩) m c) m news) (h1 : ∀ u ∈ news, u.oneCell' = true)
    (hl : (n + m) * bytes ≤ 140737488355328) (hl2 : n + m ≤ 140737488355328) (hbase : base ≤ W.heap.size) :
    ∃ v' w', (Builtin.append_ #[t, t] ty #[v, .slice (some ⟨g, 0, none⟩) m c]).run P W = .ok v' w' ∧ w'.ownsRow base E size v' (n + m) (xs ++ news) ∧ W.grownBy w' v.ownBlock ∧ Nx W v v' := by
  obtain ⟨i0, hi, hzz⟩ := Option.map_eq_some_iff.1 hinfo
  simp only [Prod.mk.injEq] at hzz
  obtain ⟨hz0, hz1, hz2⟩ := hzz
  obtain ⟨v', w', hrun, a2, a3, _, a5⟩ := run_append_own_at (P := P) (w := W) base t ty E i0 z size bytes ht hi hz0 hz1 hz2 hzs hsz v n xs hown ⟨g, 0, none⟩ m c news hu.1
    (fun j u hj => hu.cells rfl j u hj) h1 (by simp only [maxLen]; omega) hl hbase
  refine ⟨v', w', hrun, a2, a3, ?_⟩
  rcases a5 with a5 | a5
  · exact .inl a5
  · exact .inr ⟨_, a5, Nat.le_refl _⟩
theorem exec_app {t : TypeId} {s x : Operand} {ev : Operand → Value} {v u v' : Value} {w' : World} (ho : o.op = .call { callee := .builtin .append, args := #[s, x], argTypes := #[t, t] }) (hs : ev s = v) (hx : ev x = u) (h : (Builtin.append_ #[t, t] o.type #[v, u]).run P W = .ok v' w') :
    (execOp ev o).run P W = .ok (.value v') w' := by
  unfold execOp
  simp only [ho, resolve, invoke, builtin, Sem.run_bind, Sem.run_pure, Result.andThen_ok, List.map_toArray, List.map_cons, List.map_nil, hs, hx, h]
theorem St.grown (h : St w W L Fs) {i : Nat} {v v' : Value} {E : TypeId} {s n m : Nat} {xs ys : List Value} {W' : World} (hi : L[i]? = some (Row v E s n xs)) (h2 : W'.ownsRow w.heap.size E s v' m ys) (h3 : W.grownBy W' v.ownBlock) (h4 : Nx W v v') : St w W' (L.set i (Row v' E s m ys)) Fs := by
  refine h.upd hi (r := Row v E s n xs) ((Chg.refl _ _).grown h3 (fun k hk => .inl (by simp [Row, hk]))) (own_base h2 (fun _ _ => Nat.zero_le _)) (fun k hk => ?_)
  simp only [Row, Option.mem_toList] at hk
  exact ⟨h4.mem (S := (Row v E s n xs).fp) (fun k hk => by simp [Row, hk]) k hk, (h2.lt k hk).2⟩
theorem s_rows (hS : St w W L Fs) (i j : Nat) {t E : TypeId} {s x : Operand} {v : Value} {n m c g size bytes : Nat} {xs news : List Value} {z : Value} (ho : o.op = .call { callee := .builtin .append, args := #[s, x], argTypes := #[t, t] }) (ht : P.underlying t = some (.slice E)) (hinfo : (P.info? E).map (fun i => (i.zero, i.size, i.bytes)) = some (some z, size, bytes)) (hzs : z.cells.size = size) (hsz : 0 < size)
    (hs : a.eval s = v) (hx : a.eval x = .slice (some ⟨g, 0, none⟩) m c) (hi : L[i]? = some (Row v E size n xs)) (hj : L[j]? = some (Row (.slice (some ⟨g, 0, none⟩) m c) E size m news)) (h1 : ∀ u ∈ news, u.oneCell' = true) (hl : (n + m) * bytes ≤ 140737488355328) (hl2 : n + m ≤ 140737488355328)
    (h : ∀ v' W', St w W' (L.set i (Row v' E size (n + m) (xs ++ news))) Fs → K (a.put o.dst v') W') : o.wp P a W K Q := by
  obtain ⟨v', w', hrun, h2, h3, h4⟩ := run_rows (P := P) (ty := o.type) ht hinfo hzs hsz (hS.own_row hi) (hS.res hj) h1 hl hl2 hS.below.size
  exact wp_of_run (exec_app ho hs hx hrun) (h _ _ (hS.grown hi h2 h3 h4))
theorem KeepsOthers.of_row {v : Value} {B : Nat} {E : TypeId} {s n : Nat} {xs : List Value} {W' : World} (ho : W.ownsRow B E s v n xs) (hg : W.grownBy W' v.ownBlock) : KeepsOthers W W' := by
  refine ⟨hg.size, fun k x hk hx => (hg.block k (Array.getElem?_eq_some_iff.1 hk).1 (fun e => ?_)).trans hk⟩
  obtain ⟨y, hy, hc⟩ := (Row v E s n xs).cel W (own_base ho (fun _ _ => Nat.zero_le _)) k (by simp [Row, ← e])
  rw [hk] at hy
  injection hy with hy
  subst hy
  rw [hx] at hc
  cases hc
theorem i_rows (hS : Sk k0 w W L Fs) (i j : Nat) {t E : TypeId} {s x : Operand} {v : Value} {n m c g size bytes : Nat} {xs news : List Value} {z : Value} (ho : o.op = .call { callee := .builtin .append, args := #[s, x], argTypes := #[t, t] }) (hab : o.about P W a.eval = none) (ht : P.underlying t = some (.slice E)) (hinfo : (P.info? E).map (fun i => (i.zero, i.size, i.bytes)) = some (some z, size, bytes)) (hzs : z.cells.size = size) (hsz : 0 < size)
    (hs : a.eval s = v) (hx : a.eval x = .slice (some ⟨g, 0, none⟩) m c) (hi : L[i]? = some (Row v E size n xs)) (hj : L[j]? = some (Row (.slice (some ⟨g, 0, none⟩) m c) E size m news)) (h1 : ∀ u ∈ news, u.oneCell' = true) (hl : (n + m) * bytes ≤ 140737488355328) (hl2 : n + m ≤ 140737488355328)
    (h : ∀ v' W', Sk k0 w W' (L.set i (Row v' E size (n + m) (xs ++ news))) Fs → K (a.put o.dst v') W') : o.wpIn F fm P a W K Q := by
  obtain ⟨v', w', hrun, h2, h3, h4⟩ := run_rows (P := P) (ty := o.type) ht hinfo hzs hsz (hS.st.own_row hi) (hS.st.res hj) h1 hl hl2 hS.st.below.size
  exact wpIn_of_run (by rw [ho]; exact fun c h => by cases h) hab (exec_app ho hs hx hrun) (h _ _ ⟨hS.st.grown hi h2 h3 h4, hS.oth.trans (KeepsOthers.of_row (hS.st.own_row hi) h3)⟩)
theorem i_bs (hS : Sk k0 w W L Fs) {t E : TypeId} (n s : Nat) {z : Value} {parts : Array (Nat × Operand)} {vals : Array (Nat × Value)} (cs : List Value) (ho : o.op = .buildSlice t n parts) (ht : P.underlying t = some (.slice E)) (hi : ((P.info? E).map fun i => (i.size, i.zero)) = some (s, some z))
    (hv : parts.map (fun (i, x) => (i, a.eval x)) = vals) (hn : n * s ≤ 16777216) (h0 : n * s ≠ 0) (hf : Instr.fill (fun i => some (i * s, s)) ((Array.range (n * s)).map (z.cells[· % z.cells.size]!)) vals.toList = some cs.toArray) (hl : cs.length = n * s) (hm : n ≤ 1000)
    (h : ∀ b W', Sk k0 w W' (Row (.slice (some ⟨b, 0, none⟩) n n) E s n cs :: L) Fs → K (a.put o.dst (.slice (some ⟨b, 0, none⟩) n n)) W') : o.wpIn F fm P a W K Q := by
  refine wpIn_of_run (by rw [ho]; exact fun c h => by cases h) (about_none (by rw [ho]; exact fun c h => by cases h)) (run_bs ho ht hi hv hn h0 hf) (h _ _ ⟨?_, hS.oth.trans (KeepsOthers.alloc W _)⟩)
  refine hS.st.new ((Below.refl _ _).alloc (Nat.le_refl _) _) (r := Row (.slice (some ⟨W.heap.size, 0, none⟩) n n) E s n cs) ?_ (fun k hk => by simp [Row, Value.ownBlock] at hk; subst hk; simp)
  have := World.ownsRow_lit (base := 0) (e := E) (size := s) W cs.toArray n (Nat.zero_le _) (by simp only [maxLen]; omega) (by simpa using hl)
  have this' : (W.alloc (.cells cs.toArray E)).ownsRow 0 E s (.slice (some ⟨W.heap.size, 0, none⟩) n n) n cs := by simpa using this
  exact this'
/-- Two worlds in parts, one behind the other. -/
theorem St.join {L1 : List Res} {W' : World} (h : St w W L Fs) (k : St W W' L1 []) : St w W' (L1 ++ L) Fs := by
  have h' := h.call k.below
  refine ⟨h'.below, ?_, ?_, ?_⟩
  · intro r hr
    rcases List.mem_append.1 hr with hr | hr
    · have := k.own r hr
      exact ⟨this.1, fun q hq => ⟨Nat.le_trans h.below.size (this.2 q hq).1, (this.2 q hq).2⟩⟩
    · exact h'.own r hr
  · have key : ∀ r ∈ L1, ∀ s ∈ L, ∀ q ∈ r.fp, q ∉ s.fp := fun r hr s hs q hq hq' => by
      have h1 := ((k.own r hr).2 q hq).1
      have h2 := ((h.own s hs).2 q hq').2
      omega
    intro i j r s hi hj hij q hq hq'
    rw [List.getElem?_append] at hi hj
    split at hi <;> split at hj
    · exact k.apart i j r s hi hj hij q hq hq'
    · exact key r (List.mem_of_getElem? hi) s (List.mem_of_getElem? hj) q hq hq'
    · exact key s (List.mem_of_getElem? hj) r (List.mem_of_getElem? hi) q hq' hq
    · exact h'.apart _ _ r s hi hj (by omega) q hq hq'
  · intro G hG V hs
    refine h.facts G hG V ⟨Nat.le_trans k.below.size hs.size, fun q x hn hx hc => hs.blk q x ?_ ((k.below.block q (Array.getElem?_eq_some_iff.1 hx).1).trans hx) hc⟩
    rintro ⟨r, hr, hq⟩
    rcases List.mem_append.1 hr with hr | hr
    · have h1 := ((k.own r hr).2 q hq).1
      have h2 := (Array.getElem?_eq_some_iff.1 hx).1
      omega
    · exact hn ⟨r, hr, hq⟩
end
end
section
open Go Go.RowKit Go.Proofs
/-! Records, plain. -/
def recB (k : UInt8) (p : List UInt8) : List UInt8 := markB (k :: le 4 p.length) ++ markB p
def chkB (k : Int) (n : Nat) : Bool := decide (0 ≤ k ∧ k ≤ 255 ∧ n ≤ 200000)
theorem markB_length (xs : List UInt8) : (markB xs).length = xs.length + 4 := by simp [markB, le_length]
theorem recB_length (k : UInt8) (p : List UInt8) : (recB k p).length = p.length + 13 := by simp [recB, markB_length, le_length]; omega
/-- A record at the head of the bytes r (13 or more), and its length. -/
def decA (r : List UInt8) : Option (UInt8 × List UInt8) :=
  match bareR (r.take 9) with
  | none => none
  | some h => if 200000 < leNum ((h.drop 1).take 4) ∨ r.length < leNum ((h.drop 1).take 4) + 13 then none else
    match bareR ((r.drop 9).take (leNum ((h.drop 1).take 4) + 4)) with
    | none => none
    | some p => some (h.headD 0, p)
def decR (xs : List UInt8) (at' : Int) : Option (UInt8 × List UInt8) :=
  if at' < 0 ∨ (xs.length : Int) < at' ∨ (xs.length : Int) - at' < 13 then none else decA (xs.drop at'.toNat)
theorem bareR_some {xs p : List UInt8} : bareR xs = some p ↔ xs = markB p := by
  unfold bareR
  constructor
  · intro h
    split at h
    · cases h
    · split at h
      · rename_i h1 h2
        injection h with h
        subst h
        unfold markB
        rw [← h2]
        have hl : (xs.drop (xs.length - 4)).length = 4 := by simp; omega
        have e := le_leNum (xs.drop (xs.length - 4))
        rw [hl] at e
        rw [e, List.take_append_drop]
      · cases h
  · rintro rfl
    have h := markB_length p
    rw [if_neg (by omega), h, Nat.add_sub_cancel]
    have e1 : (markB p).drop p.length = le 4 (crcOn 0 p) := by simp [markB]
    have e2 : (markB p).take p.length = p := by simp [markB]
    rw [e1, e2, if_pos (leNum_le4 _ (crcOn_lt 0 p))]
theorem bareR_mark (p : List UInt8) : bareR (markB p) = some p := bareR_some.2 rfl
theorem bareR_inj {xs p : List UInt8} (h : bareR xs = some p) : p = xs.take (xs.length - 4) := by
  rw [bareR_some] at h
  subst h
  simp [markB, le_length]
/-- The way of the document. -/
theorem decA_ref (r : List UInt8) (hr : 13 ≤ r.length) : decA r =
    if 200000 < leNum ((r.drop 1).take 4) ∨ r.length < leNum ((r.drop 1).take 4) + 13 then none
    else if recB (r.headD 0) ((r.drop 9).take (leNum ((r.drop 1).take 4))) = r.take (leNum ((r.drop 1).take 4) + 13) then some (r.headD 0, (r.drop 9).take (leNum ((r.drop 1).take 4))) else none := by
  have hn : leNum ((r.drop 1).take 4) < 4294967296 := leNum_32 _ (by simp; omega)
  have h5 : r.take 5 = r.headD 0 :: (r.drop 1).take 4 := by
    cases r with
    | nil => simp at hr
    | cons a r => simp
  have hlen4 : ((r.drop 1).take 4).length = 4 := by simp; omega
  have hh : ∀ h, bareR (r.take 9) = some h → h = r.take 5 := fun h e => by
    have := bareR_inj e
    rw [this, List.take_take, List.length_take, Nat.min_eq_left (by omega : 9 ≤ r.length)]
    rfl
  have key : ∀ h, bareR (r.take 9) = some h → (h.drop 1).take 4 = (r.drop 1).take 4 ∧ h.headD 0 = r.headD 0 := fun h e => by
    rw [hh h e, h5]; simp [List.take_take]
  by_cases hN : 200000 < leNum ((r.drop 1).take 4) ∨ r.length < leNum ((r.drop 1).take 4) + 13
  · rw [if_pos hN]
    unfold decA
    cases hb : bareR (r.take 9) with
    | none => rfl
    | some h => simp only []; rw [(key h hb).1, if_pos hN]
  · rw [if_neg hN]
    have hlen : leNum ((r.drop 1).take 4) + 13 ≤ r.length := by omega
    have hpl : ((r.drop 9).take (leNum ((r.drop 1).take 4))).length = leNum ((r.drop 1).take 4) := by rw [List.length_take, List.length_drop]; omega
    have hle : le 4 (leNum ((r.drop 1).take 4)) = (r.drop 1).take 4 := by
      have := le_leNum ((r.drop 1).take 4)
      rwa [hlen4] at this
    have hsplit : r.take (leNum ((r.drop 1).take 4) + 13) = r.take 9 ++ (r.drop 9).take (leNum ((r.drop 1).take 4) + 4) := by
      rw [show leNum ((r.drop 1).take 4) + 13 = 9 + (leNum ((r.drop 1).take 4) + 4) by omega, List.take_add]
    have hmark : recB (r.headD 0) ((r.drop 9).take (leNum ((r.drop 1).take 4))) = markB (r.take 5) ++ markB ((r.drop 9).take (leNum ((r.drop 1).take 4))) := by
      unfold recB
      rw [hpl, hle, ← h5]
    have iff : recB (r.headD 0) ((r.drop 9).take (leNum ((r.drop 1).take 4))) = r.take (leNum ((r.drop 1).take 4) + 13) ↔ r.take 9 = markB (r.take 5) ∧ (r.drop 9).take (leNum ((r.drop 1).take 4) + 4) = markB ((r.drop 9).take (leNum ((r.drop 1).take 4))) := by
      rw [hmark, hsplit]
      constructor
      · intro e
        have := List.append_inj e (by rw [markB_length]; simp; omega)
        exact ⟨this.1.symm, this.2.symm⟩
      · rintro ⟨e1, e2⟩; rw [← e1, ← e2]
    unfold decA
    by_cases hc : recB (r.headD 0) ((r.drop 9).take (leNum ((r.drop 1).take 4))) = r.take (leNum ((r.drop 1).take 4) + 13)
    · rw [if_pos hc]
      obtain ⟨e1, e2⟩ := iff.1 hc
      have b1 : bareR (r.take 9) = some (r.take 5) := bareR_some.2 e1
      rw [b1]
      simp only []
      rw [(key _ b1).1, if_neg hN, bareR_some.2 e2]
      simp only []
      rw [(key _ b1).2]
    · rw [if_neg hc]
      cases hb : bareR (r.take 9) with
      | none => rfl
      | some h =>
        simp only []
        rw [(key h hb).1, if_neg hN]
        cases hb2 : bareR ((r.drop 9).take (leNum ((r.drop 1).take 4) + 4)) with
        | none => rfl
        | some p =>
          exfalso
          refine hc (iff.2 ⟨?_, ?_⟩)
          · have := bareR_some.1 hb; rw [hh h hb] at this; exact this
          · have := bareR_some.1 hb2
            have h3 := bareR_inj hb2
            rw [List.take_take, List.length_take, List.length_drop, Nat.min_eq_left (by omega : leNum ((r.drop 1).take 4) + 4 ≤ r.length - 9)] at h3
            rw [show min (leNum ((r.drop 1).take 4) + 4 - 4) (leNum ((r.drop 1).take 4) + 4) = leNum ((r.drop 1).take 4) by omega] at h3
            rw [h3] at this; exact this
end
section
open Go Go.RowKit Go.Proofs
attribute [local irreducible] Calls
set_option maxHeartbeats 1000000 in
set_option maxRecDepth 100000 in
theorem check23 (k : Int) (pv : Value) (p : List UInt8) (w : World) (hp : HB w pv p) :
    Calls Try.prog 26 #[.agg #[.int .i64 k, pv]] w fun e w' => e = .returned (.int .i64 (if chkB k p.length then 0 else 160)) ∧ Below w.heap.size w w' := by
  have HS := Lib.hid (St.start w)
  obtain ⟨A, c, rfl, hlc⟩ := hp.shape
  clear hp
  rcases (by omega : k < 0 ∨ (¬ k < 0 ∧ 255 < k) ∨ (¬ k < 0 ∧ ¬ 255 < k ∧ (200000 : Int) < (p.length : Int)) ∨ (¬ k < 0 ∧ ¬ 255 < k ∧ ¬ (200000 : Int) < (p.length : Int))) with h | ⟨h, h'⟩ | ⟨h, h', h''⟩ | ⟨h, h', h''⟩
  · have hc : chkB k p.length = false := by simp only [chkB, decide_eq_false_iff_not]; omega
    rw [hc]; clear hc
    go_enter Try.func26, Try.ntmps26
    go_wp2_with (first
      | (refine wl (by rfl) (s_bx (l := [.int .i64 k, .slice A p.length c]) HS.out (by rfl) (by rfl) ?_); intro b1 Wn hS; clear HS; have HS := Lib.hid hS; clear hS)
      | (refine wl (by rfl) (s_ld HS.out 0 (by rfl) (by rfl) (by rfl) (by kernel_rfl) (by rfl) ?_)))
    go_ret
    exact ⟨rfl, HS.out.below⟩
  · have hc : chkB k p.length = false := by simp only [chkB, decide_eq_false_iff_not]; omega
    rw [hc]; clear hc
    go_enter Try.func26, Try.ntmps26
    go_wp2_with (first
      | (refine wl (by rfl) (s_bx (l := [.int .i64 k, .slice A p.length c]) HS.out (by rfl) (by rfl) ?_); intro b1 Wn hS; clear HS; have HS := Lib.hid hS; clear hS)
      | (refine wl (by rfl) (s_ld HS.out 0 (by rfl) (by rfl) (by rfl) (by kernel_rfl) (by rfl) ?_)))
    go_ret
    exact ⟨rfl, HS.out.below⟩
  · have hc : chkB k p.length = false := by simp only [chkB, decide_eq_false_iff_not]; omega
    rw [hc]; clear hc
    go_enter Try.func26, Try.ntmps26
    go_wp2_with (first
      | (refine wl (by rfl) (s_bx (l := [.int .i64 k, .slice A p.length c]) HS.out (by rfl) (by rfl) ?_); intro b1 Wn hS; clear HS; have HS := Lib.hid hS; clear hS)
      | (refine wl (by rfl) (s_ld HS.out 0 (by rfl) (by rfl) (by rfl) (by kernel_rfl) (by rfl) ?_)))
    go_ret
    exact ⟨rfl, HS.out.below⟩
  · have hc : chkB k p.length = true := by simp only [chkB, decide_eq_true_iff]; omega
    rw [hc]; clear hc
    go_enter Try.func26, Try.ntmps26
    go_wp2_with (first
      | (refine wl (by rfl) (s_bx (l := [.int .i64 k, .slice A p.length c]) HS.out (by rfl) (by rfl) ?_); intro b1 Wn hS; clear HS; have HS := Lib.hid hS; clear hS)
      | (refine wl (by rfl) (s_ld HS.out 0 (by rfl) (by rfl) (by rfl) (by kernel_rfl) (by rfl) ?_)))
    go_ret
    exact ⟨rfl, HS.out.below⟩
set_option maxHeartbeats 1000000 in
set_option maxRecDepth 100000 in
theorem check24 (k : Int) (pv : Value) (p : List UInt8) (w : World) (hp : HB w pv p) :
    Calls Try.prog 63 #[.agg #[.int .i64 k, pv]] w fun e w' => e = .returned (.int .i64 (if chkB k p.length then 0 else 160)) ∧ Below w.heap.size w w' := by
  have HS := Lib.hid (St.start w)
  obtain ⟨A, c, rfl, hlc⟩ := hp.shape
  clear hp
  rcases (by omega : k < 0 ∨ (¬ k < 0 ∧ 255 < k) ∨ (¬ k < 0 ∧ ¬ 255 < k ∧ (200000 : Int) < (p.length : Int)) ∨ (¬ k < 0 ∧ ¬ 255 < k ∧ ¬ (200000 : Int) < (p.length : Int))) with h | ⟨h, h'⟩ | ⟨h, h', h''⟩ | ⟨h, h', h''⟩
  · have hc : chkB k p.length = false := by simp only [chkB, decide_eq_false_iff_not]; omega
    rw [hc]; clear hc
    go_enter Try.func63, Try.ntmps63
    go_wp2_with (first
      | (refine wl (by rfl) (s_bx (l := [.int .i64 k, .slice A p.length c]) HS.out (by rfl) (by rfl) ?_); intro b1 Wn hS; clear HS; have HS := Lib.hid hS; clear hS)
      | (refine wl (by rfl) (s_ld HS.out 0 (by rfl) (by rfl) (by rfl) (by kernel_rfl) (by rfl) ?_)))
    go_ret
    exact ⟨rfl, HS.out.below⟩
  · have hc : chkB k p.length = false := by simp only [chkB, decide_eq_false_iff_not]; omega
    rw [hc]; clear hc
    go_enter Try.func63, Try.ntmps63
    go_wp2_with (first
      | (refine wl (by rfl) (s_bx (l := [.int .i64 k, .slice A p.length c]) HS.out (by rfl) (by rfl) ?_); intro b1 Wn hS; clear HS; have HS := Lib.hid hS; clear hS)
      | (refine wl (by rfl) (s_ld HS.out 0 (by rfl) (by rfl) (by rfl) (by kernel_rfl) (by rfl) ?_)))
    go_ret
    exact ⟨rfl, HS.out.below⟩
  · have hc : chkB k p.length = false := by simp only [chkB, decide_eq_false_iff_not]; omega
    rw [hc]; clear hc
    go_enter Try.func63, Try.ntmps63
    go_wp2_with (first
      | (refine wl (by rfl) (s_bx (l := [.int .i64 k, .slice A p.length c]) HS.out (by rfl) (by rfl) ?_); intro b1 Wn hS; clear HS; have HS := Lib.hid hS; clear hS)
      | (refine wl (by rfl) (s_ld HS.out 0 (by rfl) (by rfl) (by rfl) (by kernel_rfl) (by rfl) ?_)))
    go_ret
    exact ⟨rfl, HS.out.below⟩
  · have hc : chkB k p.length = true := by simp only [chkB, decide_eq_true_iff]; omega
    rw [hc]; clear hc
    go_enter Try.func63, Try.ntmps63
    go_wp2_with (first
      | (refine wl (by rfl) (s_bx (l := [.int .i64 k, .slice A p.length c]) HS.out (by rfl) (by rfl) ?_); intro b1 Wn hS; clear HS; have HS := Lib.hid hS; clear hS)
      | (refine wl (by rfl) (s_ld HS.out 0 (by rfl) (by rfl) (by rfl) (by kernel_rfl) (by rfl) ?_)))
    go_ret
    exact ⟨rfl, HS.out.below⟩
end
section
open Go Go.RowKit Go.Proofs
attribute [local irreducible] Calls
theorem twinN (v : Value) (xs : List UInt8) (w : World) (h : HB w v xs) (hl : xs.length ≤ 70368744177664) :
    Calls Try.prog 15 #[v] w fun e w' => ∃ v', e = .returned v' ∧ New w w' (Row v' 5 1 (xs).length (bs (xs))) := by
  refine (twin_any v xs w h hl).mono ?_
  rintro e w' ⟨v', rfl, ho, hb⟩
  exact ⟨v', rfl, New.row ho hb⟩
theorem rmarkN (v : Value) (xs : List UInt8) (w : World) (h : HB w v xs) (hl : xs.length ≤ 1000000) :
    Calls Try.prog 62 #[v] w fun e w' => ∃ v', e = .returned v' ∧ New w w' (Row v' 5 1 (markB xs).length (bs (markB xs))) := by
  refine (rmark_any v xs w h hl).mono ?_
  rintro e w' ⟨v', rfl, ho, hb⟩
  exact ⟨v', rfl, New.row ho hb⟩
theorem markN (v : Value) (xs : List UInt8) (w : World) (h : HB w v xs) (hl : xs.length ≤ 1000000) :
    Calls Try.prog 38 #[v] w fun e w' => ∃ v', e = .returned v' ∧ New w w' (Row v' 5 1 (markB xs).length (bs (markB xs))) := by
  refine (mark_any v xs w h hl).mono ?_
  rintro e w' ⟨v', rfl, ho, hb⟩
  exact ⟨v', rfl, New.row ho hb⟩
theorem rfix4N (n : Nat) (w : World) (hn : n < 4294967296) :
    Calls Try.prog 55 #[.int .i64 4, .int .u64 (n : Int)] w fun e w' => ∃ v', e = .returned (.tuple #[v', .int .i64 0]) ∧ New w w' (Row v' 5 1 (le 4 n).length (bs (le 4 n))) := by
  refine (rfixed_any 4 n w (by omega)).mono ?_
  rintro e w' ⟨v', rfl, ho, hb⟩
  rw [fixedE4 n hn]
  rw [fixed4 n hn] at ho
  exact ⟨v', rfl, New.row ho hb⟩
theorem bareN (v : Value) (xs p : List UInt8) (w : World) (h : HB w v xs) (hl : xs.length ≤ 1000000) (hp : bareR xs = some p) :
    Calls Try.prog 43 #[v] w fun e w' => ∃ v', e = .returned (.tuple #[v', .int .i64 0]) ∧ New w w' (Row v' 5 1 p.length (bs p)) := by
  have hx := bareR_some.1 hp
  have hn : xs.length = p.length + 4 := by rw [hx, markB_length]
  have e1 : xs.drop p.length = le 4 (crcOn 0 p) := by rw [hx]; simp [markB]
  have e2 : xs.take p.length = p := by rw [hx]; simp [markB]
  refine (bare_ok v xs p.length w h hl hn (by rw [e1, e2, leNum_le4 _ (crcOn_lt 0 p)])).mono ?_
  rintro e w' ⟨v', rfl, ho, hb⟩
  rw [e2] at ho
  exact ⟨v', rfl, New.row ho hb⟩
theorem bareB (v : Value) (xs : List UInt8) (w : World) (h : HB w v xs) (hl : xs.length ≤ 1000000) (hp : bareR xs = none) :
    Calls Try.prog 43 #[v] w fun e w' => e = .returned (.tuple #[.slice none 0 0, .int .i64 20]) ∧ Below w.heap.size w w' := by
  by_cases hs : xs.length < 4
  · exact bare_short v xs w h hl hs
  · refine bare_no v xs (xs.length - 4) w h hl (by omega) (fun e => ?_)
    unfold bareR at hp
    rw [if_neg hs, if_pos e] at hp
    cases hp
set_option maxHeartbeats 1000000 in
set_option maxRecDepth 100000 in
theorem one39 (k : UInt8) (pv : Value) (p : List UInt8) (w : World) (hp : HB w pv p) (hl : p.length ≤ 200000) :
    Calls Try.prog 53 #[.agg #[.int .i64 (k.toNat : Int), pv]] w fun e w' => ∃ v', e = .returned v' ∧ New w w' (Row v' 5 1 (recB k p).length (bs (recB k p))) := by
  have HS := Lib.hid ((St.start w).addF hp.away0)
  obtain ⟨A, c, rfl, hlc⟩ := hp.shape
  clear hp
  have w64 : IntKind.u64.wrap (p.length : Int) = (p.length : Int) := by rw [IntKind.wrap_u64]; omega
  have w8 : IntKind.u8.wrap (k.toNat : Int) = (k.toNat : Int) := by have := k.toNat_lt; rw [IntKind.wrap_u8]; omega
  go_enter Try.func53, Try.ntmps53
  go_wp2_with (first
    | (refine wl (by rfl) (s_bx (l := [.int .i64 (k.toNat : Int), .slice A p.length c]) HS.out (by rfl) (by rfl) ?_); intro b1 Wn hS; clear HS; have HS := Lib.hid hS; clear hS)
    | (go_at_call 55; refine (rfix4N p.length _ (by omega)).mono ?_; rintro e Wn ⟨v1, rfl, hb⟩; have hS := HS.out.take hb; clear hb; clear HS; have HS := Lib.hid hS; clear hS)
    | (refine wl (by rfl) (s_bs (E := 5) (z := (.int .u8 0)) HS.out 1 1 (bs [k]) (by rfl) Try.underlying28 (by kernel_rfl) (by rfl) (by decide) (by decide) (by kernel_rfl) (by rfl) (by decide) ?_); intro b2 Wn hS; clear HS; have HS := Lib.hid hS; clear hS)
    | (refine wl (by rfl) (s_app (xs := [k]) HS.out 0 (by rfl) Try.underlying28 u8_info (by rfl) (by rfl) (by rfl) (Row.hb (HS.out.res (i := 1) rfl)) (by simp [le_length]) ?_); intro v2 Wn hS; clear HS; have HS := Lib.hid hS; clear hS)
    | (go_at_call 62; first | (refine (rmarkN _ _ _ (Row.hb (HS.out.res (i := 0) rfl)) (by simp [le_length])).mono ?_; rintro e Wn ⟨v3, rfl, hb⟩; have hS := HS.out.take hb; clear hb; clear HS; have HS := Lib.hid hS; clear hS) | (refine (rmarkN _ _ _ (HS.out.fact (i := 0) rfl) (by omega)).mono ?_; rintro e Wn ⟨v4, rfl, hb⟩; have hS := HS.out.take hb; clear hb; clear HS; have HS := Lib.hid hS; clear hS))
    | (refine wl (by rfl) (s_app (xs := (markB (k :: le 4 p.length))) HS.out 1 (by rfl) Try.underlying28 u8_info (by rfl) (by rfl) (by rfl) (Row.hb (HS.out.res (i := 0) rfl)) (by rw [markB_length, markB_length]; simp [le_length]; omega) ?_); intro v5 Wn hS; clear HS; have HS := Lib.hid hS; clear hS)
    | (refine wl (by rfl) (s_ld HS.out 0 (by rfl) (by rfl) (by rfl) (by kernel_rfl) (by rfl) ?_))
    | (refine wl (by rfl) (s_ld HS.out 1 (by rfl) (by rfl) (by rfl) (by kernel_rfl) (by rfl) ?_))
    | (refine wl (by rfl) (s_ld HS.out 2 (by rfl) (by rfl) (by rfl) (by kernel_rfl) (by rfl) ?_))
    | (refine wl (by rfl) (s_ld HS.out 3 (by rfl) (by rfl) (by rfl) (by kernel_rfl) (by rfl) ?_))
    | (refine wl (by rfl) (s_ld HS.out 4 (by rfl) (by rfl) (by rfl) (by kernel_rfl) (by rfl) ?_)))
  go_ret
  exact ⟨_, rfl, HS.out.give 1 rfl⟩
end
end Go.Proofs.Ytakeggdpnfibpaa
